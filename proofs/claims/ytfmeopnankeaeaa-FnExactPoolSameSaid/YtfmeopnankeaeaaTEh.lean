/- Functions of the exact laws: slices of pointers, entries, sets. -/
import Derived.Test.YtfmeopnankeaeaaTEg
set_option linter.unusedSimpArgs false
set_option linter.unusedVariables false
set_option linter.unusedSectionVars false
namespace Go.Proofs.Ytfmeopnankeaeaa
open Go.RowKit

@[go_sem] def ctToPs : Ct := ⟨false, [[some .ptr]], fun args os => match args, os with
  | [.one (.isl .ptr xs)], [] => ⟨xs.length ≤ 4000000, .one (.osl .ptr 0 0 xs.length), [], [.arr .ptr xs]⟩
  | _, _ => no⟩
@[go_sem] def sgToPs (xs : List Ptr) (i : Nat) : Sg := ⟨[(0, .one (.isl .ptr xs)), (3, .one (.osl .ptr 0 0 xs.length)), (4, vi i)], [some (.arr .ptr (mix xs (List.replicate xs.length ET.ptr.dflt) i))], []⟩
theorem s_toPs_e : EnterOk Try.prog 98 := ⟨_, Try.func98, rfl, by decide⟩
@[go_sem] def s_toPs_lv : List (List Nat) := [[0], [0, 3], [0, 3, 4], [0, 3, 4, 11], [0, 3, 4], [0, 3, 4], [2]]
@[go_sem] noncomputable def s_toPs_K : Known := (Known.nil).cons 29 ctToPtr s_toPtr s_toPtr_e
set_option maxHeartbeats 8000000 in
theorem s_toPs : Sound Try.prog 98 ctToPs := by
  refine sound_intro (E := ⟨ti, s_toPs_K.Γ, []⟩) (s_toPs_K.env []) Try.func98 Try.ntmps98 rfl (rs := [.tmp 2]) rfl ?_
  intro args os hp
  unfold ctToPs at hp ⊢
  dsimp only at hp ⊢
  split at hp
  · rename_i xs
    refine ⟨by simp, fun φ0 w0 => ?_⟩
    have hlen : xs.length ≤ 4000000 := hp
    clear hp
    repeat' first
      | refine W_seq ?_
      | (refine W_reg (s_toPs_K.env []) s_toPs_lv fun K' hK' => ?_
         simp only [go_sem, ↓reduceIte, ↓reduceDIte, reduceCtorEq, Nat.reduceAdd, Nat.reduceMul, Nat.reduceSub, Nat.reduceLT, Nat.reduceLeDiff, Nat.reduceEqDiff, Nat.reduceBEq, Int.reduceToNat, Int.reduceLE, Int.reduceLT, Int.reduceEq, Int.reduceNe, Int.reduceNeg]
         (repeat' apply And.intro) <;> try first | ((with_reducible refine hK' _ ?_ ?_ ?_); rotate_left; (simp only [go_sem, pr, keepSl, ↓reduceIte, Nat.reduceEqDiff]; try rfl); clear hK' K') | (clear hK' K'; first | omega | (with_reducible refine drawOk_k ?_; kernel_rfl) | assumption | refine Eq.refl _ | exact fun h => ⟨h, fun k => ⟨h, k⟩⟩ | (intro _; (repeat' apply And.intro) <;> first | omega | assumption) | skip))
      | with_reducible first | refine W_skip ?_ | refine W_exit ?_ | refine W_ret ?_ | refine W_block ?_ | refine thenG_n ?_ | refine thenG_x ?_ | refine thenG_r ?_ | refine blockG_n ?_ | refine blockG_r ?_ | refine blockG_x ?_ | refine blockG_o (by decide) ?_
    refine W_le (σ' := sgToPs xs 0) [some 0] (by
      simp only [go_sem, mix_zero, ↓reduceIte, reduceCtorEq, Nat.reduceAdd, Nat.reduceLT, Nat.reduceLeDiff, Nat.reduceEqDiff, Int.reduceEq, TC.val.injEq, Value.bool.injEq, Value.int.injEq, Value.string.injEq, TV.one.injEq]
      all_goals (repeat' apply And.intro) <;> try first | rfl | trivial | omega | (rw [wrap_id] <;> omega)
      ) ?_
    refine W_loop (fun n σ => ∃ i : Nat, i ≤ xs.length ∧ n = xs.length - i ∧ σ = sgToPs xs i) xs.length ⟨0, by omega, by omega, rfl⟩ ?_
    rintro n σ ⟨i, hi, rfl, rfl⟩
    unfold sgToPs
    have hm := mix_len xs (List.replicate xs.length ET.ptr.dflt) i (by simp)
    rw [List.length_replicate] at hm
    repeat' first
      | refine W_seq ?_
      | (refine W_reg (s_toPs_K.env []) s_toPs_lv fun K' hK' => ?_
         simp only [go_sem, hm, ↓reduceIte, ↓reduceDIte, reduceCtorEq, Nat.reduceAdd, Nat.reduceMul, Nat.reduceSub, Nat.reduceLT, Nat.reduceLeDiff, Nat.reduceEqDiff, Nat.reduceBEq, Int.reduceToNat, Int.reduceLE, Int.reduceLT, Int.reduceEq, Int.reduceNe, Int.reduceNeg]
         (repeat' apply And.intro) <;> try first | ((with_reducible refine hK' _ ?_ ?_ ?_); rotate_left; (simp only [go_sem, hm, pr, keepSl, ↓reduceIte, Nat.reduceEqDiff]; try rfl); clear hK' K') | (clear hK' K'; first | omega | (with_reducible refine drawOk_k ?_; kernel_rfl) | assumption | refine Eq.refl _ | exact fun h => ⟨h, fun k => ⟨h, k⟩⟩ | (intro _; (repeat' apply And.intro) <;> first | omega | assumption) | skip))
      | with_reducible first | refine W_skip ?_ | refine W_exit ?_ | refine W_ret ?_ | refine W_block ?_ | refine thenG_n ?_ | refine thenG_x ?_ | refine thenG_r ?_ | refine blockG_n ?_ | refine blockG_r ?_ | refine blockG_x ?_ | refine blockG_o (by decide) ?_
    refine W_cond _ (by exact rfl) (by exact trivial) ?_ ?_ <;> (try simp only [Bool.if_true_left, Bool.if_false_right, Bool.if_true_right, Bool.if_false_left, Bool.decide_eq_true, Bool.or_assoc, Bool.and_assoc, Bool.and_true, Bool.or_false, Bool.true_and, Bool.false_or, decide_eq_true_eq, decide_eq_false_iff_not, not_and, not_or, Classical.not_not, Bool.and_eq_true, Bool.or_eq_true, Bool.not_eq_true', Bool.not_eq_false', Bool.or_eq_false_iff, Bool.and_eq_false_iff, bne_iff_ne, ne_eq, beq_iff_eq, bne_eq_false_iff_eq, same_true, same_false, Int.ofNat_inj]) <;> intro hlt
    · have hs := mix_set xs (List.replicate xs.length ET.ptr.dflt) i ET.ptr.dflt (by simp) (by simp; omega) rfl
      repeat' first
        | refine W_seq ?_
        | (refine W_reg (s_toPs_K.env []) s_toPs_lv fun K' hK' => ?_
           simp only [go_sem, hm, ↓reduceIte, ↓reduceDIte, reduceCtorEq, Nat.reduceAdd, Nat.reduceMul, Nat.reduceSub, Nat.reduceLT, Nat.reduceLeDiff, Nat.reduceEqDiff, Nat.reduceBEq, Int.reduceToNat, Int.reduceLE, Int.reduceLT, Int.reduceEq, Int.reduceNe, Int.reduceNeg]
           (repeat' apply And.intro) <;> try first | ((with_reducible refine hK' _ ?_ ?_ ?_); rotate_left; (simp only [go_sem, hm, pr, keepSl, ↓reduceIte, Nat.reduceEqDiff]; try rfl); clear hK' K') | (clear hK' K'; first | omega | (with_reducible refine drawOk_k ?_; kernel_rfl) | assumption | refine Eq.refl _ | exact fun h => ⟨h, fun k => ⟨h, k⟩⟩ | (intro _; (repeat' apply And.intro) <;> first | omega | assumption) | skip))
        | with_reducible first | refine W_skip ?_ | refine W_exit ?_ | refine W_ret ?_ | refine W_block ?_ | refine thenG_n ?_ | refine thenG_x ?_ | refine thenG_r ?_ | refine blockG_n ?_ | refine blockG_r ?_ | refine blockG_x ?_ | refine blockG_o (by decide) ?_
      refine ⟨xs.length - (i + 1), [some 0], sgToPs xs (i + 1), by omega, ?_, i + 1, by omega, rfl, rfl⟩
      simp only [go_sem, hs, hm, ↓reduceIte, reduceCtorEq, Nat.reduceAdd, Nat.reduceLT, Nat.reduceLeDiff, Nat.reduceEqDiff, Int.reduceEq, TC.val.injEq, Value.bool.injEq, Value.int.injEq, Value.string.injEq, TV.one.injEq]
      all_goals (repeat' apply And.intro) <;> try first | rfl | trivial | omega | (rw [wrap_id] <;> omega)
    · have hs := mix_all xs (List.replicate xs.length ET.ptr.dflt) i (by simp) (by simp; omega)
      repeat' first
        | refine W_seq ?_
        | (refine W_reg (s_toPs_K.env []) s_toPs_lv fun K' hK' => ?_
           simp only [go_sem, hm, ↓reduceIte, ↓reduceDIte, reduceCtorEq, Nat.reduceAdd, Nat.reduceMul, Nat.reduceSub, Nat.reduceLT, Nat.reduceLeDiff, Nat.reduceEqDiff, Nat.reduceBEq, Int.reduceToNat, Int.reduceLE, Int.reduceLT, Int.reduceEq, Int.reduceNe, Int.reduceNeg]
           (repeat' apply And.intro) <;> try first | ((with_reducible refine hK' _ ?_ ?_ ?_); rotate_left; (simp only [go_sem, hm, pr, keepSl, ↓reduceIte, Nat.reduceEqDiff]; try rfl); clear hK' K') | (clear hK' K'; first | omega | (with_reducible refine drawOk_k ?_; kernel_rfl) | assumption | refine Eq.refl _ | exact fun h => ⟨h, fun k => ⟨h, k⟩⟩ | (intro _; (repeat' apply And.intro) <;> first | omega | assumption) | skip))
        | with_reducible first | refine W_skip ?_ | refine W_exit ?_ | refine W_ret ?_ | refine W_block ?_ | refine thenG_n ?_ | refine thenG_x ?_ | refine thenG_r ?_ | refine blockG_n ?_ | refine blockG_r ?_ | refine blockG_x ?_ | refine blockG_o (by decide) ?_
      refine ⟨by (simp only [go_sem, hs, ↓reduceIte, reduceCtorEq, Nat.reduceAdd, Nat.reduceLT, Nat.reduceLeDiff, Nat.reduceEqDiff]) <;> trivial, [some 0], ?_⟩
      all_goals try simp only [go_sem, hs, ↓reduceIte, reduceCtorEq, Nat.reduceAdd, Nat.reduceLT, Nat.reduceLeDiff, Nat.reduceEqDiff, Int.reduceEq, TC.val.injEq, Value.bool.injEq, Value.int.injEq, Value.string.injEq, TV.one.injEq]
      all_goals (repeat' apply And.intro) <;> try first | rfl | trivial | omega | (rw [wrap_id] <;> omega)
  · simp [no] at hp
@[go_sem] def ctEqPs : Ct := ⟨false, [[some .ptr], [some .ptr]], fun args os => match args, os with
  | [.one (.isl .ptr xs), .one (.isl .ptr ys)], [] => ifp (xs = ys ∧ xs.length ≤ 4000000) (vb true)
  | _, _ => no⟩
@[go_sem] def sgEqPs (xs : List Ptr) (i : Nat) : Sg := ⟨[(0, .one (.isl .ptr xs)), (1, .one (.isl .ptr xs)), (5, vi i)], [], []⟩
theorem s_eqPs_e : EnterOk Try.prog 107 := ⟨_, Try.func107, rfl, by decide⟩
@[go_sem] def s_eqPs_lv : List (List Nat) := [[0, 1], [0, 1, 10], [4], [0, 1, 5], [0, 1, 5, 14], [0, 1, 5], [0, 1, 5, 26], [4], [4]]
@[go_sem] noncomputable def s_eqPs_K : Known := (Known.nil).cons 116 ctEqPtr s_eqPtr s_eqPtr_e
set_option maxHeartbeats 8000000 in
theorem s_eqPs : Sound Try.prog 107 ctEqPs := by
  refine sound_intro (E := ⟨ti, s_eqPs_K.Γ, []⟩) (s_eqPs_K.env []) Try.func107 Try.ntmps107 rfl (rs := [.tmp 4]) rfl ?_
  intro args os hp
  unfold ctEqPs at hp ⊢
  dsimp only at hp ⊢
  split at hp
  · rename_i xs ys
    refine ⟨by simp, fun φ0 w0 => ?_⟩
    obtain ⟨rfl, hlen⟩ : xs = ys ∧ xs.length ≤ 4000000 := hp
    repeat' first
      | refine W_seq ?_
      | (refine W_reg (s_eqPs_K.env []) s_eqPs_lv fun K' hK' => ?_
         simp only [go_sem, bne_self_eq_false, beq_self_eq_true, ↓reduceIte, ↓reduceDIte, reduceCtorEq, Nat.reduceAdd, Nat.reduceMul, Nat.reduceSub, Nat.reduceLT, Nat.reduceLeDiff, Nat.reduceEqDiff, Nat.reduceBEq, Int.reduceToNat, Int.reduceLE, Int.reduceLT, Int.reduceEq, Int.reduceNe, Int.reduceNeg]
         (repeat' apply And.intro) <;> try first | ((with_reducible refine hK' _ ?_ ?_ ?_); rotate_left; (simp only [go_sem, bne_self_eq_false, beq_self_eq_true, pr, keepSl, ↓reduceIte, Nat.reduceEqDiff]; try rfl); clear hK' K') | (clear hK' K'; first | omega | (with_reducible refine drawOk_k ?_; kernel_rfl) | assumption | refine Eq.refl _ | exact fun h => ⟨h, fun k => ⟨h, k⟩⟩ | (intro _; (repeat' apply And.intro) <;> first | omega | assumption) | skip))
      | with_reducible first | refine W_skip ?_ | refine W_exit ?_ | refine W_ret ?_ | refine W_block ?_ | refine thenG_n ?_ | refine thenG_x ?_ | refine thenG_r ?_ | refine blockG_n ?_ | refine blockG_r ?_ | refine blockG_x ?_ | refine blockG_o (by decide) ?_
    refine W_cond _ (by exact rfl) (by exact trivial) ?_ ?_ <;> intro hlit <;> try (cases hlit; done)
    repeat' first
      | refine W_seq ?_
      | (refine W_reg (s_eqPs_K.env []) s_eqPs_lv fun K' hK' => ?_
         simp only [go_sem, ↓reduceIte, ↓reduceDIte, reduceCtorEq, Nat.reduceAdd, Nat.reduceMul, Nat.reduceSub, Nat.reduceLT, Nat.reduceLeDiff, Nat.reduceEqDiff, Nat.reduceBEq, Int.reduceToNat, Int.reduceLE, Int.reduceLT, Int.reduceEq, Int.reduceNe, Int.reduceNeg]
         (repeat' apply And.intro) <;> try first | ((with_reducible refine hK' _ ?_ ?_ ?_); rotate_left; (simp only [go_sem, pr, keepSl, ↓reduceIte, Nat.reduceEqDiff]; try rfl); clear hK' K') | (clear hK' K'; first | omega | (with_reducible refine drawOk_k ?_; kernel_rfl) | assumption | refine Eq.refl _ | exact fun h => ⟨h, fun k => ⟨h, k⟩⟩ | (intro _; (repeat' apply And.intro) <;> first | omega | assumption) | skip))
      | with_reducible first | refine W_skip ?_ | refine W_exit ?_ | refine W_ret ?_ | refine W_block ?_ | refine thenG_n ?_ | refine thenG_x ?_ | refine thenG_r ?_ | refine blockG_n ?_ | refine blockG_r ?_ | refine blockG_x ?_ | refine blockG_o (by decide) ?_
    refine W_le (σ' := sgEqPs xs 0) [] (by
      simp only [go_sem, ↓reduceIte, reduceCtorEq, Nat.reduceAdd, Nat.reduceLT, Nat.reduceLeDiff, Nat.reduceEqDiff, Int.reduceEq, TC.val.injEq, Value.bool.injEq, Value.int.injEq, Value.string.injEq, TV.one.injEq]
      all_goals (repeat' apply And.intro) <;> try first | rfl | trivial | omega | (rw [wrap_id] <;> omega)
      ) ?_
    refine W_loop (fun n σ => ∃ i : Nat, i ≤ xs.length ∧ n = xs.length - i ∧ σ = sgEqPs xs i) xs.length ⟨0, by omega, by omega, rfl⟩ ?_
    rintro n σ ⟨i, hi, rfl, rfl⟩
    unfold sgEqPs
    repeat' first
      | refine W_seq ?_
      | (refine W_reg (s_eqPs_K.env []) s_eqPs_lv fun K' hK' => ?_
         simp only [go_sem, ↓reduceIte, ↓reduceDIte, reduceCtorEq, Nat.reduceAdd, Nat.reduceMul, Nat.reduceSub, Nat.reduceLT, Nat.reduceLeDiff, Nat.reduceEqDiff, Nat.reduceBEq, Int.reduceToNat, Int.reduceLE, Int.reduceLT, Int.reduceEq, Int.reduceNe, Int.reduceNeg]
         (repeat' apply And.intro) <;> try first | ((with_reducible refine hK' _ ?_ ?_ ?_); rotate_left; (simp only [go_sem, pr, keepSl, ↓reduceIte, Nat.reduceEqDiff]; try rfl); clear hK' K') | (clear hK' K'; first | omega | (with_reducible refine drawOk_k ?_; kernel_rfl) | assumption | refine Eq.refl _ | exact fun h => ⟨h, fun k => ⟨h, k⟩⟩ | (intro _; (repeat' apply And.intro) <;> first | omega | assumption) | skip))
      | with_reducible first | refine W_skip ?_ | refine W_exit ?_ | refine W_ret ?_ | refine W_block ?_ | refine thenG_n ?_ | refine thenG_x ?_ | refine thenG_r ?_ | refine blockG_n ?_ | refine blockG_r ?_ | refine blockG_x ?_ | refine blockG_o (by decide) ?_
    refine W_cond _ (by exact rfl) (by exact trivial) ?_ ?_ <;> (try simp only [Bool.if_true_left, Bool.if_false_right, Bool.if_true_right, Bool.if_false_left, Bool.decide_eq_true, Bool.or_assoc, Bool.and_assoc, Bool.and_true, Bool.or_false, Bool.true_and, Bool.false_or, decide_eq_true_eq, decide_eq_false_iff_not, not_and, not_or, Classical.not_not, Bool.and_eq_true, Bool.or_eq_true, Bool.not_eq_true', Bool.not_eq_false', Bool.or_eq_false_iff, Bool.and_eq_false_iff, bne_iff_ne, ne_eq, beq_iff_eq, bne_eq_false_iff_eq, same_true, same_false, Int.ofNat_inj]) <;> intro hlt
    · repeat' first
        | refine W_seq ?_
        | (refine W_reg (s_eqPs_K.env []) s_eqPs_lv fun K' hK' => ?_
           simp only [go_sem, Bool.not_true, ↓reduceIte, ↓reduceDIte, reduceCtorEq, Nat.reduceAdd, Nat.reduceMul, Nat.reduceSub, Nat.reduceLT, Nat.reduceLeDiff, Nat.reduceEqDiff, Nat.reduceBEq, Int.reduceToNat, Int.reduceLE, Int.reduceLT, Int.reduceEq, Int.reduceNe, Int.reduceNeg]
           (repeat' apply And.intro) <;> try first | ((with_reducible refine hK' _ ?_ ?_ ?_); rotate_left; (simp only [go_sem, Bool.not_true, pr, keepSl, ↓reduceIte, Nat.reduceEqDiff]; try rfl); clear hK' K') | (clear hK' K'; first | omega | (with_reducible refine drawOk_k ?_; kernel_rfl) | assumption | refine Eq.refl _ | exact fun h => ⟨h, fun k => ⟨h, k⟩⟩ | (intro _; (repeat' apply And.intro) <;> first | omega | assumption) | skip))
        | with_reducible first | refine W_skip ?_ | refine W_exit ?_ | refine W_ret ?_ | refine W_block ?_ | refine thenG_n ?_ | refine thenG_x ?_ | refine thenG_r ?_ | refine blockG_n ?_ | refine blockG_r ?_ | refine blockG_x ?_ | refine blockG_o (by decide) ?_
      refine W_cond _ (by exact rfl) (by exact trivial) ?_ ?_ <;> intro hlit <;> try (cases hlit; done)
      repeat' first
        | refine W_seq ?_
        | (refine W_reg (s_eqPs_K.env []) s_eqPs_lv fun K' hK' => ?_
           simp only [go_sem, ↓reduceIte, ↓reduceDIte, reduceCtorEq, Nat.reduceAdd, Nat.reduceMul, Nat.reduceSub, Nat.reduceLT, Nat.reduceLeDiff, Nat.reduceEqDiff, Nat.reduceBEq, Int.reduceToNat, Int.reduceLE, Int.reduceLT, Int.reduceEq, Int.reduceNe, Int.reduceNeg]
           (repeat' apply And.intro) <;> try first | ((with_reducible refine hK' _ ?_ ?_ ?_); rotate_left; (simp only [go_sem, pr, keepSl, ↓reduceIte, Nat.reduceEqDiff]; try rfl); clear hK' K') | (clear hK' K'; first | omega | (with_reducible refine drawOk_k ?_; kernel_rfl) | assumption | refine Eq.refl _ | exact fun h => ⟨h, fun k => ⟨h, k⟩⟩ | (intro _; (repeat' apply And.intro) <;> first | omega | assumption) | skip))
        | with_reducible first | refine W_skip ?_ | refine W_exit ?_ | refine W_ret ?_ | refine W_block ?_ | refine thenG_n ?_ | refine thenG_x ?_ | refine thenG_r ?_ | refine blockG_n ?_ | refine blockG_r ?_ | refine blockG_x ?_ | refine blockG_o (by decide) ?_
      refine ⟨xs.length - (i + 1), [], sgEqPs xs (i + 1), by omega, ?_, i + 1, by omega, rfl, rfl⟩
      simp only [go_sem, ↓reduceIte, reduceCtorEq, Nat.reduceAdd, Nat.reduceLT, Nat.reduceLeDiff, Nat.reduceEqDiff, Int.reduceEq, TC.val.injEq, Value.bool.injEq, Value.int.injEq, Value.string.injEq, TV.one.injEq]
      all_goals (repeat' apply And.intro) <;> try first | rfl | trivial | omega | (rw [wrap_id] <;> omega)
    · repeat' first
        | refine W_seq ?_
        | (refine W_reg (s_eqPs_K.env []) s_eqPs_lv fun K' hK' => ?_
           simp only [go_sem, ↓reduceIte, ↓reduceDIte, reduceCtorEq, Nat.reduceAdd, Nat.reduceMul, Nat.reduceSub, Nat.reduceLT, Nat.reduceLeDiff, Nat.reduceEqDiff, Nat.reduceBEq, Int.reduceToNat, Int.reduceLE, Int.reduceLT, Int.reduceEq, Int.reduceNe, Int.reduceNeg]
           (repeat' apply And.intro) <;> try first | ((with_reducible refine hK' _ ?_ ?_ ?_); rotate_left; (simp only [go_sem, pr, keepSl, ↓reduceIte, Nat.reduceEqDiff]; try rfl); clear hK' K') | (clear hK' K'; first | omega | (with_reducible refine drawOk_k ?_; kernel_rfl) | assumption | refine Eq.refl _ | exact fun h => ⟨h, fun k => ⟨h, k⟩⟩ | (intro _; (repeat' apply And.intro) <;> first | omega | assumption) | skip))
        | with_reducible first | refine W_skip ?_ | refine W_exit ?_ | refine W_ret ?_ | refine W_block ?_ | refine thenG_n ?_ | refine thenG_x ?_ | refine thenG_r ?_ | refine blockG_n ?_ | refine blockG_r ?_ | refine blockG_x ?_ | refine blockG_o (by decide) ?_
      refine ⟨by (simp only [go_sem, ↓reduceIte, reduceCtorEq, Nat.reduceAdd, Nat.reduceLT, Nat.reduceLeDiff, Nat.reduceEqDiff]) <;> trivial, [], ?_⟩
      all_goals try simp only [go_sem, ↓reduceIte, reduceCtorEq, Nat.reduceAdd, Nat.reduceLT, Nat.reduceLeDiff, Nat.reduceEqDiff, Int.reduceEq, TC.val.injEq, Value.bool.injEq, Value.int.injEq, Value.string.injEq, TV.one.injEq]
      all_goals (repeat' apply And.intro) <;> try first | rfl | trivial | omega | (rw [wrap_id] <;> omega)
  · simp [no, ifp] at hp
@[go_sem] def ctToEs : Ct := ⟨false, [[some .ent]], fun args os => match args, os with
  | [.one (.isl .ent xs)], [] => ⟨xs.length ≤ 4000000, .one (.osl .ent 0 0 xs.length), [], [.arr .ent xs]⟩
  | _, _ => no⟩
@[go_sem] def sgToEs (xs : List Ent) (i : Nat) : Sg := ⟨[(0, .one (.isl .ent xs)), (3, .one (.osl .ent 0 0 xs.length)), (4, vi i)], [some (.arr .ent (mix xs (List.replicate xs.length ET.ent.dflt) i))], []⟩
theorem s_toEs_e : EnterOk Try.prog 97 := ⟨_, Try.func97, rfl, by decide⟩
@[go_sem] def s_toEs_lv : List (List Nat) := [[0], [0, 3], [0, 3, 4], [0, 3, 4, 11], [0, 3, 4], [0, 3, 4], [2]]
@[go_sem] noncomputable def s_toEs_K : Known := (Known.nil).cons 113 ctToPtr s_toEnt s_toEnt_e
set_option maxHeartbeats 8000000 in
theorem s_toEs : Sound Try.prog 97 ctToEs := by
  refine sound_intro (E := ⟨ti, s_toEs_K.Γ, []⟩) (s_toEs_K.env []) Try.func97 Try.ntmps97 rfl (rs := [.tmp 2]) rfl ?_
  intro args os hp
  unfold ctToEs at hp ⊢
  dsimp only at hp ⊢
  split at hp
  · rename_i xs
    refine ⟨by simp, fun φ0 w0 => ?_⟩
    have hlen : xs.length ≤ 4000000 := hp
    clear hp
    repeat' first
      | refine W_seq ?_
      | (refine W_reg (s_toEs_K.env []) s_toEs_lv fun K' hK' => ?_
         simp only [go_sem, ↓reduceIte, ↓reduceDIte, reduceCtorEq, Nat.reduceAdd, Nat.reduceMul, Nat.reduceSub, Nat.reduceLT, Nat.reduceLeDiff, Nat.reduceEqDiff, Nat.reduceBEq, Int.reduceToNat, Int.reduceLE, Int.reduceLT, Int.reduceEq, Int.reduceNe, Int.reduceNeg]
         (repeat' apply And.intro) <;> try first | ((with_reducible refine hK' _ ?_ ?_ ?_); rotate_left; (simp only [go_sem, pr, keepSl, ↓reduceIte, Nat.reduceEqDiff]; try rfl); clear hK' K') | (clear hK' K'; first | omega | (with_reducible refine drawOk_k ?_; kernel_rfl) | assumption | refine Eq.refl _ | exact fun h => ⟨h, fun k => ⟨h, k⟩⟩ | (intro _; (repeat' apply And.intro) <;> first | omega | assumption) | skip))
      | with_reducible first | refine W_skip ?_ | refine W_exit ?_ | refine W_ret ?_ | refine W_block ?_ | refine thenG_n ?_ | refine thenG_x ?_ | refine thenG_r ?_ | refine blockG_n ?_ | refine blockG_r ?_ | refine blockG_x ?_ | refine blockG_o (by decide) ?_
    refine W_le (σ' := sgToEs xs 0) [some 0] (by
      simp only [go_sem, mix_zero, ↓reduceIte, reduceCtorEq, Nat.reduceAdd, Nat.reduceLT, Nat.reduceLeDiff, Nat.reduceEqDiff, Int.reduceEq, TC.val.injEq, Value.bool.injEq, Value.int.injEq, Value.string.injEq, TV.one.injEq]
      all_goals (repeat' apply And.intro) <;> try first | rfl | trivial | omega | (rw [wrap_id] <;> omega)
      ) ?_
    refine W_loop (fun n σ => ∃ i : Nat, i ≤ xs.length ∧ n = xs.length - i ∧ σ = sgToEs xs i) xs.length ⟨0, by omega, by omega, rfl⟩ ?_
    rintro n σ ⟨i, hi, rfl, rfl⟩
    unfold sgToEs
    have hm := mix_len xs (List.replicate xs.length ET.ent.dflt) i (by simp)
    rw [List.length_replicate] at hm
    repeat' first
      | refine W_seq ?_
      | (refine W_reg (s_toEs_K.env []) s_toEs_lv fun K' hK' => ?_
         simp only [go_sem, hm, ↓reduceIte, ↓reduceDIte, reduceCtorEq, Nat.reduceAdd, Nat.reduceMul, Nat.reduceSub, Nat.reduceLT, Nat.reduceLeDiff, Nat.reduceEqDiff, Nat.reduceBEq, Int.reduceToNat, Int.reduceLE, Int.reduceLT, Int.reduceEq, Int.reduceNe, Int.reduceNeg]
         (repeat' apply And.intro) <;> try first | ((with_reducible refine hK' _ ?_ ?_ ?_); rotate_left; (simp only [go_sem, hm, pr, keepSl, ↓reduceIte, Nat.reduceEqDiff]; try rfl); clear hK' K') | (clear hK' K'; first | omega | (with_reducible refine drawOk_k ?_; kernel_rfl) | assumption | refine Eq.refl _ | exact fun h => ⟨h, fun k => ⟨h, k⟩⟩ | (intro _; (repeat' apply And.intro) <;> first | omega | assumption) | skip))
      | with_reducible first | refine W_skip ?_ | refine W_exit ?_ | refine W_ret ?_ | refine W_block ?_ | refine thenG_n ?_ | refine thenG_x ?_ | refine thenG_r ?_ | refine blockG_n ?_ | refine blockG_r ?_ | refine blockG_x ?_ | refine blockG_o (by decide) ?_
    refine W_cond _ (by exact rfl) (by exact trivial) ?_ ?_ <;> (try simp only [Bool.if_true_left, Bool.if_false_right, Bool.if_true_right, Bool.if_false_left, Bool.decide_eq_true, Bool.or_assoc, Bool.and_assoc, Bool.and_true, Bool.or_false, Bool.true_and, Bool.false_or, decide_eq_true_eq, decide_eq_false_iff_not, not_and, not_or, Classical.not_not, Bool.and_eq_true, Bool.or_eq_true, Bool.not_eq_true', Bool.not_eq_false', Bool.or_eq_false_iff, Bool.and_eq_false_iff, bne_iff_ne, ne_eq, beq_iff_eq, bne_eq_false_iff_eq, same_true, same_false, Int.ofNat_inj]) <;> intro hlt
    · have hs := mix_set xs (List.replicate xs.length ET.ent.dflt) i ET.ent.dflt (by simp) (by simp; omega) rfl
      repeat' first
        | refine W_seq ?_
        | (refine W_reg (s_toEs_K.env []) s_toEs_lv fun K' hK' => ?_
           simp only [go_sem, hm, ↓reduceIte, ↓reduceDIte, reduceCtorEq, Nat.reduceAdd, Nat.reduceMul, Nat.reduceSub, Nat.reduceLT, Nat.reduceLeDiff, Nat.reduceEqDiff, Nat.reduceBEq, Int.reduceToNat, Int.reduceLE, Int.reduceLT, Int.reduceEq, Int.reduceNe, Int.reduceNeg]
           (repeat' apply And.intro) <;> try first | ((with_reducible refine hK' _ ?_ ?_ ?_); rotate_left; (simp only [go_sem, hm, pr, keepSl, ↓reduceIte, Nat.reduceEqDiff]; try rfl); clear hK' K') | (clear hK' K'; first | omega | (with_reducible refine drawOk_k ?_; kernel_rfl) | assumption | refine Eq.refl _ | exact fun h => ⟨h, fun k => ⟨h, k⟩⟩ | (intro _; (repeat' apply And.intro) <;> first | omega | assumption) | skip))
        | with_reducible first | refine W_skip ?_ | refine W_exit ?_ | refine W_ret ?_ | refine W_block ?_ | refine thenG_n ?_ | refine thenG_x ?_ | refine thenG_r ?_ | refine blockG_n ?_ | refine blockG_r ?_ | refine blockG_x ?_ | refine blockG_o (by decide) ?_
      refine ⟨xs.length - (i + 1), [some 0], sgToEs xs (i + 1), by omega, ?_, i + 1, by omega, rfl, rfl⟩
      simp only [go_sem, hs, hm, ↓reduceIte, reduceCtorEq, Nat.reduceAdd, Nat.reduceLT, Nat.reduceLeDiff, Nat.reduceEqDiff, Int.reduceEq, TC.val.injEq, Value.bool.injEq, Value.int.injEq, Value.string.injEq, TV.one.injEq]
      all_goals (repeat' apply And.intro) <;> try first | rfl | trivial | omega | (rw [wrap_id] <;> omega)
    · have hs := mix_all xs (List.replicate xs.length ET.ent.dflt) i (by simp) (by simp; omega)
      repeat' first
        | refine W_seq ?_
        | (refine W_reg (s_toEs_K.env []) s_toEs_lv fun K' hK' => ?_
           simp only [go_sem, hm, ↓reduceIte, ↓reduceDIte, reduceCtorEq, Nat.reduceAdd, Nat.reduceMul, Nat.reduceSub, Nat.reduceLT, Nat.reduceLeDiff, Nat.reduceEqDiff, Nat.reduceBEq, Int.reduceToNat, Int.reduceLE, Int.reduceLT, Int.reduceEq, Int.reduceNe, Int.reduceNeg]
           (repeat' apply And.intro) <;> try first | ((with_reducible refine hK' _ ?_ ?_ ?_); rotate_left; (simp only [go_sem, hm, pr, keepSl, ↓reduceIte, Nat.reduceEqDiff]; try rfl); clear hK' K') | (clear hK' K'; first | omega | (with_reducible refine drawOk_k ?_; kernel_rfl) | assumption | refine Eq.refl _ | exact fun h => ⟨h, fun k => ⟨h, k⟩⟩ | (intro _; (repeat' apply And.intro) <;> first | omega | assumption) | skip))
        | with_reducible first | refine W_skip ?_ | refine W_exit ?_ | refine W_ret ?_ | refine W_block ?_ | refine thenG_n ?_ | refine thenG_x ?_ | refine thenG_r ?_ | refine blockG_n ?_ | refine blockG_r ?_ | refine blockG_x ?_ | refine blockG_o (by decide) ?_
      refine ⟨by (simp only [go_sem, hs, ↓reduceIte, reduceCtorEq, Nat.reduceAdd, Nat.reduceLT, Nat.reduceLeDiff, Nat.reduceEqDiff]) <;> trivial, [some 0], ?_⟩
      all_goals try simp only [go_sem, hs, ↓reduceIte, reduceCtorEq, Nat.reduceAdd, Nat.reduceLT, Nat.reduceLeDiff, Nat.reduceEqDiff, Int.reduceEq, TC.val.injEq, Value.bool.injEq, Value.int.injEq, Value.string.injEq, TV.one.injEq]
      all_goals (repeat' apply And.intro) <;> try first | rfl | trivial | omega | (rw [wrap_id] <;> omega)
  · simp [no] at hp
@[go_sem] def ctEqEs : Ct := ⟨false, [[some .ent], [some .ent]], fun args os => match args, os with
  | [.one (.isl .ent xs), .one (.isl .ent ys)], [] => ifp (xs = ys ∧ xs.length ≤ 4000000) (vb true)
  | _, _ => no⟩
@[go_sem] def sgEqEs (xs : List Ent) (i : Nat) : Sg := ⟨[(0, .one (.isl .ent xs)), (1, .one (.isl .ent xs)), (5, vi i)], [], []⟩
theorem s_eqEs_e : EnterOk Try.prog 106 := ⟨_, Try.func106, rfl, by decide⟩
@[go_sem] def s_eqEs_lv : List (List Nat) := [[0, 1], [0, 1, 10], [4], [0, 1, 5], [0, 1, 5, 14], [0, 1, 5], [0, 1, 5, 26], [4], [4]]
@[go_sem] noncomputable def s_eqEs_K : Known := (Known.nil).cons 115 ctEqPtr s_eqEnt s_eqEnt_e
set_option maxHeartbeats 8000000 in
theorem s_eqEs : Sound Try.prog 106 ctEqEs := by
  refine sound_intro (E := ⟨ti, s_eqEs_K.Γ, []⟩) (s_eqEs_K.env []) Try.func106 Try.ntmps106 rfl (rs := [.tmp 4]) rfl ?_
  intro args os hp
  unfold ctEqEs at hp ⊢
  dsimp only at hp ⊢
  split at hp
  · rename_i xs ys
    refine ⟨by simp, fun φ0 w0 => ?_⟩
    obtain ⟨rfl, hlen⟩ : xs = ys ∧ xs.length ≤ 4000000 := hp
    repeat' first
      | refine W_seq ?_
      | (refine W_reg (s_eqEs_K.env []) s_eqEs_lv fun K' hK' => ?_
         simp only [go_sem, bne_self_eq_false, beq_self_eq_true, ↓reduceIte, ↓reduceDIte, reduceCtorEq, Nat.reduceAdd, Nat.reduceMul, Nat.reduceSub, Nat.reduceLT, Nat.reduceLeDiff, Nat.reduceEqDiff, Nat.reduceBEq, Int.reduceToNat, Int.reduceLE, Int.reduceLT, Int.reduceEq, Int.reduceNe, Int.reduceNeg]
         (repeat' apply And.intro) <;> try first | ((with_reducible refine hK' _ ?_ ?_ ?_); rotate_left; (simp only [go_sem, bne_self_eq_false, beq_self_eq_true, pr, keepSl, ↓reduceIte, Nat.reduceEqDiff]; try rfl); clear hK' K') | (clear hK' K'; first | omega | (with_reducible refine drawOk_k ?_; kernel_rfl) | assumption | refine Eq.refl _ | exact fun h => ⟨h, fun k => ⟨h, k⟩⟩ | (intro _; (repeat' apply And.intro) <;> first | omega | assumption) | skip))
      | with_reducible first | refine W_skip ?_ | refine W_exit ?_ | refine W_ret ?_ | refine W_block ?_ | refine thenG_n ?_ | refine thenG_x ?_ | refine thenG_r ?_ | refine blockG_n ?_ | refine blockG_r ?_ | refine blockG_x ?_ | refine blockG_o (by decide) ?_
    refine W_cond _ (by exact rfl) (by exact trivial) ?_ ?_ <;> intro hlit <;> try (cases hlit; done)
    repeat' first
      | refine W_seq ?_
      | (refine W_reg (s_eqEs_K.env []) s_eqEs_lv fun K' hK' => ?_
         simp only [go_sem, ↓reduceIte, ↓reduceDIte, reduceCtorEq, Nat.reduceAdd, Nat.reduceMul, Nat.reduceSub, Nat.reduceLT, Nat.reduceLeDiff, Nat.reduceEqDiff, Nat.reduceBEq, Int.reduceToNat, Int.reduceLE, Int.reduceLT, Int.reduceEq, Int.reduceNe, Int.reduceNeg]
         (repeat' apply And.intro) <;> try first | ((with_reducible refine hK' _ ?_ ?_ ?_); rotate_left; (simp only [go_sem, pr, keepSl, ↓reduceIte, Nat.reduceEqDiff]; try rfl); clear hK' K') | (clear hK' K'; first | omega | (with_reducible refine drawOk_k ?_; kernel_rfl) | assumption | refine Eq.refl _ | exact fun h => ⟨h, fun k => ⟨h, k⟩⟩ | (intro _; (repeat' apply And.intro) <;> first | omega | assumption) | skip))
      | with_reducible first | refine W_skip ?_ | refine W_exit ?_ | refine W_ret ?_ | refine W_block ?_ | refine thenG_n ?_ | refine thenG_x ?_ | refine thenG_r ?_ | refine blockG_n ?_ | refine blockG_r ?_ | refine blockG_x ?_ | refine blockG_o (by decide) ?_
    refine W_le (σ' := sgEqEs xs 0) [] (by
      simp only [go_sem, ↓reduceIte, reduceCtorEq, Nat.reduceAdd, Nat.reduceLT, Nat.reduceLeDiff, Nat.reduceEqDiff, Int.reduceEq, TC.val.injEq, Value.bool.injEq, Value.int.injEq, Value.string.injEq, TV.one.injEq]
      all_goals (repeat' apply And.intro) <;> try first | rfl | trivial | omega | (rw [wrap_id] <;> omega)
      ) ?_
    refine W_loop (fun n σ => ∃ i : Nat, i ≤ xs.length ∧ n = xs.length - i ∧ σ = sgEqEs xs i) xs.length ⟨0, by omega, by omega, rfl⟩ ?_
    rintro n σ ⟨i, hi, rfl, rfl⟩
    unfold sgEqEs
    repeat' first
      | refine W_seq ?_
      | (refine W_reg (s_eqEs_K.env []) s_eqEs_lv fun K' hK' => ?_
         simp only [go_sem, ↓reduceIte, ↓reduceDIte, reduceCtorEq, Nat.reduceAdd, Nat.reduceMul, Nat.reduceSub, Nat.reduceLT, Nat.reduceLeDiff, Nat.reduceEqDiff, Nat.reduceBEq, Int.reduceToNat, Int.reduceLE, Int.reduceLT, Int.reduceEq, Int.reduceNe, Int.reduceNeg]
         (repeat' apply And.intro) <;> try first | ((with_reducible refine hK' _ ?_ ?_ ?_); rotate_left; (simp only [go_sem, pr, keepSl, ↓reduceIte, Nat.reduceEqDiff]; try rfl); clear hK' K') | (clear hK' K'; first | omega | (with_reducible refine drawOk_k ?_; kernel_rfl) | assumption | refine Eq.refl _ | exact fun h => ⟨h, fun k => ⟨h, k⟩⟩ | (intro _; (repeat' apply And.intro) <;> first | omega | assumption) | skip))
      | with_reducible first | refine W_skip ?_ | refine W_exit ?_ | refine W_ret ?_ | refine W_block ?_ | refine thenG_n ?_ | refine thenG_x ?_ | refine thenG_r ?_ | refine blockG_n ?_ | refine blockG_r ?_ | refine blockG_x ?_ | refine blockG_o (by decide) ?_
    refine W_cond _ (by exact rfl) (by exact trivial) ?_ ?_ <;> (try simp only [Bool.if_true_left, Bool.if_false_right, Bool.if_true_right, Bool.if_false_left, Bool.decide_eq_true, Bool.or_assoc, Bool.and_assoc, Bool.and_true, Bool.or_false, Bool.true_and, Bool.false_or, decide_eq_true_eq, decide_eq_false_iff_not, not_and, not_or, Classical.not_not, Bool.and_eq_true, Bool.or_eq_true, Bool.not_eq_true', Bool.not_eq_false', Bool.or_eq_false_iff, Bool.and_eq_false_iff, bne_iff_ne, ne_eq, beq_iff_eq, bne_eq_false_iff_eq, same_true, same_false, Int.ofNat_inj]) <;> intro hlt
    · repeat' first
        | refine W_seq ?_
        | (refine W_reg (s_eqEs_K.env []) s_eqEs_lv fun K' hK' => ?_
           simp only [go_sem, Bool.not_true, ↓reduceIte, ↓reduceDIte, reduceCtorEq, Nat.reduceAdd, Nat.reduceMul, Nat.reduceSub, Nat.reduceLT, Nat.reduceLeDiff, Nat.reduceEqDiff, Nat.reduceBEq, Int.reduceToNat, Int.reduceLE, Int.reduceLT, Int.reduceEq, Int.reduceNe, Int.reduceNeg]
           (repeat' apply And.intro) <;> try first | ((with_reducible refine hK' _ ?_ ?_ ?_); rotate_left; (simp only [go_sem, Bool.not_true, pr, keepSl, ↓reduceIte, Nat.reduceEqDiff]; try rfl); clear hK' K') | (clear hK' K'; first | omega | (with_reducible refine drawOk_k ?_; kernel_rfl) | assumption | refine Eq.refl _ | exact fun h => ⟨h, fun k => ⟨h, k⟩⟩ | (intro _; (repeat' apply And.intro) <;> first | omega | assumption) | skip))
        | with_reducible first | refine W_skip ?_ | refine W_exit ?_ | refine W_ret ?_ | refine W_block ?_ | refine thenG_n ?_ | refine thenG_x ?_ | refine thenG_r ?_ | refine blockG_n ?_ | refine blockG_r ?_ | refine blockG_x ?_ | refine blockG_o (by decide) ?_
      refine W_cond _ (by exact rfl) (by exact trivial) ?_ ?_ <;> intro hlit <;> try (cases hlit; done)
      repeat' first
        | refine W_seq ?_
        | (refine W_reg (s_eqEs_K.env []) s_eqEs_lv fun K' hK' => ?_
           simp only [go_sem, ↓reduceIte, ↓reduceDIte, reduceCtorEq, Nat.reduceAdd, Nat.reduceMul, Nat.reduceSub, Nat.reduceLT, Nat.reduceLeDiff, Nat.reduceEqDiff, Nat.reduceBEq, Int.reduceToNat, Int.reduceLE, Int.reduceLT, Int.reduceEq, Int.reduceNe, Int.reduceNeg]
           (repeat' apply And.intro) <;> try first | ((with_reducible refine hK' _ ?_ ?_ ?_); rotate_left; (simp only [go_sem, pr, keepSl, ↓reduceIte, Nat.reduceEqDiff]; try rfl); clear hK' K') | (clear hK' K'; first | omega | (with_reducible refine drawOk_k ?_; kernel_rfl) | assumption | refine Eq.refl _ | exact fun h => ⟨h, fun k => ⟨h, k⟩⟩ | (intro _; (repeat' apply And.intro) <;> first | omega | assumption) | skip))
        | with_reducible first | refine W_skip ?_ | refine W_exit ?_ | refine W_ret ?_ | refine W_block ?_ | refine thenG_n ?_ | refine thenG_x ?_ | refine thenG_r ?_ | refine blockG_n ?_ | refine blockG_r ?_ | refine blockG_x ?_ | refine blockG_o (by decide) ?_
      refine ⟨xs.length - (i + 1), [], sgEqEs xs (i + 1), by omega, ?_, i + 1, by omega, rfl, rfl⟩
      simp only [go_sem, ↓reduceIte, reduceCtorEq, Nat.reduceAdd, Nat.reduceLT, Nat.reduceLeDiff, Nat.reduceEqDiff, Int.reduceEq, TC.val.injEq, Value.bool.injEq, Value.int.injEq, Value.string.injEq, TV.one.injEq]
      all_goals (repeat' apply And.intro) <;> try first | rfl | trivial | omega | (rw [wrap_id] <;> omega)
    · repeat' first
        | refine W_seq ?_
        | (refine W_reg (s_eqEs_K.env []) s_eqEs_lv fun K' hK' => ?_
           simp only [go_sem, ↓reduceIte, ↓reduceDIte, reduceCtorEq, Nat.reduceAdd, Nat.reduceMul, Nat.reduceSub, Nat.reduceLT, Nat.reduceLeDiff, Nat.reduceEqDiff, Nat.reduceBEq, Int.reduceToNat, Int.reduceLE, Int.reduceLT, Int.reduceEq, Int.reduceNe, Int.reduceNeg]
           (repeat' apply And.intro) <;> try first | ((with_reducible refine hK' _ ?_ ?_ ?_); rotate_left; (simp only [go_sem, pr, keepSl, ↓reduceIte, Nat.reduceEqDiff]; try rfl); clear hK' K') | (clear hK' K'; first | omega | (with_reducible refine drawOk_k ?_; kernel_rfl) | assumption | refine Eq.refl _ | exact fun h => ⟨h, fun k => ⟨h, k⟩⟩ | (intro _; (repeat' apply And.intro) <;> first | omega | assumption) | skip))
        | with_reducible first | refine W_skip ?_ | refine W_exit ?_ | refine W_ret ?_ | refine W_block ?_ | refine thenG_n ?_ | refine thenG_x ?_ | refine thenG_r ?_ | refine blockG_n ?_ | refine blockG_r ?_ | refine blockG_x ?_ | refine blockG_o (by decide) ?_
      refine ⟨by (simp only [go_sem, ↓reduceIte, reduceCtorEq, Nat.reduceAdd, Nat.reduceLT, Nat.reduceLeDiff, Nat.reduceEqDiff]) <;> trivial, [], ?_⟩
      all_goals try simp only [go_sem, ↓reduceIte, reduceCtorEq, Nat.reduceAdd, Nat.reduceLT, Nat.reduceLeDiff, Nat.reduceEqDiff, Int.reduceEq, TC.val.injEq, Value.bool.injEq, Value.int.injEq, Value.string.injEq, TV.one.injEq]
      all_goals (repeat' apply And.intro) <;> try first | rfl | trivial | omega | (rw [wrap_id] <;> omega)
  · simp [no, ifp] at hp
@[go_sem] def ctToCs : Ct := ⟨false, [[some .cset]], fun args os => match args, os with
  | [.one (.isl .cset xs)], [] => ⟨xs.length ≤ 4000000, .one (.osl .cset 0 0 xs.length), [], [.arr .cset xs]⟩
  | _, _ => no⟩
@[go_sem] def sgToCs (xs : List CSet) (i : Nat) : Sg := ⟨[(0, .one (.isl .cset xs)), (3, .one (.osl .cset 0 0 xs.length)), (4, vi i)], [some (.arr .cset (mix xs (List.replicate xs.length ET.cset.dflt) i))], []⟩
theorem s_toCs_e : EnterOk Try.prog 96 := ⟨_, Try.func96, rfl, by decide⟩
@[go_sem] def s_toCs_lv : List (List Nat) := [[0], [0, 3], [0, 3, 4], [0, 3, 4, 11], [0, 3, 4], [0, 3, 4], [2]]
@[go_sem] noncomputable def s_toCs_K : Known := (Known.nil).cons 112 ctToCset s_toCset s_toCset_e
set_option maxHeartbeats 8000000 in
theorem s_toCs : Sound Try.prog 96 ctToCs := by
  refine sound_intro (E := ⟨ti, s_toCs_K.Γ, []⟩) (s_toCs_K.env []) Try.func96 Try.ntmps96 rfl (rs := [.tmp 2]) rfl ?_
  intro args os hp
  unfold ctToCs at hp ⊢
  dsimp only at hp ⊢
  split at hp
  · rename_i xs
    refine ⟨by simp, fun φ0 w0 => ?_⟩
    have hlen : xs.length ≤ 4000000 := hp
    clear hp
    repeat' first
      | refine W_seq ?_
      | (refine W_reg (s_toCs_K.env []) s_toCs_lv fun K' hK' => ?_
         simp only [go_sem, ↓reduceIte, ↓reduceDIte, reduceCtorEq, Nat.reduceAdd, Nat.reduceMul, Nat.reduceSub, Nat.reduceLT, Nat.reduceLeDiff, Nat.reduceEqDiff, Nat.reduceBEq, Int.reduceToNat, Int.reduceLE, Int.reduceLT, Int.reduceEq, Int.reduceNe, Int.reduceNeg]
         (repeat' apply And.intro) <;> try first | ((with_reducible refine hK' _ ?_ ?_ ?_); rotate_left; (simp only [go_sem, pr, keepSl, ↓reduceIte, Nat.reduceEqDiff]; try rfl); clear hK' K') | (clear hK' K'; first | omega | (with_reducible refine drawOk_k ?_; kernel_rfl) | assumption | refine Eq.refl _ | exact fun h => ⟨h, fun k => ⟨h, k⟩⟩ | (intro _; (repeat' apply And.intro) <;> first | omega | assumption) | skip))
      | with_reducible first | refine W_skip ?_ | refine W_exit ?_ | refine W_ret ?_ | refine W_block ?_ | refine thenG_n ?_ | refine thenG_x ?_ | refine thenG_r ?_ | refine blockG_n ?_ | refine blockG_r ?_ | refine blockG_x ?_ | refine blockG_o (by decide) ?_
    refine W_le (σ' := sgToCs xs 0) [some 0] (by
      simp only [go_sem, mix_zero, ↓reduceIte, reduceCtorEq, Nat.reduceAdd, Nat.reduceLT, Nat.reduceLeDiff, Nat.reduceEqDiff, Int.reduceEq, TC.val.injEq, Value.bool.injEq, Value.int.injEq, Value.string.injEq, TV.one.injEq]
      all_goals (repeat' apply And.intro) <;> try first | rfl | trivial | omega | (rw [wrap_id] <;> omega)
      ) ?_
    refine W_loop (fun n σ => ∃ i : Nat, i ≤ xs.length ∧ n = xs.length - i ∧ σ = sgToCs xs i) xs.length ⟨0, by omega, by omega, rfl⟩ ?_
    rintro n σ ⟨i, hi, rfl, rfl⟩
    unfold sgToCs
    have hm := mix_len xs (List.replicate xs.length ET.cset.dflt) i (by simp)
    rw [List.length_replicate] at hm
    repeat' first
      | refine W_seq ?_
      | (refine W_reg (s_toCs_K.env []) s_toCs_lv fun K' hK' => ?_
         simp only [go_sem, hm, ↓reduceIte, ↓reduceDIte, reduceCtorEq, Nat.reduceAdd, Nat.reduceMul, Nat.reduceSub, Nat.reduceLT, Nat.reduceLeDiff, Nat.reduceEqDiff, Nat.reduceBEq, Int.reduceToNat, Int.reduceLE, Int.reduceLT, Int.reduceEq, Int.reduceNe, Int.reduceNeg]
         (repeat' apply And.intro) <;> try first | ((with_reducible refine hK' _ ?_ ?_ ?_); rotate_left; (simp only [go_sem, hm, pr, keepSl, ↓reduceIte, Nat.reduceEqDiff]; try rfl); clear hK' K') | (clear hK' K'; first | omega | (with_reducible refine drawOk_k ?_; kernel_rfl) | assumption | refine Eq.refl _ | exact fun h => ⟨h, fun k => ⟨h, k⟩⟩ | (intro _; (repeat' apply And.intro) <;> first | omega | assumption) | skip))
      | with_reducible first | refine W_skip ?_ | refine W_exit ?_ | refine W_ret ?_ | refine W_block ?_ | refine thenG_n ?_ | refine thenG_x ?_ | refine thenG_r ?_ | refine blockG_n ?_ | refine blockG_r ?_ | refine blockG_x ?_ | refine blockG_o (by decide) ?_
    refine W_cond _ (by exact rfl) (by exact trivial) ?_ ?_ <;> (try simp only [Bool.if_true_left, Bool.if_false_right, Bool.if_true_right, Bool.if_false_left, Bool.decide_eq_true, Bool.or_assoc, Bool.and_assoc, Bool.and_true, Bool.or_false, Bool.true_and, Bool.false_or, decide_eq_true_eq, decide_eq_false_iff_not, not_and, not_or, Classical.not_not, Bool.and_eq_true, Bool.or_eq_true, Bool.not_eq_true', Bool.not_eq_false', Bool.or_eq_false_iff, Bool.and_eq_false_iff, bne_iff_ne, ne_eq, beq_iff_eq, bne_eq_false_iff_eq, same_true, same_false, Int.ofNat_inj]) <;> intro hlt
    · have hs := mix_set xs (List.replicate xs.length ET.cset.dflt) i ET.cset.dflt (by simp) (by simp; omega) rfl
      repeat' first
        | refine W_seq ?_
        | (refine W_reg (s_toCs_K.env []) s_toCs_lv fun K' hK' => ?_
           simp only [go_sem, hm, ↓reduceIte, ↓reduceDIte, reduceCtorEq, Nat.reduceAdd, Nat.reduceMul, Nat.reduceSub, Nat.reduceLT, Nat.reduceLeDiff, Nat.reduceEqDiff, Nat.reduceBEq, Int.reduceToNat, Int.reduceLE, Int.reduceLT, Int.reduceEq, Int.reduceNe, Int.reduceNeg]
           (repeat' apply And.intro) <;> try first | ((with_reducible refine hK' _ ?_ ?_ ?_); rotate_left; (simp only [go_sem, hm, pr, keepSl, ↓reduceIte, Nat.reduceEqDiff]; try rfl); clear hK' K') | (clear hK' K'; first | omega | (with_reducible refine drawOk_k ?_; kernel_rfl) | assumption | refine Eq.refl _ | exact fun h => ⟨h, fun k => ⟨h, k⟩⟩ | (intro _; (repeat' apply And.intro) <;> first | omega | assumption) | skip))
        | with_reducible first | refine W_skip ?_ | refine W_exit ?_ | refine W_ret ?_ | refine W_block ?_ | refine thenG_n ?_ | refine thenG_x ?_ | refine thenG_r ?_ | refine blockG_n ?_ | refine blockG_r ?_ | refine blockG_x ?_ | refine blockG_o (by decide) ?_
      refine ⟨xs.length - (i + 1), [some 0], sgToCs xs (i + 1), by omega, ?_, i + 1, by omega, rfl, rfl⟩
      simp only [go_sem, hs, hm, ↓reduceIte, reduceCtorEq, Nat.reduceAdd, Nat.reduceLT, Nat.reduceLeDiff, Nat.reduceEqDiff, Int.reduceEq, TC.val.injEq, Value.bool.injEq, Value.int.injEq, Value.string.injEq, TV.one.injEq]
      all_goals (repeat' apply And.intro) <;> try first | rfl | trivial | omega | (rw [wrap_id] <;> omega)
    · have hs := mix_all xs (List.replicate xs.length ET.cset.dflt) i (by simp) (by simp; omega)
      repeat' first
        | refine W_seq ?_
        | (refine W_reg (s_toCs_K.env []) s_toCs_lv fun K' hK' => ?_
           simp only [go_sem, hm, ↓reduceIte, ↓reduceDIte, reduceCtorEq, Nat.reduceAdd, Nat.reduceMul, Nat.reduceSub, Nat.reduceLT, Nat.reduceLeDiff, Nat.reduceEqDiff, Nat.reduceBEq, Int.reduceToNat, Int.reduceLE, Int.reduceLT, Int.reduceEq, Int.reduceNe, Int.reduceNeg]
           (repeat' apply And.intro) <;> try first | ((with_reducible refine hK' _ ?_ ?_ ?_); rotate_left; (simp only [go_sem, hm, pr, keepSl, ↓reduceIte, Nat.reduceEqDiff]; try rfl); clear hK' K') | (clear hK' K'; first | omega | (with_reducible refine drawOk_k ?_; kernel_rfl) | assumption | refine Eq.refl _ | exact fun h => ⟨h, fun k => ⟨h, k⟩⟩ | (intro _; (repeat' apply And.intro) <;> first | omega | assumption) | skip))
        | with_reducible first | refine W_skip ?_ | refine W_exit ?_ | refine W_ret ?_ | refine W_block ?_ | refine thenG_n ?_ | refine thenG_x ?_ | refine thenG_r ?_ | refine blockG_n ?_ | refine blockG_r ?_ | refine blockG_x ?_ | refine blockG_o (by decide) ?_
      refine ⟨by (simp only [go_sem, hs, ↓reduceIte, reduceCtorEq, Nat.reduceAdd, Nat.reduceLT, Nat.reduceLeDiff, Nat.reduceEqDiff]) <;> trivial, [some 0], ?_⟩
      all_goals try simp only [go_sem, hs, ↓reduceIte, reduceCtorEq, Nat.reduceAdd, Nat.reduceLT, Nat.reduceLeDiff, Nat.reduceEqDiff, Int.reduceEq, TC.val.injEq, Value.bool.injEq, Value.int.injEq, Value.string.injEq, TV.one.injEq]
      all_goals (repeat' apply And.intro) <;> try first | rfl | trivial | omega | (rw [wrap_id] <;> omega)
  · simp [no] at hp
@[go_sem] def ctEqCs : Ct := ⟨false, [[some .cset], [some .cset]], fun args os => match args, os with
  | [.one (.isl .cset xs), .one (.isl .cset ys)], [] => ifp (xs = ys ∧ xs.length ≤ 4000000) (vb true)
  | _, _ => no⟩
@[go_sem] def sgEqCs (xs : List CSet) (i : Nat) : Sg := ⟨[(0, .one (.isl .cset xs)), (1, .one (.isl .cset xs)), (5, vi i)], [], []⟩
theorem s_eqCs_e : EnterOk Try.prog 105 := ⟨_, Try.func105, rfl, by decide⟩
@[go_sem] def s_eqCs_lv : List (List Nat) := [[0, 1], [0, 1, 10], [4], [0, 1, 5], [0, 1, 5, 14], [0, 1, 5], [0, 1, 5, 26], [4], [4]]
@[go_sem] noncomputable def s_eqCs_K : Known := (Known.nil).cons 114 ctEqCset s_eqCset s_eqCset_e
set_option maxHeartbeats 8000000 in
theorem s_eqCs : Sound Try.prog 105 ctEqCs := by
  refine sound_intro (E := ⟨ti, s_eqCs_K.Γ, []⟩) (s_eqCs_K.env []) Try.func105 Try.ntmps105 rfl (rs := [.tmp 4]) rfl ?_
  intro args os hp
  unfold ctEqCs at hp ⊢
  dsimp only at hp ⊢
  split at hp
  · rename_i xs ys
    refine ⟨by simp, fun φ0 w0 => ?_⟩
    obtain ⟨rfl, hlen⟩ : xs = ys ∧ xs.length ≤ 4000000 := hp
    repeat' first
      | refine W_seq ?_
      | (refine W_reg (s_eqCs_K.env []) s_eqCs_lv fun K' hK' => ?_
         simp only [go_sem, bne_self_eq_false, beq_self_eq_true, ↓reduceIte, ↓reduceDIte, reduceCtorEq, Nat.reduceAdd, Nat.reduceMul, Nat.reduceSub, Nat.reduceLT, Nat.reduceLeDiff, Nat.reduceEqDiff, Nat.reduceBEq, Int.reduceToNat, Int.reduceLE, Int.reduceLT, Int.reduceEq, Int.reduceNe, Int.reduceNeg]
         (repeat' apply And.intro) <;> try first | ((with_reducible refine hK' _ ?_ ?_ ?_); rotate_left; (simp only [go_sem, bne_self_eq_false, beq_self_eq_true, pr, keepSl, ↓reduceIte, Nat.reduceEqDiff]; try rfl); clear hK' K') | (clear hK' K'; first | omega | (with_reducible refine drawOk_k ?_; kernel_rfl) | assumption | refine Eq.refl _ | exact fun h => ⟨h, fun k => ⟨h, k⟩⟩ | (intro _; (repeat' apply And.intro) <;> first | omega | assumption) | skip))
      | with_reducible first | refine W_skip ?_ | refine W_exit ?_ | refine W_ret ?_ | refine W_block ?_ | refine thenG_n ?_ | refine thenG_x ?_ | refine thenG_r ?_ | refine blockG_n ?_ | refine blockG_r ?_ | refine blockG_x ?_ | refine blockG_o (by decide) ?_
    refine W_cond _ (by exact rfl) (by exact trivial) ?_ ?_ <;> intro hlit <;> try (cases hlit; done)
    repeat' first
      | refine W_seq ?_
      | (refine W_reg (s_eqCs_K.env []) s_eqCs_lv fun K' hK' => ?_
         simp only [go_sem, ↓reduceIte, ↓reduceDIte, reduceCtorEq, Nat.reduceAdd, Nat.reduceMul, Nat.reduceSub, Nat.reduceLT, Nat.reduceLeDiff, Nat.reduceEqDiff, Nat.reduceBEq, Int.reduceToNat, Int.reduceLE, Int.reduceLT, Int.reduceEq, Int.reduceNe, Int.reduceNeg]
         (repeat' apply And.intro) <;> try first | ((with_reducible refine hK' _ ?_ ?_ ?_); rotate_left; (simp only [go_sem, pr, keepSl, ↓reduceIte, Nat.reduceEqDiff]; try rfl); clear hK' K') | (clear hK' K'; first | omega | (with_reducible refine drawOk_k ?_; kernel_rfl) | assumption | refine Eq.refl _ | exact fun h => ⟨h, fun k => ⟨h, k⟩⟩ | (intro _; (repeat' apply And.intro) <;> first | omega | assumption) | skip))
      | with_reducible first | refine W_skip ?_ | refine W_exit ?_ | refine W_ret ?_ | refine W_block ?_ | refine thenG_n ?_ | refine thenG_x ?_ | refine thenG_r ?_ | refine blockG_n ?_ | refine blockG_r ?_ | refine blockG_x ?_ | refine blockG_o (by decide) ?_
    refine W_le (σ' := sgEqCs xs 0) [] (by
      simp only [go_sem, ↓reduceIte, reduceCtorEq, Nat.reduceAdd, Nat.reduceLT, Nat.reduceLeDiff, Nat.reduceEqDiff, Int.reduceEq, TC.val.injEq, Value.bool.injEq, Value.int.injEq, Value.string.injEq, TV.one.injEq]
      all_goals (repeat' apply And.intro) <;> try first | rfl | trivial | omega | (rw [wrap_id] <;> omega)
      ) ?_
    refine W_loop (fun n σ => ∃ i : Nat, i ≤ xs.length ∧ n = xs.length - i ∧ σ = sgEqCs xs i) xs.length ⟨0, by omega, by omega, rfl⟩ ?_
    rintro n σ ⟨i, hi, rfl, rfl⟩
    unfold sgEqCs
    repeat' first
      | refine W_seq ?_
      | (refine W_reg (s_eqCs_K.env []) s_eqCs_lv fun K' hK' => ?_
         simp only [go_sem, ↓reduceIte, ↓reduceDIte, reduceCtorEq, Nat.reduceAdd, Nat.reduceMul, Nat.reduceSub, Nat.reduceLT, Nat.reduceLeDiff, Nat.reduceEqDiff, Nat.reduceBEq, Int.reduceToNat, Int.reduceLE, Int.reduceLT, Int.reduceEq, Int.reduceNe, Int.reduceNeg]
         (repeat' apply And.intro) <;> try first | ((with_reducible refine hK' _ ?_ ?_ ?_); rotate_left; (simp only [go_sem, pr, keepSl, ↓reduceIte, Nat.reduceEqDiff]; try rfl); clear hK' K') | (clear hK' K'; first | omega | (with_reducible refine drawOk_k ?_; kernel_rfl) | assumption | refine Eq.refl _ | exact fun h => ⟨h, fun k => ⟨h, k⟩⟩ | (intro _; (repeat' apply And.intro) <;> first | omega | assumption) | skip))
      | with_reducible first | refine W_skip ?_ | refine W_exit ?_ | refine W_ret ?_ | refine W_block ?_ | refine thenG_n ?_ | refine thenG_x ?_ | refine thenG_r ?_ | refine blockG_n ?_ | refine blockG_r ?_ | refine blockG_x ?_ | refine blockG_o (by decide) ?_
    refine W_cond _ (by exact rfl) (by exact trivial) ?_ ?_ <;> (try simp only [Bool.if_true_left, Bool.if_false_right, Bool.if_true_right, Bool.if_false_left, Bool.decide_eq_true, Bool.or_assoc, Bool.and_assoc, Bool.and_true, Bool.or_false, Bool.true_and, Bool.false_or, decide_eq_true_eq, decide_eq_false_iff_not, not_and, not_or, Classical.not_not, Bool.and_eq_true, Bool.or_eq_true, Bool.not_eq_true', Bool.not_eq_false', Bool.or_eq_false_iff, Bool.and_eq_false_iff, bne_iff_ne, ne_eq, beq_iff_eq, bne_eq_false_iff_eq, same_true, same_false, Int.ofNat_inj]) <;> intro hlt
    · repeat' first
        | refine W_seq ?_
        | (refine W_reg (s_eqCs_K.env []) s_eqCs_lv fun K' hK' => ?_
           simp only [go_sem, Bool.not_true, ↓reduceIte, ↓reduceDIte, reduceCtorEq, Nat.reduceAdd, Nat.reduceMul, Nat.reduceSub, Nat.reduceLT, Nat.reduceLeDiff, Nat.reduceEqDiff, Nat.reduceBEq, Int.reduceToNat, Int.reduceLE, Int.reduceLT, Int.reduceEq, Int.reduceNe, Int.reduceNeg]
           (repeat' apply And.intro) <;> try first | ((with_reducible refine hK' _ ?_ ?_ ?_); rotate_left; (simp only [go_sem, Bool.not_true, pr, keepSl, ↓reduceIte, Nat.reduceEqDiff]; try rfl); clear hK' K') | (clear hK' K'; first | omega | (with_reducible refine drawOk_k ?_; kernel_rfl) | assumption | refine Eq.refl _ | exact fun h => ⟨h, fun k => ⟨h, k⟩⟩ | (intro _; (repeat' apply And.intro) <;> first | omega | assumption) | skip))
        | with_reducible first | refine W_skip ?_ | refine W_exit ?_ | refine W_ret ?_ | refine W_block ?_ | refine thenG_n ?_ | refine thenG_x ?_ | refine thenG_r ?_ | refine blockG_n ?_ | refine blockG_r ?_ | refine blockG_x ?_ | refine blockG_o (by decide) ?_
      refine W_cond _ (by exact rfl) (by exact trivial) ?_ ?_ <;> intro hlit <;> try (cases hlit; done)
      repeat' first
        | refine W_seq ?_
        | (refine W_reg (s_eqCs_K.env []) s_eqCs_lv fun K' hK' => ?_
           simp only [go_sem, ↓reduceIte, ↓reduceDIte, reduceCtorEq, Nat.reduceAdd, Nat.reduceMul, Nat.reduceSub, Nat.reduceLT, Nat.reduceLeDiff, Nat.reduceEqDiff, Nat.reduceBEq, Int.reduceToNat, Int.reduceLE, Int.reduceLT, Int.reduceEq, Int.reduceNe, Int.reduceNeg]
           (repeat' apply And.intro) <;> try first | ((with_reducible refine hK' _ ?_ ?_ ?_); rotate_left; (simp only [go_sem, pr, keepSl, ↓reduceIte, Nat.reduceEqDiff]; try rfl); clear hK' K') | (clear hK' K'; first | omega | (with_reducible refine drawOk_k ?_; kernel_rfl) | assumption | refine Eq.refl _ | exact fun h => ⟨h, fun k => ⟨h, k⟩⟩ | (intro _; (repeat' apply And.intro) <;> first | omega | assumption) | skip))
        | with_reducible first | refine W_skip ?_ | refine W_exit ?_ | refine W_ret ?_ | refine W_block ?_ | refine thenG_n ?_ | refine thenG_x ?_ | refine thenG_r ?_ | refine blockG_n ?_ | refine blockG_r ?_ | refine blockG_x ?_ | refine blockG_o (by decide) ?_
      refine ⟨xs.length - (i + 1), [], sgEqCs xs (i + 1), by omega, ?_, i + 1, by omega, rfl, rfl⟩
      simp only [go_sem, ↓reduceIte, reduceCtorEq, Nat.reduceAdd, Nat.reduceLT, Nat.reduceLeDiff, Nat.reduceEqDiff, Int.reduceEq, TC.val.injEq, Value.bool.injEq, Value.int.injEq, Value.string.injEq, TV.one.injEq]
      all_goals (repeat' apply And.intro) <;> try first | rfl | trivial | omega | (rw [wrap_id] <;> omega)
    · repeat' first
        | refine W_seq ?_
        | (refine W_reg (s_eqCs_K.env []) s_eqCs_lv fun K' hK' => ?_
           simp only [go_sem, ↓reduceIte, ↓reduceDIte, reduceCtorEq, Nat.reduceAdd, Nat.reduceMul, Nat.reduceSub, Nat.reduceLT, Nat.reduceLeDiff, Nat.reduceEqDiff, Nat.reduceBEq, Int.reduceToNat, Int.reduceLE, Int.reduceLT, Int.reduceEq, Int.reduceNe, Int.reduceNeg]
           (repeat' apply And.intro) <;> try first | ((with_reducible refine hK' _ ?_ ?_ ?_); rotate_left; (simp only [go_sem, pr, keepSl, ↓reduceIte, Nat.reduceEqDiff]; try rfl); clear hK' K') | (clear hK' K'; first | omega | (with_reducible refine drawOk_k ?_; kernel_rfl) | assumption | refine Eq.refl _ | exact fun h => ⟨h, fun k => ⟨h, k⟩⟩ | (intro _; (repeat' apply And.intro) <;> first | omega | assumption) | skip))
        | with_reducible first | refine W_skip ?_ | refine W_exit ?_ | refine W_ret ?_ | refine W_block ?_ | refine thenG_n ?_ | refine thenG_x ?_ | refine thenG_r ?_ | refine blockG_n ?_ | refine blockG_r ?_ | refine blockG_x ?_ | refine blockG_o (by decide) ?_
      refine ⟨by (simp only [go_sem, ↓reduceIte, reduceCtorEq, Nat.reduceAdd, Nat.reduceLT, Nat.reduceLeDiff, Nat.reduceEqDiff]) <;> trivial, [], ?_⟩
      all_goals try simp only [go_sem, ↓reduceIte, reduceCtorEq, Nat.reduceAdd, Nat.reduceLT, Nat.reduceLeDiff, Nat.reduceEqDiff, Int.reduceEq, TC.val.injEq, Value.bool.injEq, Value.int.injEq, Value.string.injEq, TV.one.injEq]
      all_goals (repeat' apply And.intro) <;> try first | rfl | trivial | omega | (rw [wrap_id] <;> omega)
  · simp [no, ifp] at hp
@[go_sem] def ctSzPs : Ct := ⟨false, [[some .ptr]], fun args os => match args, os with
  | [.one (.isl .ptr xs), .one (.val (.int .i64 n))], [] => ifp (xs.length ≤ 9223372036854775807 ∧ 0 ≤ n ∧ n ≤ 1048576) (vi (szW [xs.length] n))
  | _, _ => no⟩
theorem s_szPs_e : EnterOk Try.prog 92 := ⟨_, Try.func92, rfl, by decide⟩
@[go_sem] def s_szPs_lv : List (List Nat) := [[0, 1], [1], [1, 10], [4], [4]]
@[go_sem] noncomputable def s_szPs_K : Known := Known.nil
set_option maxHeartbeats 8000000 in
theorem s_szPs : Sound Try.prog 92 ctSzPs := by
  refine sound_intro (E := ⟨ti, s_szPs_K.Γ, []⟩) (s_szPs_K.env []) Try.func92 Try.ntmps92 rfl (rs := [.tmp 4]) rfl ?_
  intro args os hp
  unfold ctSzPs at hp ⊢
  dsimp only at hp ⊢
  split at hp
  · rename_i xs n
    refine ⟨by simp, fun φ0 w0 => ?_⟩
    obtain ⟨h1, h3, h4⟩ : xs.length ≤ 9223372036854775807 ∧ 0 ≤ n ∧ n ≤ 1048576 := hp
    have e1 : IntKind.i64.wrap (n - xs.length) = n - xs.length := wrap_id _ (by omega) (by omega)
    have f1 : szW [xs.length] n = if n - xs.length < 0 then -1 else n - xs.length := rfl
    repeat' first
      | refine W_seq ?_
      | (refine W_reg (s_szPs_K.env []) s_szPs_lv fun K' hK' => ?_
         simp only [go_sem, e1, ↓reduceIte, ↓reduceDIte, reduceCtorEq, Nat.reduceAdd, Nat.reduceMul, Nat.reduceSub, Nat.reduceLT, Nat.reduceLeDiff, Nat.reduceEqDiff, Nat.reduceBEq, Int.reduceToNat, Int.reduceLE, Int.reduceLT, Int.reduceEq, Int.reduceNe, Int.reduceNeg]
         (repeat' apply And.intro) <;> try first | ((with_reducible refine hK' _ ?_ ?_ ?_); rotate_left; (simp only [go_sem, e1, pr, keepSl, ↓reduceIte, Nat.reduceEqDiff]; try rfl); clear hK' K') | (clear hK' K'; first | omega | (with_reducible refine drawOk_k ?_; kernel_rfl) | assumption | refine Eq.refl _ | exact fun h => ⟨h, fun k => ⟨h, k⟩⟩ | (intro _; (repeat' apply And.intro) <;> first | omega | assumption) | skip))
      | with_reducible first | refine W_skip ?_ | refine W_exit ?_ | refine W_ret ?_ | refine W_block ?_ | refine thenG_n ?_ | refine thenG_x ?_ | refine thenG_r ?_ | refine blockG_n ?_ | refine blockG_r ?_ | refine blockG_x ?_ | refine blockG_o (by decide) ?_
    refine W_cond _ (by exact rfl) (by exact trivial) ?_ ?_ <;> (try simp only [Bool.if_true_left, Bool.if_false_right, Bool.if_true_right, Bool.if_false_left, Bool.decide_eq_true, Bool.or_assoc, Bool.and_assoc, Bool.and_true, Bool.or_false, Bool.true_and, Bool.false_or, decide_eq_true_eq, decide_eq_false_iff_not, not_and, not_or, Classical.not_not, Bool.and_eq_true, Bool.or_eq_true, Bool.not_eq_true', Bool.not_eq_false', Bool.or_eq_false_iff, Bool.and_eq_false_iff, bne_iff_ne, ne_eq, beq_iff_eq, bne_eq_false_iff_eq, same_true, same_false, Int.ofNat_inj]) <;> intro hc
    · rw [if_pos hc] at f1
      repeat' first
        | refine W_seq ?_
        | (refine W_reg (s_szPs_K.env []) s_szPs_lv fun K' hK' => ?_
           simp only [go_sem, ↓reduceIte, ↓reduceDIte, reduceCtorEq, Nat.reduceAdd, Nat.reduceMul, Nat.reduceSub, Nat.reduceLT, Nat.reduceLeDiff, Nat.reduceEqDiff, Nat.reduceBEq, Int.reduceToNat, Int.reduceLE, Int.reduceLT, Int.reduceEq, Int.reduceNe, Int.reduceNeg]
           (repeat' apply And.intro) <;> try first | ((with_reducible refine hK' _ ?_ ?_ ?_); rotate_left; (simp only [go_sem, pr, keepSl, ↓reduceIte, Nat.reduceEqDiff]; try rfl); clear hK' K') | (clear hK' K'; first | omega | (with_reducible refine drawOk_k ?_; kernel_rfl) | assumption | refine Eq.refl _ | exact fun h => ⟨h, fun k => ⟨h, k⟩⟩ | (intro _; (repeat' apply And.intro) <;> first | omega | assumption) | skip))
        | with_reducible first | refine W_skip ?_ | refine W_exit ?_ | refine W_ret ?_ | refine W_block ?_ | refine thenG_n ?_ | refine thenG_x ?_ | refine thenG_r ?_ | refine blockG_n ?_ | refine blockG_r ?_ | refine blockG_x ?_ | refine blockG_o (by decide) ?_
      refine ⟨by (simp only [go_sem, f1, ↓reduceIte, reduceCtorEq, Nat.reduceAdd, Nat.reduceLT, Nat.reduceLeDiff, Nat.reduceEqDiff]) <;> trivial, [], ?_⟩
      all_goals try simp only [go_sem, f1, ↓reduceIte, reduceCtorEq, Nat.reduceAdd, Nat.reduceLT, Nat.reduceLeDiff, Nat.reduceEqDiff, Int.reduceEq, TC.val.injEq, Value.bool.injEq, Value.int.injEq, Value.string.injEq, TV.one.injEq]
      all_goals (repeat' apply And.intro) <;> try first | rfl | trivial | omega | (rw [wrap_id] <;> omega)
    · rw [if_neg hc] at f1
      repeat' first
        | refine W_seq ?_
        | (refine W_reg (s_szPs_K.env []) s_szPs_lv fun K' hK' => ?_
           simp only [go_sem, ↓reduceIte, ↓reduceDIte, reduceCtorEq, Nat.reduceAdd, Nat.reduceMul, Nat.reduceSub, Nat.reduceLT, Nat.reduceLeDiff, Nat.reduceEqDiff, Nat.reduceBEq, Int.reduceToNat, Int.reduceLE, Int.reduceLT, Int.reduceEq, Int.reduceNe, Int.reduceNeg]
           (repeat' apply And.intro) <;> try first | ((with_reducible refine hK' _ ?_ ?_ ?_); rotate_left; (simp only [go_sem, pr, keepSl, ↓reduceIte, Nat.reduceEqDiff]; try rfl); clear hK' K') | (clear hK' K'; first | omega | (with_reducible refine drawOk_k ?_; kernel_rfl) | assumption | refine Eq.refl _ | exact fun h => ⟨h, fun k => ⟨h, k⟩⟩ | (intro _; (repeat' apply And.intro) <;> first | omega | assumption) | skip))
        | with_reducible first | refine W_skip ?_ | refine W_exit ?_ | refine W_ret ?_ | refine W_block ?_ | refine thenG_n ?_ | refine thenG_x ?_ | refine thenG_r ?_ | refine blockG_n ?_ | refine blockG_r ?_ | refine blockG_x ?_ | refine blockG_o (by decide) ?_
      refine ⟨by (simp only [go_sem, f1, ↓reduceIte, reduceCtorEq, Nat.reduceAdd, Nat.reduceLT, Nat.reduceLeDiff, Nat.reduceEqDiff]) <;> trivial, [], ?_⟩
      all_goals try simp only [go_sem, f1, ↓reduceIte, reduceCtorEq, Nat.reduceAdd, Nat.reduceLT, Nat.reduceLeDiff, Nat.reduceEqDiff, Int.reduceEq, TC.val.injEq, Value.bool.injEq, Value.int.injEq, Value.string.injEq, TV.one.injEq]
      all_goals (repeat' apply And.intro) <;> try first | rfl | trivial | omega | (rw [wrap_id] <;> omega)
  · simp [no, ifp] at hp
@[go_sem] def ctSzEs : Ct := ⟨false, [[some .ent]], fun args os => match args, os with
  | [.one (.isl .ent xs), .one (.val (.int .i64 n))], [] => ifp (xs.length ≤ 9223372036854775807 ∧ 0 ≤ n ∧ n ≤ 1048576) (vi (szW [xs.length] n))
  | _, _ => no⟩
theorem s_szEs_e : EnterOk Try.prog 91 := ⟨_, Try.func91, rfl, by decide⟩
@[go_sem] def s_szEs_lv : List (List Nat) := [[0, 1], [1], [1, 10], [4], [4]]
@[go_sem] noncomputable def s_szEs_K : Known := Known.nil
set_option maxHeartbeats 8000000 in
theorem s_szEs : Sound Try.prog 91 ctSzEs := by
  refine sound_intro (E := ⟨ti, s_szEs_K.Γ, []⟩) (s_szEs_K.env []) Try.func91 Try.ntmps91 rfl (rs := [.tmp 4]) rfl ?_
  intro args os hp
  unfold ctSzEs at hp ⊢
  dsimp only at hp ⊢
  split at hp
  · rename_i xs n
    refine ⟨by simp, fun φ0 w0 => ?_⟩
    obtain ⟨h1, h3, h4⟩ : xs.length ≤ 9223372036854775807 ∧ 0 ≤ n ∧ n ≤ 1048576 := hp
    have e1 : IntKind.i64.wrap (n - xs.length) = n - xs.length := wrap_id _ (by omega) (by omega)
    have f1 : szW [xs.length] n = if n - xs.length < 0 then -1 else n - xs.length := rfl
    repeat' first
      | refine W_seq ?_
      | (refine W_reg (s_szEs_K.env []) s_szEs_lv fun K' hK' => ?_
         simp only [go_sem, e1, ↓reduceIte, ↓reduceDIte, reduceCtorEq, Nat.reduceAdd, Nat.reduceMul, Nat.reduceSub, Nat.reduceLT, Nat.reduceLeDiff, Nat.reduceEqDiff, Nat.reduceBEq, Int.reduceToNat, Int.reduceLE, Int.reduceLT, Int.reduceEq, Int.reduceNe, Int.reduceNeg]
         (repeat' apply And.intro) <;> try first | ((with_reducible refine hK' _ ?_ ?_ ?_); rotate_left; (simp only [go_sem, e1, pr, keepSl, ↓reduceIte, Nat.reduceEqDiff]; try rfl); clear hK' K') | (clear hK' K'; first | omega | (with_reducible refine drawOk_k ?_; kernel_rfl) | assumption | refine Eq.refl _ | exact fun h => ⟨h, fun k => ⟨h, k⟩⟩ | (intro _; (repeat' apply And.intro) <;> first | omega | assumption) | skip))
      | with_reducible first | refine W_skip ?_ | refine W_exit ?_ | refine W_ret ?_ | refine W_block ?_ | refine thenG_n ?_ | refine thenG_x ?_ | refine thenG_r ?_ | refine blockG_n ?_ | refine blockG_r ?_ | refine blockG_x ?_ | refine blockG_o (by decide) ?_
    refine W_cond _ (by exact rfl) (by exact trivial) ?_ ?_ <;> (try simp only [Bool.if_true_left, Bool.if_false_right, Bool.if_true_right, Bool.if_false_left, Bool.decide_eq_true, Bool.or_assoc, Bool.and_assoc, Bool.and_true, Bool.or_false, Bool.true_and, Bool.false_or, decide_eq_true_eq, decide_eq_false_iff_not, not_and, not_or, Classical.not_not, Bool.and_eq_true, Bool.or_eq_true, Bool.not_eq_true', Bool.not_eq_false', Bool.or_eq_false_iff, Bool.and_eq_false_iff, bne_iff_ne, ne_eq, beq_iff_eq, bne_eq_false_iff_eq, same_true, same_false, Int.ofNat_inj]) <;> intro hc
    · rw [if_pos hc] at f1
      repeat' first
        | refine W_seq ?_
        | (refine W_reg (s_szEs_K.env []) s_szEs_lv fun K' hK' => ?_
           simp only [go_sem, ↓reduceIte, ↓reduceDIte, reduceCtorEq, Nat.reduceAdd, Nat.reduceMul, Nat.reduceSub, Nat.reduceLT, Nat.reduceLeDiff, Nat.reduceEqDiff, Nat.reduceBEq, Int.reduceToNat, Int.reduceLE, Int.reduceLT, Int.reduceEq, Int.reduceNe, Int.reduceNeg]
           (repeat' apply And.intro) <;> try first | ((with_reducible refine hK' _ ?_ ?_ ?_); rotate_left; (simp only [go_sem, pr, keepSl, ↓reduceIte, Nat.reduceEqDiff]; try rfl); clear hK' K') | (clear hK' K'; first | omega | (with_reducible refine drawOk_k ?_; kernel_rfl) | assumption | refine Eq.refl _ | exact fun h => ⟨h, fun k => ⟨h, k⟩⟩ | (intro _; (repeat' apply And.intro) <;> first | omega | assumption) | skip))
        | with_reducible first | refine W_skip ?_ | refine W_exit ?_ | refine W_ret ?_ | refine W_block ?_ | refine thenG_n ?_ | refine thenG_x ?_ | refine thenG_r ?_ | refine blockG_n ?_ | refine blockG_r ?_ | refine blockG_x ?_ | refine blockG_o (by decide) ?_
      refine ⟨by (simp only [go_sem, f1, ↓reduceIte, reduceCtorEq, Nat.reduceAdd, Nat.reduceLT, Nat.reduceLeDiff, Nat.reduceEqDiff]) <;> trivial, [], ?_⟩
      all_goals try simp only [go_sem, f1, ↓reduceIte, reduceCtorEq, Nat.reduceAdd, Nat.reduceLT, Nat.reduceLeDiff, Nat.reduceEqDiff, Int.reduceEq, TC.val.injEq, Value.bool.injEq, Value.int.injEq, Value.string.injEq, TV.one.injEq]
      all_goals (repeat' apply And.intro) <;> try first | rfl | trivial | omega | (rw [wrap_id] <;> omega)
    · rw [if_neg hc] at f1
      repeat' first
        | refine W_seq ?_
        | (refine W_reg (s_szEs_K.env []) s_szEs_lv fun K' hK' => ?_
           simp only [go_sem, ↓reduceIte, ↓reduceDIte, reduceCtorEq, Nat.reduceAdd, Nat.reduceMul, Nat.reduceSub, Nat.reduceLT, Nat.reduceLeDiff, Nat.reduceEqDiff, Nat.reduceBEq, Int.reduceToNat, Int.reduceLE, Int.reduceLT, Int.reduceEq, Int.reduceNe, Int.reduceNeg]
           (repeat' apply And.intro) <;> try first | ((with_reducible refine hK' _ ?_ ?_ ?_); rotate_left; (simp only [go_sem, pr, keepSl, ↓reduceIte, Nat.reduceEqDiff]; try rfl); clear hK' K') | (clear hK' K'; first | omega | (with_reducible refine drawOk_k ?_; kernel_rfl) | assumption | refine Eq.refl _ | exact fun h => ⟨h, fun k => ⟨h, k⟩⟩ | (intro _; (repeat' apply And.intro) <;> first | omega | assumption) | skip))
        | with_reducible first | refine W_skip ?_ | refine W_exit ?_ | refine W_ret ?_ | refine W_block ?_ | refine thenG_n ?_ | refine thenG_x ?_ | refine thenG_r ?_ | refine blockG_n ?_ | refine blockG_r ?_ | refine blockG_x ?_ | refine blockG_o (by decide) ?_
      refine ⟨by (simp only [go_sem, f1, ↓reduceIte, reduceCtorEq, Nat.reduceAdd, Nat.reduceLT, Nat.reduceLeDiff, Nat.reduceEqDiff]) <;> trivial, [], ?_⟩
      all_goals try simp only [go_sem, f1, ↓reduceIte, reduceCtorEq, Nat.reduceAdd, Nat.reduceLT, Nat.reduceLeDiff, Nat.reduceEqDiff, Int.reduceEq, TC.val.injEq, Value.bool.injEq, Value.int.injEq, Value.string.injEq, TV.one.injEq]
      all_goals (repeat' apply And.intro) <;> try first | rfl | trivial | omega | (rw [wrap_id] <;> omega)
  · simp [no, ifp] at hp
@[go_sem] def ctSzI : Ct := ⟨false, [[some .int]], fun args os => match args, os with
  | [.one (.isl .int xs), .one (.val (.int .i64 n))], [] => ifp (xs.length ≤ 9223372036854775807 ∧ 0 ≤ n ∧ n ≤ 1048576) (vi (szW [xs.length] n))
  | _, _ => no⟩
theorem s_szI_e : EnterOk Try.prog 93 := ⟨_, Try.func93, rfl, by decide⟩
@[go_sem] def s_szI_lv : List (List Nat) := [[0, 1], [1], [1, 10], [4], [4]]
@[go_sem] noncomputable def s_szI_K : Known := Known.nil
set_option maxHeartbeats 8000000 in
theorem s_szI : Sound Try.prog 93 ctSzI := by
  refine sound_intro (E := ⟨ti, s_szI_K.Γ, []⟩) (s_szI_K.env []) Try.func93 Try.ntmps93 rfl (rs := [.tmp 4]) rfl ?_
  intro args os hp
  unfold ctSzI at hp ⊢
  dsimp only at hp ⊢
  split at hp
  · rename_i xs n
    refine ⟨by simp, fun φ0 w0 => ?_⟩
    obtain ⟨h1, h3, h4⟩ : xs.length ≤ 9223372036854775807 ∧ 0 ≤ n ∧ n ≤ 1048576 := hp
    have e1 : IntKind.i64.wrap (n - xs.length) = n - xs.length := wrap_id _ (by omega) (by omega)
    have f1 : szW [xs.length] n = if n - xs.length < 0 then -1 else n - xs.length := rfl
    repeat' first
      | refine W_seq ?_
      | (refine W_reg (s_szI_K.env []) s_szI_lv fun K' hK' => ?_
         simp only [go_sem, e1, ↓reduceIte, ↓reduceDIte, reduceCtorEq, Nat.reduceAdd, Nat.reduceMul, Nat.reduceSub, Nat.reduceLT, Nat.reduceLeDiff, Nat.reduceEqDiff, Nat.reduceBEq, Int.reduceToNat, Int.reduceLE, Int.reduceLT, Int.reduceEq, Int.reduceNe, Int.reduceNeg]
         (repeat' apply And.intro) <;> try first | ((with_reducible refine hK' _ ?_ ?_ ?_); rotate_left; (simp only [go_sem, e1, pr, keepSl, ↓reduceIte, Nat.reduceEqDiff]; try rfl); clear hK' K') | (clear hK' K'; first | omega | (with_reducible refine drawOk_k ?_; kernel_rfl) | assumption | refine Eq.refl _ | exact fun h => ⟨h, fun k => ⟨h, k⟩⟩ | (intro _; (repeat' apply And.intro) <;> first | omega | assumption) | skip))
      | with_reducible first | refine W_skip ?_ | refine W_exit ?_ | refine W_ret ?_ | refine W_block ?_ | refine thenG_n ?_ | refine thenG_x ?_ | refine thenG_r ?_ | refine blockG_n ?_ | refine blockG_r ?_ | refine blockG_x ?_ | refine blockG_o (by decide) ?_
    refine W_cond _ (by exact rfl) (by exact trivial) ?_ ?_ <;> (try simp only [Bool.if_true_left, Bool.if_false_right, Bool.if_true_right, Bool.if_false_left, Bool.decide_eq_true, Bool.or_assoc, Bool.and_assoc, Bool.and_true, Bool.or_false, Bool.true_and, Bool.false_or, decide_eq_true_eq, decide_eq_false_iff_not, not_and, not_or, Classical.not_not, Bool.and_eq_true, Bool.or_eq_true, Bool.not_eq_true', Bool.not_eq_false', Bool.or_eq_false_iff, Bool.and_eq_false_iff, bne_iff_ne, ne_eq, beq_iff_eq, bne_eq_false_iff_eq, same_true, same_false, Int.ofNat_inj]) <;> intro hc
    · rw [if_pos hc] at f1
      repeat' first
        | refine W_seq ?_
        | (refine W_reg (s_szI_K.env []) s_szI_lv fun K' hK' => ?_
           simp only [go_sem, ↓reduceIte, ↓reduceDIte, reduceCtorEq, Nat.reduceAdd, Nat.reduceMul, Nat.reduceSub, Nat.reduceLT, Nat.reduceLeDiff, Nat.reduceEqDiff, Nat.reduceBEq, Int.reduceToNat, Int.reduceLE, Int.reduceLT, Int.reduceEq, Int.reduceNe, Int.reduceNeg]
           (repeat' apply And.intro) <;> try first | ((with_reducible refine hK' _ ?_ ?_ ?_); rotate_left; (simp only [go_sem, pr, keepSl, ↓reduceIte, Nat.reduceEqDiff]; try rfl); clear hK' K') | (clear hK' K'; first | omega | (with_reducible refine drawOk_k ?_; kernel_rfl) | assumption | refine Eq.refl _ | exact fun h => ⟨h, fun k => ⟨h, k⟩⟩ | (intro _; (repeat' apply And.intro) <;> first | omega | assumption) | skip))
        | with_reducible first | refine W_skip ?_ | refine W_exit ?_ | refine W_ret ?_ | refine W_block ?_ | refine thenG_n ?_ | refine thenG_x ?_ | refine thenG_r ?_ | refine blockG_n ?_ | refine blockG_r ?_ | refine blockG_x ?_ | refine blockG_o (by decide) ?_
      refine ⟨by (simp only [go_sem, f1, ↓reduceIte, reduceCtorEq, Nat.reduceAdd, Nat.reduceLT, Nat.reduceLeDiff, Nat.reduceEqDiff]) <;> trivial, [], ?_⟩
      all_goals try simp only [go_sem, f1, ↓reduceIte, reduceCtorEq, Nat.reduceAdd, Nat.reduceLT, Nat.reduceLeDiff, Nat.reduceEqDiff, Int.reduceEq, TC.val.injEq, Value.bool.injEq, Value.int.injEq, Value.string.injEq, TV.one.injEq]
      all_goals (repeat' apply And.intro) <;> try first | rfl | trivial | omega | (rw [wrap_id] <;> omega)
    · rw [if_neg hc] at f1
      repeat' first
        | refine W_seq ?_
        | (refine W_reg (s_szI_K.env []) s_szI_lv fun K' hK' => ?_
           simp only [go_sem, ↓reduceIte, ↓reduceDIte, reduceCtorEq, Nat.reduceAdd, Nat.reduceMul, Nat.reduceSub, Nat.reduceLT, Nat.reduceLeDiff, Nat.reduceEqDiff, Nat.reduceBEq, Int.reduceToNat, Int.reduceLE, Int.reduceLT, Int.reduceEq, Int.reduceNe, Int.reduceNeg]
           (repeat' apply And.intro) <;> try first | ((with_reducible refine hK' _ ?_ ?_ ?_); rotate_left; (simp only [go_sem, pr, keepSl, ↓reduceIte, Nat.reduceEqDiff]; try rfl); clear hK' K') | (clear hK' K'; first | omega | (with_reducible refine drawOk_k ?_; kernel_rfl) | assumption | refine Eq.refl _ | exact fun h => ⟨h, fun k => ⟨h, k⟩⟩ | (intro _; (repeat' apply And.intro) <;> first | omega | assumption) | skip))
        | with_reducible first | refine W_skip ?_ | refine W_exit ?_ | refine W_ret ?_ | refine W_block ?_ | refine thenG_n ?_ | refine thenG_x ?_ | refine thenG_r ?_ | refine blockG_n ?_ | refine blockG_r ?_ | refine blockG_x ?_ | refine blockG_o (by decide) ?_
      refine ⟨by (simp only [go_sem, f1, ↓reduceIte, reduceCtorEq, Nat.reduceAdd, Nat.reduceLT, Nat.reduceLeDiff, Nat.reduceEqDiff]) <;> trivial, [], ?_⟩
      all_goals try simp only [go_sem, f1, ↓reduceIte, reduceCtorEq, Nat.reduceAdd, Nat.reduceLT, Nat.reduceLeDiff, Nat.reduceEqDiff, Int.reduceEq, TC.val.injEq, Value.bool.injEq, Value.int.injEq, Value.string.injEq, TV.one.injEq]
      all_goals (repeat' apply And.intro) <;> try first | rfl | trivial | omega | (rw [wrap_id] <;> omega)
  · simp [no, ifp] at hp
structure inC (xs : List CSet) : Prop where
  len : xs.length ≤ 9223372036854775807
  all : ∀ i : Nat, (xs.getD i ET.cset.dflt).name.size ≤ 9223372036854775807 ∧ (xs.getD i ET.cset.dflt).from_.size ≤ 9223372036854775807
def wC (xs : List CSet) : List Nat := xs.length :: xs.flatMap wC1
theorem drop_flat {α : Type} (f : α → List Nat) (xs : List α) (i : Nat) (d : α) (h : i < xs.length) : (xs.drop i).flatMap f = f (xs.getD i d) ++ (xs.drop (i + 1)).flatMap f := by
  rw [List.drop_eq_getElem_cons h, List.flatMap_cons]
  simp [h]
@[go_sem] def ctSzCs : Ct := ⟨false, [[some .cset]], fun args os => match args, os with
  | [.one (.isl .cset xs), .one (.val (.int .i64 n))], [] => ifp (inC xs ∧ 0 ≤ n ∧ n ≤ 1048576) (vi (szW (wC xs) n))
  | _, _ => no⟩
@[go_sem] def sgSzCs (xs : List CSet) (n : Int) (i : Nat) : Sg := ⟨[(0, .one (.isl .cset xs)), (1, vi n), (5, vi i)], [], []⟩
theorem s_szCs_e : EnterOk Try.prog 90 := ⟨_, Try.func90, rfl, by decide⟩
@[go_sem] def s_szCs_lv : List (List Nat) := [[0, 1], [0, 1], [0, 1, 11], [4], [0, 1, 5], [0, 1, 5, 15], [0, 1, 5], [0, 1, 5], [0, 1, 5, 25], [4], [4]]
@[go_sem] noncomputable def s_szCs_K : Known := (Known.nil).cons 111 ctSzCset s_szCset s_szCset_e
set_option maxHeartbeats 8000000 in
theorem s_szCs : Sound Try.prog 90 ctSzCs := by
  refine sound_intro (E := ⟨ti, s_szCs_K.Γ, []⟩) (s_szCs_K.env []) Try.func90 Try.ntmps90 rfl (rs := [.tmp 4]) rfl ?_
  intro args os hp
  unfold ctSzCs at hp ⊢
  dsimp only at hp ⊢
  split at hp
  · rename_i xs n
    refine ⟨by simp, fun φ0 w0 => ?_⟩
    obtain ⟨⟨h1, h2⟩, h3, h4⟩ : inC xs ∧ 0 ≤ n ∧ n ≤ 1048576 := hp
    have e1 : IntKind.i64.wrap (n - xs.length) = n - xs.length := wrap_id _ (by omega) (by omega)
    repeat' first
      | refine W_seq ?_
      | (refine W_reg (s_szCs_K.env []) s_szCs_lv fun K' hK' => ?_
         simp only [go_sem, e1, ↓reduceIte, ↓reduceDIte, reduceCtorEq, Nat.reduceAdd, Nat.reduceMul, Nat.reduceSub, Nat.reduceLT, Nat.reduceLeDiff, Nat.reduceEqDiff, Nat.reduceBEq, Int.reduceToNat, Int.reduceLE, Int.reduceLT, Int.reduceEq, Int.reduceNe, Int.reduceNeg]
         (repeat' apply And.intro) <;> try first | ((with_reducible refine hK' _ ?_ ?_ ?_); rotate_left; (simp only [go_sem, e1, pr, keepSl, ↓reduceIte, Nat.reduceEqDiff]; try rfl); clear hK' K') | (clear hK' K'; first | omega | (with_reducible refine drawOk_k ?_; kernel_rfl) | assumption | refine Eq.refl _ | exact fun h => ⟨h, fun k => ⟨h, k⟩⟩ | (intro _; (repeat' apply And.intro) <;> first | omega | assumption) | skip))
      | with_reducible first | refine W_skip ?_ | refine W_exit ?_ | refine W_ret ?_ | refine W_block ?_ | refine thenG_n ?_ | refine thenG_x ?_ | refine thenG_r ?_ | refine blockG_n ?_ | refine blockG_r ?_ | refine blockG_x ?_ | refine blockG_o (by decide) ?_
    refine W_cond _ (by exact rfl) (by exact trivial) ?_ ?_ <;> (try simp only [Bool.if_true_left, Bool.if_false_right, Bool.if_true_right, Bool.if_false_left, Bool.decide_eq_true, Bool.or_assoc, Bool.and_assoc, Bool.and_true, Bool.or_false, Bool.true_and, Bool.false_or, decide_eq_true_eq, decide_eq_false_iff_not, not_and, not_or, Classical.not_not, Bool.and_eq_true, Bool.or_eq_true, Bool.not_eq_true', Bool.not_eq_false', Bool.or_eq_false_iff, Bool.and_eq_false_iff, bne_iff_ne, ne_eq, beq_iff_eq, bne_eq_false_iff_eq, same_true, same_false, Int.ofNat_inj]) <;> intro hc
    · have e2 : szW (wC xs) n = -1 := by unfold wC szW; rw [if_pos hc]
      repeat' first
        | refine W_seq ?_
        | (refine W_reg (s_szCs_K.env []) s_szCs_lv fun K' hK' => ?_
           simp only [go_sem, ↓reduceIte, ↓reduceDIte, reduceCtorEq, Nat.reduceAdd, Nat.reduceMul, Nat.reduceSub, Nat.reduceLT, Nat.reduceLeDiff, Nat.reduceEqDiff, Nat.reduceBEq, Int.reduceToNat, Int.reduceLE, Int.reduceLT, Int.reduceEq, Int.reduceNe, Int.reduceNeg]
           (repeat' apply And.intro) <;> try first | ((with_reducible refine hK' _ ?_ ?_ ?_); rotate_left; (simp only [go_sem, pr, keepSl, ↓reduceIte, Nat.reduceEqDiff]; try rfl); clear hK' K') | (clear hK' K'; first | omega | (with_reducible refine drawOk_k ?_; kernel_rfl) | assumption | refine Eq.refl _ | exact fun h => ⟨h, fun k => ⟨h, k⟩⟩ | (intro _; (repeat' apply And.intro) <;> first | omega | assumption) | skip))
        | with_reducible first | refine W_skip ?_ | refine W_exit ?_ | refine W_ret ?_ | refine W_block ?_ | refine thenG_n ?_ | refine thenG_x ?_ | refine thenG_r ?_ | refine blockG_n ?_ | refine blockG_r ?_ | refine blockG_x ?_ | refine blockG_o (by decide) ?_
      refine ⟨by (simp only [go_sem, e2, ↓reduceIte, reduceCtorEq, Nat.reduceAdd, Nat.reduceLT, Nat.reduceLeDiff, Nat.reduceEqDiff]) <;> trivial, [], ?_⟩
      all_goals try simp only [go_sem, e2, ↓reduceIte, reduceCtorEq, Nat.reduceAdd, Nat.reduceLT, Nat.reduceLeDiff, Nat.reduceEqDiff, Int.reduceEq, TC.val.injEq, Value.bool.injEq, Value.int.injEq, Value.string.injEq, TV.one.injEq]
      all_goals (repeat' apply And.intro) <;> try first | rfl | trivial | omega | (rw [wrap_id] <;> omega)
    · obtain ⟨R, hR⟩ : ∃ R, szW (wC xs) n = R := ⟨_, rfl⟩
      have e2 : szW ((xs.drop 0).flatMap wC1) (n - xs.length) = R := by rw [← hR]; show _ = szW (xs.length :: _) n; conv => rhs; unfold szW
                                                                        rw [if_neg hc]; rfl
      repeat' first
        | refine W_seq ?_
        | (refine W_reg (s_szCs_K.env []) s_szCs_lv fun K' hK' => ?_
           simp only [go_sem, ↓reduceIte, ↓reduceDIte, reduceCtorEq, Nat.reduceAdd, Nat.reduceMul, Nat.reduceSub, Nat.reduceLT, Nat.reduceLeDiff, Nat.reduceEqDiff, Nat.reduceBEq, Int.reduceToNat, Int.reduceLE, Int.reduceLT, Int.reduceEq, Int.reduceNe, Int.reduceNeg]
           (repeat' apply And.intro) <;> try first | ((with_reducible refine hK' _ ?_ ?_ ?_); rotate_left; (simp only [go_sem, pr, keepSl, ↓reduceIte, Nat.reduceEqDiff]; try rfl); clear hK' K') | (clear hK' K'; first | omega | (with_reducible refine drawOk_k ?_; kernel_rfl) | assumption | refine Eq.refl _ | exact fun h => ⟨h, fun k => ⟨h, k⟩⟩ | (intro _; (repeat' apply And.intro) <;> first | omega | assumption) | skip))
        | with_reducible first | refine W_skip ?_ | refine W_exit ?_ | refine W_ret ?_ | refine W_block ?_ | refine thenG_n ?_ | refine thenG_x ?_ | refine thenG_r ?_ | refine blockG_n ?_ | refine blockG_r ?_ | refine blockG_x ?_ | refine blockG_o (by decide) ?_
      refine W_le (σ' := sgSzCs xs (n - xs.length) 0) [] (by
        simp only [go_sem, ↓reduceIte, reduceCtorEq, Nat.reduceAdd, Nat.reduceLT, Nat.reduceLeDiff, Nat.reduceEqDiff, Int.reduceEq, TC.val.injEq, Value.bool.injEq, Value.int.injEq, Value.string.injEq, TV.one.injEq]
        all_goals (repeat' apply And.intro) <;> try first | rfl | trivial | omega | (rw [wrap_id] <;> omega)
        ) ?_
      refine W_loop (fun q σ => ∃ (i : Nat) (m : Int), i ≤ xs.length ∧ q = xs.length - i ∧ 0 ≤ m ∧ m ≤ 1048576 ∧ szW ((xs.drop i).flatMap wC1) m = R ∧ σ = sgSzCs xs m i) xs.length ⟨0, _, by omega, by omega, by omega, by omega, e2, rfl⟩ ?_
      rintro q σ ⟨i, m, hi, rfl, hm1, hm2, hs, rfl⟩
      unfold sgSzCs
      repeat' first
        | refine W_seq ?_
        | (refine W_reg (s_szCs_K.env []) s_szCs_lv fun K' hK' => ?_
           simp only [go_sem, ↓reduceIte, ↓reduceDIte, reduceCtorEq, Nat.reduceAdd, Nat.reduceMul, Nat.reduceSub, Nat.reduceLT, Nat.reduceLeDiff, Nat.reduceEqDiff, Nat.reduceBEq, Int.reduceToNat, Int.reduceLE, Int.reduceLT, Int.reduceEq, Int.reduceNe, Int.reduceNeg]
           (repeat' apply And.intro) <;> try first | ((with_reducible refine hK' _ ?_ ?_ ?_); rotate_left; (simp only [go_sem, pr, keepSl, ↓reduceIte, Nat.reduceEqDiff]; try rfl); clear hK' K') | (clear hK' K'; first | omega | (with_reducible refine drawOk_k ?_; kernel_rfl) | assumption | refine Eq.refl _ | exact fun h => ⟨h, fun k => ⟨h, k⟩⟩ | (intro _; (repeat' apply And.intro) <;> first | omega | assumption) | skip))
        | with_reducible first | refine W_skip ?_ | refine W_exit ?_ | refine W_ret ?_ | refine W_block ?_ | refine thenG_n ?_ | refine thenG_x ?_ | refine thenG_r ?_ | refine blockG_n ?_ | refine blockG_r ?_ | refine blockG_x ?_ | refine blockG_o (by decide) ?_
      refine W_cond _ (by exact rfl) (by exact trivial) ?_ ?_ <;> (try simp only [Bool.if_true_left, Bool.if_false_right, Bool.if_true_right, Bool.if_false_left, Bool.decide_eq_true, Bool.or_assoc, Bool.and_assoc, Bool.and_true, Bool.or_false, Bool.true_and, Bool.false_or, decide_eq_true_eq, decide_eq_false_iff_not, not_and, not_or, Classical.not_not, Bool.and_eq_true, Bool.or_eq_true, Bool.not_eq_true', Bool.not_eq_false', Bool.or_eq_false_iff, Bool.and_eq_false_iff, bne_iff_ne, ne_eq, beq_iff_eq, bne_eq_false_iff_eq, same_true, same_false, Int.ofNat_inj]) <;> intro hlt
      · have hli : i < xs.length := by omega
        obtain ⟨h5, h6⟩ := h2 i
        rw [drop_flat _ _ _ ET.cset.dflt hli] at hs
        have e3 := szW_app (wC1 (xs.getD i ET.cset.dflt)) ((xs.drop (i + 1)).flatMap wC1) m hm1
        rw [hs] at e3
        have hin := szW_in (wC1 (xs.getD i ET.cset.dflt)) m hm1
        repeat' first
          | refine W_seq ?_
          | (refine W_reg (s_szCs_K.env []) s_szCs_lv fun K' hK' => ?_
             simp only [go_sem, ↓reduceIte, ↓reduceDIte, reduceCtorEq, Nat.reduceAdd, Nat.reduceMul, Nat.reduceSub, Nat.reduceLT, Nat.reduceLeDiff, Nat.reduceEqDiff, Nat.reduceBEq, Int.reduceToNat, Int.reduceLE, Int.reduceLT, Int.reduceEq, Int.reduceNe, Int.reduceNeg]
             (repeat' apply And.intro) <;> try first | ((with_reducible refine hK' _ ?_ ?_ ?_); rotate_left; (simp only [go_sem, pr, keepSl, ↓reduceIte, Nat.reduceEqDiff]; try rfl); clear hK' K') | (clear hK' K'; first | omega | (with_reducible refine drawOk_k ?_; kernel_rfl) | assumption | refine Eq.refl _ | exact fun h => ⟨h, fun k => ⟨h, k⟩⟩ | (intro _; (repeat' apply And.intro) <;> first | omega | assumption) | skip))
          | with_reducible first | refine W_skip ?_ | refine W_exit ?_ | refine W_ret ?_ | refine W_block ?_ | refine thenG_n ?_ | refine thenG_x ?_ | refine thenG_r ?_ | refine blockG_n ?_ | refine blockG_r ?_ | refine blockG_x ?_ | refine blockG_o (by decide) ?_
        refine W_cond _ (by exact rfl) (by exact trivial) ?_ ?_ <;> (try simp only [Bool.if_true_left, Bool.if_false_right, Bool.if_true_right, Bool.if_false_left, Bool.decide_eq_true, Bool.or_assoc, Bool.and_assoc, Bool.and_true, Bool.or_false, Bool.true_and, Bool.false_or, decide_eq_true_eq, decide_eq_false_iff_not, not_and, not_or, Classical.not_not, Bool.and_eq_true, Bool.or_eq_true, Bool.not_eq_true', Bool.not_eq_false', Bool.or_eq_false_iff, Bool.and_eq_false_iff, bne_iff_ne, ne_eq, beq_iff_eq, bne_eq_false_iff_eq, same_true, same_false, Int.ofNat_inj]) <;> intro hn
        · rw [if_pos hn] at e3
          repeat' first
            | refine W_seq ?_
            | (refine W_reg (s_szCs_K.env []) s_szCs_lv fun K' hK' => ?_
               simp only [go_sem, ↓reduceIte, ↓reduceDIte, reduceCtorEq, Nat.reduceAdd, Nat.reduceMul, Nat.reduceSub, Nat.reduceLT, Nat.reduceLeDiff, Nat.reduceEqDiff, Nat.reduceBEq, Int.reduceToNat, Int.reduceLE, Int.reduceLT, Int.reduceEq, Int.reduceNe, Int.reduceNeg]
               (repeat' apply And.intro) <;> try first | ((with_reducible refine hK' _ ?_ ?_ ?_); rotate_left; (simp only [go_sem, pr, keepSl, ↓reduceIte, Nat.reduceEqDiff]; try rfl); clear hK' K') | (clear hK' K'; first | omega | (with_reducible refine drawOk_k ?_; kernel_rfl) | assumption | refine Eq.refl _ | exact fun h => ⟨h, fun k => ⟨h, k⟩⟩ | (intro _; (repeat' apply And.intro) <;> first | omega | assumption) | skip))
            | with_reducible first | refine W_skip ?_ | refine W_exit ?_ | refine W_ret ?_ | refine W_block ?_ | refine thenG_n ?_ | refine thenG_x ?_ | refine thenG_r ?_ | refine blockG_n ?_ | refine blockG_r ?_ | refine blockG_x ?_ | refine blockG_o (by decide) ?_
          refine ⟨by (simp only [go_sem, hR, e3, ↓reduceIte, reduceCtorEq, Nat.reduceAdd, Nat.reduceLT, Nat.reduceLeDiff, Nat.reduceEqDiff]) <;> trivial, [], ?_⟩
          all_goals try simp only [go_sem, hR, e3, ↓reduceIte, reduceCtorEq, Nat.reduceAdd, Nat.reduceLT, Nat.reduceLeDiff, Nat.reduceEqDiff, Int.reduceEq, TC.val.injEq, Value.bool.injEq, Value.int.injEq, Value.string.injEq, TV.one.injEq]
          all_goals (repeat' apply And.intro) <;> try first | rfl | trivial | omega | (rw [wrap_id] <;> omega)
        · rw [if_neg hn] at e3
          repeat' first
            | refine W_seq ?_
            | (refine W_reg (s_szCs_K.env []) s_szCs_lv fun K' hK' => ?_
               simp only [go_sem, ↓reduceIte, ↓reduceDIte, reduceCtorEq, Nat.reduceAdd, Nat.reduceMul, Nat.reduceSub, Nat.reduceLT, Nat.reduceLeDiff, Nat.reduceEqDiff, Nat.reduceBEq, Int.reduceToNat, Int.reduceLE, Int.reduceLT, Int.reduceEq, Int.reduceNe, Int.reduceNeg]
               (repeat' apply And.intro) <;> try first | ((with_reducible refine hK' _ ?_ ?_ ?_); rotate_left; (simp only [go_sem, pr, keepSl, ↓reduceIte, Nat.reduceEqDiff]; try rfl); clear hK' K') | (clear hK' K'; first | omega | (with_reducible refine drawOk_k ?_; kernel_rfl) | assumption | refine Eq.refl _ | exact fun h => ⟨h, fun k => ⟨h, k⟩⟩ | (intro _; (repeat' apply And.intro) <;> first | omega | assumption) | skip))
            | with_reducible first | refine W_skip ?_ | refine W_exit ?_ | refine W_ret ?_ | refine W_block ?_ | refine thenG_n ?_ | refine thenG_x ?_ | refine thenG_r ?_ | refine blockG_n ?_ | refine blockG_r ?_ | refine blockG_x ?_ | refine blockG_o (by decide) ?_
          refine ⟨xs.length - (i + 1), [], sgSzCs xs (szW (wC1 (xs.getD i ET.cset.dflt)) m) (i + 1), by omega, ?_, i + 1, _, by omega, rfl, by omega, by omega, e3.symm, rfl⟩
          simp only [go_sem, ↓reduceIte, reduceCtorEq, Nat.reduceAdd, Nat.reduceLT, Nat.reduceLeDiff, Nat.reduceEqDiff, Int.reduceEq, TC.val.injEq, Value.bool.injEq, Value.int.injEq, Value.string.injEq, TV.one.injEq]
          all_goals (repeat' apply And.intro) <;> try first | rfl | trivial | omega | (rw [wrap_id] <;> omega)
      · rw [List.drop_of_length_le (by omega)] at hs
        repeat' first
          | refine W_seq ?_
          | (refine W_reg (s_szCs_K.env []) s_szCs_lv fun K' hK' => ?_
             simp only [go_sem, ↓reduceIte, ↓reduceDIte, reduceCtorEq, Nat.reduceAdd, Nat.reduceMul, Nat.reduceSub, Nat.reduceLT, Nat.reduceLeDiff, Nat.reduceEqDiff, Nat.reduceBEq, Int.reduceToNat, Int.reduceLE, Int.reduceLT, Int.reduceEq, Int.reduceNe, Int.reduceNeg]
             (repeat' apply And.intro) <;> try first | ((with_reducible refine hK' _ ?_ ?_ ?_); rotate_left; (simp only [go_sem, pr, keepSl, ↓reduceIte, Nat.reduceEqDiff]; try rfl); clear hK' K') | (clear hK' K'; first | omega | (with_reducible refine drawOk_k ?_; kernel_rfl) | assumption | refine Eq.refl _ | exact fun h => ⟨h, fun k => ⟨h, k⟩⟩ | (intro _; (repeat' apply And.intro) <;> first | omega | assumption) | skip))
          | with_reducible first | refine W_skip ?_ | refine W_exit ?_ | refine W_ret ?_ | refine W_block ?_ | refine thenG_n ?_ | refine thenG_x ?_ | refine thenG_r ?_ | refine blockG_n ?_ | refine blockG_r ?_ | refine blockG_x ?_ | refine blockG_o (by decide) ?_
        refine ⟨by (simp only [go_sem, hR, hs, ↓reduceIte, reduceCtorEq, Nat.reduceAdd, Nat.reduceLT, Nat.reduceLeDiff, Nat.reduceEqDiff]) <;> trivial, [], ?_⟩
        all_goals try simp only [go_sem, hR, hs, ↓reduceIte, reduceCtorEq, Nat.reduceAdd, Nat.reduceLT, Nat.reduceLeDiff, Nat.reduceEqDiff, Int.reduceEq, TC.val.injEq, Value.bool.injEq, Value.int.injEq, Value.string.injEq, TV.one.injEq]
        all_goals (repeat' apply And.intro) <;> try first | rfl | trivial | omega | (rw [wrap_id] <;> omega)
  · simp [no, ifp] at hp
end Go.Proofs.Ytfmeopnankeaeaa
