/- Functions: slices that are the same; the same pool. -/
import Derived.Test.YtfmeopnankeaeaaTEh
set_option linter.unusedSimpArgs false
set_option linter.unusedVariables false
set_option linter.unusedSectionVars false
namespace Go.Proofs.Ytfmeopnankeaeaa
open Go.RowKit

@[go_sem] theorem valsEq_cset (xn xf yn yf : ByteArray) (xk yk : Int) (x0 x1 x2 x3 x4 x5 x6 x7 x8 x9 x10 x11 x12 x13 x14 x15 x16 x17 x18 x19 x20 x21 x22 x23 x24 x25 x26 : Int) (y0 y1 y2 y3 y4 y5 y6 y7 y8 y9 y10 y11 y12 y13 y14 y15 y16 y17 y18 y19 y20 y21 y22 y23 y24 y25 y26 : Int) (xd yd : Bool) : valsEq [.string xn, .int .i64 xk, .string xf, .int .i64 x0, .int .i64 x1, .int .i64 x2, .int .i64 x3, .int .i64 x4, .int .i64 x5, .int .i64 x6, .int .i64 x7, .int .i64 x8, .int .i64 x9, .int .i64 x10, .int .i64 x11, .int .i64 x12, .int .i64 x13, .int .i64 x14, .int .i64 x15, .int .i64 x16, .int .i64 x17, .int .i64 x18, .int .i64 x19, .int .i64 x20, .int .i64 x21, .int .i64 x22, .int .i64 x23, .int .i64 x24, .int .i64 x25, .int .i64 x26, .bool xd] [.string yn, .int .i64 yk, .string yf, .int .i64 y0, .int .i64 y1, .int .i64 y2, .int .i64 y3, .int .i64 y4, .int .i64 y5, .int .i64 y6, .int .i64 y7, .int .i64 y8, .int .i64 y9, .int .i64 y10, .int .i64 y11, .int .i64 y12, .int .i64 y13, .int .i64 y14, .int .i64 y15, .int .i64 y16, .int .i64 y17, .int .i64 y18, .int .i64 y19, .int .i64 y20, .int .i64 y21, .int .i64 y22, .int .i64 y23, .int .i64 y24, .int .i64 y25, .int .i64 y26, .bool yd] = same (CSet.mk xn xk xf ⟨⟨x0, x1, x2⟩, ⟨x3, x4, x5⟩, ⟨x6, x7, x8⟩, ⟨x9, x10, x11⟩, ⟨x12, x13, x14⟩, ⟨x15, x16, x17⟩, ⟨x18, x19, x20⟩, ⟨x21, x22, x23⟩⟩ ⟨x24, x25, x26⟩ xd) (CSet.mk yn yk yf ⟨⟨y0, y1, y2⟩, ⟨y3, y4, y5⟩, ⟨y6, y7, y8⟩, ⟨y9, y10, y11⟩, ⟨y12, y13, y14⟩, ⟨y15, y16, y17⟩, ⟨y18, y19, y20⟩, ⟨y21, y22, y23⟩⟩ ⟨y24, y25, y26⟩ yd) := by
  rw [Bool.eq_iff_iff, same_true]
  simp only [valsEq, toList_same, Bool.and_eq_true, beq_iff_eq, same_true, CSet.mk.injEq, Eight.mk.injEq, Ptr.mk.injEq, and_assoc, and_true]
theorem ent_eq {x y : Ent} (h : Ptr.mk x.sum x.at_ x.count = Ptr.mk y.sum y.at_ y.count) : x = y := by
  simp only [Ptr.mk.injEq] at h
  obtain ⟨a, b, c⟩ := h
  cases x; cases y; simp_all
@[go_sem] noncomputable def ctEqualCset : Ct := ⟨false, [[some .cset], [some .cset]], fun args os => match args, os with
  | [.one (.isl .cset xs), .one (.isl .cset ys)], [] => ifp (xs.length ≤ 4000000) (vb (same xs ys))
  | _, _ => no⟩
@[go_sem] def sgEqualCset (xs ys : List CSet) (i : Nat) : Sg := ⟨[(13, vi i), (12, vi xs.length), (0, .one (.isl .cset xs)), (1, .one (.isl .cset ys))], [], []⟩
theorem s_equalCset_e : EnterOk Try.prog 101 := ⟨_, Try.func101, rfl, by decide⟩
@[go_sem] def s_equalCset_lv : List (List Nat) := [[0, 1], [0, 1, 10], [4], [0, 1, 12, 13], [0, 1, 12, 13, 14], [0, 1, 5, 12, 13], [0, 1, 12, 13, 24], [4], [0, 1, 12, 13], [4]]
@[go_sem] noncomputable def s_equalCset_K : Known := Known.nil
set_option maxHeartbeats 8000000 in
theorem s_equalCset : Sound Try.prog 101 ctEqualCset := by
  refine sound_intro (E := ⟨ti, s_equalCset_K.Γ, []⟩) (s_equalCset_K.env []) Try.func101 Try.ntmps101 rfl (rs := [.tmp 4]) rfl ?_
  intro args os hp
  unfold ctEqualCset at hp ⊢
  dsimp only at hp ⊢
  split at hp
  · rename_i xs ys
    refine ⟨by simp, fun φ0 w0 => ?_⟩
    have hlen : xs.length ≤ 4000000 := hp
    clear hp
    repeat' first
      | refine W_seq ?_
      | (refine W_reg (s_equalCset_K.env []) s_equalCset_lv fun K' hK' => ?_
         simp only [go_sem, ↓reduceIte, ↓reduceDIte, reduceCtorEq, Nat.reduceAdd, Nat.reduceMul, Nat.reduceSub, Nat.reduceLT, Nat.reduceLeDiff, Nat.reduceEqDiff, Nat.reduceBEq, Int.reduceToNat, Int.reduceLE, Int.reduceLT, Int.reduceEq, Int.reduceNe, Int.reduceNeg]
         (repeat' apply And.intro) <;> try first | ((with_reducible refine hK' _ ?_ ?_ ?_); rotate_left; (simp only [go_sem, pr, keepSl, ↓reduceIte, Nat.reduceEqDiff]; try rfl); clear hK' K') | (clear hK' K'; first | omega | (with_reducible refine drawOk_k ?_; kernel_rfl) | assumption | refine Eq.refl _ | exact fun h => ⟨h, fun k => ⟨h, k⟩⟩ | (intro _; (repeat' apply And.intro) <;> first | omega | assumption) | skip))
      | with_reducible first | refine W_skip ?_ | refine W_exit ?_ | refine W_ret ?_ | refine W_block ?_ | refine thenG_n ?_ | refine thenG_x ?_ | refine thenG_r ?_ | refine blockG_n ?_ | refine blockG_r ?_ | refine blockG_x ?_ | refine blockG_o (by decide) ?_
    refine W_cond _ (by exact rfl) (by exact trivial) ?_ ?_ <;> (try simp only [Bool.if_true_left, Bool.if_false_right, Bool.if_true_right, Bool.if_false_left, Bool.decide_eq_true, Bool.or_assoc, Bool.and_assoc, Bool.and_true, Bool.or_false, Bool.true_and, Bool.false_or, decide_eq_true_eq, decide_eq_false_iff_not, not_and, not_or, Classical.not_not, Bool.and_eq_true, Bool.or_eq_true, Bool.not_eq_true', Bool.not_eq_false', Bool.or_eq_false_iff, Bool.and_eq_false_iff, bne_iff_ne, ne_eq, beq_iff_eq, bne_eq_false_iff_eq, same_true, same_false, Int.ofNat_inj]) <;> intro hne
    · repeat' first
        | refine W_seq ?_
        | (refine W_reg (s_equalCset_K.env []) s_equalCset_lv fun K' hK' => ?_
           simp only [go_sem, ↓reduceIte, ↓reduceDIte, reduceCtorEq, Nat.reduceAdd, Nat.reduceMul, Nat.reduceSub, Nat.reduceLT, Nat.reduceLeDiff, Nat.reduceEqDiff, Nat.reduceBEq, Int.reduceToNat, Int.reduceLE, Int.reduceLT, Int.reduceEq, Int.reduceNe, Int.reduceNeg]
           (repeat' apply And.intro) <;> try first | ((with_reducible refine hK' _ ?_ ?_ ?_); rotate_left; (simp only [go_sem, pr, keepSl, ↓reduceIte, Nat.reduceEqDiff]; try rfl); clear hK' K') | (clear hK' K'; first | omega | (with_reducible refine drawOk_k ?_; kernel_rfl) | assumption | refine Eq.refl _ | exact fun h => ⟨h, fun k => ⟨h, k⟩⟩ | (intro _; (repeat' apply And.intro) <;> first | omega | assumption) | skip))
        | with_reducible first | refine W_skip ?_ | refine W_exit ?_ | refine W_ret ?_ | refine W_block ?_ | refine thenG_n ?_ | refine thenG_x ?_ | refine thenG_r ?_ | refine blockG_n ?_ | refine blockG_r ?_ | refine blockG_x ?_ | refine blockG_o (by decide) ?_
      refine ⟨by (simp only [go_sem, ↓reduceIte, reduceCtorEq, Nat.reduceAdd, Nat.reduceLT, Nat.reduceLeDiff, Nat.reduceEqDiff]) <;> trivial, [], ?_⟩
      all_goals try simp only [go_sem, ↓reduceIte, reduceCtorEq, Nat.reduceAdd, Nat.reduceLT, Nat.reduceLeDiff, Nat.reduceEqDiff, Int.reduceEq, TC.val.injEq, Value.bool.injEq, Value.int.injEq, Value.string.injEq, TV.one.injEq]
      all_goals (repeat' apply And.intro) <;> try first | rfl | trivial | omega | (rw [wrap_id] <;> omega)
      exact (same_false.2 fun h => hne (by rw [h])).symm
    · repeat' first
        | refine W_seq ?_
        | (refine W_reg (s_equalCset_K.env []) s_equalCset_lv fun K' hK' => ?_
           simp only [go_sem, ↓reduceIte, ↓reduceDIte, reduceCtorEq, Nat.reduceAdd, Nat.reduceMul, Nat.reduceSub, Nat.reduceLT, Nat.reduceLeDiff, Nat.reduceEqDiff, Nat.reduceBEq, Int.reduceToNat, Int.reduceLE, Int.reduceLT, Int.reduceEq, Int.reduceNe, Int.reduceNeg]
           (repeat' apply And.intro) <;> try first | ((with_reducible refine hK' _ ?_ ?_ ?_); rotate_left; (simp only [go_sem, pr, keepSl, ↓reduceIte, Nat.reduceEqDiff]; try rfl); clear hK' K') | (clear hK' K'; first | omega | (with_reducible refine drawOk_k ?_; kernel_rfl) | assumption | refine Eq.refl _ | exact fun h => ⟨h, fun k => ⟨h, k⟩⟩ | (intro _; (repeat' apply And.intro) <;> first | omega | assumption) | skip))
        | with_reducible first | refine W_skip ?_ | refine W_exit ?_ | refine W_ret ?_ | refine W_block ?_ | refine thenG_n ?_ | refine thenG_x ?_ | refine thenG_r ?_ | refine blockG_n ?_ | refine blockG_r ?_ | refine blockG_x ?_ | refine blockG_o (by decide) ?_
      refine W_le (σ' := sgEqualCset xs ys 0) [] (by
        simp only [go_sem, ↓reduceIte, reduceCtorEq, Nat.reduceAdd, Nat.reduceLT, Nat.reduceLeDiff, Nat.reduceEqDiff, Int.reduceEq, TC.val.injEq, Value.bool.injEq, Value.int.injEq, Value.string.injEq, TV.one.injEq]
        all_goals (repeat' apply And.intro) <;> try first | rfl | trivial | omega | (rw [wrap_id] <;> omega)
        ) ?_
      refine W_loop (fun n σ => ∃ i : Nat, i ≤ xs.length ∧ n = xs.length - i ∧ (∀ j, j < i → xs.getD j ET.cset.dflt = ys.getD j ET.cset.dflt) ∧ σ = sgEqualCset xs ys i) xs.length ⟨0, by omega, by omega, by omega, rfl⟩ ?_
      rintro n σ ⟨i, hi, rfl, hbef, rfl⟩
      unfold sgEqualCset
      repeat' first
        | refine W_seq ?_
        | (refine W_reg (s_equalCset_K.env []) s_equalCset_lv fun K' hK' => ?_
           simp only [go_sem, ↓reduceIte, ↓reduceDIte, reduceCtorEq, Nat.reduceAdd, Nat.reduceMul, Nat.reduceSub, Nat.reduceLT, Nat.reduceLeDiff, Nat.reduceEqDiff, Nat.reduceBEq, Int.reduceToNat, Int.reduceLE, Int.reduceLT, Int.reduceEq, Int.reduceNe, Int.reduceNeg]
           (repeat' apply And.intro) <;> try first | ((with_reducible refine hK' _ ?_ ?_ ?_); rotate_left; (simp only [go_sem, pr, keepSl, ↓reduceIte, Nat.reduceEqDiff]; try rfl); clear hK' K') | (clear hK' K'; first | omega | (with_reducible refine drawOk_k ?_; kernel_rfl) | assumption | refine Eq.refl _ | exact fun h => ⟨h, fun k => ⟨h, k⟩⟩ | (intro _; (repeat' apply And.intro) <;> first | omega | assumption) | skip))
        | with_reducible first | refine W_skip ?_ | refine W_exit ?_ | refine W_ret ?_ | refine W_block ?_ | refine thenG_n ?_ | refine thenG_x ?_ | refine thenG_r ?_ | refine blockG_n ?_ | refine blockG_r ?_ | refine blockG_x ?_ | refine blockG_o (by decide) ?_
      refine W_cond _ (by exact rfl) (by exact trivial) ?_ ?_ <;> (try simp only [Bool.if_true_left, Bool.if_false_right, Bool.if_true_right, Bool.if_false_left, Bool.decide_eq_true, Bool.or_assoc, Bool.and_assoc, Bool.and_true, Bool.or_false, Bool.true_and, Bool.false_or, decide_eq_true_eq, decide_eq_false_iff_not, not_and, not_or, Classical.not_not, Bool.and_eq_true, Bool.or_eq_true, Bool.not_eq_true', Bool.not_eq_false', Bool.or_eq_false_iff, Bool.and_eq_false_iff, bne_iff_ne, ne_eq, beq_iff_eq, bne_eq_false_iff_eq, same_true, same_false, Int.ofNat_inj]) <;> intro hlt
      · repeat' first
          | refine W_seq ?_
          | (refine W_reg (s_equalCset_K.env []) s_equalCset_lv fun K' hK' => ?_
             simp only [go_sem, ↓reduceIte, ↓reduceDIte, reduceCtorEq, Nat.reduceAdd, Nat.reduceMul, Nat.reduceSub, Nat.reduceLT, Nat.reduceLeDiff, Nat.reduceEqDiff, Nat.reduceBEq, Int.reduceToNat, Int.reduceLE, Int.reduceLT, Int.reduceEq, Int.reduceNe, Int.reduceNeg]
             (repeat' apply And.intro) <;> try first | ((with_reducible refine hK' _ ?_ ?_ ?_); rotate_left; (simp only [go_sem, pr, keepSl, ↓reduceIte, Nat.reduceEqDiff]; try rfl); clear hK' K') | (clear hK' K'; first | omega | (with_reducible refine drawOk_k ?_; kernel_rfl) | assumption | refine Eq.refl _ | exact fun h => ⟨h, fun k => ⟨h, k⟩⟩ | (intro _; (repeat' apply And.intro) <;> first | omega | assumption) | skip))
          | with_reducible first | refine W_skip ?_ | refine W_exit ?_ | refine W_ret ?_ | refine W_block ?_ | refine thenG_n ?_ | refine thenG_x ?_ | refine thenG_r ?_ | refine blockG_n ?_ | refine blockG_r ?_ | refine blockG_x ?_ | refine blockG_o (by decide) ?_
        refine W_cond _ (by exact rfl) (by exact trivial) ?_ ?_ <;> (try simp only [Bool.if_true_left, Bool.if_false_right, Bool.if_true_right, Bool.if_false_left, Bool.decide_eq_true, Bool.or_assoc, Bool.and_assoc, Bool.and_true, Bool.or_false, Bool.true_and, Bool.false_or, decide_eq_true_eq, decide_eq_false_iff_not, not_and, not_or, Classical.not_not, Bool.and_eq_true, Bool.or_eq_true, Bool.not_eq_true', Bool.not_eq_false', Bool.or_eq_false_iff, Bool.and_eq_false_iff, bne_iff_ne, ne_eq, beq_iff_eq, bne_eq_false_iff_eq, same_true, same_false, Int.ofNat_inj]) <;> intro hl
        · repeat' first
            | refine W_seq ?_
            | (refine W_reg (s_equalCset_K.env []) s_equalCset_lv fun K' hK' => ?_
               simp only [go_sem, ↓reduceIte, ↓reduceDIte, reduceCtorEq, Nat.reduceAdd, Nat.reduceMul, Nat.reduceSub, Nat.reduceLT, Nat.reduceLeDiff, Nat.reduceEqDiff, Nat.reduceBEq, Int.reduceToNat, Int.reduceLE, Int.reduceLT, Int.reduceEq, Int.reduceNe, Int.reduceNeg]
               (repeat' apply And.intro) <;> try first | ((with_reducible refine hK' _ ?_ ?_ ?_); rotate_left; (simp only [go_sem, pr, keepSl, ↓reduceIte, Nat.reduceEqDiff]; try rfl); clear hK' K') | (clear hK' K'; first | omega | (with_reducible refine drawOk_k ?_; kernel_rfl) | assumption | refine Eq.refl _ | exact fun h => ⟨h, fun k => ⟨h, k⟩⟩ | (intro _; (repeat' apply And.intro) <;> first | omega | assumption) | skip))
            | with_reducible first | refine W_skip ?_ | refine W_exit ?_ | refine W_ret ?_ | refine W_block ?_ | refine thenG_n ?_ | refine thenG_x ?_ | refine thenG_r ?_ | refine blockG_n ?_ | refine blockG_r ?_ | refine blockG_x ?_ | refine blockG_o (by decide) ?_
          refine ⟨by (simp only [go_sem, ↓reduceIte, reduceCtorEq, Nat.reduceAdd, Nat.reduceLT, Nat.reduceLeDiff, Nat.reduceEqDiff]) <;> trivial, [], ?_⟩
          all_goals try simp only [go_sem, ↓reduceIte, reduceCtorEq, Nat.reduceAdd, Nat.reduceLT, Nat.reduceLeDiff, Nat.reduceEqDiff, Int.reduceEq, TC.val.injEq, Value.bool.injEq, Value.int.injEq, Value.string.injEq, TV.one.injEq]
          all_goals (repeat' apply And.intro) <;> try first | rfl | trivial | omega | (rw [wrap_id] <;> omega)
          exact (same_false.2 fun h => hl (by rw [h])).symm
        · repeat' first
            | refine W_seq ?_
            | (refine W_reg (s_equalCset_K.env []) s_equalCset_lv fun K' hK' => ?_
               simp only [go_sem, ↓reduceIte, ↓reduceDIte, reduceCtorEq, Nat.reduceAdd, Nat.reduceMul, Nat.reduceSub, Nat.reduceLT, Nat.reduceLeDiff, Nat.reduceEqDiff, Nat.reduceBEq, Int.reduceToNat, Int.reduceLE, Int.reduceLT, Int.reduceEq, Int.reduceNe, Int.reduceNeg]
               (repeat' apply And.intro) <;> try first | ((with_reducible refine hK' _ ?_ ?_ ?_); rotate_left; (simp only [go_sem, pr, keepSl, ↓reduceIte, Nat.reduceEqDiff]; try rfl); clear hK' K') | (clear hK' K'; first | omega | (with_reducible refine drawOk_k ?_; kernel_rfl) | assumption | refine Eq.refl _ | exact fun h => ⟨h, fun k => ⟨h, k⟩⟩ | (intro _; (repeat' apply And.intro) <;> first | omega | assumption) | skip))
            | with_reducible first | refine W_skip ?_ | refine W_exit ?_ | refine W_ret ?_ | refine W_block ?_ | refine thenG_n ?_ | refine thenG_x ?_ | refine thenG_r ?_ | refine blockG_n ?_ | refine blockG_r ?_ | refine blockG_x ?_ | refine blockG_o (by decide) ?_
          refine ⟨xs.length - (i + 1), [], sgEqualCset xs ys (i + 1), by omega, ?_, i + 1, by omega, rfl, fun j hj => ?_, rfl⟩
          · simp only [go_sem, ↓reduceIte, reduceCtorEq, Nat.reduceAdd, Nat.reduceLT, Nat.reduceLeDiff, Nat.reduceEqDiff, Int.reduceEq, TC.val.injEq, Value.bool.injEq, Value.int.injEq, Value.string.injEq, TV.one.injEq]
            all_goals (repeat' apply And.intro) <;> try first | rfl | trivial | omega | (rw [wrap_id] <;> omega)
          · rcases Nat.lt_succ_iff_lt_or_eq.1 hj with h | rfl
            · exact hbef j h
            · exact hl
      · repeat' first
          | refine W_seq ?_
          | (refine W_reg (s_equalCset_K.env []) s_equalCset_lv fun K' hK' => ?_
             simp only [go_sem, ↓reduceIte, ↓reduceDIte, reduceCtorEq, Nat.reduceAdd, Nat.reduceMul, Nat.reduceSub, Nat.reduceLT, Nat.reduceLeDiff, Nat.reduceEqDiff, Nat.reduceBEq, Int.reduceToNat, Int.reduceLE, Int.reduceLT, Int.reduceEq, Int.reduceNe, Int.reduceNeg]
             (repeat' apply And.intro) <;> try first | ((with_reducible refine hK' _ ?_ ?_ ?_); rotate_left; (simp only [go_sem, pr, keepSl, ↓reduceIte, Nat.reduceEqDiff]; try rfl); clear hK' K') | (clear hK' K'; first | omega | (with_reducible refine drawOk_k ?_; kernel_rfl) | assumption | refine Eq.refl _ | exact fun h => ⟨h, fun k => ⟨h, k⟩⟩ | (intro _; (repeat' apply And.intro) <;> first | omega | assumption) | skip))
          | with_reducible first | refine W_skip ?_ | refine W_exit ?_ | refine W_ret ?_ | refine W_block ?_ | refine thenG_n ?_ | refine thenG_x ?_ | refine thenG_r ?_ | refine blockG_n ?_ | refine blockG_r ?_ | refine blockG_x ?_ | refine blockG_o (by decide) ?_
        refine ⟨by (simp only [go_sem, ↓reduceIte, reduceCtorEq, Nat.reduceAdd, Nat.reduceLT, Nat.reduceLeDiff, Nat.reduceEqDiff]) <;> trivial, [], ?_⟩
        all_goals try simp only [go_sem, ↓reduceIte, reduceCtorEq, Nat.reduceAdd, Nat.reduceLT, Nat.reduceLeDiff, Nat.reduceEqDiff, Int.reduceEq, TC.val.injEq, Value.bool.injEq, Value.int.injEq, Value.string.injEq, TV.one.injEq]
        all_goals (repeat' apply And.intro) <;> try first | rfl | trivial | omega | (rw [wrap_id] <;> omega)
        exact (same_true.2 (list_same (by omega) fun j hj => hbef j (by omega))).symm
  · simp [no, ifp] at hp

@[go_sem] noncomputable def ctEqualPtr : Ct := ⟨false, [[some .ptr], [some .ptr]], fun args os => match args, os with
  | [.one (.isl .ptr xs), .one (.isl .ptr ys)], [] => ifp (xs.length ≤ 4000000) (vb (same xs ys))
  | _, _ => no⟩
@[go_sem] def sgEqualPtr (xs ys : List Ptr) (i : Nat) : Sg := ⟨[(13, vi i), (12, vi xs.length), (0, .one (.isl .ptr xs)), (1, .one (.isl .ptr ys))], [], []⟩
theorem s_equalPtr_e : EnterOk Try.prog 103 := ⟨_, Try.func103, rfl, by decide⟩
@[go_sem] def s_equalPtr_lv : List (List Nat) := [[0, 1], [0, 1, 10], [4], [0, 1, 12, 13], [0, 1, 12, 13, 14], [0, 1, 5, 12, 13], [0, 1, 12, 13, 24], [4], [0, 1, 12, 13], [4]]
@[go_sem] noncomputable def s_equalPtr_K : Known := Known.nil
set_option maxHeartbeats 8000000 in
theorem s_equalPtr : Sound Try.prog 103 ctEqualPtr := by
  refine sound_intro (E := ⟨ti, s_equalPtr_K.Γ, []⟩) (s_equalPtr_K.env []) Try.func103 Try.ntmps103 rfl (rs := [.tmp 4]) rfl ?_
  intro args os hp
  unfold ctEqualPtr at hp ⊢
  dsimp only at hp ⊢
  split at hp
  · rename_i xs ys
    refine ⟨by simp, fun φ0 w0 => ?_⟩
    have hlen : xs.length ≤ 4000000 := hp
    clear hp
    repeat' first
      | refine W_seq ?_
      | (refine W_reg (s_equalPtr_K.env []) s_equalPtr_lv fun K' hK' => ?_
         simp only [go_sem, ↓reduceIte, ↓reduceDIte, reduceCtorEq, Nat.reduceAdd, Nat.reduceMul, Nat.reduceSub, Nat.reduceLT, Nat.reduceLeDiff, Nat.reduceEqDiff, Nat.reduceBEq, Int.reduceToNat, Int.reduceLE, Int.reduceLT, Int.reduceEq, Int.reduceNe, Int.reduceNeg]
         (repeat' apply And.intro) <;> try first | ((with_reducible refine hK' _ ?_ ?_ ?_); rotate_left; (simp only [go_sem, pr, keepSl, ↓reduceIte, Nat.reduceEqDiff]; try rfl); clear hK' K') | (clear hK' K'; first | omega | (with_reducible refine drawOk_k ?_; kernel_rfl) | assumption | refine Eq.refl _ | exact fun h => ⟨h, fun k => ⟨h, k⟩⟩ | (intro _; (repeat' apply And.intro) <;> first | omega | assumption) | skip))
      | with_reducible first | refine W_skip ?_ | refine W_exit ?_ | refine W_ret ?_ | refine W_block ?_ | refine thenG_n ?_ | refine thenG_x ?_ | refine thenG_r ?_ | refine blockG_n ?_ | refine blockG_r ?_ | refine blockG_x ?_ | refine blockG_o (by decide) ?_
    refine W_cond _ (by exact rfl) (by exact trivial) ?_ ?_ <;> (try simp only [Bool.if_true_left, Bool.if_false_right, Bool.if_true_right, Bool.if_false_left, Bool.decide_eq_true, Bool.or_assoc, Bool.and_assoc, Bool.and_true, Bool.or_false, Bool.true_and, Bool.false_or, decide_eq_true_eq, decide_eq_false_iff_not, not_and, not_or, Classical.not_not, Bool.and_eq_true, Bool.or_eq_true, Bool.not_eq_true', Bool.not_eq_false', Bool.or_eq_false_iff, Bool.and_eq_false_iff, bne_iff_ne, ne_eq, beq_iff_eq, bne_eq_false_iff_eq, same_true, same_false, Int.ofNat_inj]) <;> intro hne
    · repeat' first
        | refine W_seq ?_
        | (refine W_reg (s_equalPtr_K.env []) s_equalPtr_lv fun K' hK' => ?_
           simp only [go_sem, ↓reduceIte, ↓reduceDIte, reduceCtorEq, Nat.reduceAdd, Nat.reduceMul, Nat.reduceSub, Nat.reduceLT, Nat.reduceLeDiff, Nat.reduceEqDiff, Nat.reduceBEq, Int.reduceToNat, Int.reduceLE, Int.reduceLT, Int.reduceEq, Int.reduceNe, Int.reduceNeg]
           (repeat' apply And.intro) <;> try first | ((with_reducible refine hK' _ ?_ ?_ ?_); rotate_left; (simp only [go_sem, pr, keepSl, ↓reduceIte, Nat.reduceEqDiff]; try rfl); clear hK' K') | (clear hK' K'; first | omega | (with_reducible refine drawOk_k ?_; kernel_rfl) | assumption | refine Eq.refl _ | exact fun h => ⟨h, fun k => ⟨h, k⟩⟩ | (intro _; (repeat' apply And.intro) <;> first | omega | assumption) | skip))
        | with_reducible first | refine W_skip ?_ | refine W_exit ?_ | refine W_ret ?_ | refine W_block ?_ | refine thenG_n ?_ | refine thenG_x ?_ | refine thenG_r ?_ | refine blockG_n ?_ | refine blockG_r ?_ | refine blockG_x ?_ | refine blockG_o (by decide) ?_
      refine ⟨by (simp only [go_sem, ↓reduceIte, reduceCtorEq, Nat.reduceAdd, Nat.reduceLT, Nat.reduceLeDiff, Nat.reduceEqDiff]) <;> trivial, [], ?_⟩
      all_goals try simp only [go_sem, ↓reduceIte, reduceCtorEq, Nat.reduceAdd, Nat.reduceLT, Nat.reduceLeDiff, Nat.reduceEqDiff, Int.reduceEq, TC.val.injEq, Value.bool.injEq, Value.int.injEq, Value.string.injEq, TV.one.injEq]
      all_goals (repeat' apply And.intro) <;> try first | rfl | trivial | omega | (rw [wrap_id] <;> omega)
      exact (same_false.2 fun h => hne (by rw [h])).symm
    · repeat' first
        | refine W_seq ?_
        | (refine W_reg (s_equalPtr_K.env []) s_equalPtr_lv fun K' hK' => ?_
           simp only [go_sem, ↓reduceIte, ↓reduceDIte, reduceCtorEq, Nat.reduceAdd, Nat.reduceMul, Nat.reduceSub, Nat.reduceLT, Nat.reduceLeDiff, Nat.reduceEqDiff, Nat.reduceBEq, Int.reduceToNat, Int.reduceLE, Int.reduceLT, Int.reduceEq, Int.reduceNe, Int.reduceNeg]
           (repeat' apply And.intro) <;> try first | ((with_reducible refine hK' _ ?_ ?_ ?_); rotate_left; (simp only [go_sem, pr, keepSl, ↓reduceIte, Nat.reduceEqDiff]; try rfl); clear hK' K') | (clear hK' K'; first | omega | (with_reducible refine drawOk_k ?_; kernel_rfl) | assumption | refine Eq.refl _ | exact fun h => ⟨h, fun k => ⟨h, k⟩⟩ | (intro _; (repeat' apply And.intro) <;> first | omega | assumption) | skip))
        | with_reducible first | refine W_skip ?_ | refine W_exit ?_ | refine W_ret ?_ | refine W_block ?_ | refine thenG_n ?_ | refine thenG_x ?_ | refine thenG_r ?_ | refine blockG_n ?_ | refine blockG_r ?_ | refine blockG_x ?_ | refine blockG_o (by decide) ?_
      refine W_le (σ' := sgEqualPtr xs ys 0) [] (by
        simp only [go_sem, ↓reduceIte, reduceCtorEq, Nat.reduceAdd, Nat.reduceLT, Nat.reduceLeDiff, Nat.reduceEqDiff, Int.reduceEq, TC.val.injEq, Value.bool.injEq, Value.int.injEq, Value.string.injEq, TV.one.injEq]
        all_goals (repeat' apply And.intro) <;> try first | rfl | trivial | omega | (rw [wrap_id] <;> omega)
        ) ?_
      refine W_loop (fun n σ => ∃ i : Nat, i ≤ xs.length ∧ n = xs.length - i ∧ (∀ j, j < i → xs.getD j ET.ptr.dflt = ys.getD j ET.ptr.dflt) ∧ σ = sgEqualPtr xs ys i) xs.length ⟨0, by omega, by omega, by omega, rfl⟩ ?_
      rintro n σ ⟨i, hi, rfl, hbef, rfl⟩
      unfold sgEqualPtr
      repeat' first
        | refine W_seq ?_
        | (refine W_reg (s_equalPtr_K.env []) s_equalPtr_lv fun K' hK' => ?_
           simp only [go_sem, ↓reduceIte, ↓reduceDIte, reduceCtorEq, Nat.reduceAdd, Nat.reduceMul, Nat.reduceSub, Nat.reduceLT, Nat.reduceLeDiff, Nat.reduceEqDiff, Nat.reduceBEq, Int.reduceToNat, Int.reduceLE, Int.reduceLT, Int.reduceEq, Int.reduceNe, Int.reduceNeg]
           (repeat' apply And.intro) <;> try first | ((with_reducible refine hK' _ ?_ ?_ ?_); rotate_left; (simp only [go_sem, pr, keepSl, ↓reduceIte, Nat.reduceEqDiff]; try rfl); clear hK' K') | (clear hK' K'; first | omega | (with_reducible refine drawOk_k ?_; kernel_rfl) | assumption | refine Eq.refl _ | exact fun h => ⟨h, fun k => ⟨h, k⟩⟩ | (intro _; (repeat' apply And.intro) <;> first | omega | assumption) | skip))
        | with_reducible first | refine W_skip ?_ | refine W_exit ?_ | refine W_ret ?_ | refine W_block ?_ | refine thenG_n ?_ | refine thenG_x ?_ | refine thenG_r ?_ | refine blockG_n ?_ | refine blockG_r ?_ | refine blockG_x ?_ | refine blockG_o (by decide) ?_
      refine W_cond _ (by exact rfl) (by exact trivial) ?_ ?_ <;> (try simp only [Bool.if_true_left, Bool.if_false_right, Bool.if_true_right, Bool.if_false_left, Bool.decide_eq_true, Bool.or_assoc, Bool.and_assoc, Bool.and_true, Bool.or_false, Bool.true_and, Bool.false_or, decide_eq_true_eq, decide_eq_false_iff_not, not_and, not_or, Classical.not_not, Bool.and_eq_true, Bool.or_eq_true, Bool.not_eq_true', Bool.not_eq_false', Bool.or_eq_false_iff, Bool.and_eq_false_iff, bne_iff_ne, ne_eq, beq_iff_eq, bne_eq_false_iff_eq, same_true, same_false, Int.ofNat_inj]) <;> intro hlt
      · repeat' first
          | refine W_seq ?_
          | (refine W_reg (s_equalPtr_K.env []) s_equalPtr_lv fun K' hK' => ?_
             simp only [go_sem, ↓reduceIte, ↓reduceDIte, reduceCtorEq, Nat.reduceAdd, Nat.reduceMul, Nat.reduceSub, Nat.reduceLT, Nat.reduceLeDiff, Nat.reduceEqDiff, Nat.reduceBEq, Int.reduceToNat, Int.reduceLE, Int.reduceLT, Int.reduceEq, Int.reduceNe, Int.reduceNeg]
             (repeat' apply And.intro) <;> try first | ((with_reducible refine hK' _ ?_ ?_ ?_); rotate_left; (simp only [go_sem, pr, keepSl, ↓reduceIte, Nat.reduceEqDiff]; try rfl); clear hK' K') | (clear hK' K'; first | omega | (with_reducible refine drawOk_k ?_; kernel_rfl) | assumption | refine Eq.refl _ | exact fun h => ⟨h, fun k => ⟨h, k⟩⟩ | (intro _; (repeat' apply And.intro) <;> first | omega | assumption) | skip))
          | with_reducible first | refine W_skip ?_ | refine W_exit ?_ | refine W_ret ?_ | refine W_block ?_ | refine thenG_n ?_ | refine thenG_x ?_ | refine thenG_r ?_ | refine blockG_n ?_ | refine blockG_r ?_ | refine blockG_x ?_ | refine blockG_o (by decide) ?_
        refine W_cond _ (by exact rfl) (by exact trivial) ?_ ?_ <;> (try simp only [Bool.if_true_left, Bool.if_false_right, Bool.if_true_right, Bool.if_false_left, Bool.decide_eq_true, Bool.or_assoc, Bool.and_assoc, Bool.and_true, Bool.or_false, Bool.true_and, Bool.false_or, decide_eq_true_eq, decide_eq_false_iff_not, not_and, not_or, Classical.not_not, Bool.and_eq_true, Bool.or_eq_true, Bool.not_eq_true', Bool.not_eq_false', Bool.or_eq_false_iff, Bool.and_eq_false_iff, bne_iff_ne, ne_eq, beq_iff_eq, bne_eq_false_iff_eq, same_true, same_false, Int.ofNat_inj]) <;> intro hl
        · repeat' first
            | refine W_seq ?_
            | (refine W_reg (s_equalPtr_K.env []) s_equalPtr_lv fun K' hK' => ?_
               simp only [go_sem, ↓reduceIte, ↓reduceDIte, reduceCtorEq, Nat.reduceAdd, Nat.reduceMul, Nat.reduceSub, Nat.reduceLT, Nat.reduceLeDiff, Nat.reduceEqDiff, Nat.reduceBEq, Int.reduceToNat, Int.reduceLE, Int.reduceLT, Int.reduceEq, Int.reduceNe, Int.reduceNeg]
               (repeat' apply And.intro) <;> try first | ((with_reducible refine hK' _ ?_ ?_ ?_); rotate_left; (simp only [go_sem, pr, keepSl, ↓reduceIte, Nat.reduceEqDiff]; try rfl); clear hK' K') | (clear hK' K'; first | omega | (with_reducible refine drawOk_k ?_; kernel_rfl) | assumption | refine Eq.refl _ | exact fun h => ⟨h, fun k => ⟨h, k⟩⟩ | (intro _; (repeat' apply And.intro) <;> first | omega | assumption) | skip))
            | with_reducible first | refine W_skip ?_ | refine W_exit ?_ | refine W_ret ?_ | refine W_block ?_ | refine thenG_n ?_ | refine thenG_x ?_ | refine thenG_r ?_ | refine blockG_n ?_ | refine blockG_r ?_ | refine blockG_x ?_ | refine blockG_o (by decide) ?_
          refine ⟨by (simp only [go_sem, ↓reduceIte, reduceCtorEq, Nat.reduceAdd, Nat.reduceLT, Nat.reduceLeDiff, Nat.reduceEqDiff]) <;> trivial, [], ?_⟩
          all_goals try simp only [go_sem, ↓reduceIte, reduceCtorEq, Nat.reduceAdd, Nat.reduceLT, Nat.reduceLeDiff, Nat.reduceEqDiff, Int.reduceEq, TC.val.injEq, Value.bool.injEq, Value.int.injEq, Value.string.injEq, TV.one.injEq]
          all_goals (repeat' apply And.intro) <;> try first | rfl | trivial | omega | (rw [wrap_id] <;> omega)
          exact (same_false.2 fun h => hl (by rw [h])).symm
        · repeat' first
            | refine W_seq ?_
            | (refine W_reg (s_equalPtr_K.env []) s_equalPtr_lv fun K' hK' => ?_
               simp only [go_sem, ↓reduceIte, ↓reduceDIte, reduceCtorEq, Nat.reduceAdd, Nat.reduceMul, Nat.reduceSub, Nat.reduceLT, Nat.reduceLeDiff, Nat.reduceEqDiff, Nat.reduceBEq, Int.reduceToNat, Int.reduceLE, Int.reduceLT, Int.reduceEq, Int.reduceNe, Int.reduceNeg]
               (repeat' apply And.intro) <;> try first | ((with_reducible refine hK' _ ?_ ?_ ?_); rotate_left; (simp only [go_sem, pr, keepSl, ↓reduceIte, Nat.reduceEqDiff]; try rfl); clear hK' K') | (clear hK' K'; first | omega | (with_reducible refine drawOk_k ?_; kernel_rfl) | assumption | refine Eq.refl _ | exact fun h => ⟨h, fun k => ⟨h, k⟩⟩ | (intro _; (repeat' apply And.intro) <;> first | omega | assumption) | skip))
            | with_reducible first | refine W_skip ?_ | refine W_exit ?_ | refine W_ret ?_ | refine W_block ?_ | refine thenG_n ?_ | refine thenG_x ?_ | refine thenG_r ?_ | refine blockG_n ?_ | refine blockG_r ?_ | refine blockG_x ?_ | refine blockG_o (by decide) ?_
          refine ⟨xs.length - (i + 1), [], sgEqualPtr xs ys (i + 1), by omega, ?_, i + 1, by omega, rfl, fun j hj => ?_, rfl⟩
          · simp only [go_sem, ↓reduceIte, reduceCtorEq, Nat.reduceAdd, Nat.reduceLT, Nat.reduceLeDiff, Nat.reduceEqDiff, Int.reduceEq, TC.val.injEq, Value.bool.injEq, Value.int.injEq, Value.string.injEq, TV.one.injEq]
            all_goals (repeat' apply And.intro) <;> try first | rfl | trivial | omega | (rw [wrap_id] <;> omega)
          · rcases Nat.lt_succ_iff_lt_or_eq.1 hj with h | rfl
            · exact hbef j h
            · exact hl
      · repeat' first
          | refine W_seq ?_
          | (refine W_reg (s_equalPtr_K.env []) s_equalPtr_lv fun K' hK' => ?_
             simp only [go_sem, ↓reduceIte, ↓reduceDIte, reduceCtorEq, Nat.reduceAdd, Nat.reduceMul, Nat.reduceSub, Nat.reduceLT, Nat.reduceLeDiff, Nat.reduceEqDiff, Nat.reduceBEq, Int.reduceToNat, Int.reduceLE, Int.reduceLT, Int.reduceEq, Int.reduceNe, Int.reduceNeg]
             (repeat' apply And.intro) <;> try first | ((with_reducible refine hK' _ ?_ ?_ ?_); rotate_left; (simp only [go_sem, pr, keepSl, ↓reduceIte, Nat.reduceEqDiff]; try rfl); clear hK' K') | (clear hK' K'; first | omega | (with_reducible refine drawOk_k ?_; kernel_rfl) | assumption | refine Eq.refl _ | exact fun h => ⟨h, fun k => ⟨h, k⟩⟩ | (intro _; (repeat' apply And.intro) <;> first | omega | assumption) | skip))
          | with_reducible first | refine W_skip ?_ | refine W_exit ?_ | refine W_ret ?_ | refine W_block ?_ | refine thenG_n ?_ | refine thenG_x ?_ | refine thenG_r ?_ | refine blockG_n ?_ | refine blockG_r ?_ | refine blockG_x ?_ | refine blockG_o (by decide) ?_
        refine ⟨by (simp only [go_sem, ↓reduceIte, reduceCtorEq, Nat.reduceAdd, Nat.reduceLT, Nat.reduceLeDiff, Nat.reduceEqDiff]) <;> trivial, [], ?_⟩
        all_goals try simp only [go_sem, ↓reduceIte, reduceCtorEq, Nat.reduceAdd, Nat.reduceLT, Nat.reduceLeDiff, Nat.reduceEqDiff, Int.reduceEq, TC.val.injEq, Value.bool.injEq, Value.int.injEq, Value.string.injEq, TV.one.injEq]
        all_goals (repeat' apply And.intro) <;> try first | rfl | trivial | omega | (rw [wrap_id] <;> omega)
        exact (same_true.2 (list_same (by omega) fun j hj => hbef j (by omega))).symm
  · simp [no, ifp] at hp

@[go_sem] noncomputable def ctEqualEnt : Ct := ⟨false, [[some .ent], [some .ent]], fun args os => match args, os with
  | [.one (.isl .ent xs), .one (.isl .ent ys)], [] => ifp (xs.length ≤ 4000000) (vb (same xs ys))
  | _, _ => no⟩
@[go_sem] def sgEqualEnt (xs ys : List Ent) (i : Nat) : Sg := ⟨[(13, vi i), (12, vi xs.length), (0, .one (.isl .ent xs)), (1, .one (.isl .ent ys))], [], []⟩
theorem s_equalEnt_e : EnterOk Try.prog 102 := ⟨_, Try.func102, rfl, by decide⟩
@[go_sem] def s_equalEnt_lv : List (List Nat) := [[0, 1], [0, 1, 10], [4], [0, 1, 12, 13], [0, 1, 12, 13, 14], [0, 1, 5, 12, 13], [0, 1, 12, 13, 24], [4], [0, 1, 12, 13], [4]]
@[go_sem] noncomputable def s_equalEnt_K : Known := Known.nil
set_option maxHeartbeats 8000000 in
theorem s_equalEnt : Sound Try.prog 102 ctEqualEnt := by
  refine sound_intro (E := ⟨ti, s_equalEnt_K.Γ, []⟩) (s_equalEnt_K.env []) Try.func102 Try.ntmps102 rfl (rs := [.tmp 4]) rfl ?_
  intro args os hp
  unfold ctEqualEnt at hp ⊢
  dsimp only at hp ⊢
  split at hp
  · rename_i xs ys
    refine ⟨by simp, fun φ0 w0 => ?_⟩
    have hlen : xs.length ≤ 4000000 := hp
    clear hp
    repeat' first
      | refine W_seq ?_
      | (refine W_reg (s_equalEnt_K.env []) s_equalEnt_lv fun K' hK' => ?_
         simp only [go_sem, ↓reduceIte, ↓reduceDIte, reduceCtorEq, Nat.reduceAdd, Nat.reduceMul, Nat.reduceSub, Nat.reduceLT, Nat.reduceLeDiff, Nat.reduceEqDiff, Nat.reduceBEq, Int.reduceToNat, Int.reduceLE, Int.reduceLT, Int.reduceEq, Int.reduceNe, Int.reduceNeg]
         (repeat' apply And.intro) <;> try first | ((with_reducible refine hK' _ ?_ ?_ ?_); rotate_left; (simp only [go_sem, pr, keepSl, ↓reduceIte, Nat.reduceEqDiff]; try rfl); clear hK' K') | (clear hK' K'; first | omega | (with_reducible refine drawOk_k ?_; kernel_rfl) | assumption | refine Eq.refl _ | exact fun h => ⟨h, fun k => ⟨h, k⟩⟩ | (intro _; (repeat' apply And.intro) <;> first | omega | assumption) | skip))
      | with_reducible first | refine W_skip ?_ | refine W_exit ?_ | refine W_ret ?_ | refine W_block ?_ | refine thenG_n ?_ | refine thenG_x ?_ | refine thenG_r ?_ | refine blockG_n ?_ | refine blockG_r ?_ | refine blockG_x ?_ | refine blockG_o (by decide) ?_
    refine W_cond _ (by exact rfl) (by exact trivial) ?_ ?_ <;> (try simp only [Bool.if_true_left, Bool.if_false_right, Bool.if_true_right, Bool.if_false_left, Bool.decide_eq_true, Bool.or_assoc, Bool.and_assoc, Bool.and_true, Bool.or_false, Bool.true_and, Bool.false_or, decide_eq_true_eq, decide_eq_false_iff_not, not_and, not_or, Classical.not_not, Bool.and_eq_true, Bool.or_eq_true, Bool.not_eq_true', Bool.not_eq_false', Bool.or_eq_false_iff, Bool.and_eq_false_iff, bne_iff_ne, ne_eq, beq_iff_eq, bne_eq_false_iff_eq, same_true, same_false, Int.ofNat_inj]) <;> intro hne
    · repeat' first
        | refine W_seq ?_
        | (refine W_reg (s_equalEnt_K.env []) s_equalEnt_lv fun K' hK' => ?_
           simp only [go_sem, ↓reduceIte, ↓reduceDIte, reduceCtorEq, Nat.reduceAdd, Nat.reduceMul, Nat.reduceSub, Nat.reduceLT, Nat.reduceLeDiff, Nat.reduceEqDiff, Nat.reduceBEq, Int.reduceToNat, Int.reduceLE, Int.reduceLT, Int.reduceEq, Int.reduceNe, Int.reduceNeg]
           (repeat' apply And.intro) <;> try first | ((with_reducible refine hK' _ ?_ ?_ ?_); rotate_left; (simp only [go_sem, pr, keepSl, ↓reduceIte, Nat.reduceEqDiff]; try rfl); clear hK' K') | (clear hK' K'; first | omega | (with_reducible refine drawOk_k ?_; kernel_rfl) | assumption | refine Eq.refl _ | exact fun h => ⟨h, fun k => ⟨h, k⟩⟩ | (intro _; (repeat' apply And.intro) <;> first | omega | assumption) | skip))
        | with_reducible first | refine W_skip ?_ | refine W_exit ?_ | refine W_ret ?_ | refine W_block ?_ | refine thenG_n ?_ | refine thenG_x ?_ | refine thenG_r ?_ | refine blockG_n ?_ | refine blockG_r ?_ | refine blockG_x ?_ | refine blockG_o (by decide) ?_
      refine ⟨by (simp only [go_sem, ↓reduceIte, reduceCtorEq, Nat.reduceAdd, Nat.reduceLT, Nat.reduceLeDiff, Nat.reduceEqDiff]) <;> trivial, [], ?_⟩
      all_goals try simp only [go_sem, ↓reduceIte, reduceCtorEq, Nat.reduceAdd, Nat.reduceLT, Nat.reduceLeDiff, Nat.reduceEqDiff, Int.reduceEq, TC.val.injEq, Value.bool.injEq, Value.int.injEq, Value.string.injEq, TV.one.injEq]
      all_goals (repeat' apply And.intro) <;> try first | rfl | trivial | omega | (rw [wrap_id] <;> omega)
      exact (same_false.2 fun h => hne (by rw [h])).symm
    · repeat' first
        | refine W_seq ?_
        | (refine W_reg (s_equalEnt_K.env []) s_equalEnt_lv fun K' hK' => ?_
           simp only [go_sem, ↓reduceIte, ↓reduceDIte, reduceCtorEq, Nat.reduceAdd, Nat.reduceMul, Nat.reduceSub, Nat.reduceLT, Nat.reduceLeDiff, Nat.reduceEqDiff, Nat.reduceBEq, Int.reduceToNat, Int.reduceLE, Int.reduceLT, Int.reduceEq, Int.reduceNe, Int.reduceNeg]
           (repeat' apply And.intro) <;> try first | ((with_reducible refine hK' _ ?_ ?_ ?_); rotate_left; (simp only [go_sem, pr, keepSl, ↓reduceIte, Nat.reduceEqDiff]; try rfl); clear hK' K') | (clear hK' K'; first | omega | (with_reducible refine drawOk_k ?_; kernel_rfl) | assumption | refine Eq.refl _ | exact fun h => ⟨h, fun k => ⟨h, k⟩⟩ | (intro _; (repeat' apply And.intro) <;> first | omega | assumption) | skip))
        | with_reducible first | refine W_skip ?_ | refine W_exit ?_ | refine W_ret ?_ | refine W_block ?_ | refine thenG_n ?_ | refine thenG_x ?_ | refine thenG_r ?_ | refine blockG_n ?_ | refine blockG_r ?_ | refine blockG_x ?_ | refine blockG_o (by decide) ?_
      refine W_le (σ' := sgEqualEnt xs ys 0) [] (by
        simp only [go_sem, ↓reduceIte, reduceCtorEq, Nat.reduceAdd, Nat.reduceLT, Nat.reduceLeDiff, Nat.reduceEqDiff, Int.reduceEq, TC.val.injEq, Value.bool.injEq, Value.int.injEq, Value.string.injEq, TV.one.injEq]
        all_goals (repeat' apply And.intro) <;> try first | rfl | trivial | omega | (rw [wrap_id] <;> omega)
        ) ?_
      refine W_loop (fun n σ => ∃ i : Nat, i ≤ xs.length ∧ n = xs.length - i ∧ (∀ j, j < i → xs.getD j ET.ent.dflt = ys.getD j ET.ent.dflt) ∧ σ = sgEqualEnt xs ys i) xs.length ⟨0, by omega, by omega, by omega, rfl⟩ ?_
      rintro n σ ⟨i, hi, rfl, hbef, rfl⟩
      unfold sgEqualEnt
      repeat' first
        | refine W_seq ?_
        | (refine W_reg (s_equalEnt_K.env []) s_equalEnt_lv fun K' hK' => ?_
           simp only [go_sem, ↓reduceIte, ↓reduceDIte, reduceCtorEq, Nat.reduceAdd, Nat.reduceMul, Nat.reduceSub, Nat.reduceLT, Nat.reduceLeDiff, Nat.reduceEqDiff, Nat.reduceBEq, Int.reduceToNat, Int.reduceLE, Int.reduceLT, Int.reduceEq, Int.reduceNe, Int.reduceNeg]
           (repeat' apply And.intro) <;> try first | ((with_reducible refine hK' _ ?_ ?_ ?_); rotate_left; (simp only [go_sem, pr, keepSl, ↓reduceIte, Nat.reduceEqDiff]; try rfl); clear hK' K') | (clear hK' K'; first | omega | (with_reducible refine drawOk_k ?_; kernel_rfl) | assumption | refine Eq.refl _ | exact fun h => ⟨h, fun k => ⟨h, k⟩⟩ | (intro _; (repeat' apply And.intro) <;> first | omega | assumption) | skip))
        | with_reducible first | refine W_skip ?_ | refine W_exit ?_ | refine W_ret ?_ | refine W_block ?_ | refine thenG_n ?_ | refine thenG_x ?_ | refine thenG_r ?_ | refine blockG_n ?_ | refine blockG_r ?_ | refine blockG_x ?_ | refine blockG_o (by decide) ?_
      refine W_cond _ (by exact rfl) (by exact trivial) ?_ ?_ <;> (try simp only [Bool.if_true_left, Bool.if_false_right, Bool.if_true_right, Bool.if_false_left, Bool.decide_eq_true, Bool.or_assoc, Bool.and_assoc, Bool.and_true, Bool.or_false, Bool.true_and, Bool.false_or, decide_eq_true_eq, decide_eq_false_iff_not, not_and, not_or, Classical.not_not, Bool.and_eq_true, Bool.or_eq_true, Bool.not_eq_true', Bool.not_eq_false', Bool.or_eq_false_iff, Bool.and_eq_false_iff, bne_iff_ne, ne_eq, beq_iff_eq, bne_eq_false_iff_eq, same_true, same_false, Int.ofNat_inj]) <;> intro hlt
      · repeat' first
          | refine W_seq ?_
          | (refine W_reg (s_equalEnt_K.env []) s_equalEnt_lv fun K' hK' => ?_
             simp only [go_sem, ↓reduceIte, ↓reduceDIte, reduceCtorEq, Nat.reduceAdd, Nat.reduceMul, Nat.reduceSub, Nat.reduceLT, Nat.reduceLeDiff, Nat.reduceEqDiff, Nat.reduceBEq, Int.reduceToNat, Int.reduceLE, Int.reduceLT, Int.reduceEq, Int.reduceNe, Int.reduceNeg]
             (repeat' apply And.intro) <;> try first | ((with_reducible refine hK' _ ?_ ?_ ?_); rotate_left; (simp only [go_sem, pr, keepSl, ↓reduceIte, Nat.reduceEqDiff]; try rfl); clear hK' K') | (clear hK' K'; first | omega | (with_reducible refine drawOk_k ?_; kernel_rfl) | assumption | refine Eq.refl _ | exact fun h => ⟨h, fun k => ⟨h, k⟩⟩ | (intro _; (repeat' apply And.intro) <;> first | omega | assumption) | skip))
          | with_reducible first | refine W_skip ?_ | refine W_exit ?_ | refine W_ret ?_ | refine W_block ?_ | refine thenG_n ?_ | refine thenG_x ?_ | refine thenG_r ?_ | refine blockG_n ?_ | refine blockG_r ?_ | refine blockG_x ?_ | refine blockG_o (by decide) ?_
        refine W_cond _ (by exact rfl) (by exact trivial) ?_ ?_ <;> (try simp only [Bool.if_true_left, Bool.if_false_right, Bool.if_true_right, Bool.if_false_left, Bool.decide_eq_true, Bool.or_assoc, Bool.and_assoc, Bool.and_true, Bool.or_false, Bool.true_and, Bool.false_or, decide_eq_true_eq, decide_eq_false_iff_not, not_and, not_or, Classical.not_not, Bool.and_eq_true, Bool.or_eq_true, Bool.not_eq_true', Bool.not_eq_false', Bool.or_eq_false_iff, Bool.and_eq_false_iff, bne_iff_ne, ne_eq, beq_iff_eq, bne_eq_false_iff_eq, same_true, same_false, Int.ofNat_inj]) <;> intro hl
        · repeat' first
            | refine W_seq ?_
            | (refine W_reg (s_equalEnt_K.env []) s_equalEnt_lv fun K' hK' => ?_
               simp only [go_sem, ↓reduceIte, ↓reduceDIte, reduceCtorEq, Nat.reduceAdd, Nat.reduceMul, Nat.reduceSub, Nat.reduceLT, Nat.reduceLeDiff, Nat.reduceEqDiff, Nat.reduceBEq, Int.reduceToNat, Int.reduceLE, Int.reduceLT, Int.reduceEq, Int.reduceNe, Int.reduceNeg]
               (repeat' apply And.intro) <;> try first | ((with_reducible refine hK' _ ?_ ?_ ?_); rotate_left; (simp only [go_sem, pr, keepSl, ↓reduceIte, Nat.reduceEqDiff]; try rfl); clear hK' K') | (clear hK' K'; first | omega | (with_reducible refine drawOk_k ?_; kernel_rfl) | assumption | refine Eq.refl _ | exact fun h => ⟨h, fun k => ⟨h, k⟩⟩ | (intro _; (repeat' apply And.intro) <;> first | omega | assumption) | skip))
            | with_reducible first | refine W_skip ?_ | refine W_exit ?_ | refine W_ret ?_ | refine W_block ?_ | refine thenG_n ?_ | refine thenG_x ?_ | refine thenG_r ?_ | refine blockG_n ?_ | refine blockG_r ?_ | refine blockG_x ?_ | refine blockG_o (by decide) ?_
          refine ⟨by (simp only [go_sem, ↓reduceIte, reduceCtorEq, Nat.reduceAdd, Nat.reduceLT, Nat.reduceLeDiff, Nat.reduceEqDiff]) <;> trivial, [], ?_⟩
          all_goals try simp only [go_sem, ↓reduceIte, reduceCtorEq, Nat.reduceAdd, Nat.reduceLT, Nat.reduceLeDiff, Nat.reduceEqDiff, Int.reduceEq, TC.val.injEq, Value.bool.injEq, Value.int.injEq, Value.string.injEq, TV.one.injEq]
          all_goals (repeat' apply And.intro) <;> try first | rfl | trivial | omega | (rw [wrap_id] <;> omega)
          exact (same_false.2 fun h => hl (by rw [h])).symm
        · repeat' first
            | refine W_seq ?_
            | (refine W_reg (s_equalEnt_K.env []) s_equalEnt_lv fun K' hK' => ?_
               simp only [go_sem, ↓reduceIte, ↓reduceDIte, reduceCtorEq, Nat.reduceAdd, Nat.reduceMul, Nat.reduceSub, Nat.reduceLT, Nat.reduceLeDiff, Nat.reduceEqDiff, Nat.reduceBEq, Int.reduceToNat, Int.reduceLE, Int.reduceLT, Int.reduceEq, Int.reduceNe, Int.reduceNeg]
               (repeat' apply And.intro) <;> try first | ((with_reducible refine hK' _ ?_ ?_ ?_); rotate_left; (simp only [go_sem, pr, keepSl, ↓reduceIte, Nat.reduceEqDiff]; try rfl); clear hK' K') | (clear hK' K'; first | omega | (with_reducible refine drawOk_k ?_; kernel_rfl) | assumption | refine Eq.refl _ | exact fun h => ⟨h, fun k => ⟨h, k⟩⟩ | (intro _; (repeat' apply And.intro) <;> first | omega | assumption) | skip))
            | with_reducible first | refine W_skip ?_ | refine W_exit ?_ | refine W_ret ?_ | refine W_block ?_ | refine thenG_n ?_ | refine thenG_x ?_ | refine thenG_r ?_ | refine blockG_n ?_ | refine blockG_r ?_ | refine blockG_x ?_ | refine blockG_o (by decide) ?_
          refine ⟨xs.length - (i + 1), [], sgEqualEnt xs ys (i + 1), by omega, ?_, i + 1, by omega, rfl, fun j hj => ?_, rfl⟩
          · simp only [go_sem, ↓reduceIte, reduceCtorEq, Nat.reduceAdd, Nat.reduceLT, Nat.reduceLeDiff, Nat.reduceEqDiff, Int.reduceEq, TC.val.injEq, Value.bool.injEq, Value.int.injEq, Value.string.injEq, TV.one.injEq]
            all_goals (repeat' apply And.intro) <;> try first | rfl | trivial | omega | (rw [wrap_id] <;> omega)
          · rcases Nat.lt_succ_iff_lt_or_eq.1 hj with h | rfl
            · exact hbef j h
            · exact ent_eq hl
      · repeat' first
          | refine W_seq ?_
          | (refine W_reg (s_equalEnt_K.env []) s_equalEnt_lv fun K' hK' => ?_
             simp only [go_sem, ↓reduceIte, ↓reduceDIte, reduceCtorEq, Nat.reduceAdd, Nat.reduceMul, Nat.reduceSub, Nat.reduceLT, Nat.reduceLeDiff, Nat.reduceEqDiff, Nat.reduceBEq, Int.reduceToNat, Int.reduceLE, Int.reduceLT, Int.reduceEq, Int.reduceNe, Int.reduceNeg]
             (repeat' apply And.intro) <;> try first | ((with_reducible refine hK' _ ?_ ?_ ?_); rotate_left; (simp only [go_sem, pr, keepSl, ↓reduceIte, Nat.reduceEqDiff]; try rfl); clear hK' K') | (clear hK' K'; first | omega | (with_reducible refine drawOk_k ?_; kernel_rfl) | assumption | refine Eq.refl _ | exact fun h => ⟨h, fun k => ⟨h, k⟩⟩ | (intro _; (repeat' apply And.intro) <;> first | omega | assumption) | skip))
          | with_reducible first | refine W_skip ?_ | refine W_exit ?_ | refine W_ret ?_ | refine W_block ?_ | refine thenG_n ?_ | refine thenG_x ?_ | refine thenG_r ?_ | refine blockG_n ?_ | refine blockG_r ?_ | refine blockG_x ?_ | refine blockG_o (by decide) ?_
        refine ⟨by (simp only [go_sem, ↓reduceIte, reduceCtorEq, Nat.reduceAdd, Nat.reduceLT, Nat.reduceLeDiff, Nat.reduceEqDiff]) <;> trivial, [], ?_⟩
        all_goals try simp only [go_sem, ↓reduceIte, reduceCtorEq, Nat.reduceAdd, Nat.reduceLT, Nat.reduceLeDiff, Nat.reduceEqDiff, Int.reduceEq, TC.val.injEq, Value.bool.injEq, Value.int.injEq, Value.string.injEq, TV.one.injEq]
        all_goals (repeat' apply And.intro) <;> try first | rfl | trivial | omega | (rw [wrap_id] <;> omega)
        exact (same_true.2 (list_same (by omega) fun j hj => hbef j (by omega))).symm
  · simp [no, ifp] at hp

@[go_sem] noncomputable def ctEqualInt : Ct := ⟨false, [[some .int], [some .int]], fun args os => match args, os with
  | [.one (.isl .int xs), .one (.isl .int ys)], [] => ifp (xs.length ≤ 4000000) (vb (same xs ys))
  | _, _ => no⟩
@[go_sem] def sgEqualInt (xs ys : List Int) (i : Nat) : Sg := ⟨[(13, vi i), (12, vi xs.length), (0, .one (.isl .int xs)), (1, .one (.isl .int ys))], [], []⟩
theorem s_equalInt_e : EnterOk Try.prog 104 := ⟨_, Try.func104, rfl, by decide⟩
@[go_sem] def s_equalInt_lv : List (List Nat) := [[0, 1], [0, 1, 10], [4], [0, 1, 12, 13], [0, 1, 12, 13, 14], [0, 1, 5, 12, 13], [0, 1, 12, 13, 24], [4], [0, 1, 12, 13], [4]]
@[go_sem] noncomputable def s_equalInt_K : Known := Known.nil
set_option maxHeartbeats 8000000 in
theorem s_equalInt : Sound Try.prog 104 ctEqualInt := by
  refine sound_intro (E := ⟨ti, s_equalInt_K.Γ, []⟩) (s_equalInt_K.env []) Try.func104 Try.ntmps104 rfl (rs := [.tmp 4]) rfl ?_
  intro args os hp
  unfold ctEqualInt at hp ⊢
  dsimp only at hp ⊢
  split at hp
  · rename_i xs ys
    refine ⟨by simp, fun φ0 w0 => ?_⟩
    have hlen : xs.length ≤ 4000000 := hp
    clear hp
    repeat' first
      | refine W_seq ?_
      | (refine W_reg (s_equalInt_K.env []) s_equalInt_lv fun K' hK' => ?_
         simp only [go_sem, ↓reduceIte, ↓reduceDIte, reduceCtorEq, Nat.reduceAdd, Nat.reduceMul, Nat.reduceSub, Nat.reduceLT, Nat.reduceLeDiff, Nat.reduceEqDiff, Nat.reduceBEq, Int.reduceToNat, Int.reduceLE, Int.reduceLT, Int.reduceEq, Int.reduceNe, Int.reduceNeg]
         (repeat' apply And.intro) <;> try first | ((with_reducible refine hK' _ ?_ ?_ ?_); rotate_left; (simp only [go_sem, pr, keepSl, ↓reduceIte, Nat.reduceEqDiff]; try rfl); clear hK' K') | (clear hK' K'; first | omega | (with_reducible refine drawOk_k ?_; kernel_rfl) | assumption | refine Eq.refl _ | exact fun h => ⟨h, fun k => ⟨h, k⟩⟩ | (intro _; (repeat' apply And.intro) <;> first | omega | assumption) | skip))
      | with_reducible first | refine W_skip ?_ | refine W_exit ?_ | refine W_ret ?_ | refine W_block ?_ | refine thenG_n ?_ | refine thenG_x ?_ | refine thenG_r ?_ | refine blockG_n ?_ | refine blockG_r ?_ | refine blockG_x ?_ | refine blockG_o (by decide) ?_
    refine W_cond _ (by exact rfl) (by exact trivial) ?_ ?_ <;> (try simp only [Bool.if_true_left, Bool.if_false_right, Bool.if_true_right, Bool.if_false_left, Bool.decide_eq_true, Bool.or_assoc, Bool.and_assoc, Bool.and_true, Bool.or_false, Bool.true_and, Bool.false_or, decide_eq_true_eq, decide_eq_false_iff_not, not_and, not_or, Classical.not_not, Bool.and_eq_true, Bool.or_eq_true, Bool.not_eq_true', Bool.not_eq_false', Bool.or_eq_false_iff, Bool.and_eq_false_iff, bne_iff_ne, ne_eq, beq_iff_eq, bne_eq_false_iff_eq, same_true, same_false, Int.ofNat_inj]) <;> intro hne
    · repeat' first
        | refine W_seq ?_
        | (refine W_reg (s_equalInt_K.env []) s_equalInt_lv fun K' hK' => ?_
           simp only [go_sem, ↓reduceIte, ↓reduceDIte, reduceCtorEq, Nat.reduceAdd, Nat.reduceMul, Nat.reduceSub, Nat.reduceLT, Nat.reduceLeDiff, Nat.reduceEqDiff, Nat.reduceBEq, Int.reduceToNat, Int.reduceLE, Int.reduceLT, Int.reduceEq, Int.reduceNe, Int.reduceNeg]
           (repeat' apply And.intro) <;> try first | ((with_reducible refine hK' _ ?_ ?_ ?_); rotate_left; (simp only [go_sem, pr, keepSl, ↓reduceIte, Nat.reduceEqDiff]; try rfl); clear hK' K') | (clear hK' K'; first | omega | (with_reducible refine drawOk_k ?_; kernel_rfl) | assumption | refine Eq.refl _ | exact fun h => ⟨h, fun k => ⟨h, k⟩⟩ | (intro _; (repeat' apply And.intro) <;> first | omega | assumption) | skip))
        | with_reducible first | refine W_skip ?_ | refine W_exit ?_ | refine W_ret ?_ | refine W_block ?_ | refine thenG_n ?_ | refine thenG_x ?_ | refine thenG_r ?_ | refine blockG_n ?_ | refine blockG_r ?_ | refine blockG_x ?_ | refine blockG_o (by decide) ?_
      refine ⟨by (simp only [go_sem, ↓reduceIte, reduceCtorEq, Nat.reduceAdd, Nat.reduceLT, Nat.reduceLeDiff, Nat.reduceEqDiff]) <;> trivial, [], ?_⟩
      all_goals try simp only [go_sem, ↓reduceIte, reduceCtorEq, Nat.reduceAdd, Nat.reduceLT, Nat.reduceLeDiff, Nat.reduceEqDiff, Int.reduceEq, TC.val.injEq, Value.bool.injEq, Value.int.injEq, Value.string.injEq, TV.one.injEq]
      all_goals (repeat' apply And.intro) <;> try first | rfl | trivial | omega | (rw [wrap_id] <;> omega)
      exact (same_false.2 fun h => hne (by rw [h])).symm
    · repeat' first
        | refine W_seq ?_
        | (refine W_reg (s_equalInt_K.env []) s_equalInt_lv fun K' hK' => ?_
           simp only [go_sem, ↓reduceIte, ↓reduceDIte, reduceCtorEq, Nat.reduceAdd, Nat.reduceMul, Nat.reduceSub, Nat.reduceLT, Nat.reduceLeDiff, Nat.reduceEqDiff, Nat.reduceBEq, Int.reduceToNat, Int.reduceLE, Int.reduceLT, Int.reduceEq, Int.reduceNe, Int.reduceNeg]
           (repeat' apply And.intro) <;> try first | ((with_reducible refine hK' _ ?_ ?_ ?_); rotate_left; (simp only [go_sem, pr, keepSl, ↓reduceIte, Nat.reduceEqDiff]; try rfl); clear hK' K') | (clear hK' K'; first | omega | (with_reducible refine drawOk_k ?_; kernel_rfl) | assumption | refine Eq.refl _ | exact fun h => ⟨h, fun k => ⟨h, k⟩⟩ | (intro _; (repeat' apply And.intro) <;> first | omega | assumption) | skip))
        | with_reducible first | refine W_skip ?_ | refine W_exit ?_ | refine W_ret ?_ | refine W_block ?_ | refine thenG_n ?_ | refine thenG_x ?_ | refine thenG_r ?_ | refine blockG_n ?_ | refine blockG_r ?_ | refine blockG_x ?_ | refine blockG_o (by decide) ?_
      refine W_le (σ' := sgEqualInt xs ys 0) [] (by
        simp only [go_sem, ↓reduceIte, reduceCtorEq, Nat.reduceAdd, Nat.reduceLT, Nat.reduceLeDiff, Nat.reduceEqDiff, Int.reduceEq, TC.val.injEq, Value.bool.injEq, Value.int.injEq, Value.string.injEq, TV.one.injEq]
        all_goals (repeat' apply And.intro) <;> try first | rfl | trivial | omega | (rw [wrap_id] <;> omega)
        ) ?_
      refine W_loop (fun n σ => ∃ i : Nat, i ≤ xs.length ∧ n = xs.length - i ∧ (∀ j, j < i → xs.getD j ET.int.dflt = ys.getD j ET.int.dflt) ∧ σ = sgEqualInt xs ys i) xs.length ⟨0, by omega, by omega, by omega, rfl⟩ ?_
      rintro n σ ⟨i, hi, rfl, hbef, rfl⟩
      unfold sgEqualInt
      repeat' first
        | refine W_seq ?_
        | (refine W_reg (s_equalInt_K.env []) s_equalInt_lv fun K' hK' => ?_
           simp only [go_sem, ↓reduceIte, ↓reduceDIte, reduceCtorEq, Nat.reduceAdd, Nat.reduceMul, Nat.reduceSub, Nat.reduceLT, Nat.reduceLeDiff, Nat.reduceEqDiff, Nat.reduceBEq, Int.reduceToNat, Int.reduceLE, Int.reduceLT, Int.reduceEq, Int.reduceNe, Int.reduceNeg]
           (repeat' apply And.intro) <;> try first | ((with_reducible refine hK' _ ?_ ?_ ?_); rotate_left; (simp only [go_sem, pr, keepSl, ↓reduceIte, Nat.reduceEqDiff]; try rfl); clear hK' K') | (clear hK' K'; first | omega | (with_reducible refine drawOk_k ?_; kernel_rfl) | assumption | refine Eq.refl _ | exact fun h => ⟨h, fun k => ⟨h, k⟩⟩ | (intro _; (repeat' apply And.intro) <;> first | omega | assumption) | skip))
        | with_reducible first | refine W_skip ?_ | refine W_exit ?_ | refine W_ret ?_ | refine W_block ?_ | refine thenG_n ?_ | refine thenG_x ?_ | refine thenG_r ?_ | refine blockG_n ?_ | refine blockG_r ?_ | refine blockG_x ?_ | refine blockG_o (by decide) ?_
      refine W_cond _ (by exact rfl) (by exact trivial) ?_ ?_ <;> (try simp only [Bool.if_true_left, Bool.if_false_right, Bool.if_true_right, Bool.if_false_left, Bool.decide_eq_true, Bool.or_assoc, Bool.and_assoc, Bool.and_true, Bool.or_false, Bool.true_and, Bool.false_or, decide_eq_true_eq, decide_eq_false_iff_not, not_and, not_or, Classical.not_not, Bool.and_eq_true, Bool.or_eq_true, Bool.not_eq_true', Bool.not_eq_false', Bool.or_eq_false_iff, Bool.and_eq_false_iff, bne_iff_ne, ne_eq, beq_iff_eq, bne_eq_false_iff_eq, same_true, same_false, Int.ofNat_inj]) <;> intro hlt
      · repeat' first
          | refine W_seq ?_
          | (refine W_reg (s_equalInt_K.env []) s_equalInt_lv fun K' hK' => ?_
             simp only [go_sem, ↓reduceIte, ↓reduceDIte, reduceCtorEq, Nat.reduceAdd, Nat.reduceMul, Nat.reduceSub, Nat.reduceLT, Nat.reduceLeDiff, Nat.reduceEqDiff, Nat.reduceBEq, Int.reduceToNat, Int.reduceLE, Int.reduceLT, Int.reduceEq, Int.reduceNe, Int.reduceNeg]
             (repeat' apply And.intro) <;> try first | ((with_reducible refine hK' _ ?_ ?_ ?_); rotate_left; (simp only [go_sem, pr, keepSl, ↓reduceIte, Nat.reduceEqDiff]; try rfl); clear hK' K') | (clear hK' K'; first | omega | (with_reducible refine drawOk_k ?_; kernel_rfl) | assumption | refine Eq.refl _ | exact fun h => ⟨h, fun k => ⟨h, k⟩⟩ | (intro _; (repeat' apply And.intro) <;> first | omega | assumption) | skip))
          | with_reducible first | refine W_skip ?_ | refine W_exit ?_ | refine W_ret ?_ | refine W_block ?_ | refine thenG_n ?_ | refine thenG_x ?_ | refine thenG_r ?_ | refine blockG_n ?_ | refine blockG_r ?_ | refine blockG_x ?_ | refine blockG_o (by decide) ?_
        refine W_cond _ (by exact rfl) (by exact trivial) ?_ ?_ <;> (try simp only [Bool.if_true_left, Bool.if_false_right, Bool.if_true_right, Bool.if_false_left, Bool.decide_eq_true, Bool.or_assoc, Bool.and_assoc, Bool.and_true, Bool.or_false, Bool.true_and, Bool.false_or, decide_eq_true_eq, decide_eq_false_iff_not, not_and, not_or, Classical.not_not, Bool.and_eq_true, Bool.or_eq_true, Bool.not_eq_true', Bool.not_eq_false', Bool.or_eq_false_iff, Bool.and_eq_false_iff, bne_iff_ne, ne_eq, beq_iff_eq, bne_eq_false_iff_eq, same_true, same_false, Int.ofNat_inj]) <;> intro hl
        · repeat' first
            | refine W_seq ?_
            | (refine W_reg (s_equalInt_K.env []) s_equalInt_lv fun K' hK' => ?_
               simp only [go_sem, ↓reduceIte, ↓reduceDIte, reduceCtorEq, Nat.reduceAdd, Nat.reduceMul, Nat.reduceSub, Nat.reduceLT, Nat.reduceLeDiff, Nat.reduceEqDiff, Nat.reduceBEq, Int.reduceToNat, Int.reduceLE, Int.reduceLT, Int.reduceEq, Int.reduceNe, Int.reduceNeg]
               (repeat' apply And.intro) <;> try first | ((with_reducible refine hK' _ ?_ ?_ ?_); rotate_left; (simp only [go_sem, pr, keepSl, ↓reduceIte, Nat.reduceEqDiff]; try rfl); clear hK' K') | (clear hK' K'; first | omega | (with_reducible refine drawOk_k ?_; kernel_rfl) | assumption | refine Eq.refl _ | exact fun h => ⟨h, fun k => ⟨h, k⟩⟩ | (intro _; (repeat' apply And.intro) <;> first | omega | assumption) | skip))
            | with_reducible first | refine W_skip ?_ | refine W_exit ?_ | refine W_ret ?_ | refine W_block ?_ | refine thenG_n ?_ | refine thenG_x ?_ | refine thenG_r ?_ | refine blockG_n ?_ | refine blockG_r ?_ | refine blockG_x ?_ | refine blockG_o (by decide) ?_
          refine ⟨by (simp only [go_sem, ↓reduceIte, reduceCtorEq, Nat.reduceAdd, Nat.reduceLT, Nat.reduceLeDiff, Nat.reduceEqDiff]) <;> trivial, [], ?_⟩
          all_goals try simp only [go_sem, ↓reduceIte, reduceCtorEq, Nat.reduceAdd, Nat.reduceLT, Nat.reduceLeDiff, Nat.reduceEqDiff, Int.reduceEq, TC.val.injEq, Value.bool.injEq, Value.int.injEq, Value.string.injEq, TV.one.injEq]
          all_goals (repeat' apply And.intro) <;> try first | rfl | trivial | omega | (rw [wrap_id] <;> omega)
          exact (same_false.2 fun h => hl (by rw [h])).symm
        · repeat' first
            | refine W_seq ?_
            | (refine W_reg (s_equalInt_K.env []) s_equalInt_lv fun K' hK' => ?_
               simp only [go_sem, ↓reduceIte, ↓reduceDIte, reduceCtorEq, Nat.reduceAdd, Nat.reduceMul, Nat.reduceSub, Nat.reduceLT, Nat.reduceLeDiff, Nat.reduceEqDiff, Nat.reduceBEq, Int.reduceToNat, Int.reduceLE, Int.reduceLT, Int.reduceEq, Int.reduceNe, Int.reduceNeg]
               (repeat' apply And.intro) <;> try first | ((with_reducible refine hK' _ ?_ ?_ ?_); rotate_left; (simp only [go_sem, pr, keepSl, ↓reduceIte, Nat.reduceEqDiff]; try rfl); clear hK' K') | (clear hK' K'; first | omega | (with_reducible refine drawOk_k ?_; kernel_rfl) | assumption | refine Eq.refl _ | exact fun h => ⟨h, fun k => ⟨h, k⟩⟩ | (intro _; (repeat' apply And.intro) <;> first | omega | assumption) | skip))
            | with_reducible first | refine W_skip ?_ | refine W_exit ?_ | refine W_ret ?_ | refine W_block ?_ | refine thenG_n ?_ | refine thenG_x ?_ | refine thenG_r ?_ | refine blockG_n ?_ | refine blockG_r ?_ | refine blockG_x ?_ | refine blockG_o (by decide) ?_
          refine ⟨xs.length - (i + 1), [], sgEqualInt xs ys (i + 1), by omega, ?_, i + 1, by omega, rfl, fun j hj => ?_, rfl⟩
          · simp only [go_sem, ↓reduceIte, reduceCtorEq, Nat.reduceAdd, Nat.reduceLT, Nat.reduceLeDiff, Nat.reduceEqDiff, Int.reduceEq, TC.val.injEq, Value.bool.injEq, Value.int.injEq, Value.string.injEq, TV.one.injEq]
            all_goals (repeat' apply And.intro) <;> try first | rfl | trivial | omega | (rw [wrap_id] <;> omega)
          · rcases Nat.lt_succ_iff_lt_or_eq.1 hj with h | rfl
            · exact hbef j h
            · exact hl
      · repeat' first
          | refine W_seq ?_
          | (refine W_reg (s_equalInt_K.env []) s_equalInt_lv fun K' hK' => ?_
             simp only [go_sem, ↓reduceIte, ↓reduceDIte, reduceCtorEq, Nat.reduceAdd, Nat.reduceMul, Nat.reduceSub, Nat.reduceLT, Nat.reduceLeDiff, Nat.reduceEqDiff, Nat.reduceBEq, Int.reduceToNat, Int.reduceLE, Int.reduceLT, Int.reduceEq, Int.reduceNe, Int.reduceNeg]
             (repeat' apply And.intro) <;> try first | ((with_reducible refine hK' _ ?_ ?_ ?_); rotate_left; (simp only [go_sem, pr, keepSl, ↓reduceIte, Nat.reduceEqDiff]; try rfl); clear hK' K') | (clear hK' K'; first | omega | (with_reducible refine drawOk_k ?_; kernel_rfl) | assumption | refine Eq.refl _ | exact fun h => ⟨h, fun k => ⟨h, k⟩⟩ | (intro _; (repeat' apply And.intro) <;> first | omega | assumption) | skip))
          | with_reducible first | refine W_skip ?_ | refine W_exit ?_ | refine W_ret ?_ | refine W_block ?_ | refine thenG_n ?_ | refine thenG_x ?_ | refine thenG_r ?_ | refine blockG_n ?_ | refine blockG_r ?_ | refine blockG_x ?_ | refine blockG_o (by decide) ?_
        refine ⟨by (simp only [go_sem, ↓reduceIte, reduceCtorEq, Nat.reduceAdd, Nat.reduceLT, Nat.reduceLeDiff, Nat.reduceEqDiff]) <;> trivial, [], ?_⟩
        all_goals try simp only [go_sem, ↓reduceIte, reduceCtorEq, Nat.reduceAdd, Nat.reduceLT, Nat.reduceLeDiff, Nat.reduceEqDiff, Int.reduceEq, TC.val.injEq, Value.bool.injEq, Value.int.injEq, Value.string.injEq, TV.one.injEq]
        all_goals (repeat' apply And.intro) <;> try first | rfl | trivial | omega | (rw [wrap_id] <;> omega)
        exact (same_true.2 (list_same (by omega) fun j hj => hbef j (by omega))).symm
  · simp [no, ifp] at hp

end Go.Proofs.Ytfmeopnankeaeaa
