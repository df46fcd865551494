/- The law of the last write: for all codes FnDiskLast answers true. -/
import Derived.Test.YtjdpppbegjnpaaaTPd
import Derived.Test.YtjdpppbegjnpaaaTLfall
set_option linter.unusedSimpArgs false
set_option linter.unusedVariables false
set_option linter.unusedSectionVars false
namespace Go.Proofs.Ytjdpppbegjnpaaa
open Go.RowKit

@[go_sem] def sgL1 (y : Dk) (S A : Int) (T O : ByteArray) (i : Nat) : Sg := ⟨[(6, vi S), (7, vi A), (8, vs T), (12, vs O), (15, .one (.ptr 3 0)), (19, .one (.osl .int 4 0 i)), (20, vi i)],
  [some (.arr .str y.a), some (.arr .str y.b), some (.arr .late y.l), some (.cells [.osl .str 0 0 y.a.length, .osl .str 1 0 y.b.length, .osl .late 2 0 y.l.length]), some (.arr .int (List.replicate i 1))], []⟩
theorem s_lawLast_e : EnterOk Try.prog 5 := ⟨_, Try.func5, rfl, by decide⟩
@[go_sem] def s_lawLast_lv : List (List Nat) := [[0, 1], [0, 1, 34], [4], [1, 5, 6, 7, 8], [5, 6, 7, 8, 12], [5, 6, 7, 8, 12, 13, 14], [5, 6, 7, 8, 12, 14, 15, 16], [6, 7, 8, 12, 14, 15, 16, 18], [6, 7, 8, 12, 14, 15, 18, 83], [4], [6, 7, 8, 12, 15, 19], [6, 7, 8, 12, 15, 19, 20], [6, 7, 8, 12, 15, 19, 20, 92], [6, 7, 8, 12, 15, 19, 20], [6, 7, 8, 12, 15, 19, 20], [6, 7, 8, 12, 15, 19, 21], [6, 7, 8, 12, 15, 19, 21, 23], [8, 12, 21, 23, 25], [4]]
@[go_sem] noncomputable def s_lawLast_K : Known := (((((Known.nil).cons 19 ctDrawWrite s_drawWrite s_drawWrite_e).cons 20 ctDiskWrite s_diskWrite s_diskWrite_e).cons 21 ctDiskWrite s_specWrite s_specWrite_e).cons 22 ctDiskRead s_diskRead s_diskRead_e).cons 16 ctDiskFall s_diskFall s_diskFall_e
set_option maxHeartbeats 8000000 in
theorem s_lawLast : Sound Try.prog 5 ctLaw2 := by
  refine sound_intro (E := ⟨ti, s_lawLast_K.Γ, []⟩) (s_lawLast_K.env []) Try.func5 Try.ntmps5 rfl (rs := [.tmp 4]) rfl ?_
  intro args os hp
  unfold ctLaw2 at hp ⊢
  dsimp only at hp ⊢
  split at hp
  · rename_i code more
    refine ⟨by simp, fun φ0 w0 => ?_⟩
    clear hp
    repeat' first
      | refine W_seq ?_
      | (refine W_reg (s_lawLast_K.env []) s_lawLast_lv fun K' hK' => ?_
         simp only [go_sem, ↓reduceIte, ↓reduceDIte, reduceCtorEq, Nat.reduceAdd, Nat.reduceMul, Nat.reduceSub, Nat.reduceLT, Nat.reduceLeDiff, Nat.reduceEqDiff, Nat.reduceBEq, Int.reduceToNat, Int.reduceLE, Int.reduceLT, Int.reduceEq, Int.reduceNe, Int.reduceNeg]
         (repeat' apply And.intro) <;> try first | ((with_reducible refine hK' _ ?_ ?_ ?_); rotate_left; (simp only [go_sem, pr, keepSl, ↓reduceIte, Nat.reduceEqDiff]; try rfl); clear hK' K') | (clear hK' K'; first | omega | (with_reducible refine drawOk_k ?_; kernel_rfl) | assumption | refine Eq.refl _ | exact fun h => ⟨h, fun k => ⟨h, k⟩⟩ | (intro _; (repeat' apply And.intro) <;> first | omega | assumption) | skip))
      | with_reducible first | refine W_skip ?_ | refine W_exit ?_ | refine W_ret ?_ | refine W_block ?_ | refine thenG_n ?_ | refine thenG_x ?_ | refine thenG_r ?_ | refine blockG_n ?_ | refine blockG_r ?_ | refine blockG_x ?_ | refine blockG_o (by decide) ?_
    refine W_cond _ (by exact rfl) (by exact trivial) ?_ ?_ <;> (try simp only [Bool.if_true_left, Bool.if_false_right, Bool.if_true_right, Bool.if_false_left, Bool.decide_eq_true, Bool.or_assoc, Bool.and_assoc, Bool.and_true, Bool.or_false, Bool.true_and, Bool.false_or, decide_eq_true_eq, decide_eq_false_iff_not, not_and, not_or, Classical.not_not, Bool.and_eq_true, Bool.or_eq_true, Bool.not_eq_true', Bool.not_eq_false', Bool.or_eq_false_iff, Bool.and_eq_false_iff, bne_iff_ne, ne_eq, beq_iff_eq, bne_eq_false_iff_eq, same_true, same_false, Int.ofNat_inj]) <;> intro hlen
    · repeat' first
        | refine W_seq ?_
        | (refine W_reg (s_lawLast_K.env []) s_lawLast_lv fun K' hK' => ?_
           simp only [go_sem, ↓reduceIte, ↓reduceDIte, reduceCtorEq, Nat.reduceAdd, Nat.reduceMul, Nat.reduceSub, Nat.reduceLT, Nat.reduceLeDiff, Nat.reduceEqDiff, Nat.reduceBEq, Int.reduceToNat, Int.reduceLE, Int.reduceLT, Int.reduceEq, Int.reduceNe, Int.reduceNeg]
           (repeat' apply And.intro) <;> try first | ((with_reducible refine hK' _ ?_ ?_ ?_); rotate_left; (simp only [go_sem, pr, keepSl, ↓reduceIte, Nat.reduceEqDiff]; try rfl); clear hK' K') | (clear hK' K'; first | omega | (with_reducible refine drawOk_k ?_; kernel_rfl) | assumption | refine Eq.refl _ | exact fun h => ⟨h, fun k => ⟨h, k⟩⟩ | (intro _; (repeat' apply And.intro) <;> first | omega | assumption) | skip))
        | with_reducible first | refine W_skip ?_ | refine W_exit ?_ | refine W_ret ?_ | refine W_block ?_ | refine thenG_n ?_ | refine thenG_x ?_ | refine thenG_r ?_ | refine blockG_n ?_ | refine blockG_r ?_ | refine blockG_x ?_ | refine blockG_o (by decide) ?_
      refine ⟨by (simp only [go_sem, ↓reduceIte, reduceCtorEq, Nat.reduceAdd, Nat.reduceLT, Nat.reduceLeDiff, Nat.reduceEqDiff]) <;> trivial, [], ?_⟩
      all_goals try simp only [go_sem, ↓reduceIte, reduceCtorEq, Nat.reduceAdd, Nat.reduceLT, Nat.reduceLeDiff, Nat.reduceEqDiff, Int.reduceEq, TC.val.injEq, Value.bool.injEq, Value.int.injEq, Value.string.injEq, TV.one.injEq]
      all_goals (repeat' apply And.intro) <;> try first | rfl | trivial | omega | (rw [wrap_id] <;> omega)
    · obtain ⟨⟨d1, d2, d3⟩, -, -, d4⟩ := wr_all code
      obtain ⟨-, -, -, o4⟩ := wr_all more
      obtain ⟨d, hd⟩ : ∃ d, wrD code = d := ⟨_, rfl⟩
      obtain ⟨S, hS⟩ : ∃ S, wrS code = S := ⟨_, rfl⟩
      obtain ⟨A, hA⟩ : ∃ A, wrA code = A := ⟨_, rfl⟩
      obtain ⟨T, hT⟩ : ∃ T, wrT code = T := ⟨_, rfl⟩
      obtain ⟨O, hO⟩ : ∃ O, wrT more = O := ⟨_, rfl⟩
      rw [hd] at d1 d2 d3
      rw [hT] at d4
      rw [hO] at o4
      obtain ⟨x1, x2, x3⟩ : (dkWrite d S A T).a.length ≤ 7 ∧ (dkWrite d S A T).b.length ≤ 7 ∧ (dkWrite d S A T).l.length ≤ 15 := by
        unfold dkWrite
        split
        · split
          · refine ⟨d1, d2, ?_⟩
            show (d.l ++ [_]).length ≤ 15
            rw [List.length_append]; simp only [List.length_cons, List.length_nil]; omega
          · exact ⟨d1, d2, by omega⟩
        · exact ⟨Nat.zero_le _, Nat.zero_le _, Nat.zero_le _⟩
      repeat' first
        | refine W_seq ?_
        | (refine W_reg (s_lawLast_K.env []) s_lawLast_lv fun K' hK' => ?_
           simp only [go_sem, Dk.small, hd, hS, hA, hT, hO, ↓reduceIte, ↓reduceDIte, reduceCtorEq, Nat.reduceAdd, Nat.reduceMul, Nat.reduceSub, Nat.reduceLT, Nat.reduceLeDiff, Nat.reduceEqDiff, Nat.reduceBEq, Int.reduceToNat, Int.reduceLE, Int.reduceLT, Int.reduceEq, Int.reduceNe, Int.reduceNeg]
           (repeat' apply And.intro) <;> try first | ((with_reducible refine hK' _ ?_ ?_ ?_); rotate_left; (simp only [go_sem, Dk.small, hd, hS, hA, hT, hO, pr, keepSl, ↓reduceIte, Nat.reduceEqDiff]; try rfl); clear hK' K') | (clear hK' K'; first | omega | (with_reducible refine drawOk_k ?_; kernel_rfl) | assumption | refine Eq.refl _ | exact fun h => ⟨h, fun k => ⟨h, k⟩⟩ | (intro _; (repeat' apply And.intro) <;> first | omega | assumption) | skip))
        | with_reducible first | refine W_skip ?_ | refine W_exit ?_ | refine W_ret ?_ | refine W_block ?_ | refine thenG_n ?_ | refine thenG_x ?_ | refine thenG_r ?_ | refine blockG_n ?_ | refine blockG_r ?_ | refine blockG_x ?_ | refine blockG_o (by decide) ?_
      refine W_cond _ (by exact rfl) (by exact trivial) ?_ ?_ <;> (try simp only [Bool.if_true_left, Bool.if_false_right, Bool.if_true_right, Bool.if_false_left, Bool.decide_eq_true, Bool.or_assoc, Bool.and_assoc, Bool.and_true, Bool.or_false, Bool.true_and, Bool.false_or, decide_eq_true_eq, decide_eq_false_iff_not, not_and, not_or, Classical.not_not, Bool.and_eq_true, Bool.or_eq_true, Bool.not_eq_true', Bool.not_eq_false', Bool.or_eq_false_iff, Bool.and_eq_false_iff, bne_iff_ne, ne_eq, beq_iff_eq, bne_eq_false_iff_eq, same_true, same_false, Int.ofNat_inj]) <;> intro hc
      · repeat' first
          | refine W_seq ?_
          | (refine W_reg (s_lawLast_K.env []) s_lawLast_lv fun K' hK' => ?_
             simp only [go_sem, bne_self_eq_false, beq_self_eq_true, ↓reduceIte, ↓reduceDIte, reduceCtorEq, Nat.reduceAdd, Nat.reduceMul, Nat.reduceSub, Nat.reduceLT, Nat.reduceLeDiff, Nat.reduceEqDiff, Nat.reduceBEq, Int.reduceToNat, Int.reduceLE, Int.reduceLT, Int.reduceEq, Int.reduceNe, Int.reduceNeg]
             (repeat' apply And.intro) <;> try first | ((with_reducible refine hK' _ ?_ ?_ ?_); rotate_left; (simp only [go_sem, bne_self_eq_false, beq_self_eq_true, pr, keepSl, ↓reduceIte, Nat.reduceEqDiff]; try rfl); clear hK' K') | (clear hK' K'; first | omega | (with_reducible refine drawOk_k ?_; kernel_rfl) | assumption | refine Eq.refl _ | exact fun h => ⟨h, fun k => ⟨h, k⟩⟩ | (intro _; (repeat' apply And.intro) <;> first | omega | assumption) | skip))
          | with_reducible first | refine W_skip ?_ | refine W_exit ?_ | refine W_ret ?_ | refine W_block ?_ | refine thenG_n ?_ | refine thenG_x ?_ | refine thenG_r ?_ | refine blockG_n ?_ | refine blockG_r ?_ | refine blockG_x ?_ | refine blockG_o (by decide) ?_
        refine ⟨by (simp only [go_sem, ↓reduceIte, reduceCtorEq, Nat.reduceAdd, Nat.reduceLT, Nat.reduceLeDiff, Nat.reduceEqDiff]) <;> trivial, [], ?_⟩
        all_goals try simp only [go_sem, ↓reduceIte, reduceCtorEq, Nat.reduceAdd, Nat.reduceLT, Nat.reduceLeDiff, Nat.reduceEqDiff, Int.reduceEq, TC.val.injEq, Value.bool.injEq, Value.int.injEq, Value.string.injEq, TV.one.injEq]
        all_goals (repeat' apply And.intro) <;> try first | rfl | trivial | omega | (rw [wrap_id] <;> omega)
      · have hw1 : dkWrites d S A T = true := by simpa using hc.1.2
        have hw2 := hc.2
        obtain ⟨y1, y2, y3, y4, y5⟩ := last_all hw1 hw2
        generalize dkWrite (dkWrite d S A T) S A O = y at *
        have y6 := Dk.ok_small y1
        repeat' first
          | refine W_seq ?_
          | (refine W_reg (s_lawLast_K.env []) s_lawLast_lv fun K' hK' => ?_
             simp only [go_sem, ↓reduceIte, ↓reduceDIte, reduceCtorEq, Nat.reduceAdd, Nat.reduceMul, Nat.reduceSub, Nat.reduceLT, Nat.reduceLeDiff, Nat.reduceEqDiff, Nat.reduceBEq, Int.reduceToNat, Int.reduceLE, Int.reduceLT, Int.reduceEq, Int.reduceNe, Int.reduceNeg]
             (repeat' apply And.intro) <;> try first | ((with_reducible refine hK' _ ?_ ?_ ?_); rotate_left; (simp only [go_sem, pr, keepSl, ↓reduceIte, Nat.reduceEqDiff]; try rfl); clear hK' K') | (clear hK' K'; first | omega | (with_reducible refine drawOk_k ?_; kernel_rfl) | assumption | refine Eq.refl _ | exact fun h => ⟨h, fun k => ⟨h, k⟩⟩ | (intro _; (repeat' apply And.intro) <;> first | omega | assumption) | skip))
          | with_reducible first | refine W_skip ?_ | refine W_exit ?_ | refine W_ret ?_ | refine W_block ?_ | refine thenG_n ?_ | refine thenG_x ?_ | refine thenG_r ?_ | refine blockG_n ?_ | refine blockG_r ?_ | refine blockG_x ?_ | refine blockG_o (by decide) ?_
        refine W_le (σ' := sgL1 y S A T O 0) [some 12, some 13, some 14, some 15, some 20] (by
          simp only [go_sem, ↓reduceIte, reduceCtorEq, Nat.reduceAdd, Nat.reduceLT, Nat.reduceLeDiff, Nat.reduceEqDiff, Int.reduceEq, TC.val.injEq, Value.bool.injEq, Value.int.injEq, Value.string.injEq, TV.one.injEq]
          all_goals (repeat' apply And.intro) <;> try first | rfl | trivial | omega | (rw [wrap_id] <;> omega)
          ) ?_
        refine W_loop (fun n σ => ∃ i : Nat, i ≤ y.l.length ∧ n = y.l.length - i ∧ σ = sgL1 y S A T O i) y.l.length ⟨0, by omega, by omega, rfl⟩ ?_
        rintro n σ ⟨i, hi, rfl, rfl⟩
        unfold sgL1
        have hrl : (List.replicate i (1 : Int)).length = i := List.length_replicate
        repeat' first
          | refine W_seq ?_
          | (refine W_reg (s_lawLast_K.env []) s_lawLast_lv fun K' hK' => ?_
             simp only [go_sem, ↓reduceIte, ↓reduceDIte, reduceCtorEq, Nat.reduceAdd, Nat.reduceMul, Nat.reduceSub, Nat.reduceLT, Nat.reduceLeDiff, Nat.reduceEqDiff, Nat.reduceBEq, Int.reduceToNat, Int.reduceLE, Int.reduceLT, Int.reduceEq, Int.reduceNe, Int.reduceNeg]
             (repeat' apply And.intro) <;> try first | ((with_reducible refine hK' _ ?_ ?_ ?_); rotate_left; (simp only [go_sem, pr, keepSl, ↓reduceIte, Nat.reduceEqDiff]; try rfl); clear hK' K') | (clear hK' K'; first | omega | (with_reducible refine drawOk_k ?_; kernel_rfl) | assumption | refine Eq.refl _ | exact fun h => ⟨h, fun k => ⟨h, k⟩⟩ | (intro _; (repeat' apply And.intro) <;> first | omega | assumption) | skip))
          | with_reducible first | refine W_skip ?_ | refine W_exit ?_ | refine W_ret ?_ | refine W_block ?_ | refine thenG_n ?_ | refine thenG_x ?_ | refine thenG_r ?_ | refine blockG_n ?_ | refine blockG_r ?_ | refine blockG_x ?_ | refine blockG_o (by decide) ?_
        refine W_cond _ (by exact rfl) (by exact trivial) ?_ ?_ <;> (try simp only [Bool.if_true_left, Bool.if_false_right, Bool.if_true_right, Bool.if_false_left, Bool.decide_eq_true, Bool.or_assoc, Bool.and_assoc, Bool.and_true, Bool.or_false, Bool.true_and, Bool.false_or, decide_eq_true_eq, decide_eq_false_iff_not, not_and, not_or, Classical.not_not, Bool.and_eq_true, Bool.or_eq_true, Bool.not_eq_true', Bool.not_eq_false', Bool.or_eq_false_iff, Bool.and_eq_false_iff, bne_iff_ne, ne_eq, beq_iff_eq, bne_eq_false_iff_eq, same_true, same_false, Int.ofNat_inj]) <;> intro hlt
        · repeat' first
            | refine W_seq ?_
            | (refine W_reg (s_lawLast_K.env []) s_lawLast_lv fun K' hK' => ?_
               simp only [go_sem, hrl, ↓reduceIte, ↓reduceDIte, reduceCtorEq, Nat.reduceAdd, Nat.reduceMul, Nat.reduceSub, Nat.reduceLT, Nat.reduceLeDiff, Nat.reduceEqDiff, Nat.reduceBEq, Int.reduceToNat, Int.reduceLE, Int.reduceLT, Int.reduceEq, Int.reduceNe, Int.reduceNeg]
               (repeat' apply And.intro) <;> try first | ((with_reducible refine hK' _ ?_ ?_ ?_); rotate_left; (simp only [go_sem, hrl, pr, keepSl, ↓reduceIte, Nat.reduceEqDiff]; try rfl); clear hK' K') | (clear hK' K'; first | omega | (with_reducible refine drawOk_k ?_; kernel_rfl) | assumption | refine Eq.refl _ | exact fun h => ⟨h, fun k => ⟨h, k⟩⟩ | (intro _; (repeat' apply And.intro) <;> first | omega | assumption) | skip))
            | with_reducible first | refine W_skip ?_ | refine W_exit ?_ | refine W_ret ?_ | refine W_block ?_ | refine thenG_n ?_ | refine thenG_x ?_ | refine thenG_r ?_ | refine blockG_n ?_ | refine blockG_r ?_ | refine blockG_x ?_ | refine blockG_o (by decide) ?_
          refine ⟨y.l.length - (i + 1), [some 0, some 1, some 2, some 3, some 6], sgL1 y S A T O (i + 1), by omega, ?_, i + 1, by omega, rfl, rfl⟩
          simp only [go_sem, hrl, take_repl, List.replicate_succ', ↓reduceIte, reduceCtorEq, Nat.reduceAdd, Nat.reduceLT, Nat.reduceLeDiff, Nat.reduceEqDiff, Int.reduceEq, TC.val.injEq, Value.bool.injEq, Value.int.injEq, Value.string.injEq, TV.one.injEq]
          all_goals (repeat' apply And.intro) <;> try first | rfl | trivial | omega | (rw [wrap_id] <;> omega)
        · have hii : i = y.l.length := by omega
          subst hii
          obtain ⟨g1, g2, g3⟩ := dkFall_small y (List.replicate y.l.length 1)
          obtain ⟨q1, q2, q3⟩ := dkFall_small y (List.replicate (y.l.length - 1) 1)
          have g4 : (dkFall y (List.replicate y.l.length 1)).l.length = 0 := by rw [g3]; rfl
          have q4 : (dkFall y (List.replicate (y.l.length - 1) 1)).l.length = 0 := by rw [q3]; rfl
          have hm : IntKind.i64.wrap ((y.l.length : Int) - 1) = ((y.l.length - 1 : Nat) : Int) := by rw [wrap_id _ (by omega) (by omega)]; omega
          have hrm : (List.replicate y.l.length (1 : Int)).take (y.l.length - 1) = List.replicate (y.l.length - 1) 1 := by rw [List.take_replicate]; congr 1; omega
          have hrn : (List.replicate (y.l.length - 1) (1 : Int)).length = y.l.length - 1 := List.length_replicate
          repeat' first
            | refine W_seq ?_
            | (refine W_reg (s_lawLast_K.env []) s_lawLast_lv fun K' hK' => ?_
               simp only [go_sem, Dk.small, take_repl, hrl, hm, hrm, hrn, y3, y4, y5, Nat.sub_zero, Nat.sub_le, ↓reduceIte, ↓reduceDIte, reduceCtorEq, Nat.reduceAdd, Nat.reduceMul, Nat.reduceSub, Nat.reduceLT, Nat.reduceLeDiff, Nat.reduceEqDiff, Nat.reduceBEq, Int.reduceToNat, Int.reduceLE, Int.reduceLT, Int.reduceEq, Int.reduceNe, Int.reduceNeg]
               (repeat' apply And.intro) <;> try first | ((with_reducible refine hK' _ ?_ ?_ ?_); rotate_left; (simp only [go_sem, Dk.small, take_repl, hrl, hm, hrm, hrn, y3, y4, y5, Nat.sub_zero, Nat.sub_le, pr, keepSl, ↓reduceIte, Nat.reduceEqDiff]; try rfl); clear hK' K') | (clear hK' K'; first | omega | (with_reducible refine drawOk_k ?_; kernel_rfl) | assumption | refine Eq.refl _ | exact fun h => ⟨h, fun k => ⟨h, k⟩⟩ | (intro _; (repeat' apply And.intro) <;> first | omega | assumption) | skip))
            | with_reducible first | refine W_skip ?_ | refine W_exit ?_ | refine W_ret ?_ | refine W_block ?_ | refine thenG_n ?_ | refine thenG_x ?_ | refine thenG_r ?_ | refine blockG_n ?_ | refine blockG_r ?_ | refine blockG_x ?_ | refine blockG_o (by decide) ?_
          refine ⟨by (simp only [go_sem, same_self, ↓reduceIte, reduceCtorEq, Nat.reduceAdd, Nat.reduceLT, Nat.reduceLeDiff, Nat.reduceEqDiff]) <;> trivial, [], ?_⟩
          all_goals try simp only [go_sem, same_self, ↓reduceIte, reduceCtorEq, Nat.reduceAdd, Nat.reduceLT, Nat.reduceLeDiff, Nat.reduceEqDiff, Int.reduceEq, TC.val.injEq, Value.bool.injEq, Value.int.injEq, Value.string.injEq, TV.one.injEq]
          all_goals (repeat' apply And.intro) <;> try first | rfl | trivial | omega | (rw [wrap_id] <;> omega)
  · simp [no] at hp
end Go.Proofs.Ytjdpppbegjnpaaa
