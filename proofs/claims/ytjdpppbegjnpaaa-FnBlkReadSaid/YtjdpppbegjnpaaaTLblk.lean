/- The law of a decayed block: for all codes FnBlkRead answers true. -/
import Derived.Test.YtjdpppbegjnpaaaTLone
import Derived.Test.YtjdpppbegjnpaaaTFk
import Derived.Test.YtjdpppbegjnpaaaTFt
set_option linter.unusedSimpArgs false
set_option linter.unusedVariables false
set_option linter.unusedSectionVars false
namespace Go.Proofs.Ytjdpppbegjnpaaa
open Go.RowKit

theorem rot_small (d : Dk) (s i k m : Int) : (dkRot d s i k m).a.length ≤ 120 ∧ (dkRot d s i k m).b.length ≤ 120 ∧ (dkRot d s i k m).l.length ≤ 600 := by
  by_cases hok : d.ok = true
  · exact Dk.ok_small (dkRot_ok hok s i k m)
  · unfold dkRot; rw [if_neg hok]; exact ⟨Nat.zero_le _, Nat.zero_le _, Nat.zero_le _⟩
theorem heal_small (d : Dk) (p : Ptr) : (blkHeal d p).1.a.length ≤ d.a.length ∧ (blkHeal d p).1.b.length ≤ d.b.length ∧ (blkHeal d p).1.l.length ≤ d.l.length + 1 := by
  unfold blkHeal
  repeat' split
  all_goals first | exact ⟨Nat.le_refl _, Nat.le_refl _, Nat.le_succ _⟩ | exact ⟨Nat.zero_le _, Nat.zero_le _, Nat.zero_le _⟩ | (refine ⟨Nat.le_refl _, Nat.le_refl _, ?_⟩; show (d.l ++ [_]).length ≤ _; simp)
theorem sum_next (t : ByteArray) : ((sumOf t : Int) + 1).tmod 65521 ≠ (sumOf t : Nat) := by
  have h := sumOf_lt t
  have e : ((sumOf t : Int) + 1).tmod 65521 = (((sumOf t + 1) % 65521 : Nat) : Int) := (Int.ofNat_tmod (sumOf t + 1) 65521).symm
  rw [e]; omega
theorem s_lawBlk_e : EnterOk Try.prog 7 := ⟨_, Try.func7, rfl, by decide⟩
@[go_sem] def s_lawBlk_lv : List (List Nat) := [[0, 1], [0, 1, 33], [4], [1, 5, 6, 7], [1, 5, 6, 7, 8, 9], [1, 5, 6, 7, 8, 9, 10, 11], [1, 5, 6, 7, 8, 9, 62], [4], [1, 5, 6, 7, 8, 9, 68], [4], [1, 6, 7, 8, 12], [1, 6, 7, 8, 12, 13, 14], [1, 6, 7, 8, 12, 13, 14], [1, 6, 7, 8, 12, 13, 14, 15], [1, 6, 7, 8, 12, 13, 14, 15, 16], [1, 6, 7, 8, 12, 13, 14, 15, 16, 17], [1, 6, 7, 8, 12, 13, 14, 15, 16, 17, 98], [1, 6, 7, 8, 12, 13, 14, 15, 16], [6, 7, 8, 12, 13, 14, 15, 16, 17], [7, 8, 12, 13, 14, 18], [7, 8, 12, 13, 14, 18, 19, 20], [7, 8, 12, 13, 14, 19, 20, 21, 22], [7, 8, 12, 13, 14, 19, 20, 21, 22, 23], [7, 8, 12, 13, 14, 19, 20, 21, 22, 23], [7, 12, 13, 14, 19, 20, 21, 22, 25], [4]]
@[go_sem] noncomputable def s_lawBlk_K : Known := ((((((((((Known.nil).cons 23 ctDrawBlk s_drawBlk s_drawBlk_e).cons 24 ctBlkWrite s_blkWrite s_blkWrite_e).cons 25 ctBlkWrite s_specBlkWrite s_specBlkWrite_e).cons 11 ctDiskSame s_diskSame s_diskSame_e).cons 26 ctBlkTo s_blkTo s_blkTo_e).cons 27 ctBlkRead s_blkRead s_blkRead_e).cons 18 ctDiskFlush s_diskFlush s_diskFlush_e).cons 10 ctDiskRot s_rot s_rot_e).cons 28 ctBlkHeal s_blkHeal s_blkHeal_e).cons 29 ctBlkSide s_blkSide s_blkSide_e
set_option maxHeartbeats 8000000 in
theorem s_lawBlk : Sound Try.prog 7 ctLaw2 := by
  refine sound_intro (E := ⟨ti, s_lawBlk_K.Γ, []⟩) (s_lawBlk_K.env []) Try.func7 Try.ntmps7 rfl (rs := [.tmp 4]) rfl ?_
  intro args os hp
  unfold ctLaw2 at hp ⊢
  dsimp only at hp ⊢
  split at hp
  · rename_i code more
    refine ⟨by simp, fun φ0 w0 => ?_⟩
    clear hp
    repeat' first
      | refine W_seq ?_
      | (refine W_reg (s_lawBlk_K.env []) s_lawBlk_lv fun K' hK' => ?_
         simp only [go_sem, ↓reduceIte, ↓reduceDIte, reduceCtorEq, Nat.reduceAdd, Nat.reduceMul, Nat.reduceSub, Nat.reduceLT, Nat.reduceLeDiff, Nat.reduceEqDiff, Nat.reduceBEq, Int.reduceToNat, Int.reduceLE, Int.reduceLT, Int.reduceEq, Int.reduceNe, Int.reduceNeg]
         (repeat' apply And.intro) <;> try first | ((with_reducible refine hK' _ ?_ ?_ ?_); rotate_left; (simp only [go_sem, pr, keepSl, ↓reduceIte, Nat.reduceEqDiff]; try rfl); clear hK' K') | (clear hK' K'; first | omega | (with_reducible refine drawOk_k ?_; kernel_rfl) | assumption | refine Eq.refl _ | exact fun h => ⟨h, fun k => ⟨h, k⟩⟩ | (intro _; (repeat' apply And.intro) <;> first | omega | assumption) | skip))
      | with_reducible first | refine W_skip ?_ | refine W_exit ?_ | refine W_ret ?_ | refine W_block ?_ | refine thenG_n ?_ | refine thenG_x ?_ | refine thenG_r ?_ | refine blockG_n ?_ | refine blockG_r ?_ | refine blockG_x ?_ | refine blockG_o (by decide) ?_
    refine W_cond _ (by exact rfl) (by exact trivial) ?_ ?_ <;> (try simp only [Bool.if_true_left, Bool.if_false_right, Bool.if_true_right, Bool.if_false_left, Bool.decide_eq_true, Bool.or_assoc, Bool.and_assoc, Bool.and_true, Bool.or_false, Bool.true_and, Bool.false_or, decide_eq_true_eq, decide_eq_false_iff_not, not_and, not_or, Classical.not_not, Bool.and_eq_true, Bool.or_eq_true, Bool.not_eq_true', Bool.not_eq_false', Bool.or_eq_false_iff, Bool.and_eq_false_iff, bne_iff_ne, ne_eq, beq_iff_eq, bne_eq_false_iff_eq, same_true, same_false, Int.ofNat_inj]) <;> intro hlen
    · repeat' first
        | refine W_seq ?_
        | (refine W_reg (s_lawBlk_K.env []) s_lawBlk_lv fun K' hK' => ?_
           simp only [go_sem, ↓reduceIte, ↓reduceDIte, reduceCtorEq, Nat.reduceAdd, Nat.reduceMul, Nat.reduceSub, Nat.reduceLT, Nat.reduceLeDiff, Nat.reduceEqDiff, Nat.reduceBEq, Int.reduceToNat, Int.reduceLE, Int.reduceLT, Int.reduceEq, Int.reduceNe, Int.reduceNeg]
           (repeat' apply And.intro) <;> try first | ((with_reducible refine hK' _ ?_ ?_ ?_); rotate_left; (simp only [go_sem, pr, keepSl, ↓reduceIte, Nat.reduceEqDiff]; try rfl); clear hK' K') | (clear hK' K'; first | omega | (with_reducible refine drawOk_k ?_; kernel_rfl) | assumption | refine Eq.refl _ | exact fun h => ⟨h, fun k => ⟨h, k⟩⟩ | (intro _; (repeat' apply And.intro) <;> first | omega | assumption) | skip))
        | with_reducible first | refine W_skip ?_ | refine W_exit ?_ | refine W_ret ?_ | refine W_block ?_ | refine thenG_n ?_ | refine thenG_x ?_ | refine thenG_r ?_ | refine blockG_n ?_ | refine blockG_r ?_ | refine blockG_x ?_ | refine blockG_o (by decide) ?_
      refine ⟨by (simp only [go_sem, ↓reduceIte, reduceCtorEq, Nat.reduceAdd, Nat.reduceLT, Nat.reduceLeDiff, Nat.reduceEqDiff]) <;> trivial, [], ?_⟩
      all_goals try simp only [go_sem, ↓reduceIte, reduceCtorEq, Nat.reduceAdd, Nat.reduceLT, Nat.reduceLeDiff, Nat.reduceEqDiff, Int.reduceEq, TC.val.injEq, Value.bool.injEq, Value.int.injEq, Value.string.injEq, TV.one.injEq]
      all_goals (repeat' apply And.intro) <;> try first | rfl | trivial | omega | (rw [wrap_id] <;> omega)
    · obtain ⟨⟨d1, d2, d3⟩, -, -, d4, a1, a2⟩ := bw_all code
      obtain ⟨d, hd⟩ : ∃ d, bwD code = d := ⟨_, rfl⟩
      obtain ⟨A, hA⟩ : ∃ A, bwA code = A := ⟨_, rfl⟩
      obtain ⟨T, hT⟩ : ∃ T, bwT code = T := ⟨_, rfl⟩
      rw [hd] at d1 d2 d3
      rw [hT] at d4
      rw [hA] at a1 a2
      obtain ⟨x1, x2, x3⟩ := blkWrite_small d A T
      have all := @heal_all d A T
      have bad : blkWrites d A T = false → blkWrite d A T = d ∨ blkWrite d A T = .nil := by
        intro h
        unfold blkWrites at h
        unfold blkWrite
        split
        · rename_i h1
          rw [h1, Bool.true_and] at h
          rw [h]; exact .inl rfl
        · exact .inr rfl
      obtain ⟨x, hx⟩ : ∃ x, blkWrite d A T = x := ⟨_, rfl⟩
      obtain ⟨OK, hOK⟩ : ∃ b, blkWrites d A T = b := ⟨_, rfl⟩
      rw [hx] at x1 x2 x3 all bad
      rw [hOK] at all bad
      repeat' first
        | refine W_seq ?_
        | (refine W_reg (s_lawBlk_K.env []) s_lawBlk_lv fun K' hK' => ?_
           simp only [go_sem, Dk.small, hd, hA, hT, hx, hOK, bne_self_eq_false, beq_self_eq_true, Bool.false_or, Dk.eqv_self, ↓reduceIte, ↓reduceDIte, reduceCtorEq, Nat.reduceAdd, Nat.reduceMul, Nat.reduceSub, Nat.reduceLT, Nat.reduceLeDiff, Nat.reduceEqDiff, Nat.reduceBEq, Int.reduceToNat, Int.reduceLE, Int.reduceLT, Int.reduceEq, Int.reduceNe, Int.reduceNeg]
           (repeat' apply And.intro) <;> try first | ((with_reducible refine hK' _ ?_ ?_ ?_); rotate_left; (simp only [go_sem, Dk.small, hd, hA, hT, hx, hOK, bne_self_eq_false, beq_self_eq_true, Bool.false_or, Dk.eqv_self, pr, keepSl, ↓reduceIte, Nat.reduceEqDiff]; try rfl); clear hK' K') | (clear hK' K'; first | omega | (with_reducible refine drawOk_k ?_; kernel_rfl) | assumption | refine Eq.refl _ | exact fun h => ⟨h, fun k => ⟨h, k⟩⟩ | (intro _; (repeat' apply And.intro) <;> first | omega | assumption) | skip))
        | with_reducible first | refine W_skip ?_ | refine W_exit ?_ | refine W_ret ?_ | refine W_block ?_ | refine thenG_n ?_ | refine thenG_x ?_ | refine thenG_r ?_ | refine blockG_n ?_ | refine blockG_r ?_ | refine blockG_x ?_ | refine blockG_o (by decide) ?_
      refine W_cond _ (by exact rfl) (by exact trivial) ?_ ?_ <;> intro hlit <;> try (cases hlit; done)
      by_cases hok : OK = true
      · obtain rfl := hok
        by_cases hA1 : A < 1
        · have c : decide (A < 1) = true := by simp [hA1]
          repeat' first
            | refine W_seq ?_
            | (refine W_reg (s_lawBlk_K.env []) s_lawBlk_lv fun K' hK' => ?_
               simp only [go_sem, Dk.small, c, Bool.not_true, Bool.false_eq_true, Bool.not_false, ↓reduceIte, ↓reduceDIte, reduceCtorEq, Nat.reduceAdd, Nat.reduceMul, Nat.reduceSub, Nat.reduceLT, Nat.reduceLeDiff, Nat.reduceEqDiff, Nat.reduceBEq, Int.reduceToNat, Int.reduceLE, Int.reduceLT, Int.reduceEq, Int.reduceNe, Int.reduceNeg]
               (repeat' apply And.intro) <;> try first | ((with_reducible refine hK' _ ?_ ?_ ?_); rotate_left; (simp only [go_sem, Dk.small, c, Bool.not_true, Bool.false_eq_true, Bool.not_false, pr, keepSl, ↓reduceIte, Nat.reduceEqDiff]; try rfl); clear hK' K') | (clear hK' K'; first | omega | (with_reducible refine drawOk_k ?_; kernel_rfl) | assumption | refine Eq.refl _ | exact fun h => ⟨h, fun k => ⟨h, k⟩⟩ | (intro _; (repeat' apply And.intro) <;> first | omega | assumption) | skip))
            | with_reducible first | refine W_skip ?_ | refine W_exit ?_ | refine W_ret ?_ | refine W_block ?_ | refine thenG_n ?_ | refine thenG_x ?_ | refine thenG_r ?_ | refine blockG_n ?_ | refine blockG_r ?_ | refine blockG_x ?_ | refine blockG_o (by decide) ?_
          refine W_cond _ (by exact rfl) (by exact trivial) ?_ ?_ <;> intro hlit <;> try (cases hlit; done)
          repeat' first
            | refine W_seq ?_
            | (refine W_reg (s_lawBlk_K.env []) s_lawBlk_lv fun K' hK' => ?_
               simp only [go_sem, Dk.small, c, ↓reduceIte, ↓reduceDIte, reduceCtorEq, Nat.reduceAdd, Nat.reduceMul, Nat.reduceSub, Nat.reduceLT, Nat.reduceLeDiff, Nat.reduceEqDiff, Nat.reduceBEq, Int.reduceToNat, Int.reduceLE, Int.reduceLT, Int.reduceEq, Int.reduceNe, Int.reduceNeg]
               (repeat' apply And.intro) <;> try first | ((with_reducible refine hK' _ ?_ ?_ ?_); rotate_left; (simp only [go_sem, Dk.small, c, pr, keepSl, ↓reduceIte, Nat.reduceEqDiff]; try rfl); clear hK' K') | (clear hK' K'; first | omega | (with_reducible refine drawOk_k ?_; kernel_rfl) | assumption | refine Eq.refl _ | exact fun h => ⟨h, fun k => ⟨h, k⟩⟩ | (intro _; (repeat' apply And.intro) <;> first | omega | assumption) | skip))
            | with_reducible first | refine W_skip ?_ | refine W_exit ?_ | refine W_ret ?_ | refine W_block ?_ | refine thenG_n ?_ | refine thenG_x ?_ | refine thenG_r ?_ | refine blockG_n ?_ | refine blockG_r ?_ | refine blockG_x ?_ | refine blockG_o (by decide) ?_
          refine ⟨by (simp only [go_sem, ↓reduceIte, reduceCtorEq, Nat.reduceAdd, Nat.reduceLT, Nat.reduceLeDiff, Nat.reduceEqDiff]) <;> trivial, [], ?_⟩
          all_goals try simp only [go_sem, ↓reduceIte, reduceCtorEq, Nat.reduceAdd, Nat.reduceLT, Nat.reduceLeDiff, Nat.reduceEqDiff, Int.reduceEq, TC.val.injEq, Value.bool.injEq, Value.int.injEq, Value.string.injEq, TV.one.injEq]
          all_goals (repeat' apply And.intro) <;> try first | rfl | trivial | omega | (rw [wrap_id] <;> omega)
        · have c : decide (A < 1) = false := by simp [hA1]
          repeat' first
            | refine W_seq ?_
            | (refine W_reg (s_lawBlk_K.env []) s_lawBlk_lv fun K' hK' => ?_
               simp only [go_sem, Dk.small, c, Bool.not_true, Bool.false_eq_true, Bool.not_false, ↓reduceIte, ↓reduceDIte, reduceCtorEq, Nat.reduceAdd, Nat.reduceMul, Nat.reduceSub, Nat.reduceLT, Nat.reduceLeDiff, Nat.reduceEqDiff, Nat.reduceBEq, Int.reduceToNat, Int.reduceLE, Int.reduceLT, Int.reduceEq, Int.reduceNe, Int.reduceNeg]
               (repeat' apply And.intro) <;> try first | ((with_reducible refine hK' _ ?_ ?_ ?_); rotate_left; (simp only [go_sem, Dk.small, c, Bool.not_true, Bool.false_eq_true, Bool.not_false, pr, keepSl, ↓reduceIte, Nat.reduceEqDiff]; try rfl); clear hK' K') | (clear hK' K'; first | omega | (with_reducible refine drawOk_k ?_; kernel_rfl) | assumption | refine Eq.refl _ | exact fun h => ⟨h, fun k => ⟨h, k⟩⟩ | (intro _; (repeat' apply And.intro) <;> first | omega | assumption) | skip))
            | with_reducible first | refine W_skip ?_ | refine W_exit ?_ | refine W_ret ?_ | refine W_block ?_ | refine thenG_n ?_ | refine thenG_x ?_ | refine thenG_r ?_ | refine blockG_n ?_ | refine blockG_r ?_ | refine blockG_x ?_ | refine blockG_o (by decide) ?_
          refine W_cond _ (by exact rfl) (by exact trivial) ?_ ?_ <;> intro hlit <;> try (cases hlit; done)
          have all1 := all rfl (by omega)
          obtain ⟨q1, q2⟩ : 0 ≤ (more.length : Int).tmod 2 ∧ (more.length : Int).tmod 2 < 2 := tmod_in (more.length : Int) 2 (by omega) (by omega)
          have all2 := all1 ((more.length : Int).tmod 2)
          obtain ⟨S, hS⟩ : ∃ x, (more.length : Int).tmod 2 = x := ⟨_, rfl⟩
          rw [hS] at all2 q1 q2
          obtain ⟨f1, f2, f3⟩ := flush_small x
          obtain ⟨r1, -, -, -, -, r2, -⟩ := all2 0 0 (by omega)
          obtain ⟨f, hf⟩ : ∃ f, dkFlush x = f := ⟨_, rfl⟩
          rw [hf] at f1 f2 f3 all2
          have f4 : f.l = [] := List.length_eq_zero_iff.1 f3
          have f5 : Dk.mk f.a f.b [] = f := Dk.ext' rfl rfl f4.symm
          rw [r2] at r1 all2
          have hT1 : T.size ≤ 1000000000 := by omega
          have g7 : ((sumOf T : Int) + 1).tmod 65521 ≠ (sumOf T : Nat) := sum_next T
          have g8 : IntKind.i64.wrap ((sumOf T : Int) + 1) = (sumOf T : Int) + 1 := wrap_id _ (by omega) (by have := sumOf_lt T; omega)
          by_cases hc : 1 < more.length
          · have c3 : decide ((more.length : Int) > 1) = true := by simp; omega
            have u1 := (more.getD 1 ET.byte.dflt).toNat_lt
            have u0 := (more.getD 0 ET.byte.dflt).toNat_lt
            have w1 : IntKind.i64.wrap ((T.size : Int) + 1) = (T.size : Int) + 1 := wrap_id _ (by omega) (by omega)
            have w2 : IntKind.i64.wrap ((more.getD 1 ET.byte.dflt).toNat : Int) = ((more.getD 1 ET.byte.dflt).toNat : Int) := wrap_id _ (by omega) (by omega)
            obtain ⟨M, hM⟩ : ∃ M : Int, ((more.getD 0 ET.byte.dflt).toNat : Int) = M := ⟨_, rfl⟩
            have w3 : IntKind.i64.wrap M = M := wrap_id _ (by omega) (by omega)
            obtain ⟨K, hK⟩ : ∃ K : Int, ((more.getD 1 ET.byte.dflt).toNat : Int).tmod ((T.size : Int) + 1) = K := ⟨_, rfl⟩
            repeat' first
              | refine W_seq ?_
              | (refine W_reg (s_lawBlk_K.env []) s_lawBlk_lv fun K' hK' => ?_
                 simp only [go_sem, Dk.small, r2, r1, hf, hS, c3, ↓reduceIte, ↓reduceDIte, reduceCtorEq, Nat.reduceAdd, Nat.reduceMul, Nat.reduceSub, Nat.reduceLT, Nat.reduceLeDiff, Nat.reduceEqDiff, Nat.reduceBEq, Int.reduceToNat, Int.reduceLE, Int.reduceLT, Int.reduceEq, Int.reduceNe, Int.reduceNeg]
                 (repeat' apply And.intro) <;> try first | ((with_reducible refine hK' _ ?_ ?_ ?_); rotate_left; (simp only [go_sem, Dk.small, r2, r1, hf, hS, c3, pr, keepSl, ↓reduceIte, Nat.reduceEqDiff]; try rfl); clear hK' K') | (clear hK' K'; first | omega | (with_reducible refine drawOk_k ?_; kernel_rfl) | assumption | refine Eq.refl _ | exact fun h => ⟨h, fun k => ⟨h, k⟩⟩ | (intro _; (repeat' apply And.intro) <;> first | omega | assumption) | skip))
              | with_reducible first | refine W_skip ?_ | refine W_exit ?_ | refine W_ret ?_ | refine W_block ?_ | refine thenG_n ?_ | refine thenG_x ?_ | refine thenG_r ?_ | refine blockG_n ?_ | refine blockG_r ?_ | refine blockG_x ?_ | refine blockG_o (by decide) ?_
            refine W_cond _ (by exact rfl) (by exact trivial) ?_ ?_ <;> intro hlit <;> try (cases hlit; done)
            obtain ⟨-, g1, g2, g3, g4, -, g5⟩ := all2 K M (by omega)
            obtain ⟨s1, s2, s3⟩ := rot_small f S A K M
            obtain ⟨rt, hrt⟩ : ∃ x, dkRot f S A K M = x := ⟨_, rfl⟩
            rw [hrt] at g1 g2 g3 g4 s1 s2 s3
            obtain ⟨t1, t2, t3⟩ := heal_small rt ⟨A, (sumOf T : Nat), 1⟩
            obtain ⟨hd2, hhd⟩ : ∃ x, blkHeal rt ⟨A, (sumOf T : Nat), 1⟩ = x := ⟨_, rfl⟩
            rw [hhd] at g2 g3 g4 t1 t2 t3
            have g6 := g5 _ g7
            repeat' first
              | refine W_seq ?_
              | (refine W_reg (s_lawBlk_K.env []) s_lawBlk_lv fun K' hK' => ?_
                 simp only [go_sem, Dk.small, w1, w2, w3, hK, hM, hrt, g1, hhd, g2, g3, g4, g6, g8, same_refl, beq_self_eq_true, ↓reduceIte, ↓reduceDIte, reduceCtorEq, Nat.reduceAdd, Nat.reduceMul, Nat.reduceSub, Nat.reduceLT, Nat.reduceLeDiff, Nat.reduceEqDiff, Nat.reduceBEq, Int.reduceToNat, Int.reduceLE, Int.reduceLT, Int.reduceEq, Int.reduceNe, Int.reduceNeg]
                 (repeat' apply And.intro) <;> try first | ((with_reducible refine hK' _ ?_ ?_ ?_); rotate_left; (simp only [go_sem, Dk.small, w1, w2, w3, hK, hM, hrt, g1, hhd, g2, g3, g4, g6, g8, same_refl, beq_self_eq_true, pr, keepSl, ↓reduceIte, Nat.reduceEqDiff]; try rfl); clear hK' K') | (clear hK' K'; first | omega | (with_reducible refine drawOk_k ?_; kernel_rfl) | assumption | refine Eq.refl _ | exact fun h => ⟨h, fun k => ⟨h, k⟩⟩ | (intro _; (repeat' apply And.intro) <;> first | omega | assumption) | skip))
              | with_reducible first | refine W_skip ?_ | refine W_exit ?_ | refine W_ret ?_ | refine W_block ?_ | refine thenG_n ?_ | refine thenG_x ?_ | refine thenG_r ?_ | refine blockG_n ?_ | refine blockG_r ?_ | refine blockG_x ?_ | refine blockG_o (by decide) ?_
            refine ⟨by (simp only [go_sem, ↓reduceIte, reduceCtorEq, Nat.reduceAdd, Nat.reduceLT, Nat.reduceLeDiff, Nat.reduceEqDiff]) <;> trivial, [], ?_⟩
            all_goals try simp only [go_sem, ↓reduceIte, reduceCtorEq, Nat.reduceAdd, Nat.reduceLT, Nat.reduceLeDiff, Nat.reduceEqDiff, Int.reduceEq, TC.val.injEq, Value.bool.injEq, Value.int.injEq, Value.string.injEq, TV.one.injEq]
            all_goals (repeat' apply And.intro) <;> try first | rfl | trivial | omega | (rw [wrap_id] <;> omega)
          · have c3 : decide ((more.length : Int) > 1) = false := by simp; omega
            repeat' first
              | refine W_seq ?_
              | (refine W_reg (s_lawBlk_K.env []) s_lawBlk_lv fun K' hK' => ?_
                 simp only [go_sem, Dk.small, r2, r1, hf, hS, c3, ↓reduceIte, ↓reduceDIte, reduceCtorEq, Nat.reduceAdd, Nat.reduceMul, Nat.reduceSub, Nat.reduceLT, Nat.reduceLeDiff, Nat.reduceEqDiff, Nat.reduceBEq, Int.reduceToNat, Int.reduceLE, Int.reduceLT, Int.reduceEq, Int.reduceNe, Int.reduceNeg]
                 (repeat' apply And.intro) <;> try first | ((with_reducible refine hK' _ ?_ ?_ ?_); rotate_left; (simp only [go_sem, Dk.small, r2, r1, hf, hS, c3, pr, keepSl, ↓reduceIte, Nat.reduceEqDiff]; try rfl); clear hK' K') | (clear hK' K'; first | omega | (with_reducible refine drawOk_k ?_; kernel_rfl) | assumption | refine Eq.refl _ | exact fun h => ⟨h, fun k => ⟨h, k⟩⟩ | (intro _; (repeat' apply And.intro) <;> first | omega | assumption) | skip))
              | with_reducible first | refine W_skip ?_ | refine W_exit ?_ | refine W_ret ?_ | refine W_block ?_ | refine thenG_n ?_ | refine thenG_x ?_ | refine thenG_r ?_ | refine blockG_n ?_ | refine blockG_r ?_ | refine blockG_x ?_ | refine blockG_o (by decide) ?_
            refine W_cond _ (by exact rfl) (by exact trivial) ?_ ?_ <;> intro hlit <;> try (cases hlit; done)
            obtain ⟨-, g1, g2, g3, g4, -, g5⟩ := all2 0 0 (by omega)
            obtain ⟨s1, s2, s3⟩ := rot_small f S A 0 0
            obtain ⟨rt, hrt⟩ : ∃ x, dkRot f S A 0 0 = x := ⟨_, rfl⟩
            rw [hrt] at g1 g2 g3 g4 s1 s2 s3
            obtain ⟨t1, t2, t3⟩ := heal_small rt ⟨A, (sumOf T : Nat), 1⟩
            obtain ⟨hd2, hhd⟩ : ∃ x, blkHeal rt ⟨A, (sumOf T : Nat), 1⟩ = x := ⟨_, rfl⟩
            rw [hhd] at g2 g3 g4 t1 t2 t3
            have g6 := g5 _ g7
            repeat' first
              | refine W_seq ?_
              | (refine W_reg (s_lawBlk_K.env []) s_lawBlk_lv fun K' hK' => ?_
                 simp only [go_sem, Dk.small, hrt, g1, hhd, g2, g3, g4, g6, g8, same_refl, beq_self_eq_true, ↓reduceIte, ↓reduceDIte, reduceCtorEq, Nat.reduceAdd, Nat.reduceMul, Nat.reduceSub, Nat.reduceLT, Nat.reduceLeDiff, Nat.reduceEqDiff, Nat.reduceBEq, Int.reduceToNat, Int.reduceLE, Int.reduceLT, Int.reduceEq, Int.reduceNe, Int.reduceNeg]
                 (repeat' apply And.intro) <;> try first | ((with_reducible refine hK' _ ?_ ?_ ?_); rotate_left; (simp only [go_sem, Dk.small, hrt, g1, hhd, g2, g3, g4, g6, g8, same_refl, beq_self_eq_true, pr, keepSl, ↓reduceIte, Nat.reduceEqDiff]; try rfl); clear hK' K') | (clear hK' K'; first | omega | (with_reducible refine drawOk_k ?_; kernel_rfl) | assumption | refine Eq.refl _ | exact fun h => ⟨h, fun k => ⟨h, k⟩⟩ | (intro _; (repeat' apply And.intro) <;> first | omega | assumption) | skip))
              | with_reducible first | refine W_skip ?_ | refine W_exit ?_ | refine W_ret ?_ | refine W_block ?_ | refine thenG_n ?_ | refine thenG_x ?_ | refine thenG_r ?_ | refine blockG_n ?_ | refine blockG_r ?_ | refine blockG_x ?_ | refine blockG_o (by decide) ?_
            refine ⟨by (simp only [go_sem, ↓reduceIte, reduceCtorEq, Nat.reduceAdd, Nat.reduceLT, Nat.reduceLeDiff, Nat.reduceEqDiff]) <;> trivial, [], ?_⟩
            all_goals try simp only [go_sem, ↓reduceIte, reduceCtorEq, Nat.reduceAdd, Nat.reduceLT, Nat.reduceLeDiff, Nat.reduceEqDiff, Int.reduceEq, TC.val.injEq, Value.bool.injEq, Value.int.injEq, Value.string.injEq, TV.one.injEq]
            all_goals (repeat' apply And.intro) <;> try first | rfl | trivial | omega | (rw [wrap_id] <;> omega)
      · obtain rfl : OK = false := by simpa using hok
        rcases bad rfl with rfl | rfl
        · repeat' first
            | refine W_seq ?_
            | (refine W_reg (s_lawBlk_K.env []) s_lawBlk_lv fun K' hK' => ?_
               simp only [go_sem, Dk.small, Bool.not_false, ↓reduceIte, ↓reduceDIte, reduceCtorEq, Nat.reduceAdd, Nat.reduceMul, Nat.reduceSub, Nat.reduceLT, Nat.reduceLeDiff, Nat.reduceEqDiff, Nat.reduceBEq, Int.reduceToNat, Int.reduceLE, Int.reduceLT, Int.reduceEq, Int.reduceNe, Int.reduceNeg]
               (repeat' apply And.intro) <;> try first | ((with_reducible refine hK' _ ?_ ?_ ?_); rotate_left; (simp only [go_sem, Dk.small, Bool.not_false, pr, keepSl, ↓reduceIte, Nat.reduceEqDiff]; try rfl); clear hK' K') | (clear hK' K'; first | omega | (with_reducible refine drawOk_k ?_; kernel_rfl) | assumption | refine Eq.refl _ | exact fun h => ⟨h, fun k => ⟨h, k⟩⟩ | (intro _; (repeat' apply And.intro) <;> first | omega | assumption) | skip))
            | with_reducible first | refine W_skip ?_ | refine W_exit ?_ | refine W_ret ?_ | refine W_block ?_ | refine thenG_n ?_ | refine thenG_x ?_ | refine thenG_r ?_ | refine blockG_n ?_ | refine blockG_r ?_ | refine blockG_x ?_ | refine blockG_o (by decide) ?_
          refine W_cond _ (by exact rfl) (by exact trivial) ?_ ?_ <;> intro hlit <;> try (cases hlit; done)
          repeat' first
            | refine W_seq ?_
            | (refine W_reg (s_lawBlk_K.env []) s_lawBlk_lv fun K' hK' => ?_
               simp only [go_sem, Dk.small, Dk.eqv_self, Bool.not_false, ↓reduceIte, ↓reduceDIte, reduceCtorEq, Nat.reduceAdd, Nat.reduceMul, Nat.reduceSub, Nat.reduceLT, Nat.reduceLeDiff, Nat.reduceEqDiff, Nat.reduceBEq, Int.reduceToNat, Int.reduceLE, Int.reduceLT, Int.reduceEq, Int.reduceNe, Int.reduceNeg]
               (repeat' apply And.intro) <;> try first | ((with_reducible refine hK' _ ?_ ?_ ?_); rotate_left; (simp only [go_sem, Dk.small, Dk.eqv_self, Bool.not_false, pr, keepSl, ↓reduceIte, Nat.reduceEqDiff]; try rfl); clear hK' K') | (clear hK' K'; first | omega | (with_reducible refine drawOk_k ?_; kernel_rfl) | assumption | refine Eq.refl _ | exact fun h => ⟨h, fun k => ⟨h, k⟩⟩ | (intro _; (repeat' apply And.intro) <;> first | omega | assumption) | skip))
            | with_reducible first | refine W_skip ?_ | refine W_exit ?_ | refine W_ret ?_ | refine W_block ?_ | refine thenG_n ?_ | refine thenG_x ?_ | refine thenG_r ?_ | refine blockG_n ?_ | refine blockG_r ?_ | refine blockG_x ?_ | refine blockG_o (by decide) ?_
          refine ⟨by (simp only [go_sem, ↓reduceIte, reduceCtorEq, Nat.reduceAdd, Nat.reduceLT, Nat.reduceLeDiff, Nat.reduceEqDiff]) <;> trivial, [], ?_⟩
          all_goals try simp only [go_sem, ↓reduceIte, reduceCtorEq, Nat.reduceAdd, Nat.reduceLT, Nat.reduceLeDiff, Nat.reduceEqDiff, Int.reduceEq, TC.val.injEq, Value.bool.injEq, Value.int.injEq, Value.string.injEq, TV.one.injEq]
          all_goals (repeat' apply And.intro) <;> try first | rfl | trivial | omega | (rw [wrap_id] <;> omega)
        · repeat' first
            | refine W_seq ?_
            | (refine W_reg (s_lawBlk_K.env []) s_lawBlk_lv fun K' hK' => ?_
               simp only [go_sem, Dk.small, Bool.not_false, ↓reduceIte, ↓reduceDIte, reduceCtorEq, Nat.reduceAdd, Nat.reduceMul, Nat.reduceSub, Nat.reduceLT, Nat.reduceLeDiff, Nat.reduceEqDiff, Nat.reduceBEq, Int.reduceToNat, Int.reduceLE, Int.reduceLT, Int.reduceEq, Int.reduceNe, Int.reduceNeg]
               (repeat' apply And.intro) <;> try first | ((with_reducible refine hK' _ ?_ ?_ ?_); rotate_left; (simp only [go_sem, Dk.small, Bool.not_false, pr, keepSl, ↓reduceIte, Nat.reduceEqDiff]; try rfl); clear hK' K') | (clear hK' K'; first | omega | (with_reducible refine drawOk_k ?_; kernel_rfl) | assumption | refine Eq.refl _ | exact fun h => ⟨h, fun k => ⟨h, k⟩⟩ | (intro _; (repeat' apply And.intro) <;> first | omega | assumption) | skip))
            | with_reducible first | refine W_skip ?_ | refine W_exit ?_ | refine W_ret ?_ | refine W_block ?_ | refine thenG_n ?_ | refine thenG_x ?_ | refine thenG_r ?_ | refine blockG_n ?_ | refine blockG_r ?_ | refine blockG_x ?_ | refine blockG_o (by decide) ?_
          refine W_cond _ (by exact rfl) (by exact trivial) ?_ ?_ <;> intro hlit <;> try (cases hlit; done)
          repeat' first
            | refine W_seq ?_
            | (refine W_reg (s_lawBlk_K.env []) s_lawBlk_lv fun K' hK' => ?_
               simp only [go_sem, Dk.small, Dk.nil, Bool.not_false, ↓reduceIte, ↓reduceDIte, reduceCtorEq, Nat.reduceAdd, Nat.reduceMul, Nat.reduceSub, Nat.reduceLT, Nat.reduceLeDiff, Nat.reduceEqDiff, Nat.reduceBEq, Int.reduceToNat, Int.reduceLE, Int.reduceLT, Int.reduceEq, Int.reduceNe, Int.reduceNeg]
               (repeat' apply And.intro) <;> try first | ((with_reducible refine hK' _ ?_ ?_ ?_); rotate_left; (simp only [go_sem, Dk.small, Dk.nil, Bool.not_false, pr, keepSl, ↓reduceIte, Nat.reduceEqDiff]; try rfl); clear hK' K') | (clear hK' K'; first | omega | (with_reducible refine drawOk_k ?_; kernel_rfl) | assumption | refine Eq.refl _ | exact fun h => ⟨h, fun k => ⟨h, k⟩⟩ | (intro _; (repeat' apply And.intro) <;> first | omega | assumption) | skip))
            | with_reducible first | refine W_skip ?_ | refine W_exit ?_ | refine W_ret ?_ | refine W_block ?_ | refine thenG_n ?_ | refine thenG_x ?_ | refine thenG_r ?_ | refine blockG_n ?_ | refine blockG_r ?_ | refine blockG_x ?_ | refine blockG_o (by decide) ?_
          refine ⟨by (simp only [go_sem, ↓reduceIte, reduceCtorEq, Nat.reduceAdd, Nat.reduceLT, Nat.reduceLeDiff, Nat.reduceEqDiff]) <;> trivial, [], ?_⟩
          all_goals try simp only [go_sem, ↓reduceIte, reduceCtorEq, Nat.reduceAdd, Nat.reduceLT, Nat.reduceLeDiff, Nat.reduceEqDiff, Int.reduceEq, TC.val.injEq, Value.bool.injEq, Value.int.injEq, Value.string.injEq, TV.one.injEq]
          all_goals (repeat' apply And.intro) <;> try first | rfl | trivial | omega | (rw [wrap_id] <;> omega)
          simp
  · simp [no] at hp
end Go.Proofs.Ytjdpppbegjnpaaa
