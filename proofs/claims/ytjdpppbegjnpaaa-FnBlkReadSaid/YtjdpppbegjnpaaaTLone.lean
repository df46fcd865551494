/- The law of one block: for all codes FnBlkOne answers true. -/
import Derived.Test.YtjdpppbegjnpaaaTPe
import Derived.Test.YtjdpppbegjnpaaaTFv
import Derived.Test.YtjdpppbegjnpaaaTFo
import Derived.Test.YtjdpppbegjnpaaaTTie
set_option linter.unusedSimpArgs false
set_option linter.unusedVariables false
set_option linter.unusedSectionVars false
namespace Go.Proofs.Ytjdpppbegjnpaaa
open Go.RowKit

theorem blkWrite_small (d : Dk) (k : Int) (t : ByteArray) : (blkWrite d k t).a.length ≤ d.a.length ∧ (blkWrite d k t).b.length ≤ d.b.length ∧ (blkWrite d k t).l.length ≤ d.l.length + 2 := by
  unfold blkWrite
  split
  · split
    · refine ⟨Nat.le_refl _, Nat.le_refl _, ?_⟩
      show (d.l ++ [_] ++ [_]).length ≤ _
      simp
    · exact ⟨Nat.le_refl _, Nat.le_refl _, by omega⟩
  · exact ⟨Nat.zero_le _, Nat.zero_le _, Nat.zero_le _⟩
@[go_sem] def sgO (d x : Dk) (A : Int) (T : ByteArray) (more : List UInt8) (i : Nat) : Sg := ⟨[(1, .one (.isl .byte more)), (5, .one (.ptr 3 0)), (6, vi A), (7, vs T), (8, .one (.ptr 7 0)), (12, vi i)],
  [some (.arr .str d.a), some (.arr .str d.b), some (.arr .late d.l), some (.cells [.osl .str 0 0 d.a.length, .osl .str 1 0 d.b.length, .osl .late 2 0 d.l.length]),
   some (.arr .str x.a), some (.arr .str x.b), some (.arr .late x.l), some (.cells [.osl .str 4 0 x.a.length, .osl .str 5 0 x.b.length, .osl .late 6 0 x.l.length])], []⟩
theorem s_lawOne_e : EnterOk Try.prog 6 := ⟨_, Try.func6, rfl, by decide⟩
@[go_sem] def s_lawOne_lv : List (List Nat) := [[0, 1], [0, 1, 30], [4], [1, 5, 6, 7], [1, 5, 6, 7, 8, 9], [1, 5, 6, 7, 8, 9, 11], [1, 5, 6, 7, 8, 9, 11, 57], [4], [1, 5, 6, 7, 8, 12], [1, 5, 6, 7, 8, 12, 66], [1, 5, 6, 7, 8, 12], [1, 5, 6, 7, 8, 12, 13], [1, 5, 6, 7, 8, 12, 15], [1, 5, 6, 7, 8, 12, 15, 16, 17], [1, 5, 6, 7, 8, 12, 16, 17, 18, 19], [1, 5, 6, 7, 8, 12, 105], [4], [6, 7, 8, 20], [6, 7, 21, 22], [4]]
@[go_sem] noncomputable def s_lawOne_K : Known := ((((((((Known.nil).cons 23 ctDrawBlk s_drawBlk s_drawBlk_e).cons 24 ctBlkWrite s_blkWrite s_blkWrite_e).cons 25 ctBlkWrite s_specBlkWrite s_specBlkWrite_e).cons 22 ctDiskRead s_diskRead s_diskRead_e).cons 26 ctBlkTo s_blkTo s_blkTo_e).cons 27 ctBlkRead s_blkRead s_blkRead_e).cons 18 ctDiskFlush s_diskFlush s_diskFlush_e).cons 16 ctDiskFall s_diskFall s_diskFall_e
set_option maxHeartbeats 8000000 in
theorem s_lawOne : Sound Try.prog 6 ctLaw2 := by
  refine sound_intro (E := ⟨ti, s_lawOne_K.Γ, []⟩) (s_lawOne_K.env []) Try.func6 Try.ntmps6 rfl (rs := [.tmp 4]) rfl ?_
  intro args os hp
  unfold ctLaw2 at hp ⊢
  dsimp only at hp ⊢
  split at hp
  · rename_i code more
    refine ⟨by simp, fun φ0 w0 => ?_⟩
    clear hp
    repeat' first
      | refine W_seq ?_
      | (refine W_reg (s_lawOne_K.env []) s_lawOne_lv fun K' hK' => ?_
         simp only [go_sem, ↓reduceIte, ↓reduceDIte, reduceCtorEq, Nat.reduceAdd, Nat.reduceMul, Nat.reduceSub, Nat.reduceLT, Nat.reduceLeDiff, Nat.reduceEqDiff, Nat.reduceBEq, Int.reduceToNat, Int.reduceLE, Int.reduceLT, Int.reduceEq, Int.reduceNe, Int.reduceNeg]
         (repeat' apply And.intro) <;> try first | ((with_reducible refine hK' _ ?_ ?_ ?_); rotate_left; (simp only [go_sem, pr, keepSl, ↓reduceIte, Nat.reduceEqDiff]; try rfl); clear hK' K') | (clear hK' K'; first | omega | (with_reducible refine drawOk_k ?_; kernel_rfl) | assumption | refine Eq.refl _ | exact fun h => ⟨h, fun k => ⟨h, k⟩⟩ | (intro _; (repeat' apply And.intro) <;> first | omega | assumption) | skip))
      | with_reducible first | refine W_skip ?_ | refine W_exit ?_ | refine W_ret ?_ | refine W_block ?_ | refine thenG_n ?_ | refine thenG_x ?_ | refine thenG_r ?_ | refine blockG_n ?_ | refine blockG_r ?_ | refine blockG_x ?_ | refine blockG_o (by decide) ?_
    refine W_cond _ (by exact rfl) (by exact trivial) ?_ ?_ <;> (try simp only [Bool.if_true_left, Bool.if_false_right, Bool.if_true_right, Bool.if_false_left, Bool.decide_eq_true, Bool.or_assoc, Bool.and_assoc, Bool.and_true, Bool.or_false, Bool.true_and, Bool.false_or, decide_eq_true_eq, decide_eq_false_iff_not, not_and, not_or, Classical.not_not, Bool.and_eq_true, Bool.or_eq_true, Bool.not_eq_true', Bool.not_eq_false', Bool.or_eq_false_iff, Bool.and_eq_false_iff, bne_iff_ne, ne_eq, beq_iff_eq, bne_eq_false_iff_eq, same_true, same_false, Int.ofNat_inj]) <;> intro hlen
    · repeat' first
        | refine W_seq ?_
        | (refine W_reg (s_lawOne_K.env []) s_lawOne_lv fun K' hK' => ?_
           simp only [go_sem, ↓reduceIte, ↓reduceDIte, reduceCtorEq, Nat.reduceAdd, Nat.reduceMul, Nat.reduceSub, Nat.reduceLT, Nat.reduceLeDiff, Nat.reduceEqDiff, Nat.reduceBEq, Int.reduceToNat, Int.reduceLE, Int.reduceLT, Int.reduceEq, Int.reduceNe, Int.reduceNeg]
           (repeat' apply And.intro) <;> try first | ((with_reducible refine hK' _ ?_ ?_ ?_); rotate_left; (simp only [go_sem, pr, keepSl, ↓reduceIte, Nat.reduceEqDiff]; try rfl); clear hK' K') | (clear hK' K'; first | omega | (with_reducible refine drawOk_k ?_; kernel_rfl) | assumption | refine Eq.refl _ | exact fun h => ⟨h, fun k => ⟨h, k⟩⟩ | (intro _; (repeat' apply And.intro) <;> first | omega | assumption) | skip))
        | with_reducible first | refine W_skip ?_ | refine W_exit ?_ | refine W_ret ?_ | refine W_block ?_ | refine thenG_n ?_ | refine thenG_x ?_ | refine thenG_r ?_ | refine blockG_n ?_ | refine blockG_r ?_ | refine blockG_x ?_ | refine blockG_o (by decide) ?_
      refine ⟨by (simp only [go_sem, ↓reduceIte, reduceCtorEq, Nat.reduceAdd, Nat.reduceLT, Nat.reduceLeDiff, Nat.reduceEqDiff]) <;> trivial, [], ?_⟩
      all_goals try simp only [go_sem, ↓reduceIte, reduceCtorEq, Nat.reduceAdd, Nat.reduceLT, Nat.reduceLeDiff, Nat.reduceEqDiff, Int.reduceEq, TC.val.injEq, Value.bool.injEq, Value.int.injEq, Value.string.injEq, TV.one.injEq]
      all_goals (repeat' apply And.intro) <;> try first | rfl | trivial | omega | (rw [wrap_id] <;> omega)
    · obtain ⟨⟨d1, d2, d3⟩, -, -, d4, a1, a2⟩ := bw_all code
      obtain ⟨d, hd⟩ : ∃ d, bwD code = d := ⟨_, rfl⟩
      obtain ⟨A, hA⟩ : ∃ A, bwA code = A := ⟨_, rfl⟩
      obtain ⟨T, hT⟩ : ∃ T, bwT code = T := ⟨_, rfl⟩
      rw [hd] at d1 d2 d3
      rw [hT] at d4
      rw [hA] at a1 a2
      obtain ⟨x1, x2, x3⟩ := blkWrite_small d A T
      have all := @one_all d A T
      have pos := @blkWrites_pos d A T
      obtain ⟨x, hx⟩ : ∃ x, blkWrite d A T = x := ⟨_, rfl⟩
      obtain ⟨OK, hOK⟩ : ∃ b, blkWrites d A T = b := ⟨_, rfl⟩
      rw [hx] at x1 x2 x3 all pos
      rw [hOK] at all pos
      repeat' first
        | refine W_seq ?_
        | (refine W_reg (s_lawOne_K.env []) s_lawOne_lv fun K' hK' => ?_
           simp only [go_sem, Dk.small, hd, hA, hT, hx, hOK, bne_self_eq_false, beq_self_eq_true, Bool.false_or, ↓reduceIte, ↓reduceDIte, reduceCtorEq, Nat.reduceAdd, Nat.reduceMul, Nat.reduceSub, Nat.reduceLT, Nat.reduceLeDiff, Nat.reduceEqDiff, Nat.reduceBEq, Int.reduceToNat, Int.reduceLE, Int.reduceLT, Int.reduceEq, Int.reduceNe, Int.reduceNeg]
           (repeat' apply And.intro) <;> try first | ((with_reducible refine hK' _ ?_ ?_ ?_); rotate_left; (simp only [go_sem, Dk.small, hd, hA, hT, hx, hOK, bne_self_eq_false, beq_self_eq_true, Bool.false_or, pr, keepSl, ↓reduceIte, Nat.reduceEqDiff]; try rfl); clear hK' K') | (clear hK' K'; first | omega | (with_reducible refine drawOk_k ?_; kernel_rfl) | assumption | refine Eq.refl _ | exact fun h => ⟨h, fun k => ⟨h, k⟩⟩ | (intro _; (repeat' apply And.intro) <;> first | omega | assumption) | skip))
        | with_reducible first | refine W_skip ?_ | refine W_exit ?_ | refine W_ret ?_ | refine W_block ?_ | refine thenG_n ?_ | refine thenG_x ?_ | refine thenG_r ?_ | refine blockG_n ?_ | refine blockG_r ?_ | refine blockG_x ?_ | refine blockG_o (by decide) ?_
      refine W_cond _ (by exact rfl) (by exact trivial) ?_ ?_ <;> (try simp only [Bool.if_true_left, Bool.if_false_right, Bool.if_true_right, Bool.if_false_left, Bool.decide_eq_true, Bool.or_assoc, Bool.and_assoc, Bool.and_true, Bool.or_false, Bool.true_and, Bool.false_or, decide_eq_true_eq, decide_eq_false_iff_not, not_and, not_or, Classical.not_not, Bool.and_eq_true, Bool.or_eq_true, Bool.not_eq_true', Bool.not_eq_false', Bool.or_eq_false_iff, Bool.and_eq_false_iff, bne_iff_ne, ne_eq, beq_iff_eq, bne_eq_false_iff_eq, same_true, same_false, Int.ofNat_inj]) <;> intro hok
      · repeat' first
          | refine W_seq ?_
          | (refine W_reg (s_lawOne_K.env []) s_lawOne_lv fun K' hK' => ?_
             simp only [go_sem, beq_self_eq_true, ↓reduceIte, ↓reduceDIte, reduceCtorEq, Nat.reduceAdd, Nat.reduceMul, Nat.reduceSub, Nat.reduceLT, Nat.reduceLeDiff, Nat.reduceEqDiff, Nat.reduceBEq, Int.reduceToNat, Int.reduceLE, Int.reduceLT, Int.reduceEq, Int.reduceNe, Int.reduceNeg]
             (repeat' apply And.intro) <;> try first | ((with_reducible refine hK' _ ?_ ?_ ?_); rotate_left; (simp only [go_sem, beq_self_eq_true, pr, keepSl, ↓reduceIte, Nat.reduceEqDiff]; try rfl); clear hK' K') | (clear hK' K'; first | omega | (with_reducible refine drawOk_k ?_; kernel_rfl) | assumption | refine Eq.refl _ | exact fun h => ⟨h, fun k => ⟨h, k⟩⟩ | (intro _; (repeat' apply And.intro) <;> first | omega | assumption) | skip))
          | with_reducible first | refine W_skip ?_ | refine W_exit ?_ | refine W_ret ?_ | refine W_block ?_ | refine thenG_n ?_ | refine thenG_x ?_ | refine thenG_r ?_ | refine blockG_n ?_ | refine blockG_r ?_ | refine blockG_x ?_ | refine blockG_o (by decide) ?_
        refine ⟨by (simp only [go_sem, ↓reduceIte, reduceCtorEq, Nat.reduceAdd, Nat.reduceLT, Nat.reduceLeDiff, Nat.reduceEqDiff]) <;> trivial, [], ?_⟩
        all_goals try simp only [go_sem, ↓reduceIte, reduceCtorEq, Nat.reduceAdd, Nat.reduceLT, Nat.reduceLeDiff, Nat.reduceEqDiff, Int.reduceEq, TC.val.injEq, Value.bool.injEq, Value.int.injEq, Value.string.injEq, TV.one.injEq]
        all_goals (repeat' apply And.intro) <;> try first | rfl | trivial | omega | (rw [wrap_id] <;> omega)
      · obtain rfl : OK = true := by simpa using hok
        obtain ⟨h1, -, -, h4, h5, -⟩ := pos rfl
        obtain ⟨all1, all2⟩ := all rfl
        obtain ⟨b1, b2, -⟩ := (Dk.ok_iff _).1 h1
        repeat' first
          | refine W_seq ?_
          | (refine W_reg (s_lawOne_K.env []) s_lawOne_lv fun K' hK' => ?_
             simp only [go_sem, ↓reduceIte, ↓reduceDIte, reduceCtorEq, Nat.reduceAdd, Nat.reduceMul, Nat.reduceSub, Nat.reduceLT, Nat.reduceLeDiff, Nat.reduceEqDiff, Nat.reduceBEq, Int.reduceToNat, Int.reduceLE, Int.reduceLT, Int.reduceEq, Int.reduceNe, Int.reduceNeg]
             (repeat' apply And.intro) <;> try first | ((with_reducible refine hK' _ ?_ ?_ ?_); rotate_left; (simp only [go_sem, pr, keepSl, ↓reduceIte, Nat.reduceEqDiff]; try rfl); clear hK' K') | (clear hK' K'; first | omega | (with_reducible refine drawOk_k ?_; kernel_rfl) | assumption | refine Eq.refl _ | exact fun h => ⟨h, fun k => ⟨h, k⟩⟩ | (intro _; (repeat' apply And.intro) <;> first | omega | assumption) | skip))
          | with_reducible first | refine W_skip ?_ | refine W_exit ?_ | refine W_ret ?_ | refine W_block ?_ | refine thenG_n ?_ | refine thenG_x ?_ | refine thenG_r ?_ | refine blockG_n ?_ | refine blockG_r ?_ | refine blockG_x ?_ | refine blockG_o (by decide) ?_
        refine W_le (σ' := sgO d x A T more 1) [some 0, some 1, some 2, some 3, some 4, some 5, some 6, some 7] (by
          simp only [go_sem, ↓reduceIte, reduceCtorEq, Nat.reduceAdd, Nat.reduceLT, Nat.reduceLeDiff, Nat.reduceEqDiff, Int.reduceEq, TC.val.injEq, Value.bool.injEq, Value.int.injEq, Value.string.injEq, TV.one.injEq]
          all_goals (repeat' apply And.intro) <;> try first | rfl | trivial | omega | (rw [wrap_id] <;> omega)
          ) ?_
        refine W_loop (fun n σ => ∃ i : Nat, 1 ≤ i ∧ i ≤ d.a.length ∧ n = d.a.length - i ∧ σ = sgO d x A T more i) (d.a.length - 1) ⟨1, by omega, by omega, by omega, rfl⟩ ?_
        rintro n σ ⟨i, hi1, hi2, rfl, rfl⟩
        unfold sgO
        repeat' first
          | refine W_seq ?_
          | (refine W_reg (s_lawOne_K.env []) s_lawOne_lv fun K' hK' => ?_
             simp only [go_sem, ↓reduceIte, ↓reduceDIte, reduceCtorEq, Nat.reduceAdd, Nat.reduceMul, Nat.reduceSub, Nat.reduceLT, Nat.reduceLeDiff, Nat.reduceEqDiff, Nat.reduceBEq, Int.reduceToNat, Int.reduceLE, Int.reduceLT, Int.reduceEq, Int.reduceNe, Int.reduceNeg]
             (repeat' apply And.intro) <;> try first | ((with_reducible refine hK' _ ?_ ?_ ?_); rotate_left; (simp only [go_sem, pr, keepSl, ↓reduceIte, Nat.reduceEqDiff]; try rfl); clear hK' K') | (clear hK' K'; first | omega | (with_reducible refine drawOk_k ?_; kernel_rfl) | assumption | refine Eq.refl _ | exact fun h => ⟨h, fun k => ⟨h, k⟩⟩ | (intro _; (repeat' apply And.intro) <;> first | omega | assumption) | skip))
          | with_reducible first | refine W_skip ?_ | refine W_exit ?_ | refine W_ret ?_ | refine W_block ?_ | refine thenG_n ?_ | refine thenG_x ?_ | refine thenG_r ?_ | refine blockG_n ?_ | refine blockG_r ?_ | refine blockG_x ?_ | refine blockG_o (by decide) ?_
        refine W_cond _ (by exact rfl) (by exact trivial) ?_ ?_ <;> (try simp only [Bool.if_true_left, Bool.if_false_right, Bool.if_true_right, Bool.if_false_left, Bool.decide_eq_true, Bool.or_assoc, Bool.and_assoc, Bool.and_true, Bool.or_false, Bool.true_and, Bool.false_or, decide_eq_true_eq, decide_eq_false_iff_not, not_and, not_or, Classical.not_not, Bool.and_eq_true, Bool.or_eq_true, Bool.not_eq_true', Bool.not_eq_false', Bool.or_eq_false_iff, Bool.and_eq_false_iff, bne_iff_ne, ne_eq, beq_iff_eq, bne_eq_false_iff_eq, same_true, same_false, Int.ofNat_inj]) <;> intro hc
        · have ts := Dk.text_size h1 0 (i : Int)
          have hr := dkRead_ok h1 0 (i : Int) ((sector_iff _ _ _).2 ⟨.inl rfl, by omega, by omega⟩)
          have hrs : (dkRead d 0 (i : Int)).size ≤ 1000000000 := by rw [hr]; omega
          obtain ⟨q1, q2⟩ : 0 ≤ (more.length : Int).tmod 9 ∧ (more.length : Int).tmod 9 < 9 := tmod_in (more.length : Int) 9 (by omega) (by omega)
          obtain ⟨p, hp⟩ : ∃ p, blkTo (i : Int) (dkRead d 0 (i : Int)) ((more.length : Int).tmod 9) = p := ⟨_, rfl⟩
          by_cases hiA : (i : Int) = A
          · have c : ((i : Int) != A) = false := by simp [hiA]
            repeat' first
              | refine W_seq ?_
              | (refine W_reg (s_lawOne_K.env []) s_lawOne_lv fun K' hK' => ?_
                 simp only [go_sem, Dk.small, hp, c, ↓reduceIte, ↓reduceDIte, reduceCtorEq, Nat.reduceAdd, Nat.reduceMul, Nat.reduceSub, Nat.reduceLT, Nat.reduceLeDiff, Nat.reduceEqDiff, Nat.reduceBEq, Int.reduceToNat, Int.reduceLE, Int.reduceLT, Int.reduceEq, Int.reduceNe, Int.reduceNeg]
                 (repeat' apply And.intro) <;> try first | ((with_reducible refine hK' _ ?_ ?_ ?_); rotate_left; (simp only [go_sem, Dk.small, hp, c, pr, keepSl, ↓reduceIte, Nat.reduceEqDiff]; try rfl); clear hK' K') | (clear hK' K'; first | omega | (with_reducible refine drawOk_k ?_; kernel_rfl) | assumption | refine Eq.refl _ | exact fun h => ⟨h, fun k => ⟨h, k⟩⟩ | (intro _; (repeat' apply And.intro) <;> first | omega | assumption) | skip))
              | with_reducible first | refine W_skip ?_ | refine W_exit ?_ | refine W_ret ?_ | refine W_block ?_ | refine thenG_n ?_ | refine thenG_x ?_ | refine thenG_r ?_ | refine blockG_n ?_ | refine blockG_r ?_ | refine blockG_x ?_ | refine blockG_o (by decide) ?_
            refine W_cond _ (by exact rfl) (by exact trivial) ?_ ?_ <;> intro hlit <;> try (cases hlit; done)
            repeat' first
              | refine W_seq ?_
              | (refine W_reg (s_lawOne_K.env []) s_lawOne_lv fun K' hK' => ?_
                 simp only [go_sem, ↓reduceIte, ↓reduceDIte, reduceCtorEq, Nat.reduceAdd, Nat.reduceMul, Nat.reduceSub, Nat.reduceLT, Nat.reduceLeDiff, Nat.reduceEqDiff, Nat.reduceBEq, Int.reduceToNat, Int.reduceLE, Int.reduceLT, Int.reduceEq, Int.reduceNe, Int.reduceNeg]
                 (repeat' apply And.intro) <;> try first | ((with_reducible refine hK' _ ?_ ?_ ?_); rotate_left; (simp only [go_sem, pr, keepSl, ↓reduceIte, Nat.reduceEqDiff]; try rfl); clear hK' K') | (clear hK' K'; first | omega | (with_reducible refine drawOk_k ?_; kernel_rfl) | assumption | refine Eq.refl _ | exact fun h => ⟨h, fun k => ⟨h, k⟩⟩ | (intro _; (repeat' apply And.intro) <;> first | omega | assumption) | skip))
              | with_reducible first | refine W_skip ?_ | refine W_exit ?_ | refine W_ret ?_ | refine W_block ?_ | refine thenG_n ?_ | refine thenG_x ?_ | refine thenG_r ?_ | refine blockG_n ?_ | refine blockG_r ?_ | refine blockG_x ?_ | refine blockG_o (by decide) ?_
            refine ⟨d.a.length - (i + 1), [some 0, some 1, some 2, some 3, some 4, some 5, some 6, some 7], sgO d x A T more (i + 1), by omega, ?_, i + 1, by omega, by omega, rfl, rfl⟩
            simp only [go_sem, ↓reduceIte, reduceCtorEq, Nat.reduceAdd, Nat.reduceLT, Nat.reduceLeDiff, Nat.reduceEqDiff, Int.reduceEq, TC.val.injEq, Value.bool.injEq, Value.int.injEq, Value.string.injEq, TV.one.injEq]
            all_goals (repeat' apply And.intro) <;> try first | rfl | trivial | omega | (rw [wrap_id] <;> omega)
          · have c : ((i : Int) != A) = true := by simp [hiA]
            have hb := all1 (i : Int) ((more.length : Int).tmod 9) (by omega) (by omega) (by omega) (by omega) hiA
            rw [hp] at hb
            repeat' first
              | refine W_seq ?_
              | (refine W_reg (s_lawOne_K.env []) s_lawOne_lv fun K' hK' => ?_
                 simp only [go_sem, Dk.small, hp, c, hb, same_refl, bne_self_eq_false, ↓reduceIte, ↓reduceDIte, reduceCtorEq, Nat.reduceAdd, Nat.reduceMul, Nat.reduceSub, Nat.reduceLT, Nat.reduceLeDiff, Nat.reduceEqDiff, Nat.reduceBEq, Int.reduceToNat, Int.reduceLE, Int.reduceLT, Int.reduceEq, Int.reduceNe, Int.reduceNeg]
                 (repeat' apply And.intro) <;> try first | ((with_reducible refine hK' _ ?_ ?_ ?_); rotate_left; (simp only [go_sem, Dk.small, hp, c, hb, same_refl, bne_self_eq_false, pr, keepSl, ↓reduceIte, Nat.reduceEqDiff]; try rfl); clear hK' K') | (clear hK' K'; first | omega | (with_reducible refine drawOk_k ?_; kernel_rfl) | assumption | refine Eq.refl _ | exact fun h => ⟨h, fun k => ⟨h, k⟩⟩ | (intro _; (repeat' apply And.intro) <;> first | omega | assumption) | skip))
              | with_reducible first | refine W_skip ?_ | refine W_exit ?_ | refine W_ret ?_ | refine W_block ?_ | refine thenG_n ?_ | refine thenG_x ?_ | refine thenG_r ?_ | refine blockG_n ?_ | refine blockG_r ?_ | refine blockG_x ?_ | refine blockG_o (by decide) ?_
            refine W_cond _ (by exact rfl) (by exact trivial) ?_ ?_ <;> intro hlit <;> try (cases hlit; done)
            repeat' first
              | refine W_seq ?_
              | (refine W_reg (s_lawOne_K.env []) s_lawOne_lv fun K' hK' => ?_
                 simp only [go_sem, ↓reduceIte, ↓reduceDIte, reduceCtorEq, Nat.reduceAdd, Nat.reduceMul, Nat.reduceSub, Nat.reduceLT, Nat.reduceLeDiff, Nat.reduceEqDiff, Nat.reduceBEq, Int.reduceToNat, Int.reduceLE, Int.reduceLT, Int.reduceEq, Int.reduceNe, Int.reduceNeg]
                 (repeat' apply And.intro) <;> try first | ((with_reducible refine hK' _ ?_ ?_ ?_); rotate_left; (simp only [go_sem, pr, keepSl, ↓reduceIte, Nat.reduceEqDiff]; try rfl); clear hK' K') | (clear hK' K'; first | omega | (with_reducible refine drawOk_k ?_; kernel_rfl) | assumption | refine Eq.refl _ | exact fun h => ⟨h, fun k => ⟨h, k⟩⟩ | (intro _; (repeat' apply And.intro) <;> first | omega | assumption) | skip))
              | with_reducible first | refine W_skip ?_ | refine W_exit ?_ | refine W_ret ?_ | refine W_block ?_ | refine thenG_n ?_ | refine thenG_x ?_ | refine thenG_r ?_ | refine blockG_n ?_ | refine blockG_r ?_ | refine blockG_x ?_ | refine blockG_o (by decide) ?_
            refine ⟨d.a.length - (i + 1), [some 0, some 1, some 2, some 3, some 4, some 5, some 6, some 7], sgO d x A T more (i + 1), by omega, ?_, i + 1, by omega, by omega, rfl, rfl⟩
            simp only [go_sem, ↓reduceIte, reduceCtorEq, Nat.reduceAdd, Nat.reduceLT, Nat.reduceLeDiff, Nat.reduceEqDiff, Int.reduceEq, TC.val.injEq, Value.bool.injEq, Value.int.injEq, Value.string.injEq, TV.one.injEq]
            all_goals (repeat' apply And.intro) <;> try first | rfl | trivial | omega | (rw [wrap_id] <;> omega)
        · have hff := fallen_flush x []
          obtain ⟨f1, f2, f3⟩ := flush_small x
          obtain ⟨f, hf⟩ : ∃ f, dkFlush x = f := ⟨_, rfl⟩
          rw [hf] at hff f1 f2 f3 all2
          have f4 : f.l = [] := List.length_eq_zero_iff.1 f3
          have f5 : Dk.mk f.a f.b [] = f := Dk.ext' rfl rfl f4.symm
          obtain ⟨p, hp⟩ : ∃ p, blkTo A T 1 = p := ⟨_, rfl⟩
          rw [hp] at all2
          by_cases hA1 : A < 1
          · have c : decide (A < 1) = true := by simp [hA1]
            repeat' first
              | refine W_seq ?_
              | (refine W_reg (s_lawOne_K.env []) s_lawOne_lv fun K' hK' => ?_
                 simp only [go_sem, Dk.small, hp, hf, hff, f3, f5, c, ↓reduceIte, ↓reduceDIte, reduceCtorEq, Nat.reduceAdd, Nat.reduceMul, Nat.reduceSub, Nat.reduceLT, Nat.reduceLeDiff, Nat.reduceEqDiff, Nat.reduceBEq, Int.reduceToNat, Int.reduceLE, Int.reduceLT, Int.reduceEq, Int.reduceNe, Int.reduceNeg]
                 (repeat' apply And.intro) <;> try first | ((with_reducible refine hK' _ ?_ ?_ ?_); rotate_left; (simp only [go_sem, Dk.small, hp, hf, hff, f3, f5, c, pr, keepSl, ↓reduceIte, Nat.reduceEqDiff]; try rfl); clear hK' K') | (clear hK' K'; first | omega | (with_reducible refine drawOk_k ?_; kernel_rfl) | assumption | refine Eq.refl _ | exact fun h => ⟨h, fun k => ⟨h, k⟩⟩ | (intro _; (repeat' apply And.intro) <;> first | omega | assumption) | skip))
              | with_reducible first | refine W_skip ?_ | refine W_exit ?_ | refine W_ret ?_ | refine W_block ?_ | refine thenG_n ?_ | refine thenG_x ?_ | refine thenG_r ?_ | refine blockG_n ?_ | refine blockG_r ?_ | refine blockG_x ?_ | refine blockG_o (by decide) ?_
            refine ⟨by (simp only [go_sem, ↓reduceIte, reduceCtorEq, Nat.reduceAdd, Nat.reduceLT, Nat.reduceLeDiff, Nat.reduceEqDiff]) <;> trivial, [], ?_⟩
            all_goals try simp only [go_sem, ↓reduceIte, reduceCtorEq, Nat.reduceAdd, Nat.reduceLT, Nat.reduceLeDiff, Nat.reduceEqDiff, Int.reduceEq, TC.val.injEq, Value.bool.injEq, Value.int.injEq, Value.string.injEq, TV.one.injEq]
            all_goals (repeat' apply And.intro) <;> try first | rfl | trivial | omega | (rw [wrap_id] <;> omega)
          · have c : decide (A < 1) = false := by simp [hA1]
            have c2 := all2 (by omega)
            repeat' first
              | refine W_seq ?_
              | (refine W_reg (s_lawOne_K.env []) s_lawOne_lv fun K' hK' => ?_
                 simp only [go_sem, Dk.small, hp, hf, hff, f3, f5, c, c2, same_refl, beq_self_eq_true, ↓reduceIte, ↓reduceDIte, reduceCtorEq, Nat.reduceAdd, Nat.reduceMul, Nat.reduceSub, Nat.reduceLT, Nat.reduceLeDiff, Nat.reduceEqDiff, Nat.reduceBEq, Int.reduceToNat, Int.reduceLE, Int.reduceLT, Int.reduceEq, Int.reduceNe, Int.reduceNeg]
                 (repeat' apply And.intro) <;> try first | ((with_reducible refine hK' _ ?_ ?_ ?_); rotate_left; (simp only [go_sem, Dk.small, hp, hf, hff, f3, f5, c, c2, same_refl, beq_self_eq_true, pr, keepSl, ↓reduceIte, Nat.reduceEqDiff]; try rfl); clear hK' K') | (clear hK' K'; first | omega | (with_reducible refine drawOk_k ?_; kernel_rfl) | assumption | refine Eq.refl _ | exact fun h => ⟨h, fun k => ⟨h, k⟩⟩ | (intro _; (repeat' apply And.intro) <;> first | omega | assumption) | skip))
              | with_reducible first | refine W_skip ?_ | refine W_exit ?_ | refine W_ret ?_ | refine W_block ?_ | refine thenG_n ?_ | refine thenG_x ?_ | refine thenG_r ?_ | refine blockG_n ?_ | refine blockG_r ?_ | refine blockG_x ?_ | refine blockG_o (by decide) ?_
            refine ⟨by (simp only [go_sem, ↓reduceIte, reduceCtorEq, Nat.reduceAdd, Nat.reduceLT, Nat.reduceLeDiff, Nat.reduceEqDiff]) <;> trivial, [], ?_⟩
            all_goals try simp only [go_sem, ↓reduceIte, reduceCtorEq, Nat.reduceAdd, Nat.reduceLT, Nat.reduceLeDiff, Nat.reduceEqDiff, Int.reduceEq, TC.val.injEq, Value.bool.injEq, Value.int.injEq, Value.string.injEq, TV.one.injEq]
            all_goals (repeat' apply And.intro) <;> try first | rfl | trivial | omega | (rw [wrap_id] <;> omega)
  · simp [no] at hp
end Go.Proofs.Ytjdpppbegjnpaaa
