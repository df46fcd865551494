/- The law of decay: for every code FnDiskRot answers true. -/
import Derived.Test.YtjdpppbegjnpaaaTPb
import Derived.Test.YtjdpppbegjnpaaaTFm
import Derived.Test.YtjdpppbegjnpaaaTFk
import Derived.Test.YtjdpppbegjnpaaaTTie
set_option linter.unusedSimpArgs false
set_option linter.unusedVariables false
set_option linter.unusedSectionVars false
namespace Go.Proofs.Ytjdpppbegjnpaaa
open Go.RowKit

/-- The law's state: d, x its decayed one; side s is at work, n sectors are turned. -/
@[go_sem] def sgRot (d x : Dk) (S A K M : Int) (s : Nat) (n : Int) : Sg := ⟨[(3, .one (.ptr 3 0)), (4, vi S), (5, vi A), (6, vi K), (7, vi M), (8, .one (.ptr 7 0)), (9, vi n), (10, vi s)],
  [some (.arr .str d.a), some (.arr .str d.b), some (.arr .late d.l), some (.cells [.osl .str 0 0 d.a.length, .osl .str 1 0 d.b.length, .osl .late 2 0 d.l.length]),
   some (.arr .str x.a), some (.arr .str x.b), some (.arr .late x.l), some (.cells [.osl .str 4 0 x.a.length, .osl .str 5 0 x.b.length, .osl .late 6 0 x.l.length])], []⟩
@[go_sem] def sgRot2 (d x : Dk) (S A K M : Int) (s : Nat) (n : Int) (a : Nat) : Sg := ⟨(11, vi a) :: (sgRot d x S A K M s n).sl, (sgRot d x S A K M s n).tab, []⟩
def nAt (S A : Int) (s a : Nat) (n : Int) : Prop := n = 0 ∨ (n = 1 ∧ (S < s ∨ (S = s ∧ A < a)))
theorem s_lawRot_e : EnterOk Try.prog 3 := ⟨_, Try.func3, rfl, by decide⟩
@[go_sem] def s_lawRot_lv : List (List Nat) := [[0], [0, 14], [2], [3, 4, 5, 6, 7], [3, 4, 5, 6, 7, 8], [3, 4, 5, 6, 7, 8, 37], [2], [3, 4, 5, 6, 7, 8, 40], [2], [3, 4, 5, 6, 7, 8, 9], [3, 4, 5, 6, 7, 8, 9, 10], [3, 4, 5, 6, 7, 8, 9, 10, 47], [3, 4, 5, 6, 7, 8, 9, 10], [3, 4, 5, 6, 7, 8, 9, 10, 11], [3, 4, 5, 6, 7, 8, 9, 10, 11, 56], [3, 4, 5, 6, 7, 8, 9, 10, 11], [3, 4, 5, 6, 7, 8, 9, 10, 11, 73], [3, 4, 5, 6, 7, 8, 9, 10, 11], [3, 4, 5, 6, 7, 8, 9, 10, 11, 102], [2], [2]]
@[go_sem] noncomputable def s_lawRot_K : Known := ((((((Known.nil).cons 9 ctDrawRot s_drawRot s_drawRot_e).cons 10 ctDiskRot s_rot s_rot_e).cons 12 ctDiskRot s_specRot s_specRot_e).cons 11 ctDiskSame s_diskSame s_diskSame_e).cons 13 ctDiskOk s_specDiskOk s_specDiskOk_e).cons 14 ctSumOf s_sumOf s_sumOf_e
set_option maxHeartbeats 8000000 in
theorem s_lawRot : Sound Try.prog 3 ctLaw1 := by
  refine sound_intro (E := ⟨ti, s_lawRot_K.Γ, []⟩) (s_lawRot_K.env []) Try.func3 Try.ntmps3 rfl (rs := [.tmp 2]) rfl ?_
  intro args os hp
  unfold ctLaw1 at hp ⊢
  dsimp only at hp ⊢
  split at hp
  · rename_i code
    refine ⟨by simp, fun φ0 w0 => ?_⟩
    clear hp
    repeat' first
      | refine W_seq ?_
      | (refine W_region_l (s_lawRot_K.env []) s_lawRot_lv fun K' hK' => ?_
         simp only [go_sem, ↓reduceIte, ↓reduceDIte, reduceCtorEq, Nat.reduceAdd, Nat.reduceMul, Nat.reduceSub, Nat.reduceLT, Nat.reduceLeDiff, Nat.reduceEqDiff, Nat.reduceBEq, Int.reduceToNat, Int.reduceLE, Int.reduceLT, Int.reduceEq, Int.reduceNe, Int.reduceNeg]
         (repeat' apply And.intro) <;> try first | ((with_reducible refine hK' _ ?_ ?_ ?_); rotate_left; (simp only [go_sem, pr, keepSl, ↓reduceIte, Nat.reduceEqDiff]; try rfl); clear hK' K') | (clear hK' K'; first | omega | (with_reducible refine drawOk_k ?_; kernel_rfl) | assumption | refine Eq.refl _ | skip))
      | (refine W_drawn_l (s_lawRot_K.env []) mixed s_lawRot_lv fun K' hK' => ?_
         simp only [go_sem, ↓reduceIte, ↓reduceDIte, reduceCtorEq, Nat.reduceAdd, Nat.reduceMul, Nat.reduceSub, Nat.reduceLT, Nat.reduceLeDiff, Nat.reduceEqDiff, Nat.reduceBEq, Int.reduceToNat, Int.reduceLE, Int.reduceLT, Int.reduceEq, Int.reduceNe, Int.reduceNeg]
         (repeat' apply And.intro) <;> try first | ((with_reducible refine hK' _ ?_ ?_ ?_); rotate_left; (simp only [go_sem, pr, keepSl, ↓reduceIte, Nat.reduceEqDiff]; try rfl); clear hK' K') | (clear hK' K'; first | omega | (with_reducible refine drawOk_k ?_; kernel_rfl) | assumption | refine Eq.refl _ | skip))
      | refine W_skip ?_
      | refine W_exit ?_
      | refine W_ret ?_
      | refine W_block ?_
      | with_reducible refine thenG_n ?_
      | with_reducible refine thenG_x ?_
      | with_reducible refine thenG_r ?_
      | with_reducible refine blockG_n ?_
      | with_reducible refine blockG_r ?_
      | with_reducible refine blockG_x ?_
      | with_reducible refine blockG_o (by decide) ?_
    refine W_cond _ (by exact rfl) (by exact trivial) ?_ ?_ <;> (try simp only [Bool.if_true_left, Bool.if_false_right, Bool.if_true_right, Bool.if_false_left, Bool.decide_eq_true, Bool.or_assoc, Bool.and_assoc, Bool.and_true, Bool.or_false, Bool.true_and, Bool.false_or, decide_eq_true_eq, decide_eq_false_iff_not, not_and, not_or, Classical.not_not, Bool.and_eq_true, Bool.or_eq_true, Bool.not_eq_true', Bool.not_eq_false', Bool.or_eq_false_iff, Bool.and_eq_false_iff, bne_iff_ne, ne_eq, beq_iff_eq, bne_eq_false_iff_eq, same_true, same_false, Int.ofNat_inj]) <;> intro hlen
    · repeat' first
        | refine W_seq ?_
        | (refine W_region_l (s_lawRot_K.env []) s_lawRot_lv fun K' hK' => ?_
           simp only [go_sem, ↓reduceIte, ↓reduceDIte, reduceCtorEq, Nat.reduceAdd, Nat.reduceMul, Nat.reduceSub, Nat.reduceLT, Nat.reduceLeDiff, Nat.reduceEqDiff, Nat.reduceBEq, Int.reduceToNat, Int.reduceLE, Int.reduceLT, Int.reduceEq, Int.reduceNe, Int.reduceNeg]
           (repeat' apply And.intro) <;> try first | ((with_reducible refine hK' _ ?_ ?_ ?_); rotate_left; (simp only [go_sem, pr, keepSl, ↓reduceIte, Nat.reduceEqDiff]; try rfl); clear hK' K') | (clear hK' K'; first | omega | (with_reducible refine drawOk_k ?_; kernel_rfl) | assumption | refine Eq.refl _ | skip))
        | (refine W_drawn_l (s_lawRot_K.env []) mixed s_lawRot_lv fun K' hK' => ?_
           simp only [go_sem, ↓reduceIte, ↓reduceDIte, reduceCtorEq, Nat.reduceAdd, Nat.reduceMul, Nat.reduceSub, Nat.reduceLT, Nat.reduceLeDiff, Nat.reduceEqDiff, Nat.reduceBEq, Int.reduceToNat, Int.reduceLE, Int.reduceLT, Int.reduceEq, Int.reduceNe, Int.reduceNeg]
           (repeat' apply And.intro) <;> try first | ((with_reducible refine hK' _ ?_ ?_ ?_); rotate_left; (simp only [go_sem, pr, keepSl, ↓reduceIte, Nat.reduceEqDiff]; try rfl); clear hK' K') | (clear hK' K'; first | omega | (with_reducible refine drawOk_k ?_; kernel_rfl) | assumption | refine Eq.refl _ | skip))
        | refine W_skip ?_
        | refine W_exit ?_
        | refine W_ret ?_
        | refine W_block ?_
        | with_reducible refine thenG_n ?_
        | with_reducible refine thenG_x ?_
        | with_reducible refine thenG_r ?_
        | with_reducible refine blockG_n ?_
        | with_reducible refine blockG_r ?_
        | with_reducible refine blockG_x ?_
        | with_reducible refine blockG_o (by decide) ?_
      refine ⟨by (simp only [go_sem, ↓reduceIte, reduceCtorEq, Nat.reduceAdd, Nat.reduceLT, Nat.reduceLeDiff, Nat.reduceEqDiff]) <;> trivial, [], ?_⟩
      all_goals try simp only [go_sem, ↓reduceIte, reduceCtorEq, Nat.reduceAdd, Nat.reduceLT, Nat.reduceLeDiff, Nat.reduceEqDiff, Int.reduceEq, TC.val.injEq, Value.bool.injEq, Value.int.injEq, Value.string.injEq, TV.one.injEq]
      all_goals (repeat' apply And.intro) <;> try first | rfl | trivial | omega | (rw [wrap_id] <;> omega)
    · obtain ⟨d1, d2, d3⟩ := rotD_all code
      obtain ⟨d, hd⟩ : ∃ d, rotD code = d := ⟨_, rfl⟩
      obtain ⟨S, hS⟩ : ∃ S, rotS code = S := ⟨_, rfl⟩
      obtain ⟨A, hA⟩ : ∃ A, rotA code = A := ⟨_, rfl⟩
      obtain ⟨K, hK⟩ : ∃ K, rotK code = K := ⟨_, rfl⟩
      obtain ⟨M, hM⟩ : ∃ M, rotM code = M := ⟨_, rfl⟩
      rw [hd] at d1 d2 d3
      have es := Dk.eqv_self (dkRot d S A K M)
      have sm : (dkRot d S A K M).a.length ≤ 120 ∧ (dkRot d S A K M).b.length ≤ 120 ∧ (dkRot d S A K M).l.length ≤ 600 := by
        by_cases hok : d.ok = true
        · exact Dk.ok_small (dkRot_ok hok S A K M)
        · unfold dkRot; rw [if_neg hok]; exact ⟨Nat.zero_le _, Nat.zero_le _, Nat.zero_le _⟩
      obtain ⟨s1, s2, s3⟩ := sm
      repeat' first
        | refine W_seq ?_
        | (refine W_region_l (s_lawRot_K.env []) s_lawRot_lv fun K' hK' => ?_
           simp only [go_sem, Dk.small, hd, hS, hA, hK, hM, es, ↓reduceIte, ↓reduceDIte, reduceCtorEq, Nat.reduceAdd, Nat.reduceMul, Nat.reduceSub, Nat.reduceLT, Nat.reduceLeDiff, Nat.reduceEqDiff, Nat.reduceBEq, Int.reduceToNat, Int.reduceLE, Int.reduceLT, Int.reduceEq, Int.reduceNe, Int.reduceNeg]
           (repeat' apply And.intro) <;> try first | ((with_reducible refine hK' _ ?_ ?_ ?_); rotate_left; (simp only [go_sem, Dk.small, hd, hS, hA, hK, hM, es, pr, keepSl, ↓reduceIte, Nat.reduceEqDiff]; try rfl); clear hK' K') | (clear hK' K'; first | omega | (with_reducible refine drawOk_k ?_; kernel_rfl) | assumption | refine Eq.refl _ | skip))
        | (refine W_drawn_l (s_lawRot_K.env []) mixed s_lawRot_lv fun K' hK' => ?_
           simp only [go_sem, Dk.small, hd, hS, hA, hK, hM, es, ↓reduceIte, ↓reduceDIte, reduceCtorEq, Nat.reduceAdd, Nat.reduceMul, Nat.reduceSub, Nat.reduceLT, Nat.reduceLeDiff, Nat.reduceEqDiff, Nat.reduceBEq, Int.reduceToNat, Int.reduceLE, Int.reduceLT, Int.reduceEq, Int.reduceNe, Int.reduceNeg]
           (repeat' apply And.intro) <;> try first | ((with_reducible refine hK' _ ?_ ?_ ?_); rotate_left; (simp only [go_sem, Dk.small, hd, hS, hA, hK, hM, es, pr, keepSl, ↓reduceIte, Nat.reduceEqDiff]; try rfl); clear hK' K') | (clear hK' K'; first | omega | (with_reducible refine drawOk_k ?_; kernel_rfl) | assumption | refine Eq.refl _ | skip))
        | refine W_skip ?_
        | refine W_exit ?_
        | refine W_ret ?_
        | refine W_block ?_
        | with_reducible refine thenG_n ?_
        | with_reducible refine thenG_x ?_
        | with_reducible refine thenG_r ?_
        | with_reducible refine blockG_n ?_
        | with_reducible refine blockG_r ?_
        | with_reducible refine blockG_x ?_
        | with_reducible refine blockG_o (by decide) ?_
      refine W_cond _ (by exact rfl) (by exact trivial) ?_ ?_ <;> intro hlit <;> try (cases hlit; done)
      repeat' first
        | refine W_seq ?_
        | (refine W_region_l (s_lawRot_K.env []) s_lawRot_lv fun K' hK' => ?_
           simp only [go_sem, Dk.small, ↓reduceIte, ↓reduceDIte, reduceCtorEq, Nat.reduceAdd, Nat.reduceMul, Nat.reduceSub, Nat.reduceLT, Nat.reduceLeDiff, Nat.reduceEqDiff, Nat.reduceBEq, Int.reduceToNat, Int.reduceLE, Int.reduceLT, Int.reduceEq, Int.reduceNe, Int.reduceNeg]
           (repeat' apply And.intro) <;> try first | ((with_reducible refine hK' _ ?_ ?_ ?_); rotate_left; (simp only [go_sem, Dk.small, pr, keepSl, ↓reduceIte, Nat.reduceEqDiff]; try rfl); clear hK' K') | (clear hK' K'; first | omega | (with_reducible refine drawOk_k ?_; kernel_rfl) | assumption | refine Eq.refl _ | skip))
        | (refine W_drawn_l (s_lawRot_K.env []) mixed s_lawRot_lv fun K' hK' => ?_
           simp only [go_sem, Dk.small, ↓reduceIte, ↓reduceDIte, reduceCtorEq, Nat.reduceAdd, Nat.reduceMul, Nat.reduceSub, Nat.reduceLT, Nat.reduceLeDiff, Nat.reduceEqDiff, Nat.reduceBEq, Int.reduceToNat, Int.reduceLE, Int.reduceLT, Int.reduceEq, Int.reduceNe, Int.reduceNeg]
           (repeat' apply And.intro) <;> try first | ((with_reducible refine hK' _ ?_ ?_ ?_); rotate_left; (simp only [go_sem, Dk.small, pr, keepSl, ↓reduceIte, Nat.reduceEqDiff]; try rfl); clear hK' K') | (clear hK' K'; first | omega | (with_reducible refine drawOk_k ?_; kernel_rfl) | assumption | refine Eq.refl _ | skip))
        | refine W_skip ?_
        | refine W_exit ?_
        | refine W_ret ?_
        | refine W_block ?_
        | with_reducible refine thenG_n ?_
        | with_reducible refine thenG_x ?_
        | with_reducible refine thenG_r ?_
        | with_reducible refine blockG_n ?_
        | with_reducible refine blockG_r ?_
        | with_reducible refine blockG_x ?_
        | with_reducible refine blockG_o (by decide) ?_
      refine W_cond _ (by exact rfl) (by exact trivial) ?_ ?_ <;> (try simp only [Bool.if_true_left, Bool.if_false_right, Bool.if_true_right, Bool.if_false_left, Bool.decide_eq_true, Bool.or_assoc, Bool.and_assoc, Bool.and_true, Bool.or_false, Bool.true_and, Bool.false_or, decide_eq_true_eq, decide_eq_false_iff_not, not_and, not_or, Classical.not_not, Bool.and_eq_true, Bool.or_eq_true, Bool.not_eq_true', Bool.not_eq_false', Bool.or_eq_false_iff, Bool.and_eq_false_iff, bne_iff_ne, ne_eq, beq_iff_eq, bne_eq_false_iff_eq, same_true, same_false, Int.ofNat_inj]) <;> intro hok
      · have ex : dkRot d S A K M = .nil := by unfold dkRot; rw [hok]; rfl
        rw [ex]
        repeat' first
          | refine W_seq ?_
          | (refine W_region_l (s_lawRot_K.env []) s_lawRot_lv fun K' hK' => ?_
             simp only [go_sem, Dk.nil, ↓reduceIte, ↓reduceDIte, reduceCtorEq, Nat.reduceAdd, Nat.reduceMul, Nat.reduceSub, Nat.reduceLT, Nat.reduceLeDiff, Nat.reduceEqDiff, Nat.reduceBEq, Int.reduceToNat, Int.reduceLE, Int.reduceLT, Int.reduceEq, Int.reduceNe, Int.reduceNeg]
             (repeat' apply And.intro) <;> try first | ((with_reducible refine hK' _ ?_ ?_ ?_); rotate_left; (simp only [go_sem, Dk.nil, pr, keepSl, ↓reduceIte, Nat.reduceEqDiff]; try rfl); clear hK' K') | (clear hK' K'; first | omega | (with_reducible refine drawOk_k ?_; kernel_rfl) | assumption | refine Eq.refl _ | skip))
          | (refine W_drawn_l (s_lawRot_K.env []) mixed s_lawRot_lv fun K' hK' => ?_
             simp only [go_sem, Dk.nil, ↓reduceIte, ↓reduceDIte, reduceCtorEq, Nat.reduceAdd, Nat.reduceMul, Nat.reduceSub, Nat.reduceLT, Nat.reduceLeDiff, Nat.reduceEqDiff, Nat.reduceBEq, Int.reduceToNat, Int.reduceLE, Int.reduceLT, Int.reduceEq, Int.reduceNe, Int.reduceNeg]
             (repeat' apply And.intro) <;> try first | ((with_reducible refine hK' _ ?_ ?_ ?_); rotate_left; (simp only [go_sem, Dk.nil, pr, keepSl, ↓reduceIte, Nat.reduceEqDiff]; try rfl); clear hK' K') | (clear hK' K'; first | omega | (with_reducible refine drawOk_k ?_; kernel_rfl) | assumption | refine Eq.refl _ | skip))
          | refine W_skip ?_
          | refine W_exit ?_
          | refine W_ret ?_
          | refine W_block ?_
          | with_reducible refine thenG_n ?_
          | with_reducible refine thenG_x ?_
          | with_reducible refine thenG_r ?_
          | with_reducible refine blockG_n ?_
          | with_reducible refine blockG_r ?_
          | with_reducible refine blockG_x ?_
          | with_reducible refine blockG_o (by decide) ?_
        refine ⟨by (simp only [go_sem, ↓reduceIte, reduceCtorEq, Nat.reduceAdd, Nat.reduceLT, Nat.reduceLeDiff, Nat.reduceEqDiff]) <;> trivial, [], ?_⟩
        all_goals try simp only [go_sem, ↓reduceIte, reduceCtorEq, Nat.reduceAdd, Nat.reduceLT, Nat.reduceLeDiff, Nat.reduceEqDiff, Int.reduceEq, TC.val.injEq, Value.bool.injEq, Value.int.injEq, Value.string.injEq, TV.one.injEq]
        all_goals (repeat' apply And.intro) <;> try first | rfl | trivial | omega | (rw [wrap_id] <;> omega)
      · have hxo := dkRot_ok hok S A K M
        have hx := dkRot_at hok S A K M
        obtain ⟨x1, x2, x3⟩ := dkRot_len hok S A K M
        have hxx := dkRot_dkRot hok S A K M
        have zd := Dk.ok_sm hok
        have zx := Dk.ok_sm hxo
        obtain ⟨-, -, hab, -⟩ := (Dk.ok_iff _).1 hok
        generalize dkRot d S A K M = x at *
        repeat' first
          | refine W_seq ?_
          | (refine W_region_l (s_lawRot_K.env []) s_lawRot_lv fun K' hK' => ?_
             simp only [go_sem, ↓reduceIte, ↓reduceDIte, reduceCtorEq, Nat.reduceAdd, Nat.reduceMul, Nat.reduceSub, Nat.reduceLT, Nat.reduceLeDiff, Nat.reduceEqDiff, Nat.reduceBEq, Int.reduceToNat, Int.reduceLE, Int.reduceLT, Int.reduceEq, Int.reduceNe, Int.reduceNeg]
             (repeat' apply And.intro) <;> try first | ((with_reducible refine hK' _ ?_ ?_ ?_); rotate_left; (simp only [go_sem, pr, keepSl, ↓reduceIte, Nat.reduceEqDiff]; try rfl); clear hK' K') | (clear hK' K'; first | omega | (with_reducible refine drawOk_k ?_; kernel_rfl) | assumption | refine Eq.refl _ | skip))
          | (refine W_drawn_l (s_lawRot_K.env []) mixed s_lawRot_lv fun K' hK' => ?_
             simp only [go_sem, ↓reduceIte, ↓reduceDIte, reduceCtorEq, Nat.reduceAdd, Nat.reduceMul, Nat.reduceSub, Nat.reduceLT, Nat.reduceLeDiff, Nat.reduceEqDiff, Nat.reduceBEq, Int.reduceToNat, Int.reduceLE, Int.reduceLT, Int.reduceEq, Int.reduceNe, Int.reduceNeg]
             (repeat' apply And.intro) <;> try first | ((with_reducible refine hK' _ ?_ ?_ ?_); rotate_left; (simp only [go_sem, pr, keepSl, ↓reduceIte, Nat.reduceEqDiff]; try rfl); clear hK' K') | (clear hK' K'; first | omega | (with_reducible refine drawOk_k ?_; kernel_rfl) | assumption | refine Eq.refl _ | skip))
          | refine W_skip ?_
          | refine W_exit ?_
          | refine W_ret ?_
          | refine W_block ?_
          | with_reducible refine thenG_n ?_
          | with_reducible refine thenG_x ?_
          | with_reducible refine thenG_r ?_
          | with_reducible refine blockG_n ?_
          | with_reducible refine blockG_r ?_
          | with_reducible refine blockG_x ?_
          | with_reducible refine blockG_o (by decide) ?_
        refine W_le (σ' := sgRot d x S A K M 0 0) [some 0, some 1, some 2, some 3, some 4, some 5, some 6, some 7] (by
          simp only [go_sem, ↓reduceIte, reduceCtorEq, Nat.reduceAdd, Nat.reduceLT, Nat.reduceLeDiff, Nat.reduceEqDiff, Int.reduceEq, TC.val.injEq, Value.bool.injEq, Value.int.injEq, Value.string.injEq, TV.one.injEq]
          all_goals (repeat' apply And.intro) <;> try first | rfl | trivial | omega | (rw [wrap_id] <;> omega)
          ) ?_
        refine W_loop (fun n σ => ∃ (s : Nat) (c : Int), s ≤ 2 ∧ n = 2 - s ∧ nAt S A s 0 c ∧ σ = sgRot d x S A K M s c) 2 ⟨0, 0, by omega, by omega, .inl rfl, rfl⟩ ?_
        rintro n σ ⟨s, c, hs, rfl, hn, rfl⟩
        unfold sgRot
        repeat' first
          | refine W_seq ?_
          | (refine W_region_l (s_lawRot_K.env []) s_lawRot_lv fun K' hK' => ?_
             simp only [go_sem, ↓reduceIte, ↓reduceDIte, reduceCtorEq, Nat.reduceAdd, Nat.reduceMul, Nat.reduceSub, Nat.reduceLT, Nat.reduceLeDiff, Nat.reduceEqDiff, Nat.reduceBEq, Int.reduceToNat, Int.reduceLE, Int.reduceLT, Int.reduceEq, Int.reduceNe, Int.reduceNeg]
             (repeat' apply And.intro) <;> try first | ((with_reducible refine hK' _ ?_ ?_ ?_); rotate_left; (simp only [go_sem, pr, keepSl, ↓reduceIte, Nat.reduceEqDiff]; try rfl); clear hK' K') | (clear hK' K'; first | omega | (with_reducible refine drawOk_k ?_; kernel_rfl) | assumption | refine Eq.refl _ | skip))
          | (refine W_drawn_l (s_lawRot_K.env []) mixed s_lawRot_lv fun K' hK' => ?_
             simp only [go_sem, ↓reduceIte, ↓reduceDIte, reduceCtorEq, Nat.reduceAdd, Nat.reduceMul, Nat.reduceSub, Nat.reduceLT, Nat.reduceLeDiff, Nat.reduceEqDiff, Nat.reduceBEq, Int.reduceToNat, Int.reduceLE, Int.reduceLT, Int.reduceEq, Int.reduceNe, Int.reduceNeg]
             (repeat' apply And.intro) <;> try first | ((with_reducible refine hK' _ ?_ ?_ ?_); rotate_left; (simp only [go_sem, pr, keepSl, ↓reduceIte, Nat.reduceEqDiff]; try rfl); clear hK' K') | (clear hK' K'; first | omega | (with_reducible refine drawOk_k ?_; kernel_rfl) | assumption | refine Eq.refl _ | skip))
          | refine W_skip ?_
          | refine W_exit ?_
          | refine W_ret ?_
          | refine W_block ?_
          | with_reducible refine thenG_n ?_
          | with_reducible refine thenG_x ?_
          | with_reducible refine thenG_r ?_
          | with_reducible refine blockG_n ?_
          | with_reducible refine blockG_r ?_
          | with_reducible refine blockG_x ?_
          | with_reducible refine blockG_o (by decide) ?_
        refine W_cond _ (by exact rfl) (by exact trivial) ?_ ?_ <;> (try simp only [Bool.if_true_left, Bool.if_false_right, Bool.if_true_right, Bool.if_false_left, Bool.decide_eq_true, Bool.or_assoc, Bool.and_assoc, Bool.and_true, Bool.or_false, Bool.true_and, Bool.false_or, decide_eq_true_eq, decide_eq_false_iff_not, not_and, not_or, Classical.not_not, Bool.and_eq_true, Bool.or_eq_true, Bool.not_eq_true', Bool.not_eq_false', Bool.or_eq_false_iff, Bool.and_eq_false_iff, bne_iff_ne, ne_eq, beq_iff_eq, bne_eq_false_iff_eq, same_true, same_false, Int.ofNat_inj]) <;> intro hlt
        · have hs2 : s = 0 ∨ s = 1 := by omega
          repeat' first
            | refine W_seq ?_
            | (refine W_region_l (s_lawRot_K.env []) s_lawRot_lv fun K' hK' => ?_
               simp only [go_sem, ↓reduceIte, ↓reduceDIte, reduceCtorEq, Nat.reduceAdd, Nat.reduceMul, Nat.reduceSub, Nat.reduceLT, Nat.reduceLeDiff, Nat.reduceEqDiff, Nat.reduceBEq, Int.reduceToNat, Int.reduceLE, Int.reduceLT, Int.reduceEq, Int.reduceNe, Int.reduceNeg]
               (repeat' apply And.intro) <;> try first | ((with_reducible refine hK' _ ?_ ?_ ?_); rotate_left; (simp only [go_sem, pr, keepSl, ↓reduceIte, Nat.reduceEqDiff]; try rfl); clear hK' K') | (clear hK' K'; first | omega | (with_reducible refine drawOk_k ?_; kernel_rfl) | assumption | refine Eq.refl _ | skip))
            | (refine W_drawn_l (s_lawRot_K.env []) mixed s_lawRot_lv fun K' hK' => ?_
               simp only [go_sem, ↓reduceIte, ↓reduceDIte, reduceCtorEq, Nat.reduceAdd, Nat.reduceMul, Nat.reduceSub, Nat.reduceLT, Nat.reduceLeDiff, Nat.reduceEqDiff, Nat.reduceBEq, Int.reduceToNat, Int.reduceLE, Int.reduceLT, Int.reduceEq, Int.reduceNe, Int.reduceNeg]
               (repeat' apply And.intro) <;> try first | ((with_reducible refine hK' _ ?_ ?_ ?_); rotate_left; (simp only [go_sem, pr, keepSl, ↓reduceIte, Nat.reduceEqDiff]; try rfl); clear hK' K') | (clear hK' K'; first | omega | (with_reducible refine drawOk_k ?_; kernel_rfl) | assumption | refine Eq.refl _ | skip))
            | refine W_skip ?_
            | refine W_exit ?_
            | refine W_ret ?_
            | refine W_block ?_
            | with_reducible refine thenG_n ?_
            | with_reducible refine thenG_x ?_
            | with_reducible refine thenG_r ?_
            | with_reducible refine blockG_n ?_
            | with_reducible refine blockG_r ?_
            | with_reducible refine blockG_x ?_
            | with_reducible refine blockG_o (by decide) ?_
          refine W_le (σ' := sgRot2 d x S A K M s c 0) [some 0, some 1, some 2, some 3, some 4, some 5, some 6, some 7] (by
            simp only [go_sem, ↓reduceIte, reduceCtorEq, Nat.reduceAdd, Nat.reduceLT, Nat.reduceLeDiff, Nat.reduceEqDiff, Int.reduceEq, TC.val.injEq, Value.bool.injEq, Value.int.injEq, Value.string.injEq, TV.one.injEq]
            all_goals (repeat' apply And.intro) <;> try first | rfl | trivial | omega | (rw [wrap_id] <;> omega)
            ) ?_
          refine W_loop (fun n σ => ∃ (a : Nat) (c : Int), a ≤ d.a.length ∧ n = d.a.length - a ∧ nAt S A s a c ∧ σ = sgRot2 d x S A K M s c a) d.a.length ⟨0, c, by omega, by omega, hn, rfl⟩ ?_
          rintro n σ ⟨a, c2, ha, rfl, hn2, rfl⟩
          rcases hs2 with hs2 | hs2
          all_goals
            unfold sgRot2 sgRot
            repeat' first
              | refine W_seq ?_
              | (refine W_region_l (s_lawRot_K.env []) s_lawRot_lv fun K' hK' => ?_
                 simp only [go_sem, hs2, ↓reduceIte, ↓reduceDIte, reduceCtorEq, Nat.reduceAdd, Nat.reduceMul, Nat.reduceSub, Nat.reduceLT, Nat.reduceLeDiff, Nat.reduceEqDiff, Nat.reduceBEq, Int.reduceToNat, Int.reduceLE, Int.reduceLT, Int.reduceEq, Int.reduceNe, Int.reduceNeg]
                 (repeat' apply And.intro) <;> try first | ((with_reducible refine hK' _ ?_ ?_ ?_); rotate_left; (simp only [go_sem, hs2, pr, keepSl, ↓reduceIte, Nat.reduceEqDiff]; try rfl); clear hK' K') | (clear hK' K'; first | omega | (with_reducible refine drawOk_k ?_; kernel_rfl) | assumption | refine Eq.refl _ | skip))
              | (refine W_drawn_l (s_lawRot_K.env []) mixed s_lawRot_lv fun K' hK' => ?_
                 simp only [go_sem, hs2, ↓reduceIte, ↓reduceDIte, reduceCtorEq, Nat.reduceAdd, Nat.reduceMul, Nat.reduceSub, Nat.reduceLT, Nat.reduceLeDiff, Nat.reduceEqDiff, Nat.reduceBEq, Int.reduceToNat, Int.reduceLE, Int.reduceLT, Int.reduceEq, Int.reduceNe, Int.reduceNeg]
                 (repeat' apply And.intro) <;> try first | ((with_reducible refine hK' _ ?_ ?_ ?_); rotate_left; (simp only [go_sem, hs2, pr, keepSl, ↓reduceIte, Nat.reduceEqDiff]; try rfl); clear hK' K') | (clear hK' K'; first | omega | (with_reducible refine drawOk_k ?_; kernel_rfl) | assumption | refine Eq.refl _ | skip))
              | refine W_skip ?_
              | refine W_exit ?_
              | refine W_ret ?_
              | refine W_block ?_
              | with_reducible refine thenG_n ?_
              | with_reducible refine thenG_x ?_
              | with_reducible refine thenG_r ?_
              | with_reducible refine blockG_n ?_
              | with_reducible refine blockG_r ?_
              | with_reducible refine blockG_x ?_
              | with_reducible refine blockG_o (by decide) ?_
            refine W_cond _ (by exact rfl) (by exact trivial) ?_ ?_ <;> (try simp only [Bool.if_true_left, Bool.if_false_right, Bool.if_true_right, Bool.if_false_left, Bool.decide_eq_true, Bool.or_assoc, Bool.and_assoc, Bool.and_true, Bool.or_false, Bool.true_and, Bool.false_or, decide_eq_true_eq, decide_eq_false_iff_not, not_and, not_or, Classical.not_not, Bool.and_eq_true, Bool.or_eq_true, Bool.not_eq_true', Bool.not_eq_false', Bool.or_eq_false_iff, Bool.and_eq_false_iff, bne_iff_ne, ne_eq, beq_iff_eq, bne_eq_false_iff_eq, same_true, same_false, Int.ofNat_inj]) <;> intro hla
            · obtain ⟨z1, z2⟩ := zd a
              obtain ⟨z3, z4⟩ := zx a
              simp only at z1 z2 z3 z4
              repeat' first
                | refine W_seq ?_
                | (refine W_region_l (s_lawRot_K.env []) s_lawRot_lv fun K' hK' => ?_
                   simp only [go_sem, hs2, ↓reduceIte, ↓reduceDIte, reduceCtorEq, Nat.reduceAdd, Nat.reduceMul, Nat.reduceSub, Nat.reduceLT, Nat.reduceLeDiff, Nat.reduceEqDiff, Nat.reduceBEq, Int.reduceToNat, Int.reduceLE, Int.reduceLT, Int.reduceEq, Int.reduceNe, Int.reduceNeg]
                   (repeat' apply And.intro) <;> try first | ((with_reducible refine hK' _ ?_ ?_ ?_); rotate_left; (simp only [go_sem, hs2, pr, keepSl, ↓reduceIte, Nat.reduceEqDiff]; try rfl); clear hK' K') | (clear hK' K'; first | omega | (with_reducible refine drawOk_k ?_; kernel_rfl) | assumption | refine Eq.refl _ | skip))
                | (refine W_drawn_l (s_lawRot_K.env []) mixed s_lawRot_lv fun K' hK' => ?_
                   simp only [go_sem, hs2, ↓reduceIte, ↓reduceDIte, reduceCtorEq, Nat.reduceAdd, Nat.reduceMul, Nat.reduceSub, Nat.reduceLT, Nat.reduceLeDiff, Nat.reduceEqDiff, Nat.reduceBEq, Int.reduceToNat, Int.reduceLE, Int.reduceLT, Int.reduceEq, Int.reduceNe, Int.reduceNeg]
                   (repeat' apply And.intro) <;> try first | ((with_reducible refine hK' _ ?_ ?_ ?_); rotate_left; (simp only [go_sem, hs2, pr, keepSl, ↓reduceIte, Nat.reduceEqDiff]; try rfl); clear hK' K') | (clear hK' K'; first | omega | (with_reducible refine drawOk_k ?_; kernel_rfl) | assumption | refine Eq.refl _ | skip))
                | refine W_skip ?_
                | refine W_exit ?_
                | refine W_ret ?_
                | refine W_block ?_
                | with_reducible refine thenG_n ?_
                | with_reducible refine thenG_x ?_
                | with_reducible refine thenG_r ?_
                | with_reducible refine blockG_n ?_
                | with_reducible refine blockG_r ?_
                | with_reducible refine blockG_x ?_
                | with_reducible refine blockG_o (by decide) ?_
              refine W_cond _ (by exact rfl) (by exact trivial) ?_ ?_ <;> (try simp only [Bool.if_true_left, Bool.if_false_right, Bool.if_true_right, Bool.if_false_left, Bool.decide_eq_true, Bool.or_assoc, Bool.and_assoc, Bool.and_true, Bool.or_false, Bool.true_and, Bool.false_or, decide_eq_true_eq, decide_eq_false_iff_not, not_and, not_or, Classical.not_not, Bool.and_eq_true, Bool.or_eq_true, Bool.not_eq_true', Bool.not_eq_false', Bool.or_eq_false_iff, Bool.and_eq_false_iff, bne_iff_ne, ne_eq, beq_iff_eq, bne_eq_false_iff_eq, same_true, same_false, Int.ofNat_inj]) <;> intro hne
              · obtain ⟨-, hS1, hA1, hsum⟩ := by first | exact (hx a (by omega)).1 hne | exact (hx a (by omega)).2 hne
                have hc2 : c2 = 0 := by
                  rcases hn2 with h | ⟨-, h⟩
                  · exact h
                  · exfalso; omega
                subst hc2
                have hsb := (beq_eq_false_iff_ne (a := ((sumOf _ : Nat) : Int)) (b := ((sumOf _ : Nat) : Int))).2 (fun h => hsum (Int.ofNat_inj.1 h))
                repeat' first
                  | refine W_seq ?_
                  | (refine W_region_l (s_lawRot_K.env []) s_lawRot_lv fun K' hK' => ?_
                     simp only [go_sem, hs2, hS1, hA1, bne_self_eq_false, hsb, ↓reduceIte, ↓reduceDIte, reduceCtorEq, Nat.reduceAdd, Nat.reduceMul, Nat.reduceSub, Nat.reduceLT, Nat.reduceLeDiff, Nat.reduceEqDiff, Nat.reduceBEq, Int.reduceToNat, Int.reduceLE, Int.reduceLT, Int.reduceEq, Int.reduceNe, Int.reduceNeg]
                     (repeat' apply And.intro) <;> try first | ((with_reducible refine hK' _ ?_ ?_ ?_); rotate_left; (simp only [go_sem, hs2, hS1, hA1, bne_self_eq_false, hsb, pr, keepSl, ↓reduceIte, Nat.reduceEqDiff]; try rfl); clear hK' K') | (clear hK' K'; first | omega | (with_reducible refine drawOk_k ?_; kernel_rfl) | assumption | refine Eq.refl _ | skip))
                  | (refine W_drawn_l (s_lawRot_K.env []) mixed s_lawRot_lv fun K' hK' => ?_
                     simp only [go_sem, hs2, hS1, hA1, bne_self_eq_false, hsb, ↓reduceIte, ↓reduceDIte, reduceCtorEq, Nat.reduceAdd, Nat.reduceMul, Nat.reduceSub, Nat.reduceLT, Nat.reduceLeDiff, Nat.reduceEqDiff, Nat.reduceBEq, Int.reduceToNat, Int.reduceLE, Int.reduceLT, Int.reduceEq, Int.reduceNe, Int.reduceNeg]
                     (repeat' apply And.intro) <;> try first | ((with_reducible refine hK' _ ?_ ?_ ?_); rotate_left; (simp only [go_sem, hs2, hS1, hA1, bne_self_eq_false, hsb, pr, keepSl, ↓reduceIte, Nat.reduceEqDiff]; try rfl); clear hK' K') | (clear hK' K'; first | omega | (with_reducible refine drawOk_k ?_; kernel_rfl) | assumption | refine Eq.refl _ | skip))
                  | refine W_skip ?_
                  | refine W_exit ?_
                  | refine W_ret ?_
                  | refine W_block ?_
                  | with_reducible refine thenG_n ?_
                  | with_reducible refine thenG_x ?_
                  | with_reducible refine thenG_r ?_
                  | with_reducible refine blockG_n ?_
                  | with_reducible refine blockG_r ?_
                  | with_reducible refine blockG_x ?_
                  | with_reducible refine blockG_o (by decide) ?_
                refine W_cond _ (by exact rfl) (by exact trivial) ?_ ?_ <;> intro hlit <;> try (cases hlit; done)
                repeat' first
                  | refine W_seq ?_
                  | (refine W_region_l (s_lawRot_K.env []) s_lawRot_lv fun K' hK' => ?_
                     simp only [go_sem, ↓reduceIte, ↓reduceDIte, reduceCtorEq, Nat.reduceAdd, Nat.reduceMul, Nat.reduceSub, Nat.reduceLT, Nat.reduceLeDiff, Nat.reduceEqDiff, Nat.reduceBEq, Int.reduceToNat, Int.reduceLE, Int.reduceLT, Int.reduceEq, Int.reduceNe, Int.reduceNeg]
                     (repeat' apply And.intro) <;> try first | ((with_reducible refine hK' _ ?_ ?_ ?_); rotate_left; (simp only [go_sem, pr, keepSl, ↓reduceIte, Nat.reduceEqDiff]; try rfl); clear hK' K') | (clear hK' K'; first | omega | (with_reducible refine drawOk_k ?_; kernel_rfl) | assumption | refine Eq.refl _ | skip))
                  | (refine W_drawn_l (s_lawRot_K.env []) mixed s_lawRot_lv fun K' hK' => ?_
                     simp only [go_sem, ↓reduceIte, ↓reduceDIte, reduceCtorEq, Nat.reduceAdd, Nat.reduceMul, Nat.reduceSub, Nat.reduceLT, Nat.reduceLeDiff, Nat.reduceEqDiff, Nat.reduceBEq, Int.reduceToNat, Int.reduceLE, Int.reduceLT, Int.reduceEq, Int.reduceNe, Int.reduceNeg]
                     (repeat' apply And.intro) <;> try first | ((with_reducible refine hK' _ ?_ ?_ ?_); rotate_left; (simp only [go_sem, pr, keepSl, ↓reduceIte, Nat.reduceEqDiff]; try rfl); clear hK' K') | (clear hK' K'; first | omega | (with_reducible refine drawOk_k ?_; kernel_rfl) | assumption | refine Eq.refl _ | skip))
                  | refine W_skip ?_
                  | refine W_exit ?_
                  | refine W_ret ?_
                  | refine W_block ?_
                  | with_reducible refine thenG_n ?_
                  | with_reducible refine thenG_x ?_
                  | with_reducible refine thenG_r ?_
                  | with_reducible refine blockG_n ?_
                  | with_reducible refine blockG_r ?_
                  | with_reducible refine blockG_x ?_
                  | with_reducible refine blockG_o (by decide) ?_
                refine ⟨d.a.length - (a + 1), [some 0, some 1, some 2, some 3, some 4, some 5, some 6, some 7], sgRot2 d x S A K M s 1 (a + 1), by omega, ?_, a + 1, 1, by omega, rfl, .inr ⟨rfl, by omega⟩, rfl⟩
                simp only [go_sem, hs2, ↓reduceIte, reduceCtorEq, Nat.reduceAdd, Nat.reduceLT, Nat.reduceLeDiff, Nat.reduceEqDiff, Int.reduceEq, TC.val.injEq, Value.bool.injEq, Value.int.injEq, Value.string.injEq, TV.one.injEq]
                all_goals (repeat' apply And.intro) <;> try first | rfl | trivial | omega | (rw [wrap_id] <;> omega)
              · repeat' first
                  | refine W_seq ?_
                  | (refine W_region_l (s_lawRot_K.env []) s_lawRot_lv fun K' hK' => ?_
                     simp only [go_sem, ↓reduceIte, ↓reduceDIte, reduceCtorEq, Nat.reduceAdd, Nat.reduceMul, Nat.reduceSub, Nat.reduceLT, Nat.reduceLeDiff, Nat.reduceEqDiff, Nat.reduceBEq, Int.reduceToNat, Int.reduceLE, Int.reduceLT, Int.reduceEq, Int.reduceNe, Int.reduceNeg]
                     (repeat' apply And.intro) <;> try first | ((with_reducible refine hK' _ ?_ ?_ ?_); rotate_left; (simp only [go_sem, pr, keepSl, ↓reduceIte, Nat.reduceEqDiff]; try rfl); clear hK' K') | (clear hK' K'; first | omega | (with_reducible refine drawOk_k ?_; kernel_rfl) | assumption | refine Eq.refl _ | skip))
                  | (refine W_drawn_l (s_lawRot_K.env []) mixed s_lawRot_lv fun K' hK' => ?_
                     simp only [go_sem, ↓reduceIte, ↓reduceDIte, reduceCtorEq, Nat.reduceAdd, Nat.reduceMul, Nat.reduceSub, Nat.reduceLT, Nat.reduceLeDiff, Nat.reduceEqDiff, Nat.reduceBEq, Int.reduceToNat, Int.reduceLE, Int.reduceLT, Int.reduceEq, Int.reduceNe, Int.reduceNeg]
                     (repeat' apply And.intro) <;> try first | ((with_reducible refine hK' _ ?_ ?_ ?_); rotate_left; (simp only [go_sem, pr, keepSl, ↓reduceIte, Nat.reduceEqDiff]; try rfl); clear hK' K') | (clear hK' K'; first | omega | (with_reducible refine drawOk_k ?_; kernel_rfl) | assumption | refine Eq.refl _ | skip))
                  | refine W_skip ?_
                  | refine W_exit ?_
                  | refine W_ret ?_
                  | refine W_block ?_
                  | with_reducible refine thenG_n ?_
                  | with_reducible refine thenG_x ?_
                  | with_reducible refine thenG_r ?_
                  | with_reducible refine blockG_n ?_
                  | with_reducible refine blockG_r ?_
                  | with_reducible refine blockG_x ?_
                  | with_reducible refine blockG_o (by decide) ?_
                refine ⟨d.a.length - (a + 1), [some 0, some 1, some 2, some 3, some 4, some 5, some 6, some 7], sgRot2 d x S A K M s c2 (a + 1), by omega, ?_, a + 1, c2, by omega, rfl, by unfold nAt at hn2 ⊢; omega, rfl⟩
                simp only [go_sem, hs2, ↓reduceIte, reduceCtorEq, Nat.reduceAdd, Nat.reduceLT, Nat.reduceLeDiff, Nat.reduceEqDiff, Int.reduceEq, TC.val.injEq, Value.bool.injEq, Value.int.injEq, Value.string.injEq, TV.one.injEq]
                all_goals (repeat' apply And.intro) <;> try first | rfl | trivial | omega | (rw [wrap_id] <;> omega)
            · repeat' first
                | refine W_seq ?_
                | (refine W_region_l (s_lawRot_K.env []) s_lawRot_lv fun K' hK' => ?_
                   simp only [go_sem, ↓reduceIte, ↓reduceDIte, reduceCtorEq, Nat.reduceAdd, Nat.reduceMul, Nat.reduceSub, Nat.reduceLT, Nat.reduceLeDiff, Nat.reduceEqDiff, Nat.reduceBEq, Int.reduceToNat, Int.reduceLE, Int.reduceLT, Int.reduceEq, Int.reduceNe, Int.reduceNeg]
                   (repeat' apply And.intro) <;> try first | ((with_reducible refine hK' _ ?_ ?_ ?_); rotate_left; (simp only [go_sem, pr, keepSl, ↓reduceIte, Nat.reduceEqDiff]; try rfl); clear hK' K') | (clear hK' K'; first | omega | (with_reducible refine drawOk_k ?_; kernel_rfl) | assumption | refine Eq.refl _ | skip))
                | (refine W_drawn_l (s_lawRot_K.env []) mixed s_lawRot_lv fun K' hK' => ?_
                   simp only [go_sem, ↓reduceIte, ↓reduceDIte, reduceCtorEq, Nat.reduceAdd, Nat.reduceMul, Nat.reduceSub, Nat.reduceLT, Nat.reduceLeDiff, Nat.reduceEqDiff, Nat.reduceBEq, Int.reduceToNat, Int.reduceLE, Int.reduceLT, Int.reduceEq, Int.reduceNe, Int.reduceNeg]
                   (repeat' apply And.intro) <;> try first | ((with_reducible refine hK' _ ?_ ?_ ?_); rotate_left; (simp only [go_sem, pr, keepSl, ↓reduceIte, Nat.reduceEqDiff]; try rfl); clear hK' K') | (clear hK' K'; first | omega | (with_reducible refine drawOk_k ?_; kernel_rfl) | assumption | refine Eq.refl _ | skip))
                | refine W_skip ?_
                | refine W_exit ?_
                | refine W_ret ?_
                | refine W_block ?_
                | with_reducible refine thenG_n ?_
                | with_reducible refine thenG_x ?_
                | with_reducible refine thenG_r ?_
                | with_reducible refine blockG_n ?_
                | with_reducible refine blockG_r ?_
                | with_reducible refine blockG_x ?_
                | with_reducible refine blockG_o (by decide) ?_
              refine ⟨2 - (s + 1), [some 0, some 1, some 2, some 3, some 4, some 5, some 6, some 7], sgRot d x S A K M (s + 1) c2, by omega, ?_, s + 1, c2, by omega, rfl, by unfold nAt at hn2 ⊢; omega, rfl⟩
              simp only [go_sem, hs2, ↓reduceIte, reduceCtorEq, Nat.reduceAdd, Nat.reduceLT, Nat.reduceLeDiff, Nat.reduceEqDiff, Int.reduceEq, TC.val.injEq, Value.bool.injEq, Value.int.injEq, Value.string.injEq, TV.one.injEq]
              all_goals (repeat' apply And.intro) <;> try first | rfl | trivial | omega | (rw [wrap_id] <;> omega)
        · have hc1 : decide (c ≤ 1) = true := by rcases hn with rfl | ⟨rfl, -⟩ <;> rfl
          repeat' first
            | refine W_seq ?_
            | (refine W_region_l (s_lawRot_K.env []) s_lawRot_lv fun K' hK' => ?_
               simp only [go_sem, Dk.small, hxx, Dk.eqv_self, hc1, ↓reduceIte, ↓reduceDIte, reduceCtorEq, Nat.reduceAdd, Nat.reduceMul, Nat.reduceSub, Nat.reduceLT, Nat.reduceLeDiff, Nat.reduceEqDiff, Nat.reduceBEq, Int.reduceToNat, Int.reduceLE, Int.reduceLT, Int.reduceEq, Int.reduceNe, Int.reduceNeg]
               (repeat' apply And.intro) <;> try first | ((with_reducible refine hK' _ ?_ ?_ ?_); rotate_left; (simp only [go_sem, Dk.small, hxx, Dk.eqv_self, hc1, pr, keepSl, ↓reduceIte, Nat.reduceEqDiff]; try rfl); clear hK' K') | (clear hK' K'; first | omega | (with_reducible refine drawOk_k ?_; kernel_rfl) | assumption | refine Eq.refl _ | skip))
            | (refine W_drawn_l (s_lawRot_K.env []) mixed s_lawRot_lv fun K' hK' => ?_
               simp only [go_sem, Dk.small, hxx, Dk.eqv_self, hc1, ↓reduceIte, ↓reduceDIte, reduceCtorEq, Nat.reduceAdd, Nat.reduceMul, Nat.reduceSub, Nat.reduceLT, Nat.reduceLeDiff, Nat.reduceEqDiff, Nat.reduceBEq, Int.reduceToNat, Int.reduceLE, Int.reduceLT, Int.reduceEq, Int.reduceNe, Int.reduceNeg]
               (repeat' apply And.intro) <;> try first | ((with_reducible refine hK' _ ?_ ?_ ?_); rotate_left; (simp only [go_sem, Dk.small, hxx, Dk.eqv_self, hc1, pr, keepSl, ↓reduceIte, Nat.reduceEqDiff]; try rfl); clear hK' K') | (clear hK' K'; first | omega | (with_reducible refine drawOk_k ?_; kernel_rfl) | assumption | refine Eq.refl _ | skip))
            | refine W_skip ?_
            | refine W_exit ?_
            | refine W_ret ?_
            | refine W_block ?_
            | with_reducible refine thenG_n ?_
            | with_reducible refine thenG_x ?_
            | with_reducible refine thenG_r ?_
            | with_reducible refine blockG_n ?_
            | with_reducible refine blockG_r ?_
            | with_reducible refine blockG_x ?_
            | with_reducible refine blockG_o (by decide) ?_
          refine ⟨by (simp only [go_sem, ↓reduceIte, reduceCtorEq, Nat.reduceAdd, Nat.reduceLT, Nat.reduceLeDiff, Nat.reduceEqDiff]) <;> trivial, [], ?_⟩
          all_goals try simp only [go_sem, ↓reduceIte, reduceCtorEq, Nat.reduceAdd, Nat.reduceLT, Nat.reduceLeDiff, Nat.reduceEqDiff, Int.reduceEq, TC.val.injEq, Value.bool.injEq, Value.int.injEq, Value.string.injEq, TV.one.injEq]
          all_goals (repeat' apply And.intro) <;> try first | rfl | trivial | omega | (rw [wrap_id] <;> omega)
  · simp [no] at hp
end Go.Proofs.Ytjdpppbegjnpaaa
