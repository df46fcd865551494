/- The law of reading: for all codes FnDiskRead answers true. -/
import Derived.Test.YtjdpppbegjnpaaaTLlast
set_option linter.unusedSimpArgs false
set_option linter.unusedVariables false
set_option linter.unusedSectionVars false
namespace Go.Proofs.Ytjdpppbegjnpaaa
open Go.RowKit

theorem write_ok {d : Dk} (h : d.ok = true) (s k : Int) (t : ByteArray) : (dkWrite d s k t).ok = true ∧ (dkWrite d s k t).a.length = d.a.length ∧
    ∀ s' k', (dkWrite d s k t).text s' k' = if dkWrites d s k t = true ∧ s = s' ∧ k = k' then t else d.text s' k' := by
  unfold dkWrite dkWrites
  rw [if_pos h, h, Bool.true_and]
  by_cases hm : d.may s k t = true
  · rw [if_pos hm]
    refine ⟨Dk.add_ok h hm, rfl, fun s' k' => ?_⟩
    rw [Dk.add_text]
    by_cases hc : s = s' ∧ k = k'
    · rw [if_pos hc, if_pos ⟨hm, hc⟩]
    · rw [if_neg hc, if_neg (fun hh => hc hh.2)]
  · rw [if_neg hm]
    exact ⟨h, rfl, fun s' k' => by rw [if_neg (fun hh => hm hh.1)]⟩
theorem nil_notOk : Dk.nil.ok = false := by decide
theorem fall_flush (x : Dk) (fate : List Int) : dkFall (dkFlush x) fate = dkFlush x := by
  by_cases h : x.ok = true
  · have hok := dkFlush_ok h
    have e : dkFlush x = x.flushed := by unfold dkFlush; rw [if_pos h]
    unfold dkFall
    rw [if_pos hok, e]
    unfold Dk.fallen
    have : min x.flushed.l.length fate.length = 0 := Nat.min_eq_left (Nat.zero_le _)
    rw [this]; rfl
  · have e : dkFlush x = .nil := by unfold dkFlush; rw [if_neg h]
    rw [e]; unfold dkFall; rw [nil_notOk]; rfl
theorem flush_read {x : Dk} (h : x.ok = true) (s k : Int) (hs : sector x.a.length s k = true) : dkRead (dkFlush x) s k = x.text s k ∧ dkReads (dkFlush x) s k = true := by
  have h1 := fall_read h x.l.length (Nat.le_refl _) s k hs
  rw [dkFall_all] at h1
  refine ⟨h1, ?_⟩
  unfold dkReads
  rw [dkFlush_ok h, ← dkFall_all, (dkFall_len h _).1, hs]; rfl
@[go_sem] def sgR1 (d x f : Dk) (F : List Int) (S A : Int) (T : ByteArray) (ok : Bool) (s : Nat) : Sg := ⟨[(5, .one (.ptr 3 0)), (6, vi S), (7, vi A), (8, vs T), (9, .one (.ptr 7 0)), (10, vb ok), (13, .one (.ptr 11 0)), (15, .one (.osl .int 12 0 F.length)), (16, vi s)],
  [some (.arr .str d.a), some (.arr .str d.b), some (.arr .late d.l), some (.cells [.osl .str 0 0 d.a.length, .osl .str 1 0 d.b.length, .osl .late 2 0 d.l.length]),
   some (.arr .str x.a), some (.arr .str x.b), some (.arr .late x.l), some (.cells [.osl .str 4 0 x.a.length, .osl .str 5 0 x.b.length, .osl .late 6 0 x.l.length]),
   some (.arr .str f.a), some (.arr .str f.b), some (.arr .late f.l), some (.cells [.osl .str 8 0 f.a.length, .osl .str 9 0 f.b.length, .osl .late 10 0 f.l.length]), some (.arr .int F)], []⟩
@[go_sem] def sgR2 (d x f : Dk) (F : List Int) (S A : Int) (T : ByteArray) (ok : Bool) (s a : Nat) : Sg := ⟨(17, vi a) :: (sgR1 d x f F S A T ok s).sl, (sgR1 d x f F S A T ok s).tab, []⟩
theorem s_lawRead_e : EnterOk Try.prog 8 := ⟨_, Try.func8, rfl, by decide⟩
@[go_sem] def s_lawRead_lv : List (List Nat) := [[0, 1], [0, 1, 31], [4], [1, 5, 6, 7, 8], [1, 5, 6, 7, 8, 9, 10], [1, 5, 6, 7, 8, 9, 10, 11, 12], [1, 5, 6, 7, 8, 9, 10, 70], [4], [1, 5, 6, 7, 8, 9, 10, 13], [5, 6, 7, 8, 9, 10, 13, 15], [5, 6, 7, 8, 9, 10, 13, 15, 16], [5, 6, 7, 8, 9, 10, 13, 15, 16, 79], [5, 6, 7, 8, 9, 10, 13, 15, 16], [5, 6, 7, 8, 9, 10, 13, 15, 16, 17], [5, 6, 7, 8, 9, 10, 13, 15, 16, 17, 91], [5, 6, 7, 8, 9, 10, 13, 15, 16, 17], [5, 6, 7, 8, 9, 10, 13, 15, 16, 17, 18], [5, 6, 7, 8, 9, 10, 13, 15, 16, 17, 18, 20], [5, 6, 7, 8, 9, 10, 13, 15, 16, 17, 18, 20, 22, 23], [5, 6, 7, 8, 9, 10, 13, 15, 16, 17, 158], [4], [4]]
@[go_sem] noncomputable def s_lawRead_K : Known := ((((((((((Known.nil).cons 19 ctDrawWrite s_drawWrite s_drawWrite_e).cons 20 ctDiskWrite s_diskWrite s_diskWrite_e).cons 21 ctDiskWrite s_specWrite s_specWrite_e).cons 11 ctDiskSame s_diskSame s_diskSame_e).cons 30 ctDiskOk s_diskOk s_diskOk_e).cons 13 ctDiskOk s_specDiskOk s_specDiskOk_e).cons 18 ctDiskFlush s_diskFlush s_diskFlush_e).cons 15 ctDrawFall s_drawFall s_drawFall_e).cons 22 ctDiskRead s_diskRead s_diskRead_e).cons 16 ctDiskFall s_diskFall s_diskFall_e
set_option maxHeartbeats 8000000 in
theorem s_lawRead : Sound Try.prog 8 ctLaw2 := by
  refine sound_intro (E := ⟨ti, s_lawRead_K.Γ, []⟩) (s_lawRead_K.env []) Try.func8 Try.ntmps8 rfl (rs := [.tmp 4]) rfl ?_
  intro args os hp
  unfold ctLaw2 at hp ⊢
  dsimp only at hp ⊢
  split at hp
  · rename_i code more
    refine ⟨by simp, fun φ0 w0 => ?_⟩
    clear hp
    repeat' first
      | refine W_seq ?_
      | (refine W_reg (s_lawRead_K.env []) s_lawRead_lv fun K' hK' => ?_
         simp only [go_sem, ↓reduceIte, ↓reduceDIte, reduceCtorEq, Nat.reduceAdd, Nat.reduceMul, Nat.reduceSub, Nat.reduceLT, Nat.reduceLeDiff, Nat.reduceEqDiff, Nat.reduceBEq, Int.reduceToNat, Int.reduceLE, Int.reduceLT, Int.reduceEq, Int.reduceNe, Int.reduceNeg]
         (repeat' apply And.intro) <;> try first | ((with_reducible refine hK' _ ?_ ?_ ?_); rotate_left; (simp only [go_sem, pr, keepSl, ↓reduceIte, Nat.reduceEqDiff]; try rfl); clear hK' K') | (clear hK' K'; first | omega | (with_reducible refine drawOk_k ?_; kernel_rfl) | assumption | refine Eq.refl _ | exact fun h => ⟨h, fun k => ⟨h, k⟩⟩ | (intro _; (repeat' apply And.intro) <;> first | omega | assumption) | skip))
      | with_reducible first | refine W_skip ?_ | refine W_exit ?_ | refine W_ret ?_ | refine W_block ?_ | refine thenG_n ?_ | refine thenG_x ?_ | refine thenG_r ?_ | refine blockG_n ?_ | refine blockG_r ?_ | refine blockG_x ?_ | refine blockG_o (by decide) ?_
    refine W_cond _ (by exact rfl) (by exact trivial) ?_ ?_ <;> (try simp only [Bool.if_true_left, Bool.if_false_right, Bool.if_true_right, Bool.if_false_left, Bool.decide_eq_true, Bool.or_assoc, Bool.and_assoc, Bool.and_true, Bool.or_false, Bool.true_and, Bool.false_or, decide_eq_true_eq, decide_eq_false_iff_not, not_and, not_or, Classical.not_not, Bool.and_eq_true, Bool.or_eq_true, Bool.not_eq_true', Bool.not_eq_false', Bool.or_eq_false_iff, Bool.and_eq_false_iff, bne_iff_ne, ne_eq, beq_iff_eq, bne_eq_false_iff_eq, same_true, same_false, Int.ofNat_inj]) <;> intro hlen
    · repeat' first
        | refine W_seq ?_
        | (refine W_reg (s_lawRead_K.env []) s_lawRead_lv fun K' hK' => ?_
           simp only [go_sem, ↓reduceIte, ↓reduceDIte, reduceCtorEq, Nat.reduceAdd, Nat.reduceMul, Nat.reduceSub, Nat.reduceLT, Nat.reduceLeDiff, Nat.reduceEqDiff, Nat.reduceBEq, Int.reduceToNat, Int.reduceLE, Int.reduceLT, Int.reduceEq, Int.reduceNe, Int.reduceNeg]
           (repeat' apply And.intro) <;> try first | ((with_reducible refine hK' _ ?_ ?_ ?_); rotate_left; (simp only [go_sem, pr, keepSl, ↓reduceIte, Nat.reduceEqDiff]; try rfl); clear hK' K') | (clear hK' K'; first | omega | (with_reducible refine drawOk_k ?_; kernel_rfl) | assumption | refine Eq.refl _ | exact fun h => ⟨h, fun k => ⟨h, k⟩⟩ | (intro _; (repeat' apply And.intro) <;> first | omega | assumption) | skip))
        | with_reducible first | refine W_skip ?_ | refine W_exit ?_ | refine W_ret ?_ | refine W_block ?_ | refine thenG_n ?_ | refine thenG_x ?_ | refine thenG_r ?_ | refine blockG_n ?_ | refine blockG_r ?_ | refine blockG_x ?_ | refine blockG_o (by decide) ?_
      refine ⟨by (simp only [go_sem, ↓reduceIte, reduceCtorEq, Nat.reduceAdd, Nat.reduceLT, Nat.reduceLeDiff, Nat.reduceEqDiff]) <;> trivial, [], ?_⟩
      all_goals try simp only [go_sem, ↓reduceIte, reduceCtorEq, Nat.reduceAdd, Nat.reduceLT, Nat.reduceLeDiff, Nat.reduceEqDiff, Int.reduceEq, TC.val.injEq, Value.bool.injEq, Value.int.injEq, Value.string.injEq, TV.one.injEq]
      all_goals (repeat' apply And.intro) <;> try first | rfl | trivial | omega | (rw [wrap_id] <;> omega)
    · obtain ⟨⟨d1, d2, d3⟩, -, -, d4⟩ := wr_all code
      obtain ⟨-, o4⟩ := fall_all more
      obtain ⟨d, hd⟩ : ∃ d, wrD code = d := ⟨_, rfl⟩
      obtain ⟨S, hS⟩ : ∃ S, wrS code = S := ⟨_, rfl⟩
      obtain ⟨A, hA⟩ : ∃ A, wrA code = A := ⟨_, rfl⟩
      obtain ⟨T, hT⟩ : ∃ T, wrT code = T := ⟨_, rfl⟩
      obtain ⟨F, hF⟩ : ∃ F, fallF more = F := ⟨_, rfl⟩
      rw [hd] at d1 d2 d3
      rw [hT] at d4
      rw [hF] at o4
      obtain ⟨x1, x2, x3⟩ : (dkWrite d S A T).a.length ≤ 7 ∧ (dkWrite d S A T).b.length ≤ 7 ∧ (dkWrite d S A T).l.length ≤ 15 := by
        unfold dkWrite
        split
        · split
          · refine ⟨d1, d2, ?_⟩
            show (d.l ++ [_]).length ≤ 15
            rw [List.length_append]; simp only [List.length_cons, List.length_nil]; omega
          · exact ⟨d1, d2, by omega⟩
        · exact ⟨Nat.zero_le _, Nat.zero_le _, Nat.zero_le _⟩
      repeat' first
        | refine W_seq ?_
        | (refine W_reg (s_lawRead_K.env []) s_lawRead_lv fun K' hK' => ?_
           simp only [go_sem, Dk.small, hd, hS, hA, hT, Dk.eqv_self, bne_self_eq_false, beq_self_eq_true, ↓reduceIte, ↓reduceDIte, reduceCtorEq, Nat.reduceAdd, Nat.reduceMul, Nat.reduceSub, Nat.reduceLT, Nat.reduceLeDiff, Nat.reduceEqDiff, Nat.reduceBEq, Int.reduceToNat, Int.reduceLE, Int.reduceLT, Int.reduceEq, Int.reduceNe, Int.reduceNeg]
           (repeat' apply And.intro) <;> try first | ((with_reducible refine hK' _ ?_ ?_ ?_); rotate_left; (simp only [go_sem, Dk.small, hd, hS, hA, hT, Dk.eqv_self, bne_self_eq_false, beq_self_eq_true, pr, keepSl, ↓reduceIte, Nat.reduceEqDiff]; try rfl); clear hK' K') | (clear hK' K'; first | omega | (with_reducible refine drawOk_k ?_; kernel_rfl) | assumption | refine Eq.refl _ | exact fun h => ⟨h, fun k => ⟨h, k⟩⟩ | (intro _; (repeat' apply And.intro) <;> first | omega | assumption) | skip))
        | with_reducible first | refine W_skip ?_ | refine W_exit ?_ | refine W_ret ?_ | refine W_block ?_ | refine thenG_n ?_ | refine thenG_x ?_ | refine thenG_r ?_ | refine blockG_n ?_ | refine blockG_r ?_ | refine blockG_x ?_ | refine blockG_o (by decide) ?_
      refine W_cond _ (by exact rfl) (by exact trivial) ?_ ?_ <;> intro hlit <;> try (cases hlit; done)
      have hff := fall_flush (dkWrite d S A T) F
      obtain ⟨f1, f2, f3⟩ := dkFlush_small (dkWrite d S A T)
      obtain ⟨ex, hex⟩ : ∃ x, dkWrite d S A T = x := ⟨_, rfl⟩
      rw [hex] at hff f1 f2 f3 x1 x2 x3
      obtain ⟨ef, hef⟩ : ∃ f, dkFlush ex = f := ⟨_, rfl⟩
      rw [hef] at hff f1 f2 f3
      have f4 : ef.l = [] := List.length_eq_zero_iff.1 f3
      have f5 : Dk.mk ef.a ef.b [] = ef := Dk.ext' rfl rfl f4.symm
      obtain ⟨OK, hOK⟩ : ∃ b, dkWrites d S A T = b := ⟨_, rfl⟩
      repeat' first
        | refine W_seq ?_
        | (refine W_reg (s_lawRead_K.env []) s_lawRead_lv fun K' hK' => ?_
           simp only [go_sem, Dk.small, hF, hex, hef, ↓reduceIte, ↓reduceDIte, reduceCtorEq, Nat.reduceAdd, Nat.reduceMul, Nat.reduceSub, Nat.reduceLT, Nat.reduceLeDiff, Nat.reduceEqDiff, Nat.reduceBEq, Int.reduceToNat, Int.reduceLE, Int.reduceLT, Int.reduceEq, Int.reduceNe, Int.reduceNeg]
           (repeat' apply And.intro) <;> try first | ((with_reducible refine hK' _ ?_ ?_ ?_); rotate_left; (simp only [go_sem, Dk.small, hF, hex, hef, pr, keepSl, ↓reduceIte, Nat.reduceEqDiff]; try rfl); clear hK' K') | (clear hK' K'; first | omega | (with_reducible refine drawOk_k ?_; kernel_rfl) | assumption | refine Eq.refl _ | exact fun h => ⟨h, fun k => ⟨h, k⟩⟩ | (intro _; (repeat' apply And.intro) <;> first | omega | assumption) | skip))
        | with_reducible first | refine W_skip ?_ | refine W_exit ?_ | refine W_ret ?_ | refine W_block ?_ | refine thenG_n ?_ | refine thenG_x ?_ | refine thenG_r ?_ | refine blockG_n ?_ | refine blockG_r ?_ | refine blockG_x ?_ | refine blockG_o (by decide) ?_
      refine W_le (σ' := sgR1 d ex ef F S A T OK 0) [some 0, some 1, some 2, some 3, some 4, some 5, some 6, some 7, some 12, some 13, some 14, some 15, some 19] (by
        simp only [go_sem, hex, hef, hOK, ↓reduceIte, reduceCtorEq, Nat.reduceAdd, Nat.reduceLT, Nat.reduceLeDiff, Nat.reduceEqDiff, Int.reduceEq, TC.val.injEq, Value.bool.injEq, Value.int.injEq, Value.string.injEq, TV.one.injEq]
        all_goals (repeat' apply And.intro) <;> try first | rfl | trivial | omega | (rw [wrap_id] <;> omega)
        ) ?_
      refine W_loop (fun n σ => ∃ s : Nat, s ≤ 2 ∧ n = 2 - s ∧ σ = sgR1 d ex ef F S A T OK s) 2 ⟨0, by omega, by omega, rfl⟩ ?_
      rintro n σ ⟨s, hs, rfl, rfl⟩
      unfold sgR1
      repeat' first
        | refine W_seq ?_
        | (refine W_reg (s_lawRead_K.env []) s_lawRead_lv fun K' hK' => ?_
           simp only [go_sem, ↓reduceIte, ↓reduceDIte, reduceCtorEq, Nat.reduceAdd, Nat.reduceMul, Nat.reduceSub, Nat.reduceLT, Nat.reduceLeDiff, Nat.reduceEqDiff, Nat.reduceBEq, Int.reduceToNat, Int.reduceLE, Int.reduceLT, Int.reduceEq, Int.reduceNe, Int.reduceNeg]
           (repeat' apply And.intro) <;> try first | ((with_reducible refine hK' _ ?_ ?_ ?_); rotate_left; (simp only [go_sem, pr, keepSl, ↓reduceIte, Nat.reduceEqDiff]; try rfl); clear hK' K') | (clear hK' K'; first | omega | (with_reducible refine drawOk_k ?_; kernel_rfl) | assumption | refine Eq.refl _ | exact fun h => ⟨h, fun k => ⟨h, k⟩⟩ | (intro _; (repeat' apply And.intro) <;> first | omega | assumption) | skip))
        | with_reducible first | refine W_skip ?_ | refine W_exit ?_ | refine W_ret ?_ | refine W_block ?_ | refine thenG_n ?_ | refine thenG_x ?_ | refine thenG_r ?_ | refine blockG_n ?_ | refine blockG_r ?_ | refine blockG_x ?_ | refine blockG_o (by decide) ?_
      refine W_cond _ (by exact rfl) (by exact trivial) ?_ ?_ <;> (try simp only [Bool.if_true_left, Bool.if_false_right, Bool.if_true_right, Bool.if_false_left, Bool.decide_eq_true, Bool.or_assoc, Bool.and_assoc, Bool.and_true, Bool.or_false, Bool.true_and, Bool.false_or, decide_eq_true_eq, decide_eq_false_iff_not, not_and, not_or, Classical.not_not, Bool.and_eq_true, Bool.or_eq_true, Bool.not_eq_true', Bool.not_eq_false', Bool.or_eq_false_iff, Bool.and_eq_false_iff, bne_iff_ne, ne_eq, beq_iff_eq, bne_eq_false_iff_eq, same_true, same_false, Int.ofNat_inj]) <;> intro hls
      · repeat' first
          | refine W_seq ?_
          | (refine W_reg (s_lawRead_K.env []) s_lawRead_lv fun K' hK' => ?_
             simp only [go_sem, ↓reduceIte, ↓reduceDIte, reduceCtorEq, Nat.reduceAdd, Nat.reduceMul, Nat.reduceSub, Nat.reduceLT, Nat.reduceLeDiff, Nat.reduceEqDiff, Nat.reduceBEq, Int.reduceToNat, Int.reduceLE, Int.reduceLT, Int.reduceEq, Int.reduceNe, Int.reduceNeg]
             (repeat' apply And.intro) <;> try first | ((with_reducible refine hK' _ ?_ ?_ ?_); rotate_left; (simp only [go_sem, pr, keepSl, ↓reduceIte, Nat.reduceEqDiff]; try rfl); clear hK' K') | (clear hK' K'; first | omega | (with_reducible refine drawOk_k ?_; kernel_rfl) | assumption | refine Eq.refl _ | exact fun h => ⟨h, fun k => ⟨h, k⟩⟩ | (intro _; (repeat' apply And.intro) <;> first | omega | assumption) | skip))
          | with_reducible first | refine W_skip ?_ | refine W_exit ?_ | refine W_ret ?_ | refine W_block ?_ | refine thenG_n ?_ | refine thenG_x ?_ | refine thenG_r ?_ | refine blockG_n ?_ | refine blockG_r ?_ | refine blockG_x ?_ | refine blockG_o (by decide) ?_
        refine W_le (σ' := sgR2 d ex ef F S A T OK s 0) [some 0, some 1, some 2, some 3, some 4, some 5, some 6, some 7, some 8, some 9, some 10, some 11, some 12] (by
          simp only [go_sem, ↓reduceIte, reduceCtorEq, Nat.reduceAdd, Nat.reduceLT, Nat.reduceLeDiff, Nat.reduceEqDiff, Int.reduceEq, TC.val.injEq, Value.bool.injEq, Value.int.injEq, Value.string.injEq, TV.one.injEq]
          all_goals (repeat' apply And.intro) <;> try first | rfl | trivial | omega | (rw [wrap_id] <;> omega)
          ) ?_
        refine W_loop (fun n σ => ∃ a : Nat, a ≤ d.a.length ∧ n = d.a.length - a ∧ σ = sgR2 d ex ef F S A T OK s a) d.a.length ⟨0, by omega, by omega, rfl⟩ ?_
        rintro n σ ⟨a, ha, rfl, rfl⟩
        unfold sgR2 sgR1
        repeat' first
          | refine W_seq ?_
          | (refine W_reg (s_lawRead_K.env []) s_lawRead_lv fun K' hK' => ?_
             simp only [go_sem, Dk.small, ↓reduceIte, ↓reduceDIte, reduceCtorEq, Nat.reduceAdd, Nat.reduceMul, Nat.reduceSub, Nat.reduceLT, Nat.reduceLeDiff, Nat.reduceEqDiff, Nat.reduceBEq, Int.reduceToNat, Int.reduceLE, Int.reduceLT, Int.reduceEq, Int.reduceNe, Int.reduceNeg]
             (repeat' apply And.intro) <;> try first | ((with_reducible refine hK' _ ?_ ?_ ?_); rotate_left; (simp only [go_sem, Dk.small, pr, keepSl, ↓reduceIte, Nat.reduceEqDiff]; try rfl); clear hK' K') | (clear hK' K'; first | omega | (with_reducible refine drawOk_k ?_; kernel_rfl) | assumption | refine Eq.refl _ | exact fun h => ⟨h, fun k => ⟨h, k⟩⟩ | (intro _; (repeat' apply And.intro) <;> first | omega | assumption) | skip))
          | with_reducible first | refine W_skip ?_ | refine W_exit ?_ | refine W_ret ?_ | refine W_block ?_ | refine thenG_n ?_ | refine thenG_x ?_ | refine thenG_r ?_ | refine blockG_n ?_ | refine blockG_r ?_ | refine blockG_x ?_ | refine blockG_o (by decide) ?_
        refine W_cond _ (by exact rfl) (by exact trivial) ?_ ?_ <;> (try simp only [Bool.if_true_left, Bool.if_false_right, Bool.if_true_right, Bool.if_false_left, Bool.decide_eq_true, Bool.or_assoc, Bool.and_assoc, Bool.and_true, Bool.or_false, Bool.true_and, Bool.false_or, decide_eq_true_eq, decide_eq_false_iff_not, not_and, not_or, Classical.not_not, Bool.and_eq_true, Bool.or_eq_true, Bool.not_eq_true', Bool.not_eq_false', Bool.or_eq_false_iff, Bool.and_eq_false_iff, bne_iff_ne, ne_eq, beq_iff_eq, bne_eq_false_iff_eq, same_true, same_false, Int.ofNat_inj]) <;> intro hc
        · obtain ⟨hla, hok⟩ := hc
          obtain ⟨k1, k2, k3⟩ := write_ok hok S A T
          rw [hex] at k1 k2 k3
          rw [hOK] at k3
          have hsd : sector d.a.length (s : Int) (a : Int) = true := (sector_iff _ _ _).2 ⟨by omega, by omega, by omega⟩
          have hsx : sector ex.a.length (s : Int) (a : Int) = true := by rw [k2]; exact hsd
          have r1 := dkRead_ok hok (s : Int) (a : Int) hsd
          have r2 := dkRead_ok k1 (s : Int) (a : Int) hsx
          obtain ⟨r3, r4⟩ := flush_read k1 (s : Int) (a : Int) hsx
          rw [hef] at r3 r4
          rw [k3] at r2 r3
          generalize d.text (s : Int) (a : Int) = D at r1 r2 r3
          have hcase : (OK = true ∧ ((s : Int) == S) = true ∧ ((a : Int) == A) = true ∧ (if OK = true ∧ S = (s : Int) ∧ A = (a : Int) then T else D) = T) ∨
              ((OK = false ∨ (OK = true ∧ ((s : Int) == S) = false) ∨ (OK = true ∧ ((s : Int) == S) = true ∧ ((a : Int) == A) = false)) ∧ (if OK = true ∧ S = (s : Int) ∧ A = (a : Int) then T else D) = D) := by
            by_cases c1 : OK = true
            · by_cases c2 : (s : Int) = S
              · by_cases c3 : (a : Int) = A
                · left; refine ⟨c1, by simp [c2], by simp [c3], if_pos ⟨c1, c2.symm, c3.symm⟩⟩
                · right; refine ⟨.inr (.inr ⟨c1, by simp [c2], by simp [c3]⟩), if_neg fun h => c3 h.2.2.symm⟩
              · right; refine ⟨.inr (.inl ⟨c1, by simp [c2]⟩), if_neg fun h => c2 h.2.1.symm⟩
            · right; refine ⟨.inl (by simpa using c1), if_neg fun h => c1 h.1⟩
          rcases hcase with ⟨c1, c2, c3, c4⟩ | ⟨c1 | ⟨c1, c2⟩ | ⟨c1, c2, c3⟩, c4⟩
          · rw [c4] at r2 r3
            repeat' first
              | refine W_seq ?_
              | (refine W_reg (s_lawRead_K.env []) s_lawRead_lv fun K' hK' => ?_
                 simp only [go_sem, Dk.small, r1, r2, r3, r4, c1, c2, c3, same_self, ↓reduceIte, ↓reduceDIte, reduceCtorEq, Nat.reduceAdd, Nat.reduceMul, Nat.reduceSub, Nat.reduceLT, Nat.reduceLeDiff, Nat.reduceEqDiff, Nat.reduceBEq, Int.reduceToNat, Int.reduceLE, Int.reduceLT, Int.reduceEq, Int.reduceNe, Int.reduceNeg]
                 (repeat' apply And.intro) <;> try first | ((with_reducible refine hK' _ ?_ ?_ ?_); rotate_left; (simp only [go_sem, Dk.small, r1, r2, r3, r4, c1, c2, c3, same_self, pr, keepSl, ↓reduceIte, Nat.reduceEqDiff]; try rfl); clear hK' K') | (clear hK' K'; first | omega | (with_reducible refine drawOk_k ?_; kernel_rfl) | assumption | refine Eq.refl _ | exact fun h => ⟨h, fun k => ⟨h, k⟩⟩ | (intro _; (repeat' apply And.intro) <;> first | omega | assumption) | skip))
              | with_reducible first | refine W_skip ?_ | refine W_exit ?_ | refine W_ret ?_ | refine W_block ?_ | refine thenG_n ?_ | refine thenG_x ?_ | refine thenG_r ?_ | refine blockG_n ?_ | refine blockG_r ?_ | refine blockG_x ?_ | refine blockG_o (by decide) ?_
            refine W_cond _ (by exact rfl) (by exact trivial) ?_ ?_ <;> intro hlit <;> try (cases hlit; done)
            repeat' first
              | refine W_seq ?_
              | (refine W_reg (s_lawRead_K.env []) s_lawRead_lv fun K' hK' => ?_
                 simp only [go_sem, ↓reduceIte, ↓reduceDIte, reduceCtorEq, Nat.reduceAdd, Nat.reduceMul, Nat.reduceSub, Nat.reduceLT, Nat.reduceLeDiff, Nat.reduceEqDiff, Nat.reduceBEq, Int.reduceToNat, Int.reduceLE, Int.reduceLT, Int.reduceEq, Int.reduceNe, Int.reduceNeg]
                 (repeat' apply And.intro) <;> try first | ((with_reducible refine hK' _ ?_ ?_ ?_); rotate_left; (simp only [go_sem, pr, keepSl, ↓reduceIte, Nat.reduceEqDiff]; try rfl); clear hK' K') | (clear hK' K'; first | omega | (with_reducible refine drawOk_k ?_; kernel_rfl) | assumption | refine Eq.refl _ | exact fun h => ⟨h, fun k => ⟨h, k⟩⟩ | (intro _; (repeat' apply And.intro) <;> first | omega | assumption) | skip))
              | with_reducible first | refine W_skip ?_ | refine W_exit ?_ | refine W_ret ?_ | refine W_block ?_ | refine thenG_n ?_ | refine thenG_x ?_ | refine thenG_r ?_ | refine blockG_n ?_ | refine blockG_r ?_ | refine blockG_x ?_ | refine blockG_o (by decide) ?_
            refine ⟨d.a.length - (a + 1), [some 0, some 1, some 2, some 3, some 4, some 5, some 6, some 7, some 8, some 9, some 10, some 11, some 12], sgR2 d ex ef F S A T OK s (a + 1), by omega, ?_, a + 1, by omega, rfl, rfl⟩
            simp only [go_sem, c1, ↓reduceIte, reduceCtorEq, Nat.reduceAdd, Nat.reduceLT, Nat.reduceLeDiff, Nat.reduceEqDiff, Int.reduceEq, TC.val.injEq, Value.bool.injEq, Value.int.injEq, Value.string.injEq, TV.one.injEq]
            all_goals (repeat' apply And.intro) <;> try first | rfl | trivial | omega | (rw [wrap_id] <;> omega)
          · rw [c4] at r2 r3
            repeat' first
              | refine W_seq ?_
              | (refine W_reg (s_lawRead_K.env []) s_lawRead_lv fun K' hK' => ?_
                 simp only [go_sem, Dk.small, r1, r2, r3, r4, c1, same_self, ↓reduceIte, ↓reduceDIte, reduceCtorEq, Nat.reduceAdd, Nat.reduceMul, Nat.reduceSub, Nat.reduceLT, Nat.reduceLeDiff, Nat.reduceEqDiff, Nat.reduceBEq, Int.reduceToNat, Int.reduceLE, Int.reduceLT, Int.reduceEq, Int.reduceNe, Int.reduceNeg]
                 (repeat' apply And.intro) <;> try first | ((with_reducible refine hK' _ ?_ ?_ ?_); rotate_left; (simp only [go_sem, Dk.small, r1, r2, r3, r4, c1, same_self, pr, keepSl, ↓reduceIte, Nat.reduceEqDiff]; try rfl); clear hK' K') | (clear hK' K'; first | omega | (with_reducible refine drawOk_k ?_; kernel_rfl) | assumption | refine Eq.refl _ | exact fun h => ⟨h, fun k => ⟨h, k⟩⟩ | (intro _; (repeat' apply And.intro) <;> first | omega | assumption) | skip))
              | with_reducible first | refine W_skip ?_ | refine W_exit ?_ | refine W_ret ?_ | refine W_block ?_ | refine thenG_n ?_ | refine thenG_x ?_ | refine thenG_r ?_ | refine blockG_n ?_ | refine blockG_r ?_ | refine blockG_x ?_ | refine blockG_o (by decide) ?_
            refine W_cond _ (by exact rfl) (by exact trivial) ?_ ?_ <;> intro hlit <;> try (cases hlit; done)
            repeat' first
              | refine W_seq ?_
              | (refine W_reg (s_lawRead_K.env []) s_lawRead_lv fun K' hK' => ?_
                 simp only [go_sem, ↓reduceIte, ↓reduceDIte, reduceCtorEq, Nat.reduceAdd, Nat.reduceMul, Nat.reduceSub, Nat.reduceLT, Nat.reduceLeDiff, Nat.reduceEqDiff, Nat.reduceBEq, Int.reduceToNat, Int.reduceLE, Int.reduceLT, Int.reduceEq, Int.reduceNe, Int.reduceNeg]
                 (repeat' apply And.intro) <;> try first | ((with_reducible refine hK' _ ?_ ?_ ?_); rotate_left; (simp only [go_sem, pr, keepSl, ↓reduceIte, Nat.reduceEqDiff]; try rfl); clear hK' K') | (clear hK' K'; first | omega | (with_reducible refine drawOk_k ?_; kernel_rfl) | assumption | refine Eq.refl _ | exact fun h => ⟨h, fun k => ⟨h, k⟩⟩ | (intro _; (repeat' apply And.intro) <;> first | omega | assumption) | skip))
              | with_reducible first | refine W_skip ?_ | refine W_exit ?_ | refine W_ret ?_ | refine W_block ?_ | refine thenG_n ?_ | refine thenG_x ?_ | refine thenG_r ?_ | refine blockG_n ?_ | refine blockG_r ?_ | refine blockG_x ?_ | refine blockG_o (by decide) ?_
            refine ⟨d.a.length - (a + 1), [some 0, some 1, some 2, some 3, some 4, some 5, some 6, some 7, some 8, some 9, some 10, some 11, some 12], sgR2 d ex ef F S A T OK s (a + 1), by omega, ?_, a + 1, by omega, rfl, rfl⟩
            simp only [go_sem, c1, ↓reduceIte, reduceCtorEq, Nat.reduceAdd, Nat.reduceLT, Nat.reduceLeDiff, Nat.reduceEqDiff, Int.reduceEq, TC.val.injEq, Value.bool.injEq, Value.int.injEq, Value.string.injEq, TV.one.injEq]
            all_goals (repeat' apply And.intro) <;> try first | rfl | trivial | omega | (rw [wrap_id] <;> omega)
          · rw [c4] at r2 r3
            repeat' first
              | refine W_seq ?_
              | (refine W_reg (s_lawRead_K.env []) s_lawRead_lv fun K' hK' => ?_
                 simp only [go_sem, Dk.small, r1, r2, r3, r4, c1, c2, same_self, ↓reduceIte, ↓reduceDIte, reduceCtorEq, Nat.reduceAdd, Nat.reduceMul, Nat.reduceSub, Nat.reduceLT, Nat.reduceLeDiff, Nat.reduceEqDiff, Nat.reduceBEq, Int.reduceToNat, Int.reduceLE, Int.reduceLT, Int.reduceEq, Int.reduceNe, Int.reduceNeg]
                 (repeat' apply And.intro) <;> try first | ((with_reducible refine hK' _ ?_ ?_ ?_); rotate_left; (simp only [go_sem, Dk.small, r1, r2, r3, r4, c1, c2, same_self, pr, keepSl, ↓reduceIte, Nat.reduceEqDiff]; try rfl); clear hK' K') | (clear hK' K'; first | omega | (with_reducible refine drawOk_k ?_; kernel_rfl) | assumption | refine Eq.refl _ | exact fun h => ⟨h, fun k => ⟨h, k⟩⟩ | (intro _; (repeat' apply And.intro) <;> first | omega | assumption) | skip))
              | with_reducible first | refine W_skip ?_ | refine W_exit ?_ | refine W_ret ?_ | refine W_block ?_ | refine thenG_n ?_ | refine thenG_x ?_ | refine thenG_r ?_ | refine blockG_n ?_ | refine blockG_r ?_ | refine blockG_x ?_ | refine blockG_o (by decide) ?_
            refine W_cond _ (by exact rfl) (by exact trivial) ?_ ?_ <;> intro hlit <;> try (cases hlit; done)
            repeat' first
              | refine W_seq ?_
              | (refine W_reg (s_lawRead_K.env []) s_lawRead_lv fun K' hK' => ?_
                 simp only [go_sem, ↓reduceIte, ↓reduceDIte, reduceCtorEq, Nat.reduceAdd, Nat.reduceMul, Nat.reduceSub, Nat.reduceLT, Nat.reduceLeDiff, Nat.reduceEqDiff, Nat.reduceBEq, Int.reduceToNat, Int.reduceLE, Int.reduceLT, Int.reduceEq, Int.reduceNe, Int.reduceNeg]
                 (repeat' apply And.intro) <;> try first | ((with_reducible refine hK' _ ?_ ?_ ?_); rotate_left; (simp only [go_sem, pr, keepSl, ↓reduceIte, Nat.reduceEqDiff]; try rfl); clear hK' K') | (clear hK' K'; first | omega | (with_reducible refine drawOk_k ?_; kernel_rfl) | assumption | refine Eq.refl _ | exact fun h => ⟨h, fun k => ⟨h, k⟩⟩ | (intro _; (repeat' apply And.intro) <;> first | omega | assumption) | skip))
              | with_reducible first | refine W_skip ?_ | refine W_exit ?_ | refine W_ret ?_ | refine W_block ?_ | refine thenG_n ?_ | refine thenG_x ?_ | refine thenG_r ?_ | refine blockG_n ?_ | refine blockG_r ?_ | refine blockG_x ?_ | refine blockG_o (by decide) ?_
            refine ⟨d.a.length - (a + 1), [some 0, some 1, some 2, some 3, some 4, some 5, some 6, some 7, some 8, some 9, some 10, some 11, some 12], sgR2 d ex ef F S A T OK s (a + 1), by omega, ?_, a + 1, by omega, rfl, rfl⟩
            simp only [go_sem, c1, ↓reduceIte, reduceCtorEq, Nat.reduceAdd, Nat.reduceLT, Nat.reduceLeDiff, Nat.reduceEqDiff, Int.reduceEq, TC.val.injEq, Value.bool.injEq, Value.int.injEq, Value.string.injEq, TV.one.injEq]
            all_goals (repeat' apply And.intro) <;> try first | rfl | trivial | omega | (rw [wrap_id] <;> omega)
          · rw [c4] at r2 r3
            repeat' first
              | refine W_seq ?_
              | (refine W_reg (s_lawRead_K.env []) s_lawRead_lv fun K' hK' => ?_
                 simp only [go_sem, Dk.small, r1, r2, r3, r4, c1, c2, c3, same_self, ↓reduceIte, ↓reduceDIte, reduceCtorEq, Nat.reduceAdd, Nat.reduceMul, Nat.reduceSub, Nat.reduceLT, Nat.reduceLeDiff, Nat.reduceEqDiff, Nat.reduceBEq, Int.reduceToNat, Int.reduceLE, Int.reduceLT, Int.reduceEq, Int.reduceNe, Int.reduceNeg]
                 (repeat' apply And.intro) <;> try first | ((with_reducible refine hK' _ ?_ ?_ ?_); rotate_left; (simp only [go_sem, Dk.small, r1, r2, r3, r4, c1, c2, c3, same_self, pr, keepSl, ↓reduceIte, Nat.reduceEqDiff]; try rfl); clear hK' K') | (clear hK' K'; first | omega | (with_reducible refine drawOk_k ?_; kernel_rfl) | assumption | refine Eq.refl _ | exact fun h => ⟨h, fun k => ⟨h, k⟩⟩ | (intro _; (repeat' apply And.intro) <;> first | omega | assumption) | skip))
              | with_reducible first | refine W_skip ?_ | refine W_exit ?_ | refine W_ret ?_ | refine W_block ?_ | refine thenG_n ?_ | refine thenG_x ?_ | refine thenG_r ?_ | refine blockG_n ?_ | refine blockG_r ?_ | refine blockG_x ?_ | refine blockG_o (by decide) ?_
            refine W_cond _ (by exact rfl) (by exact trivial) ?_ ?_ <;> intro hlit <;> try (cases hlit; done)
            repeat' first
              | refine W_seq ?_
              | (refine W_reg (s_lawRead_K.env []) s_lawRead_lv fun K' hK' => ?_
                 simp only [go_sem, ↓reduceIte, ↓reduceDIte, reduceCtorEq, Nat.reduceAdd, Nat.reduceMul, Nat.reduceSub, Nat.reduceLT, Nat.reduceLeDiff, Nat.reduceEqDiff, Nat.reduceBEq, Int.reduceToNat, Int.reduceLE, Int.reduceLT, Int.reduceEq, Int.reduceNe, Int.reduceNeg]
                 (repeat' apply And.intro) <;> try first | ((with_reducible refine hK' _ ?_ ?_ ?_); rotate_left; (simp only [go_sem, pr, keepSl, ↓reduceIte, Nat.reduceEqDiff]; try rfl); clear hK' K') | (clear hK' K'; first | omega | (with_reducible refine drawOk_k ?_; kernel_rfl) | assumption | refine Eq.refl _ | exact fun h => ⟨h, fun k => ⟨h, k⟩⟩ | (intro _; (repeat' apply And.intro) <;> first | omega | assumption) | skip))
              | with_reducible first | refine W_skip ?_ | refine W_exit ?_ | refine W_ret ?_ | refine W_block ?_ | refine thenG_n ?_ | refine thenG_x ?_ | refine thenG_r ?_ | refine blockG_n ?_ | refine blockG_r ?_ | refine blockG_x ?_ | refine blockG_o (by decide) ?_
            refine ⟨d.a.length - (a + 1), [some 0, some 1, some 2, some 3, some 4, some 5, some 6, some 7, some 8, some 9, some 10, some 11, some 12], sgR2 d ex ef F S A T OK s (a + 1), by omega, ?_, a + 1, by omega, rfl, rfl⟩
            simp only [go_sem, c1, ↓reduceIte, reduceCtorEq, Nat.reduceAdd, Nat.reduceLT, Nat.reduceLeDiff, Nat.reduceEqDiff, Int.reduceEq, TC.val.injEq, Value.bool.injEq, Value.int.injEq, Value.string.injEq, TV.one.injEq]
            all_goals (repeat' apply And.intro) <;> try first | rfl | trivial | omega | (rw [wrap_id] <;> omega)
        · repeat' first
            | refine W_seq ?_
            | (refine W_reg (s_lawRead_K.env []) s_lawRead_lv fun K' hK' => ?_
               simp only [go_sem, ↓reduceIte, ↓reduceDIte, reduceCtorEq, Nat.reduceAdd, Nat.reduceMul, Nat.reduceSub, Nat.reduceLT, Nat.reduceLeDiff, Nat.reduceEqDiff, Nat.reduceBEq, Int.reduceToNat, Int.reduceLE, Int.reduceLT, Int.reduceEq, Int.reduceNe, Int.reduceNeg]
               (repeat' apply And.intro) <;> try first | ((with_reducible refine hK' _ ?_ ?_ ?_); rotate_left; (simp only [go_sem, pr, keepSl, ↓reduceIte, Nat.reduceEqDiff]; try rfl); clear hK' K') | (clear hK' K'; first | omega | (with_reducible refine drawOk_k ?_; kernel_rfl) | assumption | refine Eq.refl _ | exact fun h => ⟨h, fun k => ⟨h, k⟩⟩ | (intro _; (repeat' apply And.intro) <;> first | omega | assumption) | skip))
            | with_reducible first | refine W_skip ?_ | refine W_exit ?_ | refine W_ret ?_ | refine W_block ?_ | refine thenG_n ?_ | refine thenG_x ?_ | refine thenG_r ?_ | refine blockG_n ?_ | refine blockG_r ?_ | refine blockG_x ?_ | refine blockG_o (by decide) ?_
          refine ⟨2 - (s + 1), [some 0, some 1, some 2, some 3, some 4, some 5, some 6, some 7, some 8, some 9, some 10, some 11, some 12], sgR1 d ex ef F S A T OK (s + 1), by omega, ?_, s + 1, by omega, rfl, rfl⟩
          simp only [go_sem, ↓reduceIte, reduceCtorEq, Nat.reduceAdd, Nat.reduceLT, Nat.reduceLeDiff, Nat.reduceEqDiff, Int.reduceEq, TC.val.injEq, Value.bool.injEq, Value.int.injEq, Value.string.injEq, TV.one.injEq]
          all_goals (repeat' apply And.intro) <;> try first | rfl | trivial | omega | (rw [wrap_id] <;> omega)
      · repeat' first
          | refine W_seq ?_
          | (refine W_reg (s_lawRead_K.env []) s_lawRead_lv fun K' hK' => ?_
             simp only [go_sem, Dk.small, f3, f5, hff, Dk.eqv_self, beq_self_eq_true, ↓reduceIte, ↓reduceDIte, reduceCtorEq, Nat.reduceAdd, Nat.reduceMul, Nat.reduceSub, Nat.reduceLT, Nat.reduceLeDiff, Nat.reduceEqDiff, Nat.reduceBEq, Int.reduceToNat, Int.reduceLE, Int.reduceLT, Int.reduceEq, Int.reduceNe, Int.reduceNeg]
             (repeat' apply And.intro) <;> try first | ((with_reducible refine hK' _ ?_ ?_ ?_); rotate_left; (simp only [go_sem, Dk.small, f3, f5, hff, Dk.eqv_self, beq_self_eq_true, pr, keepSl, ↓reduceIte, Nat.reduceEqDiff]; try rfl); clear hK' K') | (clear hK' K'; first | omega | (with_reducible refine drawOk_k ?_; kernel_rfl) | assumption | refine Eq.refl _ | exact fun h => ⟨h, fun k => ⟨h, k⟩⟩ | (intro _; (repeat' apply And.intro) <;> first | omega | assumption) | skip))
          | with_reducible first | refine W_skip ?_ | refine W_exit ?_ | refine W_ret ?_ | refine W_block ?_ | refine thenG_n ?_ | refine thenG_x ?_ | refine thenG_r ?_ | refine blockG_n ?_ | refine blockG_r ?_ | refine blockG_x ?_ | refine blockG_o (by decide) ?_
        refine ⟨by (simp only [go_sem, ↓reduceIte, reduceCtorEq, Nat.reduceAdd, Nat.reduceLT, Nat.reduceLeDiff, Nat.reduceEqDiff]) <;> trivial, [], ?_⟩
        all_goals try simp only [go_sem, ↓reduceIte, reduceCtorEq, Nat.reduceAdd, Nat.reduceLT, Nat.reduceLeDiff, Nat.reduceEqDiff, Int.reduceEq, TC.val.injEq, Value.bool.injEq, Value.int.injEq, Value.string.injEq, TV.one.injEq]
        all_goals (repeat' apply And.intro) <;> try first | rfl | trivial | omega | (rw [wrap_id] <;> omega)
  · simp [no] at hp
end Go.Proofs.Ytjdpppbegjnpaaa
