/- Functions: writes and flushes, the program's. -/
import Derived.Test.YtfmeopnankeaeaaTFi
set_option linter.unusedSimpArgs false
set_option linter.unusedVariables false
set_option linter.unusedSectionVars false
namespace Go.Proofs.Ytfmeopnankeaeaa
open Go.RowKit

/-- A disk behind a pointer, its slices own: objects n, n + 1, n + 2. -/
@[go_sem] def Dk.cs (d : Dk) (n : Nat) : List TC := [.osl .str n 0 d.a.length, .osl .str (n + 1) 0 d.b.length, .osl .late (n + 2) 0 d.l.length]
theorem may_eq (d : Dk) (s k : Int) (t : ByteArray) : d.may s k t = (sector d.a.length s k && !(long t) && decide (d.l.length < 600)) := by
  unfold Dk.may fits sector long
  rw [Bool.eq_iff_iff]
  simp only [Bool.and_eq_true, decide_eq_true_eq, Bool.not_eq_true', decide_eq_false_iff_not]
  omega
/-- (*Disk).write: the disk's slices are the call's; its late writes become a new object, if it can be written. -/
@[go_sem] def ctWrite : Ct := ⟨true, [], fun args os => match args, os with
  | [.one (.ptr 0 0), .one (.val (.int .i64 s)), .one (.val (.int .i64 k)), .one (.val (.string t))], [.cells [.osl .str 1 0 na, .osl .str 2 0 nb, .osl .late 3 0 nl], .arr .str a, .arr .str b, .arr .late l] =>
    if (Dk.mk a b l).may s k t then ⟨(Dk.mk a b l).small ∧ na = a.length ∧ nb = b.length ∧ nl = l.length, vb true, [(0, some (.cells [.osl .str 1 0 na, .osl .str 2 0 nb, .osl .late 4 0 (nl + 1)])), (3, none)], [.arr .late (l ++ [⟨s, k, t⟩])]⟩
    else ⟨(Dk.mk a b l).small ∧ na = a.length ∧ nb = b.length ∧ nl = l.length, vb false, [], []⟩
  | _, _ => no⟩
theorem s_write_e : EnterOk Try.prog 54 := ⟨_, Try.func54, rfl, by decide⟩
@[go_sem] def s_write_lv : List (List Nat) := [[0, 1, 2, 3], [0, 1, 2, 3, 27], [8], [], [8]]
@[go_sem] noncomputable def s_write_K : Known := ((Known.nil).cons 45 ctIsSector s_isSector s_isSector_e).cons 73 ctIsLong s_isLong s_isLong_e
set_option maxHeartbeats 8000000 in
theorem s_write : Sound Try.prog 54 ctWrite := by
  refine sound_intro (E := ⟨ti, s_write_K.Γ, []⟩) (s_write_K.env []) Try.func54 Try.ntmps54 rfl (rs := [.tmp 8]) rfl ?_
  intro args os hp
  unfold ctWrite at hp ⊢
  dsimp only at hp ⊢
  split at hp
  · rename_i s k t na nb nl a b l
    refine ⟨by simp, fun φ0 w0 => ?_⟩
    have hp' : (Dk.mk a b l).small ∧ na = a.length ∧ nb = b.length ∧ nl = l.length := by
      by_cases h : (Dk.mk a b l).may s k t = true
      · rw [if_pos h] at hp; exact hp
      · rw [if_neg h] at hp; exact hp
    obtain ⟨⟨h1, h2, h3⟩, rfl, rfl, rfl⟩ := hp'
    simp only at h1 h2 h3
    have hm := may_eq ⟨a, b, l⟩ s k t
    simp only at hm
    clear hp
    repeat' first
      | refine W_seq ?_
      | (refine W_reg (s_write_K.env []) s_write_lv fun K' hK' => ?_
         simp only [go_sem, Dk.small, ↓reduceIte, ↓reduceDIte, reduceCtorEq, Nat.reduceAdd, Nat.reduceMul, Nat.reduceSub, Nat.reduceLT, Nat.reduceLeDiff, Nat.reduceEqDiff, Nat.reduceBEq, Int.reduceToNat, Int.reduceLE, Int.reduceLT, Int.reduceEq, Int.reduceNe, Int.reduceNeg]
         (repeat' apply And.intro) <;> try first | ((with_reducible refine hK' _ ?_ ?_ ?_); rotate_left; (simp only [go_sem, Dk.small, pr, keepSl, ↓reduceIte, Nat.reduceEqDiff]; try rfl); clear hK' K') | (clear hK' K'; first | omega | (with_reducible refine drawOk_k ?_; kernel_rfl) | assumption | refine Eq.refl _ | exact fun h => ⟨h, fun k => ⟨h, k⟩⟩ | (intro _; (repeat' apply And.intro) <;> first | omega | assumption) | skip))
      | with_reducible first | refine W_skip ?_ | refine W_exit ?_ | refine W_ret ?_ | refine W_block ?_ | refine thenG_n ?_ | refine thenG_x ?_ | refine thenG_r ?_ | refine blockG_n ?_ | refine blockG_r ?_ | refine blockG_x ?_ | refine blockG_o (by decide) ?_
    refine W_cond _ (by exact rfl) (by exact trivial) ?_ ?_ <;> (try simp only [Bool.if_true_left, Bool.if_false_right, Bool.if_true_right, Bool.if_false_left, Bool.decide_eq_true, Bool.or_assoc, Bool.and_assoc, Bool.and_true, Bool.or_false, Bool.true_and, Bool.false_or, decide_eq_true_eq, decide_eq_false_iff_not, not_and, not_or, Classical.not_not, Bool.and_eq_true, Bool.or_eq_true, Bool.not_eq_true', Bool.not_eq_false', Bool.or_eq_false_iff, Bool.and_eq_false_iff, bne_iff_ne, ne_eq, beq_iff_eq, bne_eq_false_iff_eq, same_true, same_false, Int.ofNat_inj]) <;> intro hc
    · have hm0 : (Dk.mk a b l).may s k t = false := by
        rw [hm]
        cases hs : sector a.length s k <;> cases ht : long t <;> simp [hs, ht] at hc ⊢
        omega
      repeat' first
        | refine W_seq ?_
        | (refine W_reg (s_write_K.env []) s_write_lv fun K' hK' => ?_
           simp only [go_sem, ↓reduceIte, ↓reduceDIte, reduceCtorEq, Nat.reduceAdd, Nat.reduceMul, Nat.reduceSub, Nat.reduceLT, Nat.reduceLeDiff, Nat.reduceEqDiff, Nat.reduceBEq, Int.reduceToNat, Int.reduceLE, Int.reduceLT, Int.reduceEq, Int.reduceNe, Int.reduceNeg]
           (repeat' apply And.intro) <;> try first | ((with_reducible refine hK' _ ?_ ?_ ?_); rotate_left; (simp only [go_sem, pr, keepSl, ↓reduceIte, Nat.reduceEqDiff]; try rfl); clear hK' K') | (clear hK' K'; first | omega | (with_reducible refine drawOk_k ?_; kernel_rfl) | assumption | refine Eq.refl _ | exact fun h => ⟨h, fun k => ⟨h, k⟩⟩ | (intro _; (repeat' apply And.intro) <;> first | omega | assumption) | skip))
        | with_reducible first | refine W_skip ?_ | refine W_exit ?_ | refine W_ret ?_ | refine W_block ?_ | refine thenG_n ?_ | refine thenG_x ?_ | refine thenG_r ?_ | refine blockG_n ?_ | refine blockG_r ?_ | refine blockG_x ?_ | refine blockG_o (by decide) ?_
      refine ⟨by (simp only [go_sem, hm0, ↓reduceIte, reduceCtorEq, Nat.reduceAdd, Nat.reduceLT, Nat.reduceLeDiff, Nat.reduceEqDiff]) <;> trivial, [some 0, some 1, some 2, some 3], ?_⟩
      all_goals try simp only [go_sem, hm0, ↓reduceIte, reduceCtorEq, Nat.reduceAdd, Nat.reduceLT, Nat.reduceLeDiff, Nat.reduceEqDiff, Int.reduceEq, TC.val.injEq, Value.bool.injEq, Value.int.injEq, Value.string.injEq, TV.one.injEq]
      all_goals (repeat' apply And.intro) <;> try first | rfl | trivial | omega | (rw [wrap_id] <;> omega)
    · have hm0 : (Dk.mk a b l).may s k t = true := by
        rw [hm]
        cases hs : sector a.length s k <;> cases ht : long t <;> simp [hs, ht] at hc ⊢
        omega
      repeat' first
        | refine W_seq ?_
        | (refine W_reg (s_write_K.env []) s_write_lv fun K' hK' => ?_
           simp only [go_sem, ↓reduceIte, ↓reduceDIte, reduceCtorEq, Nat.reduceAdd, Nat.reduceMul, Nat.reduceSub, Nat.reduceLT, Nat.reduceLeDiff, Nat.reduceEqDiff, Nat.reduceBEq, Int.reduceToNat, Int.reduceLE, Int.reduceLT, Int.reduceEq, Int.reduceNe, Int.reduceNeg]
           (repeat' apply And.intro) <;> try first | ((with_reducible refine hK' _ ?_ ?_ ?_); rotate_left; (simp only [go_sem, pr, keepSl, ↓reduceIte, Nat.reduceEqDiff]; try rfl); clear hK' K') | (clear hK' K'; first | omega | (with_reducible refine drawOk_k ?_; kernel_rfl) | assumption | refine Eq.refl _ | exact fun h => ⟨h, fun k => ⟨h, k⟩⟩ | (intro _; (repeat' apply And.intro) <;> first | omega | assumption) | skip))
        | with_reducible first | refine W_skip ?_ | refine W_exit ?_ | refine W_ret ?_ | refine W_block ?_ | refine thenG_n ?_ | refine thenG_x ?_ | refine thenG_r ?_ | refine blockG_n ?_ | refine blockG_r ?_ | refine blockG_x ?_ | refine blockG_o (by decide) ?_
      refine ⟨by (simp only [go_sem, hm0, ↓reduceIte, reduceCtorEq, Nat.reduceAdd, Nat.reduceLT, Nat.reduceLeDiff, Nat.reduceEqDiff]) <;> trivial, [some 0, some 1, some 2, some 3, some 5], ?_⟩
      all_goals try simp only [go_sem, hm0, ↓reduceIte, reduceCtorEq, Nat.reduceAdd, Nat.reduceLT, Nat.reduceLeDiff, Nat.reduceEqDiff, Int.reduceEq, TC.val.injEq, Value.bool.injEq, Value.int.injEq, Value.string.injEq, TV.one.injEq]
      all_goals (repeat' apply And.intro) <;> try first | rfl | trivial | omega | (rw [wrap_id] <;> omega)
  · simp [no] at hp

theorem s_diskWrite_e : EnterOk Try.prog 20 := ⟨_, Try.func20, rfl, by decide⟩
@[go_sem] def s_diskWrite_lv : List (List Nat) := [[1, 2, 3, 4, 8], [1, 2, 3, 4, 8, 14], [8, 9], [1, 2, 3, 8, 10], [8, 10, 11], [8, 9]]
@[go_sem] noncomputable def s_diskWrite_K : Known := (((Known.nil).cons 43 ctDiskOk s_diskOk s_diskOk_e).cons 44 ctOwn s_own s_own_e).cons 54 ctWrite s_write s_write_e
set_option maxHeartbeats 8000000 in
theorem s_diskWrite : Sound Try.prog 20 ctDiskWrite := by
  refine sound_intro (E := ⟨ti, s_diskWrite_K.Γ, []⟩) (s_diskWrite_K.env []) Try.func20 Try.ntmps20 rfl (rs := [.cell 8 30, .tmp 9]) rfl ?_
  intro args os hp
  unfold ctDiskWrite at hp ⊢
  dsimp only at hp ⊢
  split at hp
  · rename_i a b l s k t
    refine ⟨by simp, fun φ0 w0 => ?_⟩
    obtain ⟨h1, h2, h3⟩ : a.length ≤ 4000000 ∧ b.length ≤ 4000000 ∧ l.length ≤ 4000000 := hp
    repeat' first
      | refine W_seq ?_
      | (refine W_reg (s_diskWrite_K.env []) s_diskWrite_lv fun K' hK' => ?_
         simp only [go_sem, Dk.small, ↓reduceIte, ↓reduceDIte, reduceCtorEq, Nat.reduceAdd, Nat.reduceMul, Nat.reduceSub, Nat.reduceLT, Nat.reduceLeDiff, Nat.reduceEqDiff, Nat.reduceBEq, Int.reduceToNat, Int.reduceLE, Int.reduceLT, Int.reduceEq, Int.reduceNe, Int.reduceNeg]
         (repeat' apply And.intro) <;> try first | ((with_reducible refine hK' _ ?_ ?_ ?_); rotate_left; (simp only [go_sem, Dk.small, pr, keepSl, ↓reduceIte, Nat.reduceEqDiff]; try rfl); clear hK' K') | (clear hK' K'; first | omega | (with_reducible refine drawOk_k ?_; kernel_rfl) | assumption | refine Eq.refl _ | exact fun h => ⟨h, fun k => ⟨h, k⟩⟩ | (intro _; (repeat' apply And.intro) <;> first | omega | assumption) | skip))
      | with_reducible first | refine W_skip ?_ | refine W_exit ?_ | refine W_ret ?_ | refine W_block ?_ | refine thenG_n ?_ | refine thenG_x ?_ | refine thenG_r ?_ | refine blockG_n ?_ | refine blockG_r ?_ | refine blockG_x ?_ | refine blockG_o (by decide) ?_
    refine W_cond _ (by exact rfl) (by exact trivial) ?_ ?_ <;> (try simp only [Bool.if_true_left, Bool.if_false_right, Bool.if_true_right, Bool.if_false_left, Bool.decide_eq_true, Bool.or_assoc, Bool.and_assoc, Bool.and_true, Bool.or_false, Bool.true_and, Bool.false_or, decide_eq_true_eq, decide_eq_false_iff_not, not_and, not_or, Classical.not_not, Bool.and_eq_true, Bool.or_eq_true, Bool.not_eq_true', Bool.not_eq_false', Bool.or_eq_false_iff, Bool.and_eq_false_iff, bne_iff_ne, ne_eq, beq_iff_eq, bne_eq_false_iff_eq, same_true, same_false, Int.ofNat_inj]) <;> intro hok
    · have e1 : dkWrite ⟨a, b, l⟩ s k t = .nil := by unfold dkWrite; rw [hok]; rfl
      have e2 : dkWrites ⟨a, b, l⟩ s k t = false := by unfold dkWrites; rw [hok]; rfl
      repeat' first
        | refine W_seq ?_
        | (refine W_reg (s_diskWrite_K.env []) s_diskWrite_lv fun K' hK' => ?_
           simp only [go_sem, ↓reduceIte, ↓reduceDIte, reduceCtorEq, Nat.reduceAdd, Nat.reduceMul, Nat.reduceSub, Nat.reduceLT, Nat.reduceLeDiff, Nat.reduceEqDiff, Nat.reduceBEq, Int.reduceToNat, Int.reduceLE, Int.reduceLT, Int.reduceEq, Int.reduceNe, Int.reduceNeg]
           (repeat' apply And.intro) <;> try first | ((with_reducible refine hK' _ ?_ ?_ ?_); rotate_left; (simp only [go_sem, pr, keepSl, ↓reduceIte, Nat.reduceEqDiff]; try rfl); clear hK' K') | (clear hK' K'; first | omega | (with_reducible refine drawOk_k ?_; kernel_rfl) | assumption | refine Eq.refl _ | exact fun h => ⟨h, fun k => ⟨h, k⟩⟩ | (intro _; (repeat' apply And.intro) <;> first | omega | assumption) | skip))
        | with_reducible first | refine W_skip ?_ | refine W_exit ?_ | refine W_ret ?_ | refine W_block ?_ | refine thenG_n ?_ | refine thenG_x ?_ | refine thenG_r ?_ | refine blockG_n ?_ | refine blockG_r ?_ | refine blockG_x ?_ | refine blockG_o (by decide) ?_
      refine ⟨by (simp only [go_sem, e1, e2, Dk.nil, ↓reduceIte, reduceCtorEq, Nat.reduceAdd, Nat.reduceLT, Nat.reduceLeDiff, Nat.reduceEqDiff]) <;> trivial, [none, none, none], ?_⟩
      all_goals try simp only [go_sem, e1, e2, Dk.nil, ↓reduceIte, reduceCtorEq, Nat.reduceAdd, Nat.reduceLT, Nat.reduceLeDiff, Nat.reduceEqDiff, Int.reduceEq, TC.val.injEq, Value.bool.injEq, Value.int.injEq, Value.string.injEq, TV.one.injEq]
      all_goals (repeat' apply And.intro) <;> try first | rfl | trivial | omega | (rw [wrap_id] <;> omega)
    · have e3 : a.length ≤ 120 ∧ b.length ≤ 120 ∧ l.length ≤ 600 := Dk.ok_small hok
      have e1 : dkWrite ⟨a, b, l⟩ s k t = if (Dk.mk a b l).may s k t then (Dk.mk a b l).add s k t else ⟨a, b, l⟩ := by unfold dkWrite; rw [hok]; rfl
      have e2 : dkWrites ⟨a, b, l⟩ s k t = (Dk.mk a b l).may s k t := by unfold dkWrites; rw [hok]; rfl
      by_cases hm : (Dk.mk a b l).may s k t = true
      · repeat' first
          | refine W_seq ?_
          | (refine W_reg (s_diskWrite_K.env []) s_diskWrite_lv fun K' hK' => ?_
             simp only [go_sem, Dk.small, hm, ↓reduceIte, ↓reduceDIte, reduceCtorEq, Nat.reduceAdd, Nat.reduceMul, Nat.reduceSub, Nat.reduceLT, Nat.reduceLeDiff, Nat.reduceEqDiff, Nat.reduceBEq, Int.reduceToNat, Int.reduceLE, Int.reduceLT, Int.reduceEq, Int.reduceNe, Int.reduceNeg]
             (repeat' apply And.intro) <;> try first | ((with_reducible refine hK' _ ?_ ?_ ?_); rotate_left; (simp only [go_sem, Dk.small, hm, pr, keepSl, ↓reduceIte, Nat.reduceEqDiff]; try rfl); clear hK' K') | (clear hK' K'; first | omega | (with_reducible refine drawOk_k ?_; kernel_rfl) | assumption | refine Eq.refl _ | exact fun h => ⟨h, fun k => ⟨h, k⟩⟩ | (intro _; (repeat' apply And.intro) <;> first | omega | assumption) | skip))
          | with_reducible first | refine W_skip ?_ | refine W_exit ?_ | refine W_ret ?_ | refine W_block ?_ | refine thenG_n ?_ | refine thenG_x ?_ | refine thenG_r ?_ | refine blockG_n ?_ | refine blockG_r ?_ | refine blockG_x ?_ | refine blockG_o (by decide) ?_
        refine ⟨by (simp only [go_sem, e1, e2, hm, Dk.add, ↓reduceIte, reduceCtorEq, Nat.reduceAdd, Nat.reduceLT, Nat.reduceLeDiff, Nat.reduceEqDiff]) <;> trivial, [some 7, some 8, some 9], ?_⟩
        all_goals try simp only [go_sem, e1, e2, hm, Dk.add, ↓reduceIte, reduceCtorEq, Nat.reduceAdd, Nat.reduceLT, Nat.reduceLeDiff, Nat.reduceEqDiff, Int.reduceEq, TC.val.injEq, Value.bool.injEq, Value.int.injEq, Value.string.injEq, TV.one.injEq]
        all_goals (repeat' apply And.intro) <;> try first | rfl | trivial | omega | (rw [wrap_id] <;> omega)
      · repeat' first
          | refine W_seq ?_
          | (refine W_reg (s_diskWrite_K.env []) s_diskWrite_lv fun K' hK' => ?_
             simp only [go_sem, Dk.small, hm, ↓reduceIte, ↓reduceDIte, reduceCtorEq, Nat.reduceAdd, Nat.reduceMul, Nat.reduceSub, Nat.reduceLT, Nat.reduceLeDiff, Nat.reduceEqDiff, Nat.reduceBEq, Int.reduceToNat, Int.reduceLE, Int.reduceLT, Int.reduceEq, Int.reduceNe, Int.reduceNeg]
             (repeat' apply And.intro) <;> try first | ((with_reducible refine hK' _ ?_ ?_ ?_); rotate_left; (simp only [go_sem, Dk.small, hm, pr, keepSl, ↓reduceIte, Nat.reduceEqDiff]; try rfl); clear hK' K') | (clear hK' K'; first | omega | (with_reducible refine drawOk_k ?_; kernel_rfl) | assumption | refine Eq.refl _ | exact fun h => ⟨h, fun k => ⟨h, k⟩⟩ | (intro _; (repeat' apply And.intro) <;> first | omega | assumption) | skip))
          | with_reducible first | refine W_skip ?_ | refine W_exit ?_ | refine W_ret ?_ | refine W_block ?_ | refine thenG_n ?_ | refine thenG_x ?_ | refine thenG_r ?_ | refine blockG_n ?_ | refine blockG_r ?_ | refine blockG_x ?_ | refine blockG_o (by decide) ?_
        refine ⟨by (simp only [go_sem, e1, e2, hm, ↓reduceIte, reduceCtorEq, Nat.reduceAdd, Nat.reduceLT, Nat.reduceLeDiff, Nat.reduceEqDiff]) <;> trivial, [some 6, some 7, some 8], ?_⟩
        all_goals try simp only [go_sem, e1, e2, hm, ↓reduceIte, reduceCtorEq, Nat.reduceAdd, Nat.reduceLT, Nat.reduceLeDiff, Nat.reduceEqDiff, Int.reduceEq, TC.val.injEq, Value.bool.injEq, Value.int.injEq, Value.string.injEq, TV.one.injEq]
        all_goals (repeat' apply And.intro) <;> try first | rfl | trivial | omega | (rw [wrap_id] <;> omega)
  · simp [no] at hp

@[go_sem] def ctFlush : Ct := ⟨true, [], fun args os => match args, os with
  | [.one (.ptr 0 0)], [.cells [.osl .str 1 0 na, .osl .str 2 0 nb, .osl .late 3 0 nl], .arr .str a, .arr .str b, .arr .late l] =>
    ⟨(Dk.mk a b l).ok = true ∧ na = a.length ∧ nb = b.length ∧ nl = l.length, .tup [], [(0, some (.cells [.osl .str 1 0 na, .osl .str 2 0 nb, .val (.slice none 0 0)])), (1, some (.arr .str (Dk.mk a b l).flushed.a)), (2, some (.arr .str (Dk.mk a b l).flushed.b))], []⟩
  | _, _ => no⟩
@[go_sem] def sgFl (l : List Late) (x : List ByteArray × List ByteArray) (i : Nat) : Sg := ⟨[(0, .one (.ptr 0 0)), (7, .one (.osl .late 3 0 l.length)), (8, vi l.length), (9, vi i)],
  [some (.cells [.osl .str 1 0 x.1.length, .osl .str 2 0 x.2.length, .osl .late 3 0 l.length]), some (.arr .str x.1), some (.arr .str x.2), some (.arr .late l)], [0, 1, 2]⟩
theorem s_flush_e : EnterOk Try.prog 53 := ⟨_, Try.func53, rfl, by decide⟩
@[go_sem] def s_flush_lv : List (List Nat) := [[0, 7, 8, 9], [0, 7, 8, 9, 10], [0, 3, 7, 8, 9], [0, 7, 8, 9], [0, 7, 8, 9], []]
@[go_sem] noncomputable def s_flush_K : Known := Known.nil
set_option maxHeartbeats 8000000 in
theorem s_flush : Sound Try.prog 53 ctFlush := by
  refine sound_intro (E := ⟨ti, s_flush_K.Γ, []⟩) (s_flush_K.env []) Try.func53 Try.ntmps53 rfl (rs := []) rfl ?_
  intro args os hp
  unfold ctFlush at hp ⊢
  dsimp only at hp ⊢
  split at hp
  · rename_i na nb nl a b l
    refine ⟨by simp, fun φ0 w0 => ?_⟩
    obtain ⟨hok, rfl, rfl, rfl⟩ : (Dk.mk a b l).ok = true ∧ na = a.length ∧ nb = b.length ∧ nl = l.length := hp
    have e3 : a.length ≤ 120 ∧ b.length ≤ 120 ∧ l.length ≤ 600 := Dk.ok_small hok
    repeat' first
      | refine W_seq ?_
      | (refine W_reg (s_flush_K.env []) s_flush_lv fun K' hK' => ?_
         simp only [go_sem, ↓reduceIte, ↓reduceDIte, reduceCtorEq, Nat.reduceAdd, Nat.reduceMul, Nat.reduceSub, Nat.reduceLT, Nat.reduceLeDiff, Nat.reduceEqDiff, Nat.reduceBEq, Int.reduceToNat, Int.reduceLE, Int.reduceLT, Int.reduceEq, Int.reduceNe, Int.reduceNeg]
         (repeat' apply And.intro) <;> try first | ((with_reducible refine hK' _ ?_ ?_ ?_); rotate_left; (simp only [go_sem, pr, keepSl, ↓reduceIte, Nat.reduceEqDiff]; try rfl); clear hK' K') | (clear hK' K'; first | omega | (with_reducible refine drawOk_k ?_; kernel_rfl) | assumption | refine Eq.refl _ | exact fun h => ⟨h, fun k => ⟨h, k⟩⟩ | (intro _; (repeat' apply And.intro) <;> first | omega | assumption) | skip))
      | with_reducible first | refine W_skip ?_ | refine W_exit ?_ | refine W_ret ?_ | refine W_block ?_ | refine thenG_n ?_ | refine thenG_x ?_ | refine thenG_r ?_ | refine blockG_n ?_ | refine blockG_r ?_ | refine blockG_x ?_ | refine blockG_o (by decide) ?_
    refine W_le (σ' := sgFl l ((Dk.mk a b l).done 0) 0) [some 0, some 1, some 2, some 3] (by
      simp only [go_sem, Dk.done_zero, ↓reduceIte, reduceCtorEq, Nat.reduceAdd, Nat.reduceLT, Nat.reduceLeDiff, Nat.reduceEqDiff, Int.reduceEq, TC.val.injEq, Value.bool.injEq, Value.int.injEq, Value.string.injEq, TV.one.injEq]
      all_goals (repeat' apply And.intro) <;> try first | rfl | trivial | omega | (rw [wrap_id] <;> omega)
      ) ?_
    refine W_loop (fun n σ => ∃ i : Nat, i ≤ l.length ∧ n = l.length - i ∧ σ = sgFl l ((Dk.mk a b l).done i) i) l.length ⟨0, by omega, by omega, rfl⟩ ?_
    rintro n σ ⟨i, hi, rfl, rfl⟩
    obtain ⟨hl1, hl2⟩ := (Dk.mk a b l).done_len i
    simp only at hl1 hl2
    unfold sgFl
    repeat' first
      | refine W_seq ?_
      | (refine W_reg (s_flush_K.env []) s_flush_lv fun K' hK' => ?_
         simp only [go_sem, ↓reduceIte, ↓reduceDIte, reduceCtorEq, Nat.reduceAdd, Nat.reduceMul, Nat.reduceSub, Nat.reduceLT, Nat.reduceLeDiff, Nat.reduceEqDiff, Nat.reduceBEq, Int.reduceToNat, Int.reduceLE, Int.reduceLT, Int.reduceEq, Int.reduceNe, Int.reduceNeg]
         (repeat' apply And.intro) <;> try first | ((with_reducible refine hK' _ ?_ ?_ ?_); rotate_left; (simp only [go_sem, pr, keepSl, ↓reduceIte, Nat.reduceEqDiff]; try rfl); clear hK' K') | (clear hK' K'; first | omega | (with_reducible refine drawOk_k ?_; kernel_rfl) | assumption | refine Eq.refl _ | exact fun h => ⟨h, fun k => ⟨h, k⟩⟩ | (intro _; (repeat' apply And.intro) <;> first | omega | assumption) | skip))
      | with_reducible first | refine W_skip ?_ | refine W_exit ?_ | refine W_ret ?_ | refine W_block ?_ | refine thenG_n ?_ | refine thenG_x ?_ | refine thenG_r ?_ | refine blockG_n ?_ | refine blockG_r ?_ | refine blockG_x ?_ | refine blockG_o (by decide) ?_
    refine W_cond _ (by exact rfl) (by exact trivial) ?_ ?_ <;> (try simp only [Bool.if_true_left, Bool.if_false_right, Bool.if_true_right, Bool.if_false_left, Bool.decide_eq_true, Bool.or_assoc, Bool.and_assoc, Bool.and_true, Bool.or_false, Bool.true_and, Bool.false_or, decide_eq_true_eq, decide_eq_false_iff_not, not_and, not_or, Classical.not_not, Bool.and_eq_true, Bool.or_eq_true, Bool.not_eq_true', Bool.not_eq_false', Bool.or_eq_false_iff, Bool.and_eq_false_iff, bne_iff_ne, ne_eq, beq_iff_eq, bne_eq_false_iff_eq, same_true, same_false, Int.ofNat_inj]) <;> intro hlt
    · have hi' : i < l.length := by omega
      obtain ⟨ws, w1, w2, w3⟩ := Dk.ok_late hok i hi'
      have hd := (Dk.mk a b l).done_succ i hi'
      obtain ⟨-, -, hab, -⟩ := (Dk.ok_iff _).1 hok
      simp only at ws w1 w2 w3 hd hab
      generalize hx : (Dk.mk a b l).done i = x at *
      generalize hw : l.getD i ET.late.dflt = w at *
      obtain ⟨s, k, t⟩ := w
      simp only at ws w1 w2 w3
      rcases ws with rfl | rfl
      all_goals
        repeat' first
          | refine W_seq ?_
          | (refine W_reg (s_flush_K.env []) s_flush_lv fun K' hK' => ?_
             simp only [go_sem, hw, ↓reduceIte, ↓reduceDIte, reduceCtorEq, Nat.reduceAdd, Nat.reduceMul, Nat.reduceSub, Nat.reduceLT, Nat.reduceLeDiff, Nat.reduceEqDiff, Nat.reduceBEq, Int.reduceToNat, Int.reduceLE, Int.reduceLT, Int.reduceEq, Int.reduceNe, Int.reduceNeg]
             (repeat' apply And.intro) <;> try first | ((with_reducible refine hK' _ ?_ ?_ ?_); rotate_left; (simp only [go_sem, hw, pr, keepSl, ↓reduceIte, Nat.reduceEqDiff]; try rfl); clear hK' K') | (clear hK' K'; first | omega | (with_reducible refine drawOk_k ?_; kernel_rfl) | assumption | refine Eq.refl _ | exact fun h => ⟨h, fun k => ⟨h, k⟩⟩ | (intro _; (repeat' apply And.intro) <;> first | omega | assumption) | skip))
          | with_reducible first | refine W_skip ?_ | refine W_exit ?_ | refine W_ret ?_ | refine W_block ?_ | refine thenG_n ?_ | refine thenG_x ?_ | refine thenG_r ?_ | refine blockG_n ?_ | refine blockG_r ?_ | refine blockG_x ?_ | refine blockG_o (by decide) ?_
        refine ⟨l.length - (i + 1), [some 0, some 1, some 2, some 3], sgFl l ((Dk.mk a b l).done (i + 1)) (i + 1), by omega, ?_, i + 1, by omega, rfl, rfl⟩
        rw [hd]
        simp only [go_sem, putW, List.length_set, ↓reduceIte, reduceCtorEq, Nat.reduceAdd, Nat.reduceLT, Nat.reduceLeDiff, Nat.reduceEqDiff, Int.reduceEq, TC.val.injEq, Value.bool.injEq, Value.int.injEq, Value.string.injEq, TV.one.injEq]
        all_goals (repeat' apply And.intro) <;> try first | rfl | trivial | omega | (rw [wrap_id] <;> omega)
    · have : i = l.length := by omega
      subst this
      have e4 : (Dk.mk a b l).flushed = ⟨((Dk.mk a b l).done l.length).1, ((Dk.mk a b l).done l.length).2, []⟩ := rfl
      repeat' first
        | refine W_seq ?_
        | (refine W_reg (s_flush_K.env []) s_flush_lv fun K' hK' => ?_
           simp only [go_sem, ↓reduceIte, ↓reduceDIte, reduceCtorEq, Nat.reduceAdd, Nat.reduceMul, Nat.reduceSub, Nat.reduceLT, Nat.reduceLeDiff, Nat.reduceEqDiff, Nat.reduceBEq, Int.reduceToNat, Int.reduceLE, Int.reduceLT, Int.reduceEq, Int.reduceNe, Int.reduceNeg]
           (repeat' apply And.intro) <;> try first | ((with_reducible refine hK' _ ?_ ?_ ?_); rotate_left; (simp only [go_sem, pr, keepSl, ↓reduceIte, Nat.reduceEqDiff]; try rfl); clear hK' K') | (clear hK' K'; first | omega | (with_reducible refine drawOk_k ?_; kernel_rfl) | assumption | refine Eq.refl _ | exact fun h => ⟨h, fun k => ⟨h, k⟩⟩ | (intro _; (repeat' apply And.intro) <;> first | omega | assumption) | skip))
        | with_reducible first | refine W_skip ?_ | refine W_exit ?_ | refine W_ret ?_ | refine W_block ?_ | refine thenG_n ?_ | refine thenG_x ?_ | refine thenG_r ?_ | refine blockG_n ?_ | refine blockG_r ?_ | refine blockG_x ?_ | refine blockG_o (by decide) ?_
      refine ⟨by (simp only [go_sem, e4, ↓reduceIte, reduceCtorEq, Nat.reduceAdd, Nat.reduceLT, Nat.reduceLeDiff, Nat.reduceEqDiff]) <;> trivial, [some 0, some 1, some 2, some 3], ?_⟩
      all_goals try simp only [go_sem, e4, ↓reduceIte, reduceCtorEq, Nat.reduceAdd, Nat.reduceLT, Nat.reduceLeDiff, Nat.reduceEqDiff, Int.reduceEq, TC.val.injEq, Value.bool.injEq, Value.int.injEq, Value.string.injEq, TV.one.injEq]
      all_goals (repeat' apply And.intro) <;> try first | rfl | trivial | omega | (rw [wrap_id] <;> omega)
  · simp [no] at hp
end Go.Proofs.Ytfmeopnankeaeaa
