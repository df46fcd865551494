/- Functions of the exact laws: cores and pools. -/
import Derived.Test.YtfmeopnankeaeaaTEi
set_option linter.unusedSimpArgs false
set_option linter.unusedVariables false
set_option linter.unusedSectionVars false
namespace Go.Proofs.Ytfmeopnankeaeaa
open Go.RowKit

structure Co where
  txg : Int
  sets : List CSet
  ddt : List Ent
  parts : List Ptr
  dirty : Bool
  safe : List Int
  logn : Int
structure Pl where
  disk : Dk
  core : Co
  up : Bool
structure Co.inn (c : Co) : Prop where
  sets : inC c.sets
  ddt : c.ddt.length ≤ 9223372036854775807
  parts : c.parts.length ≤ 9223372036854775807
  safe : c.safe.length ≤ 9223372036854775807
def Co.small (c : Co) : Prop := c.sets.length ≤ 4000000 ∧ c.ddt.length ≤ 4000000 ∧ c.parts.length ≤ 4000000 ∧ c.safe.length ≤ 4000000
def Co.wt (c : Co) : List Nat := wC c.sets ++ ([c.ddt.length] ++ ([c.parts.length] ++ [c.safe.length]))
@[go_sem] def Co.v (c : Co) (n : Nat) : TV := .agg [.val (.int .i64 c.txg), .osl .cset n 0 c.sets.length, .osl .ent (n + 1) 0 c.ddt.length, .osl .ptr (n + 2) 0 c.parts.length, .val (.bool c.dirty), .osl .int (n + 3) 0 c.safe.length, .val (.int .i64 c.logn)]
@[go_sem] def Co.objs (c : Co) : List Obj := [.arr .cset c.sets, .arr .ent c.ddt, .arr .ptr c.parts, .arr .int c.safe]
@[go_sem] def ctSzCore : Ct := ⟨false, [[none, some .cset, some .ent, some .ptr, none, some .int, none]], fun args os => match args, os with
  | [.agg [.val (.int .i64 x), .isl .cset cs, .isl .ent es, .isl .ptr ps, .val (.bool y), .isl .int zs, .val (.int .i64 u)], .one (.val (.int .i64 n))], [] => ifp ((Co.mk x cs es ps y zs u).inn ∧ 0 ≤ n ∧ n ≤ 1048576) (vi (szW (Co.mk x cs es ps y zs u).wt n))
  | _, _ => no⟩
theorem s_szCore_e : EnterOk Try.prog 61 := ⟨_, Try.func61, rfl, by decide⟩
@[go_sem] def s_szCore_lv : List (List Nat) := [[1, 2], [1, 2], [1, 2, 10], [4], [1, 2], [1, 2, 16], [4], [1, 2], [1, 2, 22], [4], [1], [1, 28], [4], [4]]
@[go_sem] noncomputable def s_szCore_K : Known := ((((Known.nil).cons 90 ctSzCs s_szCs s_szCs_e).cons 91 ctSzEs s_szEs s_szEs_e).cons 92 ctSzPs s_szPs s_szPs_e).cons 93 ctSzI s_szI s_szI_e
set_option maxHeartbeats 8000000 in
theorem s_szCore : Sound Try.prog 61 ctSzCore := by
  refine sound_intro (E := ⟨ti, s_szCore_K.Γ, []⟩) (s_szCore_K.env []) Try.func61 Try.ntmps61 rfl (rs := [.tmp 4]) rfl ?_
  intro args os hp
  unfold ctSzCore at hp ⊢
  dsimp only at hp ⊢
  split at hp
  · rename_i x cs es ps y zs u n
    refine ⟨by simp, fun φ0 w0 => ?_⟩
    obtain ⟨⟨h1, h2, h3, h4⟩, h5, h6⟩ : (Co.mk x cs es ps y zs u).inn ∧ 0 ≤ n ∧ n ≤ 1048576 := hp
    simp only at h1 h2 h3 h4
    have e0 : szW (Co.mk x cs es ps y zs u).wt n = szW (wC cs ++ ([es.length] ++ ([ps.length] ++ [zs.length]))) n := rfl
    have e1 := szW_app (wC cs) ([es.length] ++ ([ps.length] ++ [zs.length])) n h5
    have i1 := szW_in (wC cs) n h5
    repeat' first
      | refine W_seq ?_
      | (refine W_reg (s_szCore_K.env []) s_szCore_lv fun K' hK' => ?_
         simp only [go_sem, ↓reduceIte, ↓reduceDIte, reduceCtorEq, Nat.reduceAdd, Nat.reduceMul, Nat.reduceSub, Nat.reduceLT, Nat.reduceLeDiff, Nat.reduceEqDiff, Nat.reduceBEq, Int.reduceToNat, Int.reduceLE, Int.reduceLT, Int.reduceEq, Int.reduceNe, Int.reduceNeg]
         (repeat' apply And.intro) <;> try first | ((with_reducible refine hK' _ ?_ ?_ ?_); rotate_left; (simp only [go_sem, pr, keepSl, ↓reduceIte, Nat.reduceEqDiff]; try rfl); clear hK' K') | (clear hK' K'; first | omega | (with_reducible refine drawOk_k ?_; kernel_rfl) | assumption | refine Eq.refl _ | exact fun h => ⟨h, fun k => ⟨h, k⟩⟩ | (intro _; (repeat' apply And.intro) <;> first | omega | assumption) | skip))
      | with_reducible first | refine W_skip ?_ | refine W_exit ?_ | refine W_ret ?_ | refine W_block ?_ | refine thenG_n ?_ | refine thenG_x ?_ | refine thenG_r ?_ | refine blockG_n ?_ | refine blockG_r ?_ | refine blockG_x ?_ | refine blockG_o (by decide) ?_
    refine W_cond _ (by exact rfl) (by exact trivial) ?_ ?_ <;> (try simp only [Bool.if_true_left, Bool.if_false_right, Bool.if_true_right, Bool.if_false_left, Bool.decide_eq_true, Bool.or_assoc, Bool.and_assoc, Bool.and_true, Bool.or_false, Bool.true_and, Bool.false_or, decide_eq_true_eq, decide_eq_false_iff_not, not_and, not_or, Classical.not_not, Bool.and_eq_true, Bool.or_eq_true, Bool.not_eq_true', Bool.not_eq_false', Bool.or_eq_false_iff, Bool.and_eq_false_iff, bne_iff_ne, ne_eq, beq_iff_eq, bne_eq_false_iff_eq, same_true, same_false, Int.ofNat_inj]) <;> intro hc1
    · rw [if_pos hc1] at e1
      repeat' first
        | refine W_seq ?_
        | (refine W_reg (s_szCore_K.env []) s_szCore_lv fun K' hK' => ?_
           simp only [go_sem, ↓reduceIte, ↓reduceDIte, reduceCtorEq, Nat.reduceAdd, Nat.reduceMul, Nat.reduceSub, Nat.reduceLT, Nat.reduceLeDiff, Nat.reduceEqDiff, Nat.reduceBEq, Int.reduceToNat, Int.reduceLE, Int.reduceLT, Int.reduceEq, Int.reduceNe, Int.reduceNeg]
           (repeat' apply And.intro) <;> try first | ((with_reducible refine hK' _ ?_ ?_ ?_); rotate_left; (simp only [go_sem, pr, keepSl, ↓reduceIte, Nat.reduceEqDiff]; try rfl); clear hK' K') | (clear hK' K'; first | omega | (with_reducible refine drawOk_k ?_; kernel_rfl) | assumption | refine Eq.refl _ | exact fun h => ⟨h, fun k => ⟨h, k⟩⟩ | (intro _; (repeat' apply And.intro) <;> first | omega | assumption) | skip))
        | with_reducible first | refine W_skip ?_ | refine W_exit ?_ | refine W_ret ?_ | refine W_block ?_ | refine thenG_n ?_ | refine thenG_x ?_ | refine thenG_r ?_ | refine blockG_n ?_ | refine blockG_r ?_ | refine blockG_x ?_ | refine blockG_o (by decide) ?_
      have ez := (e0.trans e1)
      refine ⟨by (simp only [go_sem, ez, ↓reduceIte, reduceCtorEq, Nat.reduceAdd, Nat.reduceLT, Nat.reduceLeDiff, Nat.reduceEqDiff]) <;> trivial, [], ?_⟩
      all_goals try simp only [go_sem, ez, ↓reduceIte, reduceCtorEq, Nat.reduceAdd, Nat.reduceLT, Nat.reduceLeDiff, Nat.reduceEqDiff, Int.reduceEq, TC.val.injEq, Value.bool.injEq, Value.int.injEq, Value.string.injEq, TV.one.injEq]
      all_goals (repeat' apply And.intro) <;> try first | rfl | trivial | omega | (rw [wrap_id] <;> omega)
    · rw [if_neg hc1] at e1
      obtain ⟨m1, hm1⟩ : ∃ m, szW (wC cs) n = m := ⟨_, rfl⟩
      rw [hm1] at e1 i1 hc1
      have e2 := szW_app [es.length] ([ps.length] ++ [zs.length]) m1 (by omega)
      have i2 := szW_in [es.length] m1 (by omega)
      repeat' first
        | refine W_seq ?_
        | (refine W_reg (s_szCore_K.env []) s_szCore_lv fun K' hK' => ?_
           simp only [go_sem, hm1, ↓reduceIte, ↓reduceDIte, reduceCtorEq, Nat.reduceAdd, Nat.reduceMul, Nat.reduceSub, Nat.reduceLT, Nat.reduceLeDiff, Nat.reduceEqDiff, Nat.reduceBEq, Int.reduceToNat, Int.reduceLE, Int.reduceLT, Int.reduceEq, Int.reduceNe, Int.reduceNeg]
           (repeat' apply And.intro) <;> try first | ((with_reducible refine hK' _ ?_ ?_ ?_); rotate_left; (simp only [go_sem, hm1, pr, keepSl, ↓reduceIte, Nat.reduceEqDiff]; try rfl); clear hK' K') | (clear hK' K'; first | omega | (with_reducible refine drawOk_k ?_; kernel_rfl) | assumption | refine Eq.refl _ | exact fun h => ⟨h, fun k => ⟨h, k⟩⟩ | (intro _; (repeat' apply And.intro) <;> first | omega | assumption) | skip))
        | with_reducible first | refine W_skip ?_ | refine W_exit ?_ | refine W_ret ?_ | refine W_block ?_ | refine thenG_n ?_ | refine thenG_x ?_ | refine thenG_r ?_ | refine blockG_n ?_ | refine blockG_r ?_ | refine blockG_x ?_ | refine blockG_o (by decide) ?_
      refine W_cond _ (by exact rfl) (by exact trivial) ?_ ?_ <;> (try simp only [Bool.if_true_left, Bool.if_false_right, Bool.if_true_right, Bool.if_false_left, Bool.decide_eq_true, Bool.or_assoc, Bool.and_assoc, Bool.and_true, Bool.or_false, Bool.true_and, Bool.false_or, decide_eq_true_eq, decide_eq_false_iff_not, not_and, not_or, Classical.not_not, Bool.and_eq_true, Bool.or_eq_true, Bool.not_eq_true', Bool.not_eq_false', Bool.or_eq_false_iff, Bool.and_eq_false_iff, bne_iff_ne, ne_eq, beq_iff_eq, bne_eq_false_iff_eq, same_true, same_false, Int.ofNat_inj]) <;> intro hc2
      · rw [if_pos hc2] at e2
        repeat' first
          | refine W_seq ?_
          | (refine W_reg (s_szCore_K.env []) s_szCore_lv fun K' hK' => ?_
             simp only [go_sem, ↓reduceIte, ↓reduceDIte, reduceCtorEq, Nat.reduceAdd, Nat.reduceMul, Nat.reduceSub, Nat.reduceLT, Nat.reduceLeDiff, Nat.reduceEqDiff, Nat.reduceBEq, Int.reduceToNat, Int.reduceLE, Int.reduceLT, Int.reduceEq, Int.reduceNe, Int.reduceNeg]
             (repeat' apply And.intro) <;> try first | ((with_reducible refine hK' _ ?_ ?_ ?_); rotate_left; (simp only [go_sem, pr, keepSl, ↓reduceIte, Nat.reduceEqDiff]; try rfl); clear hK' K') | (clear hK' K'; first | omega | (with_reducible refine drawOk_k ?_; kernel_rfl) | assumption | refine Eq.refl _ | exact fun h => ⟨h, fun k => ⟨h, k⟩⟩ | (intro _; (repeat' apply And.intro) <;> first | omega | assumption) | skip))
          | with_reducible first | refine W_skip ?_ | refine W_exit ?_ | refine W_ret ?_ | refine W_block ?_ | refine thenG_n ?_ | refine thenG_x ?_ | refine thenG_r ?_ | refine blockG_n ?_ | refine blockG_r ?_ | refine blockG_x ?_ | refine blockG_o (by decide) ?_
        have ez := ((e0.trans e1).trans e2)
        refine ⟨by (simp only [go_sem, ez, ↓reduceIte, reduceCtorEq, Nat.reduceAdd, Nat.reduceLT, Nat.reduceLeDiff, Nat.reduceEqDiff]) <;> trivial, [], ?_⟩
        all_goals try simp only [go_sem, ez, ↓reduceIte, reduceCtorEq, Nat.reduceAdd, Nat.reduceLT, Nat.reduceLeDiff, Nat.reduceEqDiff, Int.reduceEq, TC.val.injEq, Value.bool.injEq, Value.int.injEq, Value.string.injEq, TV.one.injEq]
        all_goals (repeat' apply And.intro) <;> try first | rfl | trivial | omega | (rw [wrap_id] <;> omega)
      · rw [if_neg hc2] at e2
        obtain ⟨m2, hm2⟩ : ∃ m, szW [es.length] m1 = m := ⟨_, rfl⟩
        rw [hm2] at e2 i2 hc2
        have e3 := szW_app [ps.length] [zs.length] m2 (by omega)
        have i3 := szW_in [ps.length] m2 (by omega)
        repeat' first
          | refine W_seq ?_
          | (refine W_reg (s_szCore_K.env []) s_szCore_lv fun K' hK' => ?_
             simp only [go_sem, hm2, ↓reduceIte, ↓reduceDIte, reduceCtorEq, Nat.reduceAdd, Nat.reduceMul, Nat.reduceSub, Nat.reduceLT, Nat.reduceLeDiff, Nat.reduceEqDiff, Nat.reduceBEq, Int.reduceToNat, Int.reduceLE, Int.reduceLT, Int.reduceEq, Int.reduceNe, Int.reduceNeg]
             (repeat' apply And.intro) <;> try first | ((with_reducible refine hK' _ ?_ ?_ ?_); rotate_left; (simp only [go_sem, hm2, pr, keepSl, ↓reduceIte, Nat.reduceEqDiff]; try rfl); clear hK' K') | (clear hK' K'; first | omega | (with_reducible refine drawOk_k ?_; kernel_rfl) | assumption | refine Eq.refl _ | exact fun h => ⟨h, fun k => ⟨h, k⟩⟩ | (intro _; (repeat' apply And.intro) <;> first | omega | assumption) | skip))
          | with_reducible first | refine W_skip ?_ | refine W_exit ?_ | refine W_ret ?_ | refine W_block ?_ | refine thenG_n ?_ | refine thenG_x ?_ | refine thenG_r ?_ | refine blockG_n ?_ | refine blockG_r ?_ | refine blockG_x ?_ | refine blockG_o (by decide) ?_
        refine W_cond _ (by exact rfl) (by exact trivial) ?_ ?_ <;> (try simp only [Bool.if_true_left, Bool.if_false_right, Bool.if_true_right, Bool.if_false_left, Bool.decide_eq_true, Bool.or_assoc, Bool.and_assoc, Bool.and_true, Bool.or_false, Bool.true_and, Bool.false_or, decide_eq_true_eq, decide_eq_false_iff_not, not_and, not_or, Classical.not_not, Bool.and_eq_true, Bool.or_eq_true, Bool.not_eq_true', Bool.not_eq_false', Bool.or_eq_false_iff, Bool.and_eq_false_iff, bne_iff_ne, ne_eq, beq_iff_eq, bne_eq_false_iff_eq, same_true, same_false, Int.ofNat_inj]) <;> intro hc3
        · rw [if_pos hc3] at e3
          repeat' first
            | refine W_seq ?_
            | (refine W_reg (s_szCore_K.env []) s_szCore_lv fun K' hK' => ?_
               simp only [go_sem, ↓reduceIte, ↓reduceDIte, reduceCtorEq, Nat.reduceAdd, Nat.reduceMul, Nat.reduceSub, Nat.reduceLT, Nat.reduceLeDiff, Nat.reduceEqDiff, Nat.reduceBEq, Int.reduceToNat, Int.reduceLE, Int.reduceLT, Int.reduceEq, Int.reduceNe, Int.reduceNeg]
               (repeat' apply And.intro) <;> try first | ((with_reducible refine hK' _ ?_ ?_ ?_); rotate_left; (simp only [go_sem, pr, keepSl, ↓reduceIte, Nat.reduceEqDiff]; try rfl); clear hK' K') | (clear hK' K'; first | omega | (with_reducible refine drawOk_k ?_; kernel_rfl) | assumption | refine Eq.refl _ | exact fun h => ⟨h, fun k => ⟨h, k⟩⟩ | (intro _; (repeat' apply And.intro) <;> first | omega | assumption) | skip))
            | with_reducible first | refine W_skip ?_ | refine W_exit ?_ | refine W_ret ?_ | refine W_block ?_ | refine thenG_n ?_ | refine thenG_x ?_ | refine thenG_r ?_ | refine blockG_n ?_ | refine blockG_r ?_ | refine blockG_x ?_ | refine blockG_o (by decide) ?_
          have ez := (((e0.trans e1).trans e2).trans e3)
          refine ⟨by (simp only [go_sem, ez, ↓reduceIte, reduceCtorEq, Nat.reduceAdd, Nat.reduceLT, Nat.reduceLeDiff, Nat.reduceEqDiff]) <;> trivial, [], ?_⟩
          all_goals try simp only [go_sem, ez, ↓reduceIte, reduceCtorEq, Nat.reduceAdd, Nat.reduceLT, Nat.reduceLeDiff, Nat.reduceEqDiff, Int.reduceEq, TC.val.injEq, Value.bool.injEq, Value.int.injEq, Value.string.injEq, TV.one.injEq]
          all_goals (repeat' apply And.intro) <;> try first | rfl | trivial | omega | (rw [wrap_id] <;> omega)
        · rw [if_neg hc3] at e3
          obtain ⟨m3, hm3⟩ : ∃ m, szW [ps.length] m2 = m := ⟨_, rfl⟩
          rw [hm3] at e3 i3 hc3
          have i4 := szW_in [zs.length] m3 (by omega)
          repeat' first
            | refine W_seq ?_
            | (refine W_reg (s_szCore_K.env []) s_szCore_lv fun K' hK' => ?_
               simp only [go_sem, hm3, ↓reduceIte, ↓reduceDIte, reduceCtorEq, Nat.reduceAdd, Nat.reduceMul, Nat.reduceSub, Nat.reduceLT, Nat.reduceLeDiff, Nat.reduceEqDiff, Nat.reduceBEq, Int.reduceToNat, Int.reduceLE, Int.reduceLT, Int.reduceEq, Int.reduceNe, Int.reduceNeg]
               (repeat' apply And.intro) <;> try first | ((with_reducible refine hK' _ ?_ ?_ ?_); rotate_left; (simp only [go_sem, hm3, pr, keepSl, ↓reduceIte, Nat.reduceEqDiff]; try rfl); clear hK' K') | (clear hK' K'; first | omega | (with_reducible refine drawOk_k ?_; kernel_rfl) | assumption | refine Eq.refl _ | exact fun h => ⟨h, fun k => ⟨h, k⟩⟩ | (intro _; (repeat' apply And.intro) <;> first | omega | assumption) | skip))
            | with_reducible first | refine W_skip ?_ | refine W_exit ?_ | refine W_ret ?_ | refine W_block ?_ | refine thenG_n ?_ | refine thenG_x ?_ | refine thenG_r ?_ | refine blockG_n ?_ | refine blockG_r ?_ | refine blockG_x ?_ | refine blockG_o (by decide) ?_
          refine W_cond _ (by exact rfl) (by exact trivial) ?_ ?_ <;> (try simp only [Bool.if_true_left, Bool.if_false_right, Bool.if_true_right, Bool.if_false_left, Bool.decide_eq_true, Bool.or_assoc, Bool.and_assoc, Bool.and_true, Bool.or_false, Bool.true_and, Bool.false_or, decide_eq_true_eq, decide_eq_false_iff_not, not_and, not_or, Classical.not_not, Bool.and_eq_true, Bool.or_eq_true, Bool.not_eq_true', Bool.not_eq_false', Bool.or_eq_false_iff, Bool.and_eq_false_iff, bne_iff_ne, ne_eq, beq_iff_eq, bne_eq_false_iff_eq, same_true, same_false, Int.ofNat_inj]) <;> intro hc4
          · have e4 : szW [zs.length] m3 = -1 := by omega
            repeat' first
              | refine W_seq ?_
              | (refine W_reg (s_szCore_K.env []) s_szCore_lv fun K' hK' => ?_
                 simp only [go_sem, ↓reduceIte, ↓reduceDIte, reduceCtorEq, Nat.reduceAdd, Nat.reduceMul, Nat.reduceSub, Nat.reduceLT, Nat.reduceLeDiff, Nat.reduceEqDiff, Nat.reduceBEq, Int.reduceToNat, Int.reduceLE, Int.reduceLT, Int.reduceEq, Int.reduceNe, Int.reduceNeg]
                 (repeat' apply And.intro) <;> try first | ((with_reducible refine hK' _ ?_ ?_ ?_); rotate_left; (simp only [go_sem, pr, keepSl, ↓reduceIte, Nat.reduceEqDiff]; try rfl); clear hK' K') | (clear hK' K'; first | omega | (with_reducible refine drawOk_k ?_; kernel_rfl) | assumption | refine Eq.refl _ | exact fun h => ⟨h, fun k => ⟨h, k⟩⟩ | (intro _; (repeat' apply And.intro) <;> first | omega | assumption) | skip))
              | with_reducible first | refine W_skip ?_ | refine W_exit ?_ | refine W_ret ?_ | refine W_block ?_ | refine thenG_n ?_ | refine thenG_x ?_ | refine thenG_r ?_ | refine blockG_n ?_ | refine blockG_r ?_ | refine blockG_x ?_ | refine blockG_o (by decide) ?_
            have ez := ((((e0.trans e1).trans e2).trans e3).trans e4)
            refine ⟨by (simp only [go_sem, ez, ↓reduceIte, reduceCtorEq, Nat.reduceAdd, Nat.reduceLT, Nat.reduceLeDiff, Nat.reduceEqDiff]) <;> trivial, [], ?_⟩
            all_goals try simp only [go_sem, ez, ↓reduceIte, reduceCtorEq, Nat.reduceAdd, Nat.reduceLT, Nat.reduceLeDiff, Nat.reduceEqDiff, Int.reduceEq, TC.val.injEq, Value.bool.injEq, Value.int.injEq, Value.string.injEq, TV.one.injEq]
            all_goals (repeat' apply And.intro) <;> try first | rfl | trivial | omega | (rw [wrap_id] <;> omega)
          · repeat' first
              | refine W_seq ?_
              | (refine W_reg (s_szCore_K.env []) s_szCore_lv fun K' hK' => ?_
                 simp only [go_sem, ↓reduceIte, ↓reduceDIte, reduceCtorEq, Nat.reduceAdd, Nat.reduceMul, Nat.reduceSub, Nat.reduceLT, Nat.reduceLeDiff, Nat.reduceEqDiff, Nat.reduceBEq, Int.reduceToNat, Int.reduceLE, Int.reduceLT, Int.reduceEq, Int.reduceNe, Int.reduceNeg]
                 (repeat' apply And.intro) <;> try first | ((with_reducible refine hK' _ ?_ ?_ ?_); rotate_left; (simp only [go_sem, pr, keepSl, ↓reduceIte, Nat.reduceEqDiff]; try rfl); clear hK' K') | (clear hK' K'; first | omega | (with_reducible refine drawOk_k ?_; kernel_rfl) | assumption | refine Eq.refl _ | exact fun h => ⟨h, fun k => ⟨h, k⟩⟩ | (intro _; (repeat' apply And.intro) <;> first | omega | assumption) | skip))
              | with_reducible first | refine W_skip ?_ | refine W_exit ?_ | refine W_ret ?_ | refine W_block ?_ | refine thenG_n ?_ | refine thenG_x ?_ | refine thenG_r ?_ | refine blockG_n ?_ | refine blockG_r ?_ | refine blockG_x ?_ | refine blockG_o (by decide) ?_
            have ez := (((e0.trans e1).trans e2).trans e3)
            refine ⟨by (simp only [go_sem, ez, ↓reduceIte, reduceCtorEq, Nat.reduceAdd, Nat.reduceLT, Nat.reduceLeDiff, Nat.reduceEqDiff]) <;> trivial, [], ?_⟩
            all_goals try simp only [go_sem, ez, ↓reduceIte, reduceCtorEq, Nat.reduceAdd, Nat.reduceLT, Nat.reduceLeDiff, Nat.reduceEqDiff, Int.reduceEq, TC.val.injEq, Value.bool.injEq, Value.int.injEq, Value.string.injEq, TV.one.injEq]
            all_goals (repeat' apply And.intro) <;> try first | rfl | trivial | omega | (rw [wrap_id] <;> omega)
  · simp [no, ifp] at hp
def Pl.wt (p : Pl) : List Nat := p.disk.wt ++ p.core.wt
structure Pl.inn (p : Pl) : Prop where
  disk : p.disk.inn
  core : p.core.inn
@[go_sem] def ctSzPool : Ct := ⟨false, [[some .str, some .str, some .late, none, some .cset, some .ent, some .ptr, none, some .int, none, none]], fun args os => match args, os with
  | [.agg [.isl .str a, .isl .str b, .isl .late l, .val (.int .i64 x), .isl .cset cs, .isl .ent es, .isl .ptr ps, .val (.bool y), .isl .int zs, .val (.int .i64 u), .val (.bool o)], .one (.val (.int .i64 n))], [] => ifp ((Pl.mk ⟨a, b, l⟩ ⟨x, cs, es, ps, y, zs, u⟩ o).inn ∧ 0 ≤ n ∧ n ≤ 1048576) (vi (szW (Pl.mk ⟨a, b, l⟩ ⟨x, cs, es, ps, y, zs, u⟩ o).wt n))
  | _, _ => no⟩
theorem s_szPool_e : EnterOk Try.prog 31 := ⟨_, Try.func31, rfl, by decide⟩
@[go_sem] def s_szPool_lv : List (List Nat) := [[1, 2], [1, 2], [1, 2, 10], [4], [1], [1, 16], [4], [4]]
@[go_sem] noncomputable def s_szPool_K : Known := ((Known.nil).cons 10 ctSzDisk s_szDisk s_szDisk_e).cons 61 ctSzCore s_szCore s_szCore_e
set_option maxHeartbeats 8000000 in
theorem s_szPool : Sound Try.prog 31 ctSzPool := by
  refine sound_intro (E := ⟨ti, s_szPool_K.Γ, []⟩) (s_szPool_K.env []) Try.func31 Try.ntmps31 rfl (rs := [.tmp 4]) rfl ?_
  intro args os hp
  unfold ctSzPool at hp ⊢
  dsimp only at hp ⊢
  split at hp
  · rename_i a b l x cs es ps y zs u o n
    refine ⟨by simp, fun φ0 w0 => ?_⟩
    obtain ⟨⟨h1, h2⟩, h5, h6⟩ : (Pl.mk ⟨a, b, l⟩ ⟨x, cs, es, ps, y, zs, u⟩ o).inn ∧ 0 ≤ n ∧ n ≤ 1048576 := hp
    simp only at h1 h2
    have e0 : szW (Pl.mk ⟨a, b, l⟩ ⟨x, cs, es, ps, y, zs, u⟩ o).wt n = szW ((Dk.mk a b l).wt ++ (Co.mk x cs es ps y zs u).wt) n := rfl
    have e1 := szW_app (Dk.mk a b l).wt (Co.mk x cs es ps y zs u).wt n h5
    have i1 := szW_in (Dk.mk a b l).wt n h5
    repeat' first
      | refine W_seq ?_
      | (refine W_reg (s_szPool_K.env []) s_szPool_lv fun K' hK' => ?_
         simp only [go_sem, ↓reduceIte, ↓reduceDIte, reduceCtorEq, Nat.reduceAdd, Nat.reduceMul, Nat.reduceSub, Nat.reduceLT, Nat.reduceLeDiff, Nat.reduceEqDiff, Nat.reduceBEq, Int.reduceToNat, Int.reduceLE, Int.reduceLT, Int.reduceEq, Int.reduceNe, Int.reduceNeg]
         (repeat' apply And.intro) <;> try first | ((with_reducible refine hK' _ ?_ ?_ ?_); rotate_left; (simp only [go_sem, pr, keepSl, ↓reduceIte, Nat.reduceEqDiff]; try rfl); clear hK' K') | (clear hK' K'; first | omega | (with_reducible refine drawOk_k ?_; kernel_rfl) | assumption | refine Eq.refl _ | exact fun h => ⟨h, fun k => ⟨h, k⟩⟩ | (intro _; (repeat' apply And.intro) <;> first | omega | assumption) | skip))
      | with_reducible first | refine W_skip ?_ | refine W_exit ?_ | refine W_ret ?_ | refine W_block ?_ | refine thenG_n ?_ | refine thenG_x ?_ | refine thenG_r ?_ | refine blockG_n ?_ | refine blockG_r ?_ | refine blockG_x ?_ | refine blockG_o (by decide) ?_
    refine W_cond _ (by exact rfl) (by exact trivial) ?_ ?_ <;> (try simp only [Bool.if_true_left, Bool.if_false_right, Bool.if_true_right, Bool.if_false_left, Bool.decide_eq_true, Bool.or_assoc, Bool.and_assoc, Bool.and_true, Bool.or_false, Bool.true_and, Bool.false_or, decide_eq_true_eq, decide_eq_false_iff_not, not_and, not_or, Classical.not_not, Bool.and_eq_true, Bool.or_eq_true, Bool.not_eq_true', Bool.not_eq_false', Bool.or_eq_false_iff, Bool.and_eq_false_iff, bne_iff_ne, ne_eq, beq_iff_eq, bne_eq_false_iff_eq, same_true, same_false, Int.ofNat_inj]) <;> intro hc1
    · rw [if_pos hc1] at e1
      repeat' first
        | refine W_seq ?_
        | (refine W_reg (s_szPool_K.env []) s_szPool_lv fun K' hK' => ?_
           simp only [go_sem, ↓reduceIte, ↓reduceDIte, reduceCtorEq, Nat.reduceAdd, Nat.reduceMul, Nat.reduceSub, Nat.reduceLT, Nat.reduceLeDiff, Nat.reduceEqDiff, Nat.reduceBEq, Int.reduceToNat, Int.reduceLE, Int.reduceLT, Int.reduceEq, Int.reduceNe, Int.reduceNeg]
           (repeat' apply And.intro) <;> try first | ((with_reducible refine hK' _ ?_ ?_ ?_); rotate_left; (simp only [go_sem, pr, keepSl, ↓reduceIte, Nat.reduceEqDiff]; try rfl); clear hK' K') | (clear hK' K'; first | omega | (with_reducible refine drawOk_k ?_; kernel_rfl) | assumption | refine Eq.refl _ | exact fun h => ⟨h, fun k => ⟨h, k⟩⟩ | (intro _; (repeat' apply And.intro) <;> first | omega | assumption) | skip))
        | with_reducible first | refine W_skip ?_ | refine W_exit ?_ | refine W_ret ?_ | refine W_block ?_ | refine thenG_n ?_ | refine thenG_x ?_ | refine thenG_r ?_ | refine blockG_n ?_ | refine blockG_r ?_ | refine blockG_x ?_ | refine blockG_o (by decide) ?_
      have ez := (e0.trans e1)
      refine ⟨by (simp only [go_sem, ez, ↓reduceIte, reduceCtorEq, Nat.reduceAdd, Nat.reduceLT, Nat.reduceLeDiff, Nat.reduceEqDiff]) <;> trivial, [], ?_⟩
      all_goals try simp only [go_sem, ez, ↓reduceIte, reduceCtorEq, Nat.reduceAdd, Nat.reduceLT, Nat.reduceLeDiff, Nat.reduceEqDiff, Int.reduceEq, TC.val.injEq, Value.bool.injEq, Value.int.injEq, Value.string.injEq, TV.one.injEq]
      all_goals (repeat' apply And.intro) <;> try first | rfl | trivial | omega | (rw [wrap_id] <;> omega)
    · rw [if_neg hc1] at e1
      obtain ⟨m1, hm1⟩ : ∃ m, szW (Dk.mk a b l).wt n = m := ⟨_, rfl⟩
      rw [hm1] at e1 i1 hc1
      have i2 := szW_in (Co.mk x cs es ps y zs u).wt m1 (by omega)
      repeat' first
        | refine W_seq ?_
        | (refine W_reg (s_szPool_K.env []) s_szPool_lv fun K' hK' => ?_
           simp only [go_sem, hm1, ↓reduceIte, ↓reduceDIte, reduceCtorEq, Nat.reduceAdd, Nat.reduceMul, Nat.reduceSub, Nat.reduceLT, Nat.reduceLeDiff, Nat.reduceEqDiff, Nat.reduceBEq, Int.reduceToNat, Int.reduceLE, Int.reduceLT, Int.reduceEq, Int.reduceNe, Int.reduceNeg]
           (repeat' apply And.intro) <;> try first | ((with_reducible refine hK' _ ?_ ?_ ?_); rotate_left; (simp only [go_sem, hm1, pr, keepSl, ↓reduceIte, Nat.reduceEqDiff]; try rfl); clear hK' K') | (clear hK' K'; first | omega | (with_reducible refine drawOk_k ?_; kernel_rfl) | assumption | refine Eq.refl _ | exact fun h => ⟨h, fun k => ⟨h, k⟩⟩ | (intro _; (repeat' apply And.intro) <;> first | omega | assumption) | skip))
        | with_reducible first | refine W_skip ?_ | refine W_exit ?_ | refine W_ret ?_ | refine W_block ?_ | refine thenG_n ?_ | refine thenG_x ?_ | refine thenG_r ?_ | refine blockG_n ?_ | refine blockG_r ?_ | refine blockG_x ?_ | refine blockG_o (by decide) ?_
      refine W_cond _ (by exact rfl) (by exact trivial) ?_ ?_ <;> (try simp only [Bool.if_true_left, Bool.if_false_right, Bool.if_true_right, Bool.if_false_left, Bool.decide_eq_true, Bool.or_assoc, Bool.and_assoc, Bool.and_true, Bool.or_false, Bool.true_and, Bool.false_or, decide_eq_true_eq, decide_eq_false_iff_not, not_and, not_or, Classical.not_not, Bool.and_eq_true, Bool.or_eq_true, Bool.not_eq_true', Bool.not_eq_false', Bool.or_eq_false_iff, Bool.and_eq_false_iff, bne_iff_ne, ne_eq, beq_iff_eq, bne_eq_false_iff_eq, same_true, same_false, Int.ofNat_inj]) <;> intro hc2
      · have e2 : szW (Co.mk x cs es ps y zs u).wt m1 = -1 := by omega
        repeat' first
          | refine W_seq ?_
          | (refine W_reg (s_szPool_K.env []) s_szPool_lv fun K' hK' => ?_
             simp only [go_sem, ↓reduceIte, ↓reduceDIte, reduceCtorEq, Nat.reduceAdd, Nat.reduceMul, Nat.reduceSub, Nat.reduceLT, Nat.reduceLeDiff, Nat.reduceEqDiff, Nat.reduceBEq, Int.reduceToNat, Int.reduceLE, Int.reduceLT, Int.reduceEq, Int.reduceNe, Int.reduceNeg]
             (repeat' apply And.intro) <;> try first | ((with_reducible refine hK' _ ?_ ?_ ?_); rotate_left; (simp only [go_sem, pr, keepSl, ↓reduceIte, Nat.reduceEqDiff]; try rfl); clear hK' K') | (clear hK' K'; first | omega | (with_reducible refine drawOk_k ?_; kernel_rfl) | assumption | refine Eq.refl _ | exact fun h => ⟨h, fun k => ⟨h, k⟩⟩ | (intro _; (repeat' apply And.intro) <;> first | omega | assumption) | skip))
          | with_reducible first | refine W_skip ?_ | refine W_exit ?_ | refine W_ret ?_ | refine W_block ?_ | refine thenG_n ?_ | refine thenG_x ?_ | refine thenG_r ?_ | refine blockG_n ?_ | refine blockG_r ?_ | refine blockG_x ?_ | refine blockG_o (by decide) ?_
        have ez := ((e0.trans e1).trans e2)
        refine ⟨by (simp only [go_sem, ez, ↓reduceIte, reduceCtorEq, Nat.reduceAdd, Nat.reduceLT, Nat.reduceLeDiff, Nat.reduceEqDiff]) <;> trivial, [], ?_⟩
        all_goals try simp only [go_sem, ez, ↓reduceIte, reduceCtorEq, Nat.reduceAdd, Nat.reduceLT, Nat.reduceLeDiff, Nat.reduceEqDiff, Int.reduceEq, TC.val.injEq, Value.bool.injEq, Value.int.injEq, Value.string.injEq, TV.one.injEq]
        all_goals (repeat' apply And.intro) <;> try first | rfl | trivial | omega | (rw [wrap_id] <;> omega)
      · repeat' first
          | refine W_seq ?_
          | (refine W_reg (s_szPool_K.env []) s_szPool_lv fun K' hK' => ?_
             simp only [go_sem, ↓reduceIte, ↓reduceDIte, reduceCtorEq, Nat.reduceAdd, Nat.reduceMul, Nat.reduceSub, Nat.reduceLT, Nat.reduceLeDiff, Nat.reduceEqDiff, Nat.reduceBEq, Int.reduceToNat, Int.reduceLE, Int.reduceLT, Int.reduceEq, Int.reduceNe, Int.reduceNeg]
             (repeat' apply And.intro) <;> try first | ((with_reducible refine hK' _ ?_ ?_ ?_); rotate_left; (simp only [go_sem, pr, keepSl, ↓reduceIte, Nat.reduceEqDiff]; try rfl); clear hK' K') | (clear hK' K'; first | omega | (with_reducible refine drawOk_k ?_; kernel_rfl) | assumption | refine Eq.refl _ | exact fun h => ⟨h, fun k => ⟨h, k⟩⟩ | (intro _; (repeat' apply And.intro) <;> first | omega | assumption) | skip))
          | with_reducible first | refine W_skip ?_ | refine W_exit ?_ | refine W_ret ?_ | refine W_block ?_ | refine thenG_n ?_ | refine thenG_x ?_ | refine thenG_r ?_ | refine blockG_n ?_ | refine blockG_r ?_ | refine blockG_x ?_ | refine blockG_o (by decide) ?_
        have ez := (e0.trans e1)
        refine ⟨by (simp only [go_sem, ez, ↓reduceIte, reduceCtorEq, Nat.reduceAdd, Nat.reduceLT, Nat.reduceLeDiff, Nat.reduceEqDiff]) <;> trivial, [], ?_⟩
        all_goals try simp only [go_sem, ez, ↓reduceIte, reduceCtorEq, Nat.reduceAdd, Nat.reduceLT, Nat.reduceLeDiff, Nat.reduceEqDiff, Int.reduceEq, TC.val.injEq, Value.bool.injEq, Value.int.injEq, Value.string.injEq, TV.one.injEq]
        all_goals (repeat' apply And.intro) <;> try first | rfl | trivial | omega | (rw [wrap_id] <;> omega)
  · simp [no, ifp] at hp
theorem pool_small {p : Pl} {n : Int} (h : 0 ≤ szW p.wt n) : (p.disk.a.length ≤ n ∧ p.disk.b.length ≤ n ∧ p.disk.l.length ≤ n) ∧ p.core.sets.length ≤ n ∧ p.core.ddt.length ≤ n ∧ p.core.parts.length ≤ n ∧ p.core.safe.length ≤ n :=
  ⟨⟨szW_mem h (by simp [Pl.wt, Dk.wt, wS]), szW_mem h (by simp [Pl.wt, Dk.wt, wS]), szW_mem h (by simp [Pl.wt, Dk.wt, wL])⟩, szW_mem h (by simp [Pl.wt, Co.wt, wC]), szW_mem h (by simp [Pl.wt, Co.wt]), szW_mem h (by simp [Pl.wt, Co.wt]), szW_mem h (by simp [Pl.wt, Co.wt])⟩
@[go_sem] def ctToCore : Ct := ⟨false, [[none, some .cset, some .ent, some .ptr, none, some .int, none]], fun args os => match args, os with
  | [.agg [.val (.int .i64 x), .isl .cset cs, .isl .ent es, .isl .ptr ps, .val (.bool y), .isl .int zs, .val (.int .i64 u)]], [] => ⟨(Co.mk x cs es ps y zs u).small, (Co.mk x cs es ps y zs u).v 0, [], (Co.mk x cs es ps y zs u).objs⟩
  | _, _ => no⟩
theorem s_toCore_e : EnterOk Try.prog 64 := ⟨_, Try.func64, rfl, by decide⟩
@[go_sem] def s_toCore_lv : List (List Nat) := [[1, 2], [1, 2, 3], [1, 2, 3], [1, 2, 3], [1, 2, 3], [1, 2, 3], [1, 2, 3], [1, 2, 3], [2, 3], [2]]
@[go_sem] noncomputable def s_toCore_K : Known := ((((Known.nil).cons 96 ctToCs s_toCs s_toCs_e).cons 97 ctToEs s_toEs s_toEs_e).cons 98 ctToPs s_toPs s_toPs_e).cons 24 ctToI s_toI s_toI_e
set_option maxHeartbeats 8000000 in
theorem s_toCore : Sound Try.prog 64 ctToCore := by
  refine sound_intro (E := ⟨ti, s_toCore_K.Γ, []⟩) (s_toCore_K.env []) Try.func64 Try.ntmps64 rfl (rs := [.cell 2 69]) rfl ?_
  intro args os hp
  unfold ctToCore at hp ⊢
  dsimp only at hp ⊢
  split at hp
  · rename_i x cs es ps y zs u
    refine ⟨by simp, fun φ0 w0 => ?_⟩
    obtain ⟨h1, h2, h3, h4⟩ : (Co.mk x cs es ps y zs u).small := hp
    simp only at h1 h2 h3 h4
    repeat' first
      | refine W_seq ?_
      | (refine W_reg (s_toCore_K.env []) s_toCore_lv fun K' hK' => ?_
         simp only [go_sem, ↓reduceIte, ↓reduceDIte, reduceCtorEq, Nat.reduceAdd, Nat.reduceMul, Nat.reduceSub, Nat.reduceLT, Nat.reduceLeDiff, Nat.reduceEqDiff, Nat.reduceBEq, Int.reduceToNat, Int.reduceLE, Int.reduceLT, Int.reduceEq, Int.reduceNe, Int.reduceNeg]
         (repeat' apply And.intro) <;> try first | ((with_reducible refine hK' _ ?_ ?_ ?_); rotate_left; (simp only [go_sem, pr, keepSl, ↓reduceIte, Nat.reduceEqDiff]; try rfl); clear hK' K') | (clear hK' K'; first | omega | (with_reducible refine drawOk_k ?_; kernel_rfl) | assumption | refine Eq.refl _ | exact fun h => ⟨h, fun k => ⟨h, k⟩⟩ | (intro _; (repeat' apply And.intro) <;> first | omega | assumption) | skip))
      | with_reducible first | refine W_skip ?_ | refine W_exit ?_ | refine W_ret ?_ | refine W_block ?_ | refine thenG_n ?_ | refine thenG_x ?_ | refine thenG_r ?_ | refine blockG_n ?_ | refine blockG_r ?_ | refine blockG_x ?_ | refine blockG_o (by decide) ?_
    refine ⟨by (simp only [go_sem, ↓reduceIte, reduceCtorEq, Nat.reduceAdd, Nat.reduceLT, Nat.reduceLeDiff, Nat.reduceEqDiff]) <;> trivial, [some 3, some 4, some 5, some 6], ?_⟩
    all_goals try simp only [go_sem, ↓reduceIte, reduceCtorEq, Nat.reduceAdd, Nat.reduceLT, Nat.reduceLeDiff, Nat.reduceEqDiff, Int.reduceEq, TC.val.injEq, Value.bool.injEq, Value.int.injEq, Value.string.injEq, TV.one.injEq]
    all_goals (repeat' apply And.intro) <;> try first | rfl | trivial | omega | (rw [wrap_id] <;> omega)
  · simp [no] at hp
@[go_sem] def Pl.v (p : Pl) : TV := .agg [.osl .str 0 0 p.disk.a.length, .osl .str 1 0 p.disk.b.length, .osl .late 2 0 p.disk.l.length, .val (.int .i64 p.core.txg), .osl .cset 3 0 p.core.sets.length, .osl .ent 4 0 p.core.ddt.length, .osl .ptr 5 0 p.core.parts.length, .val (.bool p.core.dirty), .osl .int 6 0 p.core.safe.length, .val (.int .i64 p.core.logn), .val (.bool p.up)]
@[go_sem] def Pl.objs (p : Pl) : List Obj := [.arr .str p.disk.a, .arr .str p.disk.b, .arr .late p.disk.l, .arr .cset p.core.sets, .arr .ent p.core.ddt, .arr .ptr p.core.parts, .arr .int p.core.safe]
def Pl.small (p : Pl) : Prop := p.disk.small ∧ p.core.small
@[go_sem] def ctToPool : Ct := ⟨false, [[some .str, some .str, some .late, none, some .cset, some .ent, some .ptr, none, some .int, none, none]], fun args os => match args, os with
  | [.agg [.isl .str a, .isl .str b, .isl .late l, .val (.int .i64 x), .isl .cset cs, .isl .ent es, .isl .ptr ps, .val (.bool y), .isl .int zs, .val (.int .i64 u), .val (.bool o)]], [] => ⟨(Pl.mk ⟨a, b, l⟩ ⟨x, cs, es, ps, y, zs, u⟩ o).small, (Pl.mk ⟨a, b, l⟩ ⟨x, cs, es, ps, y, zs, u⟩ o).v, [], (Pl.mk ⟨a, b, l⟩ ⟨x, cs, es, ps, y, zs, u⟩ o).objs⟩
  | _, _ => no⟩
theorem s_toPool_e : EnterOk Try.prog 33 := ⟨_, Try.func33, rfl, by decide⟩
@[go_sem] def s_toPool_lv : List (List Nat) := [[1, 2], [1, 2, 3], [1, 2, 3], [1, 2, 3], [2, 3], [2]]
@[go_sem] noncomputable def s_toPool_K : Known := ((Known.nil).cons 12 ctToDisk s_toDisk s_toDisk_e).cons 64 ctToCore s_toCore s_toCore_e
set_option maxHeartbeats 8000000 in
theorem s_toPool : Sound Try.prog 33 ctToPool := by
  refine sound_intro (E := ⟨ti, s_toPool_K.Γ, []⟩) (s_toPool_K.env []) Try.func33 Try.ntmps33 rfl (rs := [.cell 2 71]) rfl ?_
  intro args os hp
  unfold ctToPool at hp ⊢
  dsimp only at hp ⊢
  split at hp
  · rename_i a b l x cs es ps y zs u o
    refine ⟨by simp, fun φ0 w0 => ?_⟩
    obtain ⟨⟨g1, g2, g3⟩, ⟨h1, h2, h3, h4⟩⟩ : (Pl.mk ⟨a, b, l⟩ ⟨x, cs, es, ps, y, zs, u⟩ o).small := hp
    simp only at g1 g2 g3 h1 h2 h3 h4
    repeat' first
      | refine W_seq ?_
      | (refine W_reg (s_toPool_K.env []) s_toPool_lv fun K' hK' => ?_
         simp only [go_sem, Dk.small, Co.small, ↓reduceIte, ↓reduceDIte, reduceCtorEq, Nat.reduceAdd, Nat.reduceMul, Nat.reduceSub, Nat.reduceLT, Nat.reduceLeDiff, Nat.reduceEqDiff, Nat.reduceBEq, Int.reduceToNat, Int.reduceLE, Int.reduceLT, Int.reduceEq, Int.reduceNe, Int.reduceNeg]
         (repeat' apply And.intro) <;> try first | ((with_reducible refine hK' _ ?_ ?_ ?_); rotate_left; (simp only [go_sem, Dk.small, Co.small, pr, keepSl, ↓reduceIte, Nat.reduceEqDiff]; try rfl); clear hK' K') | (clear hK' K'; first | omega | (with_reducible refine drawOk_k ?_; kernel_rfl) | assumption | refine Eq.refl _ | exact fun h => ⟨h, fun k => ⟨h, k⟩⟩ | (intro _; (repeat' apply And.intro) <;> first | omega | assumption) | skip))
      | with_reducible first | refine W_skip ?_ | refine W_exit ?_ | refine W_ret ?_ | refine W_block ?_ | refine thenG_n ?_ | refine thenG_x ?_ | refine thenG_r ?_ | refine blockG_n ?_ | refine blockG_r ?_ | refine blockG_x ?_ | refine blockG_o (by decide) ?_
    refine ⟨by (simp only [go_sem, ↓reduceIte, reduceCtorEq, Nat.reduceAdd, Nat.reduceLT, Nat.reduceLeDiff, Nat.reduceEqDiff]) <;> trivial, [some 3, some 4, some 5, some 6, some 7, some 8, some 9], ?_⟩
    all_goals try simp only [go_sem, ↓reduceIte, reduceCtorEq, Nat.reduceAdd, Nat.reduceLT, Nat.reduceLeDiff, Nat.reduceEqDiff, Int.reduceEq, TC.val.injEq, Value.bool.injEq, Value.int.injEq, Value.string.injEq, TV.one.injEq]
    all_goals (repeat' apply And.intro) <;> try first | rfl | trivial | omega | (rw [wrap_id] <;> omega)
  · simp [no] at hp
@[go_sem] def ctEqCore : Ct := ⟨false, [[none, some .cset, some .ent, some .ptr, none, some .int, none], [none, some .cset, some .ent, some .ptr, none, some .int, none]], fun args os => match args, os with
  | [.agg [.val (.int .i64 x), .isl .cset cs, .isl .ent es, .isl .ptr ps, .val (.bool y), .isl .int zs, .val (.int .i64 u)], .agg [.val (.int .i64 x'), .isl .cset cs', .isl .ent es', .isl .ptr ps', .val (.bool y'), .isl .int zs', .val (.int .i64 u')]], [] => ifp ((x = x' ∧ cs = cs' ∧ es = es' ∧ ps = ps' ∧ y = y' ∧ zs = zs' ∧ u = u') ∧ (Co.mk x cs es ps y zs u).small) (vb true)
  | _, _ => no⟩
theorem s_eqCore_e : EnterOk Try.prog 67 := ⟨_, Try.func67, rfl, by decide⟩
@[go_sem] def s_eqCore_lv : List (List Nat) := [[2, 3], [2, 3, 9], [4], [2, 3, 15], [4], [2, 3, 21], [4], [2, 3, 27], [4], [2, 3, 32], [4], [2, 3, 38], [4], [43], [4], [4]]
@[go_sem] noncomputable def s_eqCore_K : Known := ((((Known.nil).cons 105 ctEqCs s_eqCs s_eqCs_e).cons 106 ctEqEs s_eqEs s_eqEs_e).cons 107 ctEqPs s_eqPs s_eqPs_e).cons 26 ctEqI s_eqI s_eqI_e
set_option maxHeartbeats 8000000 in
theorem s_eqCore : Sound Try.prog 67 ctEqCore := by
  refine sound_intro (E := ⟨ti, s_eqCore_K.Γ, []⟩) (s_eqCore_K.env []) Try.func67 Try.ntmps67 rfl (rs := [.tmp 4]) rfl ?_
  intro args os hp
  unfold ctEqCore at hp ⊢
  dsimp only at hp ⊢
  split at hp
  · rename_i x cs es ps y zs u x' cs' es' ps' y' zs' u'
    refine ⟨by simp, fun φ0 w0 => ?_⟩
    obtain ⟨⟨rfl, rfl, rfl, rfl, rfl, rfl, rfl⟩, h1, h2, h3, h4⟩ : (x = x' ∧ cs = cs' ∧ es = es' ∧ ps = ps' ∧ y = y' ∧ zs = zs' ∧ u = u') ∧ (Co.mk x cs es ps y zs u).small := hp
    simp only at h1 h2 h3 h4
    repeat' first
      | refine W_seq ?_
      | (refine W_reg (s_eqCore_K.env []) s_eqCore_lv fun K' hK' => ?_
         simp only [go_sem, bne_self_eq_false, beq_self_eq_true, Bool.not_true, ↓reduceIte, ↓reduceDIte, reduceCtorEq, Nat.reduceAdd, Nat.reduceMul, Nat.reduceSub, Nat.reduceLT, Nat.reduceLeDiff, Nat.reduceEqDiff, Nat.reduceBEq, Int.reduceToNat, Int.reduceLE, Int.reduceLT, Int.reduceEq, Int.reduceNe, Int.reduceNeg]
         (repeat' apply And.intro) <;> try first | ((with_reducible refine hK' _ ?_ ?_ ?_); rotate_left; (simp only [go_sem, bne_self_eq_false, beq_self_eq_true, Bool.not_true, pr, keepSl, ↓reduceIte, Nat.reduceEqDiff]; try rfl); clear hK' K') | (clear hK' K'; first | omega | (with_reducible refine drawOk_k ?_; kernel_rfl) | assumption | refine Eq.refl _ | exact fun h => ⟨h, fun k => ⟨h, k⟩⟩ | (intro _; (repeat' apply And.intro) <;> first | omega | assumption) | skip))
      | with_reducible first | refine W_skip ?_ | refine W_exit ?_ | refine W_ret ?_ | refine W_block ?_ | refine thenG_n ?_ | refine thenG_x ?_ | refine thenG_r ?_ | refine blockG_n ?_ | refine blockG_r ?_ | refine blockG_x ?_ | refine blockG_o (by decide) ?_
    refine W_cond _ (by exact rfl) (by exact trivial) ?_ ?_ <;> intro hlit <;> try (cases hlit; done)
    repeat' first
      | refine W_seq ?_
      | (refine W_reg (s_eqCore_K.env []) s_eqCore_lv fun K' hK' => ?_
         simp only [go_sem, bne_self_eq_false, beq_self_eq_true, Bool.not_true, ↓reduceIte, ↓reduceDIte, reduceCtorEq, Nat.reduceAdd, Nat.reduceMul, Nat.reduceSub, Nat.reduceLT, Nat.reduceLeDiff, Nat.reduceEqDiff, Nat.reduceBEq, Int.reduceToNat, Int.reduceLE, Int.reduceLT, Int.reduceEq, Int.reduceNe, Int.reduceNeg]
         (repeat' apply And.intro) <;> try first | ((with_reducible refine hK' _ ?_ ?_ ?_); rotate_left; (simp only [go_sem, bne_self_eq_false, beq_self_eq_true, Bool.not_true, pr, keepSl, ↓reduceIte, Nat.reduceEqDiff]; try rfl); clear hK' K') | (clear hK' K'; first | omega | (with_reducible refine drawOk_k ?_; kernel_rfl) | assumption | refine Eq.refl _ | exact fun h => ⟨h, fun k => ⟨h, k⟩⟩ | (intro _; (repeat' apply And.intro) <;> first | omega | assumption) | skip))
      | with_reducible first | refine W_skip ?_ | refine W_exit ?_ | refine W_ret ?_ | refine W_block ?_ | refine thenG_n ?_ | refine thenG_x ?_ | refine thenG_r ?_ | refine blockG_n ?_ | refine blockG_r ?_ | refine blockG_x ?_ | refine blockG_o (by decide) ?_
    refine W_cond _ (by exact rfl) (by exact trivial) ?_ ?_ <;> intro hlit <;> try (cases hlit; done)
    repeat' first
      | refine W_seq ?_
      | (refine W_reg (s_eqCore_K.env []) s_eqCore_lv fun K' hK' => ?_
         simp only [go_sem, bne_self_eq_false, beq_self_eq_true, Bool.not_true, ↓reduceIte, ↓reduceDIte, reduceCtorEq, Nat.reduceAdd, Nat.reduceMul, Nat.reduceSub, Nat.reduceLT, Nat.reduceLeDiff, Nat.reduceEqDiff, Nat.reduceBEq, Int.reduceToNat, Int.reduceLE, Int.reduceLT, Int.reduceEq, Int.reduceNe, Int.reduceNeg]
         (repeat' apply And.intro) <;> try first | ((with_reducible refine hK' _ ?_ ?_ ?_); rotate_left; (simp only [go_sem, bne_self_eq_false, beq_self_eq_true, Bool.not_true, pr, keepSl, ↓reduceIte, Nat.reduceEqDiff]; try rfl); clear hK' K') | (clear hK' K'; first | omega | (with_reducible refine drawOk_k ?_; kernel_rfl) | assumption | refine Eq.refl _ | exact fun h => ⟨h, fun k => ⟨h, k⟩⟩ | (intro _; (repeat' apply And.intro) <;> first | omega | assumption) | skip))
      | with_reducible first | refine W_skip ?_ | refine W_exit ?_ | refine W_ret ?_ | refine W_block ?_ | refine thenG_n ?_ | refine thenG_x ?_ | refine thenG_r ?_ | refine blockG_n ?_ | refine blockG_r ?_ | refine blockG_x ?_ | refine blockG_o (by decide) ?_
    refine W_cond _ (by exact rfl) (by exact trivial) ?_ ?_ <;> intro hlit <;> try (cases hlit; done)
    repeat' first
      | refine W_seq ?_
      | (refine W_reg (s_eqCore_K.env []) s_eqCore_lv fun K' hK' => ?_
         simp only [go_sem, bne_self_eq_false, beq_self_eq_true, Bool.not_true, ↓reduceIte, ↓reduceDIte, reduceCtorEq, Nat.reduceAdd, Nat.reduceMul, Nat.reduceSub, Nat.reduceLT, Nat.reduceLeDiff, Nat.reduceEqDiff, Nat.reduceBEq, Int.reduceToNat, Int.reduceLE, Int.reduceLT, Int.reduceEq, Int.reduceNe, Int.reduceNeg]
         (repeat' apply And.intro) <;> try first | ((with_reducible refine hK' _ ?_ ?_ ?_); rotate_left; (simp only [go_sem, bne_self_eq_false, beq_self_eq_true, Bool.not_true, pr, keepSl, ↓reduceIte, Nat.reduceEqDiff]; try rfl); clear hK' K') | (clear hK' K'; first | omega | (with_reducible refine drawOk_k ?_; kernel_rfl) | assumption | refine Eq.refl _ | exact fun h => ⟨h, fun k => ⟨h, k⟩⟩ | (intro _; (repeat' apply And.intro) <;> first | omega | assumption) | skip))
      | with_reducible first | refine W_skip ?_ | refine W_exit ?_ | refine W_ret ?_ | refine W_block ?_ | refine thenG_n ?_ | refine thenG_x ?_ | refine thenG_r ?_ | refine blockG_n ?_ | refine blockG_r ?_ | refine blockG_x ?_ | refine blockG_o (by decide) ?_
    refine W_cond _ (by exact rfl) (by exact trivial) ?_ ?_ <;> intro hlit <;> try (cases hlit; done)
    repeat' first
      | refine W_seq ?_
      | (refine W_reg (s_eqCore_K.env []) s_eqCore_lv fun K' hK' => ?_
         simp only [go_sem, bne_self_eq_false, beq_self_eq_true, Bool.not_true, ↓reduceIte, ↓reduceDIte, reduceCtorEq, Nat.reduceAdd, Nat.reduceMul, Nat.reduceSub, Nat.reduceLT, Nat.reduceLeDiff, Nat.reduceEqDiff, Nat.reduceBEq, Int.reduceToNat, Int.reduceLE, Int.reduceLT, Int.reduceEq, Int.reduceNe, Int.reduceNeg]
         (repeat' apply And.intro) <;> try first | ((with_reducible refine hK' _ ?_ ?_ ?_); rotate_left; (simp only [go_sem, bne_self_eq_false, beq_self_eq_true, Bool.not_true, pr, keepSl, ↓reduceIte, Nat.reduceEqDiff]; try rfl); clear hK' K') | (clear hK' K'; first | omega | (with_reducible refine drawOk_k ?_; kernel_rfl) | assumption | refine Eq.refl _ | exact fun h => ⟨h, fun k => ⟨h, k⟩⟩ | (intro _; (repeat' apply And.intro) <;> first | omega | assumption) | skip))
      | with_reducible first | refine W_skip ?_ | refine W_exit ?_ | refine W_ret ?_ | refine W_block ?_ | refine thenG_n ?_ | refine thenG_x ?_ | refine thenG_r ?_ | refine blockG_n ?_ | refine blockG_r ?_ | refine blockG_x ?_ | refine blockG_o (by decide) ?_
    refine W_cond _ (by exact rfl) (by exact trivial) ?_ ?_ <;> intro hlit <;> try (cases hlit; done)
    repeat' first
      | refine W_seq ?_
      | (refine W_reg (s_eqCore_K.env []) s_eqCore_lv fun K' hK' => ?_
         simp only [go_sem, bne_self_eq_false, beq_self_eq_true, Bool.not_true, ↓reduceIte, ↓reduceDIte, reduceCtorEq, Nat.reduceAdd, Nat.reduceMul, Nat.reduceSub, Nat.reduceLT, Nat.reduceLeDiff, Nat.reduceEqDiff, Nat.reduceBEq, Int.reduceToNat, Int.reduceLE, Int.reduceLT, Int.reduceEq, Int.reduceNe, Int.reduceNeg]
         (repeat' apply And.intro) <;> try first | ((with_reducible refine hK' _ ?_ ?_ ?_); rotate_left; (simp only [go_sem, bne_self_eq_false, beq_self_eq_true, Bool.not_true, pr, keepSl, ↓reduceIte, Nat.reduceEqDiff]; try rfl); clear hK' K') | (clear hK' K'; first | omega | (with_reducible refine drawOk_k ?_; kernel_rfl) | assumption | refine Eq.refl _ | exact fun h => ⟨h, fun k => ⟨h, k⟩⟩ | (intro _; (repeat' apply And.intro) <;> first | omega | assumption) | skip))
      | with_reducible first | refine W_skip ?_ | refine W_exit ?_ | refine W_ret ?_ | refine W_block ?_ | refine thenG_n ?_ | refine thenG_x ?_ | refine thenG_r ?_ | refine blockG_n ?_ | refine blockG_r ?_ | refine blockG_x ?_ | refine blockG_o (by decide) ?_
    refine W_cond _ (by exact rfl) (by exact trivial) ?_ ?_ <;> intro hlit <;> try (cases hlit; done)
    repeat' first
      | refine W_seq ?_
      | (refine W_reg (s_eqCore_K.env []) s_eqCore_lv fun K' hK' => ?_
         simp only [go_sem, bne_self_eq_false, beq_self_eq_true, Bool.not_true, ↓reduceIte, ↓reduceDIte, reduceCtorEq, Nat.reduceAdd, Nat.reduceMul, Nat.reduceSub, Nat.reduceLT, Nat.reduceLeDiff, Nat.reduceEqDiff, Nat.reduceBEq, Int.reduceToNat, Int.reduceLE, Int.reduceLT, Int.reduceEq, Int.reduceNe, Int.reduceNeg]
         (repeat' apply And.intro) <;> try first | ((with_reducible refine hK' _ ?_ ?_ ?_); rotate_left; (simp only [go_sem, bne_self_eq_false, beq_self_eq_true, Bool.not_true, pr, keepSl, ↓reduceIte, Nat.reduceEqDiff]; try rfl); clear hK' K') | (clear hK' K'; first | omega | (with_reducible refine drawOk_k ?_; kernel_rfl) | assumption | refine Eq.refl _ | exact fun h => ⟨h, fun k => ⟨h, k⟩⟩ | (intro _; (repeat' apply And.intro) <;> first | omega | assumption) | skip))
      | with_reducible first | refine W_skip ?_ | refine W_exit ?_ | refine W_ret ?_ | refine W_block ?_ | refine thenG_n ?_ | refine thenG_x ?_ | refine thenG_r ?_ | refine blockG_n ?_ | refine blockG_r ?_ | refine blockG_x ?_ | refine blockG_o (by decide) ?_
    refine W_cond _ (by exact rfl) (by exact trivial) ?_ ?_ <;> intro hlit <;> try (cases hlit; done)
    repeat' first
      | refine W_seq ?_
      | (refine W_reg (s_eqCore_K.env []) s_eqCore_lv fun K' hK' => ?_
         simp only [go_sem, ↓reduceIte, ↓reduceDIte, reduceCtorEq, Nat.reduceAdd, Nat.reduceMul, Nat.reduceSub, Nat.reduceLT, Nat.reduceLeDiff, Nat.reduceEqDiff, Nat.reduceBEq, Int.reduceToNat, Int.reduceLE, Int.reduceLT, Int.reduceEq, Int.reduceNe, Int.reduceNeg]
         (repeat' apply And.intro) <;> try first | ((with_reducible refine hK' _ ?_ ?_ ?_); rotate_left; (simp only [go_sem, pr, keepSl, ↓reduceIte, Nat.reduceEqDiff]; try rfl); clear hK' K') | (clear hK' K'; first | omega | (with_reducible refine drawOk_k ?_; kernel_rfl) | assumption | refine Eq.refl _ | exact fun h => ⟨h, fun k => ⟨h, k⟩⟩ | (intro _; (repeat' apply And.intro) <;> first | omega | assumption) | skip))
      | with_reducible first | refine W_skip ?_ | refine W_exit ?_ | refine W_ret ?_ | refine W_block ?_ | refine thenG_n ?_ | refine thenG_x ?_ | refine thenG_r ?_ | refine blockG_n ?_ | refine blockG_r ?_ | refine blockG_x ?_ | refine blockG_o (by decide) ?_
    refine ⟨by (simp only [go_sem, ↓reduceIte, reduceCtorEq, Nat.reduceAdd, Nat.reduceLT, Nat.reduceLeDiff, Nat.reduceEqDiff]) <;> trivial, [], ?_⟩
    all_goals try simp only [go_sem, ↓reduceIte, reduceCtorEq, Nat.reduceAdd, Nat.reduceLT, Nat.reduceLeDiff, Nat.reduceEqDiff, Int.reduceEq, TC.val.injEq, Value.bool.injEq, Value.int.injEq, Value.string.injEq, TV.one.injEq]
    all_goals (repeat' apply And.intro) <;> try first | rfl | trivial | omega | (rw [wrap_id] <;> omega)
  · simp [no, ifp] at hp
@[go_sem] def ctEqPool : Ct := ⟨false, [[some .str, some .str, some .late, none, some .cset, some .ent, some .ptr, none, some .int, none, none], [some .str, some .str, some .late, none, some .cset, some .ent, some .ptr, none, some .int, none, none]], fun args os => match args, os with
  | [.agg [.isl .str a, .isl .str b, .isl .late l, .val (.int .i64 x), .isl .cset cs, .isl .ent es, .isl .ptr ps, .val (.bool y), .isl .int zs, .val (.int .i64 u), .val (.bool o)], .agg [.isl .str a', .isl .str b', .isl .late l', .val (.int .i64 x'), .isl .cset cs', .isl .ent es', .isl .ptr ps', .val (.bool y'), .isl .int zs', .val (.int .i64 u'), .val (.bool o')]], [] =>
    ifp (((a = a' ∧ b = b' ∧ l = l') ∧ (x = x' ∧ cs = cs' ∧ es = es' ∧ ps = ps' ∧ y = y' ∧ zs = zs' ∧ u = u') ∧ o = o') ∧ (Pl.mk ⟨a, b, l⟩ ⟨x, cs, es, ps, y, zs, u⟩ o).small) (vb true)
  | _, _ => no⟩
theorem s_eqPool_e : EnterOk Try.prog 35 := ⟨_, Try.func35, rfl, by decide⟩
@[go_sem] def s_eqPool_lv : List (List Nat) := [[2, 3], [2, 3, 10], [4], [2, 3, 16], [4], [21], [4], [4]]
@[go_sem] noncomputable def s_eqPool_K : Known := ((Known.nil).cons 14 ctEqDisk s_eqDisk s_eqDisk_e).cons 67 ctEqCore s_eqCore s_eqCore_e
set_option maxHeartbeats 8000000 in
theorem s_eqPool : Sound Try.prog 35 ctEqPool := by
  refine sound_intro (E := ⟨ti, s_eqPool_K.Γ, []⟩) (s_eqPool_K.env []) Try.func35 Try.ntmps35 rfl (rs := [.tmp 4]) rfl ?_
  intro args os hp
  unfold ctEqPool at hp ⊢
  dsimp only at hp ⊢
  split at hp
  · rename_i a b l x cs es ps y zs u o a' b' l' x' cs' es' ps' y' zs' u' o'
    refine ⟨by simp, fun φ0 w0 => ?_⟩
    obtain ⟨⟨⟨rfl, rfl, rfl⟩, ⟨rfl, rfl, rfl, rfl, rfl, rfl, rfl⟩, rfl⟩, ⟨g1, g2, g3⟩, ⟨h1, h2, h3, h4⟩⟩ : ((a = a' ∧ b = b' ∧ l = l') ∧ (x = x' ∧ cs = cs' ∧ es = es' ∧ ps = ps' ∧ y = y' ∧ zs = zs' ∧ u = u') ∧ o = o') ∧ (Pl.mk ⟨a, b, l⟩ ⟨x, cs, es, ps, y, zs, u⟩ o).small := hp
    simp only at g1 g2 g3 h1 h2 h3 h4
    repeat' first
      | refine W_seq ?_
      | (refine W_reg (s_eqPool_K.env []) s_eqPool_lv fun K' hK' => ?_
         simp only [go_sem, Dk.small, Co.small, Bool.not_true, ↓reduceIte, ↓reduceDIte, reduceCtorEq, Nat.reduceAdd, Nat.reduceMul, Nat.reduceSub, Nat.reduceLT, Nat.reduceLeDiff, Nat.reduceEqDiff, Nat.reduceBEq, Int.reduceToNat, Int.reduceLE, Int.reduceLT, Int.reduceEq, Int.reduceNe, Int.reduceNeg]
         (repeat' apply And.intro) <;> try first | ((with_reducible refine hK' _ ?_ ?_ ?_); rotate_left; (simp only [go_sem, Dk.small, Co.small, Bool.not_true, pr, keepSl, ↓reduceIte, Nat.reduceEqDiff]; try rfl); clear hK' K') | (clear hK' K'; first | omega | (with_reducible refine drawOk_k ?_; kernel_rfl) | assumption | refine Eq.refl _ | exact fun h => ⟨h, fun k => ⟨h, k⟩⟩ | (intro _; (repeat' apply And.intro) <;> first | omega | assumption) | skip))
      | with_reducible first | refine W_skip ?_ | refine W_exit ?_ | refine W_ret ?_ | refine W_block ?_ | refine thenG_n ?_ | refine thenG_x ?_ | refine thenG_r ?_ | refine blockG_n ?_ | refine blockG_r ?_ | refine blockG_x ?_ | refine blockG_o (by decide) ?_
    refine W_cond _ (by exact rfl) (by exact trivial) ?_ ?_ <;> intro hlit <;> try (cases hlit; done)
    repeat' first
      | refine W_seq ?_
      | (refine W_reg (s_eqPool_K.env []) s_eqPool_lv fun K' hK' => ?_
         simp only [go_sem, Dk.small, Co.small, Bool.not_true, ↓reduceIte, ↓reduceDIte, reduceCtorEq, Nat.reduceAdd, Nat.reduceMul, Nat.reduceSub, Nat.reduceLT, Nat.reduceLeDiff, Nat.reduceEqDiff, Nat.reduceBEq, Int.reduceToNat, Int.reduceLE, Int.reduceLT, Int.reduceEq, Int.reduceNe, Int.reduceNeg]
         (repeat' apply And.intro) <;> try first | ((with_reducible refine hK' _ ?_ ?_ ?_); rotate_left; (simp only [go_sem, Dk.small, Co.small, Bool.not_true, pr, keepSl, ↓reduceIte, Nat.reduceEqDiff]; try rfl); clear hK' K') | (clear hK' K'; first | omega | (with_reducible refine drawOk_k ?_; kernel_rfl) | assumption | refine Eq.refl _ | exact fun h => ⟨h, fun k => ⟨h, k⟩⟩ | (intro _; (repeat' apply And.intro) <;> first | omega | assumption) | skip))
      | with_reducible first | refine W_skip ?_ | refine W_exit ?_ | refine W_ret ?_ | refine W_block ?_ | refine thenG_n ?_ | refine thenG_x ?_ | refine thenG_r ?_ | refine blockG_n ?_ | refine blockG_r ?_ | refine blockG_x ?_ | refine blockG_o (by decide) ?_
    refine W_cond _ (by exact rfl) (by exact trivial) ?_ ?_ <;> intro hlit <;> try (cases hlit; done)
    repeat' first
      | refine W_seq ?_
      | (refine W_reg (s_eqPool_K.env []) s_eqPool_lv fun K' hK' => ?_
         simp only [go_sem, bne_self_eq_false, beq_self_eq_true, Bool.not_true, ↓reduceIte, ↓reduceDIte, reduceCtorEq, Nat.reduceAdd, Nat.reduceMul, Nat.reduceSub, Nat.reduceLT, Nat.reduceLeDiff, Nat.reduceEqDiff, Nat.reduceBEq, Int.reduceToNat, Int.reduceLE, Int.reduceLT, Int.reduceEq, Int.reduceNe, Int.reduceNeg]
         (repeat' apply And.intro) <;> try first | ((with_reducible refine hK' _ ?_ ?_ ?_); rotate_left; (simp only [go_sem, bne_self_eq_false, beq_self_eq_true, Bool.not_true, pr, keepSl, ↓reduceIte, Nat.reduceEqDiff]; try rfl); clear hK' K') | (clear hK' K'; first | omega | (with_reducible refine drawOk_k ?_; kernel_rfl) | assumption | refine Eq.refl _ | exact fun h => ⟨h, fun k => ⟨h, k⟩⟩ | (intro _; (repeat' apply And.intro) <;> first | omega | assumption) | skip))
      | with_reducible first | refine W_skip ?_ | refine W_exit ?_ | refine W_ret ?_ | refine W_block ?_ | refine thenG_n ?_ | refine thenG_x ?_ | refine thenG_r ?_ | refine blockG_n ?_ | refine blockG_r ?_ | refine blockG_x ?_ | refine blockG_o (by decide) ?_
    refine W_cond _ (by exact rfl) (by exact trivial) ?_ ?_ <;> intro hlit <;> try (cases hlit; done)
    repeat' first
      | refine W_seq ?_
      | (refine W_reg (s_eqPool_K.env []) s_eqPool_lv fun K' hK' => ?_
         simp only [go_sem, ↓reduceIte, ↓reduceDIte, reduceCtorEq, Nat.reduceAdd, Nat.reduceMul, Nat.reduceSub, Nat.reduceLT, Nat.reduceLeDiff, Nat.reduceEqDiff, Nat.reduceBEq, Int.reduceToNat, Int.reduceLE, Int.reduceLT, Int.reduceEq, Int.reduceNe, Int.reduceNeg]
         (repeat' apply And.intro) <;> try first | ((with_reducible refine hK' _ ?_ ?_ ?_); rotate_left; (simp only [go_sem, pr, keepSl, ↓reduceIte, Nat.reduceEqDiff]; try rfl); clear hK' K') | (clear hK' K'; first | omega | (with_reducible refine drawOk_k ?_; kernel_rfl) | assumption | refine Eq.refl _ | exact fun h => ⟨h, fun k => ⟨h, k⟩⟩ | (intro _; (repeat' apply And.intro) <;> first | omega | assumption) | skip))
      | with_reducible first | refine W_skip ?_ | refine W_exit ?_ | refine W_ret ?_ | refine W_block ?_ | refine thenG_n ?_ | refine thenG_x ?_ | refine thenG_r ?_ | refine blockG_n ?_ | refine blockG_r ?_ | refine blockG_x ?_ | refine blockG_o (by decide) ?_
    refine ⟨by (simp only [go_sem, ↓reduceIte, reduceCtorEq, Nat.reduceAdd, Nat.reduceLT, Nat.reduceLeDiff, Nat.reduceEqDiff]) <;> trivial, [], ?_⟩
    all_goals try simp only [go_sem, ↓reduceIte, reduceCtorEq, Nat.reduceAdd, Nat.reduceLT, Nat.reduceLeDiff, Nat.reduceEqDiff, Int.reduceEq, TC.val.injEq, Value.bool.injEq, Value.int.injEq, Value.string.injEq, TV.one.injEq]
    all_goals (repeat' apply And.intro) <;> try first | rfl | trivial | omega | (rw [wrap_id] <;> omega)
  · simp [no, ifp] at hp
end Go.Proofs.Ytfmeopnankeaeaa
