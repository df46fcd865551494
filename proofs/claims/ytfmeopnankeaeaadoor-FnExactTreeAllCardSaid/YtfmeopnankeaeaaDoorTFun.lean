/- Functions: all that comes from a set. -/
import Derived.Test.YtfmeopnankeaeaaDoorTPn
set_option linter.unusedSimpArgs false
set_option linter.unusedVariables false
set_option linter.unusedSectionVars false
namespace Go.Proofs.YtfmeopnankeaeaaDoor
open Go.RowKit

@[go_sem] noncomputable def ctUnder (n : Nat) : Ct := ⟨false, [[some .bset]], fun args os => match args, os with
  | [.agg [.isl .bset xs], .one (.val (.string name))], [] => ⟨n ≤ 7 ∧ xs.length ≤ 6 ∧ Hgt xs n name, .one (.osl .str 0 0 (underN xs n name).length), [], [.arr .str (underN xs n name)]⟩
  | _, _ => no⟩
@[go_sem] noncomputable def sgUn (xs : List BSet) (name : ByteArray) (ys ks : List ByteArray) (i : Nat) : Sg := ⟨[(1, vs name), (2, .one (.ptr 0 0)), (5, .one (.osl .str 1 0 ys.length)), (10, .one (.osl .str 2 0 ks.length)), (11, vi ks.length), (12, vi i)], [some (.cells [.isl .bset xs]), some (.arr .str ys), some (.arr .str ks)], []⟩
theorem s_under_e : EnterOk Tryd.prog 38 := ⟨_, Tryd.func38, rfl, by decide⟩
@[go_sem] def s_under_lv : List (List Nat) := [[1, 2], [1, 2, 5], [1, 2, 5, 10, 11, 12], [1, 2, 5, 10, 11, 12, 13], [1, 2, 5, 7, 10, 11, 12], [1, 2, 5, 10, 11, 12], [1, 2, 5, 10, 11, 12], [4]]
@[go_sem] noncomputable def s_under_K (n : Nat) (ih : Sound Tryd.prog 38 (ctUnder n)) : Known := ((Known.nil).cons 32 ctKids s_kids s_kids_e).cons 38 (ctUnder n) ih s_under_e
set_option maxHeartbeats 8000000 in
theorem s_under_step (n : Nat) (ih : Sound Tryd.prog 38 (ctUnder n)) : Sound Tryd.prog 38 (ctUnder (n + 1)) := by
  refine sound_intro (E := ⟨ti, (s_under_K n ih).Γ, []⟩) ((s_under_K n ih).env []) Tryd.func38 Tryd.ntmps38 rfl (rs := [.tmp 4]) rfl ?_
  intro args os hp
  unfold ctUnder at hp ⊢
  dsimp only at hp ⊢
  split at hp
  · rename_i xs name
    refine ⟨by simp, fun φ0 w0 => ?_⟩
    obtain ⟨hn7, hlen, hh⟩ : n + 1 ≤ 7 ∧ xs.length ≤ 6 ∧ Hgt xs (n + 1) name := hp
    have hb := bnd_le n (by omega)
    obtain ⟨ks, hks⟩ : ∃ ks, kidsOf xs name = ks := ⟨_, rfl⟩
    have hkl := kids_len xs name
    rw [hks] at hkl
    have hub : ∀ k, (underN xs n k).length ≤ 60000 := fun k => by have := under_len hlen n k; omega
    have hh2 : ∀ k ∈ ks, Hgt xs n k := fun k hk => hh k (by rw [hks]; exact hk)
    have et : underN xs (n + 1) name = ks.flatMap (underN xs n) ++ [name] := by rw [← hks]; rfl
    repeat' first
      | refine W_seq ?_
      | (refine W_reg ((s_under_K n ih).env []) s_under_lv fun K' hK' => ?_
         simp only [go_sem, hks, ↓reduceIte, ↓reduceDIte, reduceCtorEq, Nat.reduceAdd, Nat.reduceMul, Nat.reduceSub, Nat.reduceLT, Nat.reduceLeDiff, Nat.reduceEqDiff, Nat.reduceBEq, Int.reduceToNat, Int.reduceLE, Int.reduceLT, Int.reduceEq, Int.reduceNe, Int.reduceNeg]
         (repeat' apply And.intro) <;> try first | ((with_reducible refine hK' _ ?_ ?_ ?_); rotate_left; (simp only [go_sem, hks, pr, keepSl, ↓reduceIte, Nat.reduceEqDiff]; try rfl); clear hK' K') | (clear hK' K'; first | omega | (with_reducible refine drawOk_k ?_; kernel_rfl) | assumption | refine Eq.refl _ | exact fun h => ⟨h, fun k => ⟨h, k⟩⟩ | (intro _; (repeat' apply And.intro) <;> first | omega | assumption) | skip))
      | with_reducible first | refine W_skip ?_ | refine W_exit ?_ | refine W_ret ?_ | refine W_block ?_ | refine thenG_n ?_ | refine thenG_x ?_ | refine thenG_r ?_ | refine blockG_n ?_ | refine blockG_r ?_ | refine blockG_x ?_ | refine blockG_o (by decide) ?_
    refine W_le (σ' := sgUn xs name [] ks 0) [some 0, none, some 1] (by
      simp only [go_sem, ↓reduceIte, reduceCtorEq, Nat.reduceAdd, Nat.reduceLT, Nat.reduceLeDiff, Nat.reduceEqDiff, Int.reduceEq, TC.val.injEq, Value.bool.injEq, Value.int.injEq, Value.string.injEq, TV.one.injEq]
      all_goals (repeat' apply And.intro) <;> try first | rfl | trivial | omega | (rw [wrap_id] <;> omega)
      ) ?_
    refine W_loop (fun q σ => ∃ (i : Nat) (ys : List ByteArray), i ≤ ks.length ∧ q = ks.length - i ∧ ys = (ks.take i).flatMap (underN xs n) ∧ ys.length ≤ i * 60000 ∧ σ = sgUn xs name ys ks i) ks.length ⟨0, [], by omega, by omega, rfl, by simp, rfl⟩ ?_
    rintro q σ ⟨i, ys, hi, rfl, hy, hyl, rfl⟩
    unfold sgUn
    repeat' first
      | refine W_seq ?_
      | (refine W_reg ((s_under_K n ih).env []) s_under_lv fun K' hK' => ?_
         simp only [go_sem, ↓reduceIte, ↓reduceDIte, reduceCtorEq, Nat.reduceAdd, Nat.reduceMul, Nat.reduceSub, Nat.reduceLT, Nat.reduceLeDiff, Nat.reduceEqDiff, Nat.reduceBEq, Int.reduceToNat, Int.reduceLE, Int.reduceLT, Int.reduceEq, Int.reduceNe, Int.reduceNeg]
         (repeat' apply And.intro) <;> try first | ((with_reducible refine hK' _ ?_ ?_ ?_); rotate_left; (simp only [go_sem, pr, keepSl, ↓reduceIte, Nat.reduceEqDiff]; try rfl); clear hK' K') | (clear hK' K'; first | omega | (with_reducible refine drawOk_k ?_; kernel_rfl) | assumption | refine Eq.refl _ | exact fun h => ⟨h, fun k => ⟨h, k⟩⟩ | (intro _; (repeat' apply And.intro) <;> first | omega | assumption) | skip))
      | with_reducible first | refine W_skip ?_ | refine W_exit ?_ | refine W_ret ?_ | refine W_block ?_ | refine thenG_n ?_ | refine thenG_x ?_ | refine thenG_r ?_ | refine blockG_n ?_ | refine blockG_r ?_ | refine blockG_x ?_ | refine blockG_o (by decide) ?_
    refine W_cond _ (by exact rfl) (by exact trivial) ?_ ?_ <;> (try simp only [Bool.if_true_left, Bool.if_false_right, Bool.if_true_right, Bool.if_false_left, Bool.decide_eq_true, Bool.or_assoc, Bool.and_assoc, Bool.and_true, Bool.or_false, Bool.true_and, Bool.false_or, decide_eq_true_eq, decide_eq_false_iff_not, not_and, not_or, Classical.not_not, Bool.and_eq_true, Bool.or_eq_true, Bool.not_eq_true', Bool.not_eq_false', Bool.or_eq_false_iff, Bool.and_eq_false_iff, bne_iff_ne, ne_eq, beq_iff_eq, bne_eq_false_iff_eq, same_true, same_false, Int.ofNat_inj]) <;> intro hlt
    · have hf := flm_take (underN xs n) ks i ET.str.dflt (by omega)
      rw [← hy] at hf
      have hu := hub (ks.getD i ET.str.dflt)
      have hg := hh2 (ks.getD i ET.str.dflt) (by simp [show i < ks.length by omega])
      repeat' first
        | refine W_seq ?_
        | (refine W_reg ((s_under_K n ih).env []) s_under_lv fun K' hK' => ?_
           simp only [go_sem, ↓reduceIte, ↓reduceDIte, reduceCtorEq, Nat.reduceAdd, Nat.reduceMul, Nat.reduceSub, Nat.reduceLT, Nat.reduceLeDiff, Nat.reduceEqDiff, Nat.reduceBEq, Int.reduceToNat, Int.reduceLE, Int.reduceLT, Int.reduceEq, Int.reduceNe, Int.reduceNeg]
           (repeat' apply And.intro) <;> try first | ((with_reducible refine hK' _ ?_ ?_ ?_); rotate_left; (simp only [go_sem, pr, keepSl, ↓reduceIte, Nat.reduceEqDiff]; try rfl); clear hK' K') | (clear hK' K'; first | omega | (with_reducible refine drawOk_k ?_; kernel_rfl) | assumption | refine Eq.refl _ | exact fun h => ⟨h, fun k => ⟨h, k⟩⟩ | (intro _; (repeat' apply And.intro) <;> first | omega | assumption) | skip))
        | with_reducible first | refine W_skip ?_ | refine W_exit ?_ | refine W_ret ?_ | refine W_block ?_ | refine thenG_n ?_ | refine thenG_x ?_ | refine thenG_r ?_ | refine blockG_n ?_ | refine blockG_r ?_ | refine blockG_x ?_ | refine blockG_o (by decide) ?_
      refine ⟨ks.length - (i + 1), [some 0, some 4, some 2], sgUn xs name (ys ++ underN xs n (ks.getD i ET.str.dflt)) ks (i + 1), by omega, ?_, i + 1, _, by omega, rfl, hf.symm, by rw [List.length_append]; omega, rfl⟩
      simp only [go_sem, ↓reduceIte, reduceCtorEq, Nat.reduceAdd, Nat.reduceLT, Nat.reduceLeDiff, Nat.reduceEqDiff, Int.reduceEq, TC.val.injEq, Value.bool.injEq, Value.int.injEq, Value.string.injEq, TV.one.injEq]
      all_goals (repeat' apply And.intro) <;> try first | rfl | trivial | omega | (rw [wrap_id] <;> omega)
    · rw [List.take_of_length_le (by omega)] at hy
      rw [← hy] at et
      repeat' first
        | refine W_seq ?_
        | (refine W_reg ((s_under_K n ih).env []) s_under_lv fun K' hK' => ?_
           simp only [go_sem, ↓reduceIte, ↓reduceDIte, reduceCtorEq, Nat.reduceAdd, Nat.reduceMul, Nat.reduceSub, Nat.reduceLT, Nat.reduceLeDiff, Nat.reduceEqDiff, Nat.reduceBEq, Int.reduceToNat, Int.reduceLE, Int.reduceLT, Int.reduceEq, Int.reduceNe, Int.reduceNeg]
           (repeat' apply And.intro) <;> try first | ((with_reducible refine hK' _ ?_ ?_ ?_); rotate_left; (simp only [go_sem, pr, keepSl, ↓reduceIte, Nat.reduceEqDiff]; try rfl); clear hK' K') | (clear hK' K'; first | omega | (with_reducible refine drawOk_k ?_; kernel_rfl) | assumption | refine Eq.refl _ | exact fun h => ⟨h, fun k => ⟨h, k⟩⟩ | (intro _; (repeat' apply And.intro) <;> first | omega | assumption) | skip))
        | with_reducible first | refine W_skip ?_ | refine W_exit ?_ | refine W_ret ?_ | refine W_block ?_ | refine thenG_n ?_ | refine thenG_x ?_ | refine thenG_r ?_ | refine blockG_n ?_ | refine blockG_r ?_ | refine blockG_x ?_ | refine blockG_o (by decide) ?_
      refine ⟨by (simp only [go_sem, et, ↓reduceIte, reduceCtorEq, Nat.reduceAdd, Nat.reduceLT, Nat.reduceLeDiff, Nat.reduceEqDiff]) <;> trivial, [some 4], ?_⟩
      all_goals try simp only [go_sem, et, ↓reduceIte, reduceCtorEq, Nat.reduceAdd, Nat.reduceLT, Nat.reduceLeDiff, Nat.reduceEqDiff, Int.reduceEq, TC.val.injEq, Value.bool.injEq, Value.int.injEq, Value.string.injEq, TV.one.injEq]
      all_goals (repeat' apply And.intro) <;> try first | rfl | trivial | omega | (rw [wrap_id] <;> omega)
  · simp [no] at hp
theorem s_under_all : ∀ n, Sound Tryd.prog 38 (ctUnder n)
  | 0 => by
    intro args os hp
    exfalso
    unfold ctUnder at hp
    dsimp only at hp
    split at hp
    · exact hp.2.2
    · exact hp
  | n + 1 => s_under_step n (s_under_all n)
theorem s_under7 : Sound Tryd.prog 38 (ctUnder 7) := s_under_all 7
theorem s_under7_e : EnterOk Tryd.prog 38 := s_under_e
theorem kid_name {xs : List BSet} (h : BookP xs) {name k : ByteArray} (hk : k ∈ kidsOf xs name) : same k ⟨#[]⟩ = false := by
  obtain ⟨j, hj, h1, -⟩ := kids_mem hk
  have h2 := (h.each j hj).name
  rw [h1] at h2
  rw [same_false]
  rintro rfl
  exact absurd h2 (by decide)
@[go_sem] noncomputable def ctL15 (n : Nat) : Ct := ⟨false, [[some .bset]], fun args os => match args, os with
  | [.agg [.isl .bset xs], .one (.val (.string name)), .one (.val (.int .i64 deep))], [] => ⟨(deep + 1 = n ∧ 0 ≤ deep ∧ n ≤ 7) ∧ (xs.length ≤ 6 ∧ bookB xs = true ∧ same name ⟨#[]⟩ = false) ∧ ∀ i : Nat, (xs.getD i ET.bset.dflt).name.size ≤ 9223372036854775807, .one (.osl .str 0 0 (underN xs n name).length), [], [.arr .str (underN xs n name)]⟩
  | _, _ => no⟩
@[go_sem] noncomputable def sgL15 (xs : List BSet) (name : ByteArray) (deep : Int) (ys ks : List ByteArray) (i : Nat) : Sg := ⟨[(1, vs name), (2, vi deep), (3, .one (.ptr 0 0)), (7, .one (.osl .str 1 0 ys.length)), (8, .one (.osl .str 2 0 ks.length)), (9, vi i)], [some (.cells [.isl .bset xs]), some (.arr .str ys), some (.arr .str ks)], []⟩
theorem s_l15_e : EnterOk Tryd.prog 41 := ⟨_, Tryd.func41, rfl, by decide⟩
@[go_sem] def s_l15_lv : List (List Nat) := [[1, 2, 3], [1, 2, 3, 7], [1, 2, 3, 7, 8], [1, 2, 3, 7, 8, 9], [1, 2, 3, 7, 8, 9, 21], [1, 2, 3, 7, 8, 9], [1, 2, 3, 7, 8, 9], [6]]
@[go_sem] noncomputable def s_l15_K (n : Nat) (ih : Sound Tryd.prog 41 (ctL15 n)) : Known := ((Known.nil).cons 9 ctTreeKids s_specTreeKids s_specTreeKids_e).cons 41 (ctL15 n) ih s_l15_e
set_option maxHeartbeats 8000000 in
theorem s_l15_step (n : Nat) (ih : Sound Tryd.prog 41 (ctL15 n)) : Sound Tryd.prog 41 (ctL15 (n + 1)) := by
  refine sound_intro (E := ⟨ti, (s_l15_K n ih).Γ, []⟩) ((s_l15_K n ih).env []) Tryd.func41 Tryd.ntmps41 rfl (rs := [.tmp 6]) rfl ?_
  intro args os hp
  unfold ctL15 at hp ⊢
  dsimp only at hp ⊢
  split at hp
  · rename_i xs name deep
    refine ⟨by simp, fun φ0 w0 => ?_⟩
    obtain ⟨⟨hdeep, -, hn7⟩, ⟨hlen, hbk, hnm⟩, hsz⟩ : (deep + 1 = (n + 1 : Nat) ∧ 0 ≤ deep ∧ n + 1 ≤ 7) ∧ (xs.length ≤ 6 ∧ bookB xs = true ∧ same name ⟨#[]⟩ = false) ∧ ∀ i : Nat, (xs.getD i ET.bset.dflt).name.size ≤ 9223372036854775807 := hp
    have hB := bookB_true.1 hbk
    obtain rfl : deep = (n : Int) := by omega
    have hb := bnd_le n (by omega)
    have htk : treeKids xs name = kidsOf xs name := by unfold treeKids; rw [if_pos ⟨hbk, hnm⟩]
    obtain ⟨ks, hks⟩ : ∃ ks, kidsOf xs name = ks := ⟨_, rfl⟩
    have hkl := kids_len xs name
    rw [hks] at hkl htk
    have hub : ∀ k, (underN xs n k).length ≤ 60000 := fun k => by have := under_len hlen n k; omega
    have hkn : ∀ k ∈ ks, same k ⟨#[]⟩ = false := fun k hk => kid_name hB (by rw [hks]; exact hk)
    have et : underN xs (n + 1) name = ks.flatMap (underN xs n) ++ [name] := by rw [← hks]; rfl
    repeat' first
      | refine W_seq ?_
      | (refine W_reg ((s_l15_K n ih).env []) s_l15_lv fun K' hK' => ?_
         simp only [go_sem, htk, ↓reduceIte, ↓reduceDIte, reduceCtorEq, Nat.reduceAdd, Nat.reduceMul, Nat.reduceSub, Nat.reduceLT, Nat.reduceLeDiff, Nat.reduceEqDiff, Nat.reduceBEq, Int.reduceToNat, Int.reduceLE, Int.reduceLT, Int.reduceEq, Int.reduceNe, Int.reduceNeg]
         (repeat' apply And.intro) <;> try first | ((with_reducible refine hK' _ ?_ ?_ ?_); rotate_left; (simp only [go_sem, htk, pr, keepSl, ↓reduceIte, Nat.reduceEqDiff]; try rfl); clear hK' K') | (clear hK' K'; first | omega | (with_reducible refine drawOk_k ?_; kernel_rfl) | assumption | refine Eq.refl _ | exact fun h => ⟨h, fun k => ⟨h, k⟩⟩ | (intro _; (repeat' apply And.intro) <;> first | omega | assumption) | skip))
      | with_reducible first | refine W_skip ?_ | refine W_exit ?_ | refine W_ret ?_ | refine W_block ?_ | refine thenG_n ?_ | refine thenG_x ?_ | refine thenG_r ?_ | refine blockG_n ?_ | refine blockG_r ?_ | refine blockG_x ?_ | refine blockG_o (by decide) ?_
    refine W_le (σ' := sgL15 xs name n [] ks 0) [some 0, some 1, some 2] (by
      simp only [go_sem, ↓reduceIte, reduceCtorEq, Nat.reduceAdd, Nat.reduceLT, Nat.reduceLeDiff, Nat.reduceEqDiff, Int.reduceEq, TC.val.injEq, Value.bool.injEq, Value.int.injEq, Value.string.injEq, TV.one.injEq]
      all_goals (repeat' apply And.intro) <;> try first | rfl | trivial | omega | (rw [wrap_id] <;> omega)
      ) ?_
    rcases Nat.eq_zero_or_pos n with hz | hz
    · have hdp : decide ((n : Int) > 0) = false := by rw [decide_eq_false_iff_not]; omega
      have et2 : underN xs (n + 1) name = [] ++ [name] := by
        rw [et]
        congr 1
        have : ∀ l : List ByteArray, l.flatMap (underN xs n) = [] := fun l => by
          rw [hz]
          induction l with
          | nil => rfl
          | cons a l ih => rw [List.flatMap_cons, ih]; rfl
        exact this ks
      refine W_loop (fun q σ => q = 0 ∧ σ = sgL15 xs name n [] ks 0) 0 ⟨rfl, rfl⟩ ?_
      rintro q σ ⟨rfl, rfl⟩
      unfold sgL15
      repeat' first
        | refine W_seq ?_
        | (refine W_reg ((s_l15_K n ih).env []) s_l15_lv fun K' hK' => ?_
           simp only [go_sem, hdp, ↓reduceIte, ↓reduceDIte, reduceCtorEq, Nat.reduceAdd, Nat.reduceMul, Nat.reduceSub, Nat.reduceLT, Nat.reduceLeDiff, Nat.reduceEqDiff, Nat.reduceBEq, Int.reduceToNat, Int.reduceLE, Int.reduceLT, Int.reduceEq, Int.reduceNe, Int.reduceNeg]
           (repeat' apply And.intro) <;> try first | ((with_reducible refine hK' _ ?_ ?_ ?_); rotate_left; (simp only [go_sem, hdp, pr, keepSl, ↓reduceIte, Nat.reduceEqDiff]; try rfl); clear hK' K') | (clear hK' K'; first | omega | (with_reducible refine drawOk_k ?_; kernel_rfl) | assumption | refine Eq.refl _ | exact fun h => ⟨h, fun k => ⟨h, k⟩⟩ | (intro _; (repeat' apply And.intro) <;> first | omega | assumption) | skip))
        | with_reducible first | refine W_skip ?_ | refine W_exit ?_ | refine W_ret ?_ | refine W_block ?_ | refine thenG_n ?_ | refine thenG_x ?_ | refine thenG_r ?_ | refine blockG_n ?_ | refine blockG_r ?_ | refine blockG_x ?_ | refine blockG_o (by decide) ?_
      refine W_cond _ (by exact rfl) (by exact trivial) ?_ ?_ <;> (try simp only [Bool.if_true_left, Bool.if_false_right, Bool.if_true_right, Bool.if_false_left, Bool.decide_eq_true, Bool.or_assoc, Bool.and_assoc, Bool.and_true, Bool.or_false, Bool.true_and, Bool.false_or, decide_eq_true_eq, decide_eq_false_iff_not, not_and, not_or, Classical.not_not, Bool.and_eq_true, Bool.or_eq_true, Bool.not_eq_true', Bool.not_eq_false', Bool.or_eq_false_iff, Bool.and_eq_false_iff, bne_iff_ne, ne_eq, beq_iff_eq, bne_eq_false_iff_eq, same_true, same_false, Int.ofNat_inj]) <;> intro hlt
      · exact absurd hlt.2 (by decide)
      · repeat' first
          | refine W_seq ?_
          | (refine W_reg ((s_l15_K n ih).env []) s_l15_lv fun K' hK' => ?_
             simp only [go_sem, ↓reduceIte, ↓reduceDIte, reduceCtorEq, Nat.reduceAdd, Nat.reduceMul, Nat.reduceSub, Nat.reduceLT, Nat.reduceLeDiff, Nat.reduceEqDiff, Nat.reduceBEq, Int.reduceToNat, Int.reduceLE, Int.reduceLT, Int.reduceEq, Int.reduceNe, Int.reduceNeg]
             (repeat' apply And.intro) <;> try first | ((with_reducible refine hK' _ ?_ ?_ ?_); rotate_left; (simp only [go_sem, pr, keepSl, ↓reduceIte, Nat.reduceEqDiff]; try rfl); clear hK' K') | (clear hK' K'; first | omega | (with_reducible refine drawOk_k ?_; kernel_rfl) | assumption | refine Eq.refl _ | exact fun h => ⟨h, fun k => ⟨h, k⟩⟩ | (intro _; (repeat' apply And.intro) <;> first | omega | assumption) | skip))
          | with_reducible first | refine W_skip ?_ | refine W_exit ?_ | refine W_ret ?_ | refine W_block ?_ | refine thenG_n ?_ | refine thenG_x ?_ | refine thenG_r ?_ | refine blockG_n ?_ | refine blockG_r ?_ | refine blockG_x ?_ | refine blockG_o (by decide) ?_
        refine ⟨by (simp only [go_sem, et2, ↓reduceIte, reduceCtorEq, Nat.reduceAdd, Nat.reduceLT, Nat.reduceLeDiff, Nat.reduceEqDiff]) <;> trivial, [some 4], ?_⟩
        all_goals try simp only [go_sem, et2, ↓reduceIte, reduceCtorEq, Nat.reduceAdd, Nat.reduceLT, Nat.reduceLeDiff, Nat.reduceEqDiff, Int.reduceEq, TC.val.injEq, Value.bool.injEq, Value.int.injEq, Value.string.injEq, TV.one.injEq]
        all_goals (repeat' apply And.intro) <;> try first | rfl | trivial | omega | (rw [wrap_id] <;> omega)
    · have hdp : decide ((n : Int) > 0) = true := by rw [decide_eq_true_eq]; omega
      have hw : IntKind.i64.wrap ((n : Int) - 1) = (n : Int) - 1 := wrap_id _ (by omega) (by omega)
      refine W_loop (fun q σ => ∃ (i : Nat) (ys : List ByteArray), i ≤ ks.length ∧ q = ks.length - i ∧ ys = (ks.take i).flatMap (underN xs n) ∧ ys.length ≤ i * 60000 ∧ σ = sgL15 xs name n ys ks i) ks.length ⟨0, [], by omega, by omega, rfl, by simp, rfl⟩ ?_
      rintro q σ ⟨i, ys, hi, rfl, hy, hyl, rfl⟩
      unfold sgL15
      repeat' first
        | refine W_seq ?_
        | (refine W_reg ((s_l15_K n ih).env []) s_l15_lv fun K' hK' => ?_
           simp only [go_sem, hdp, ↓reduceIte, ↓reduceDIte, reduceCtorEq, Nat.reduceAdd, Nat.reduceMul, Nat.reduceSub, Nat.reduceLT, Nat.reduceLeDiff, Nat.reduceEqDiff, Nat.reduceBEq, Int.reduceToNat, Int.reduceLE, Int.reduceLT, Int.reduceEq, Int.reduceNe, Int.reduceNeg]
           (repeat' apply And.intro) <;> try first | ((with_reducible refine hK' _ ?_ ?_ ?_); rotate_left; (simp only [go_sem, hdp, pr, keepSl, ↓reduceIte, Nat.reduceEqDiff]; try rfl); clear hK' K') | (clear hK' K'; first | omega | (with_reducible refine drawOk_k ?_; kernel_rfl) | assumption | refine Eq.refl _ | exact fun h => ⟨h, fun k => ⟨h, k⟩⟩ | (intro _; (repeat' apply And.intro) <;> first | omega | assumption) | skip))
        | with_reducible first | refine W_skip ?_ | refine W_exit ?_ | refine W_ret ?_ | refine W_block ?_ | refine thenG_n ?_ | refine thenG_x ?_ | refine thenG_r ?_ | refine blockG_n ?_ | refine blockG_r ?_ | refine blockG_x ?_ | refine blockG_o (by decide) ?_
      refine W_cond _ (by exact rfl) (by exact trivial) ?_ ?_ <;> (try simp only [Bool.if_true_left, Bool.if_false_right, Bool.if_true_right, Bool.if_false_left, Bool.decide_eq_true, Bool.or_assoc, Bool.and_assoc, Bool.and_true, Bool.or_false, Bool.true_and, Bool.false_or, decide_eq_true_eq, decide_eq_false_iff_not, not_and, not_or, Classical.not_not, Bool.and_eq_true, Bool.or_eq_true, Bool.not_eq_true', Bool.not_eq_false', Bool.or_eq_false_iff, Bool.and_eq_false_iff, bne_iff_ne, ne_eq, beq_iff_eq, bne_eq_false_iff_eq, same_true, same_false, Int.ofNat_inj]) <;> intro hlt
      · have hf := flm_take (underN xs n) ks i ET.str.dflt (by omega)
        rw [← hy] at hf
        have hu := hub (ks.getD i ET.str.dflt)
        have hg := hkn (ks.getD i ET.str.dflt) (by simp [show i < ks.length by omega])
        repeat' first
          | refine W_seq ?_
          | (refine W_reg ((s_l15_K n ih).env []) s_l15_lv fun K' hK' => ?_
             simp only [go_sem, hw, ↓reduceIte, ↓reduceDIte, reduceCtorEq, Nat.reduceAdd, Nat.reduceMul, Nat.reduceSub, Nat.reduceLT, Nat.reduceLeDiff, Nat.reduceEqDiff, Nat.reduceBEq, Int.reduceToNat, Int.reduceLE, Int.reduceLT, Int.reduceEq, Int.reduceNe, Int.reduceNeg]
             (repeat' apply And.intro) <;> try first | ((with_reducible refine hK' _ ?_ ?_ ?_); rotate_left; (simp only [go_sem, hw, pr, keepSl, ↓reduceIte, Nat.reduceEqDiff]; try rfl); clear hK' K') | (clear hK' K'; first | omega | (with_reducible refine drawOk_k ?_; kernel_rfl) | assumption | refine Eq.refl _ | exact fun h => ⟨h, fun k => ⟨h, k⟩⟩ | (intro _; (repeat' apply And.intro) <;> first | omega | assumption) | skip))
          | with_reducible first | refine W_skip ?_ | refine W_exit ?_ | refine W_ret ?_ | refine W_block ?_ | refine thenG_n ?_ | refine thenG_x ?_ | refine thenG_r ?_ | refine blockG_n ?_ | refine blockG_r ?_ | refine blockG_x ?_ | refine blockG_o (by decide) ?_
        refine ⟨ks.length - (i + 1), [some 0, some 4, some 2], sgL15 xs name n (ys ++ underN xs n (ks.getD i ET.str.dflt)) ks (i + 1), by omega, ?_, i + 1, _, by omega, rfl, hf.symm, by rw [List.length_append]; omega, rfl⟩
        simp only [go_sem, ↓reduceIte, reduceCtorEq, Nat.reduceAdd, Nat.reduceLT, Nat.reduceLeDiff, Nat.reduceEqDiff, Int.reduceEq, TC.val.injEq, Value.bool.injEq, Value.int.injEq, Value.string.injEq, TV.one.injEq]
        all_goals (repeat' apply And.intro) <;> try first | rfl | trivial | omega | (rw [wrap_id] <;> omega)
      · rw [List.take_of_length_le (by omega)] at hy
        rw [← hy] at et
        repeat' first
          | refine W_seq ?_
          | (refine W_reg ((s_l15_K n ih).env []) s_l15_lv fun K' hK' => ?_
             simp only [go_sem, ↓reduceIte, ↓reduceDIte, reduceCtorEq, Nat.reduceAdd, Nat.reduceMul, Nat.reduceSub, Nat.reduceLT, Nat.reduceLeDiff, Nat.reduceEqDiff, Nat.reduceBEq, Int.reduceToNat, Int.reduceLE, Int.reduceLT, Int.reduceEq, Int.reduceNe, Int.reduceNeg]
             (repeat' apply And.intro) <;> try first | ((with_reducible refine hK' _ ?_ ?_ ?_); rotate_left; (simp only [go_sem, pr, keepSl, ↓reduceIte, Nat.reduceEqDiff]; try rfl); clear hK' K') | (clear hK' K'; first | omega | (with_reducible refine drawOk_k ?_; kernel_rfl) | assumption | refine Eq.refl _ | exact fun h => ⟨h, fun k => ⟨h, k⟩⟩ | (intro _; (repeat' apply And.intro) <;> first | omega | assumption) | skip))
          | with_reducible first | refine W_skip ?_ | refine W_exit ?_ | refine W_ret ?_ | refine W_block ?_ | refine thenG_n ?_ | refine thenG_x ?_ | refine thenG_r ?_ | refine blockG_n ?_ | refine blockG_r ?_ | refine blockG_x ?_ | refine blockG_o (by decide) ?_
        refine ⟨by (simp only [go_sem, et, ↓reduceIte, reduceCtorEq, Nat.reduceAdd, Nat.reduceLT, Nat.reduceLeDiff, Nat.reduceEqDiff]) <;> trivial, [some 4], ?_⟩
        all_goals try simp only [go_sem, et, ↓reduceIte, reduceCtorEq, Nat.reduceAdd, Nat.reduceLT, Nat.reduceLeDiff, Nat.reduceEqDiff, Int.reduceEq, TC.val.injEq, Value.bool.injEq, Value.int.injEq, Value.string.injEq, TV.one.injEq]
        all_goals (repeat' apply And.intro) <;> try first | rfl | trivial | omega | (rw [wrap_id] <;> omega)
  · simp [no] at hp
theorem s_l15_all : ∀ n, Sound Tryd.prog 41 (ctL15 n)
  | 0 => by
    intro args os hp
    exfalso
    unfold ctL15 at hp
    dsimp only at hp
    split at hp
    · rename_i xs name deep
      obtain ⟨⟨h, h1, -⟩, -⟩ := hp
      have h : deep + 1 = ((0 : Nat) : Int) := h
      omega
    · exact hp
  | n + 1 => s_l15_step n (s_l15_all n)
@[go_sem] noncomputable def ctL15t : Ct := ⟨false, [[some .bset]], fun args os => match args, os with
  | [.agg [.isl .bset xs], .one (.val (.string name)), .one (.val (.int .i64 deep))], [] => ⟨(deep = xs.length) ∧ (xs.length ≤ 6 ∧ bookB xs = true ∧ same name ⟨#[]⟩ = false) ∧ ∀ i : Nat, (xs.getD i ET.bset.dflt).name.size ≤ 9223372036854775807, .one (.osl .str 0 0 (underN xs (xs.length + 1) name).length), [], [.arr .str (underN xs (xs.length + 1) name)]⟩
  | _, _ => no⟩
theorem s_l15t : Sound Tryd.prog 41 ctL15t := by
  intro args os hp
  unfold ctL15t at hp ⊢
  dsimp only at hp ⊢
  split at hp
  · rename_i xs name deep
    obtain ⟨h1, h2, h3⟩ := hp
    have h4 := h2.1
    exact s_l15_all (xs.length + 1) _ [] ⟨⟨by omega, by omega, by omega⟩, h2, h3⟩
  · simp [no] at hp
theorem s_l15t_e : EnterOk Tryd.prog 41 := s_l15_e
end Go.Proofs.YtfmeopnankeaeaaDoor
