/- Functions: blocks. -/
import Derived.Test.YtfmeopnankeaeaaTFp
import Derived.Test.YtfmeopnankeaeaaTFn
set_option linter.unusedSimpArgs false
set_option linter.unusedVariables false
set_option linter.unusedSectionVars false
namespace Go.Proofs.Ytfmeopnankeaeaa
open Go.RowKit

def ptr0 : Ptr := ⟨0, 0, 0⟩
def blkTo (a : Int) (t : ByteArray) (b : Int) : Ptr := if realB ⟨a, (sumOf t : Nat), b⟩ then ⟨a, (sumOf t : Nat), b⟩ else ptr0
@[go_sem] def Ptr.tv (p : Ptr) : TV := .agg [.val (.int .i64 p.at_), .val (.int .i64 p.sum), .val (.int .i64 p.birth)]
@[go_sem] def ctBlkTo : Ct := ⟨false, [], fun args os => match args, os with
  | [.one (.val (.int .i64 a)), .one (.val (.string t)), .one (.val (.int .i64 b))], [] => ifp (t.size ≤ 1000000000) (blkTo a t b).tv
  | _, _ => no⟩
def blkSide (d : Dk) (p : Ptr) (s : Int) : Bool := d.ok && realB p && d.has p s
@[go_sem] def ctBlkSide : Ct := ⟨false, [[some .str, some .str, some .late]], fun args os => match args, os with
  | [.agg [.isl .str a, .isl .str b, .isl .late l], .agg [.val (.int .i64 pa), .val (.int .i64 ps), .val (.int .i64 pb)], .one (.val (.int .i64 s))], [] => ifp (Dk.mk a b l).small (vb (blkSide ⟨a, b, l⟩ ⟨pa, ps, pb⟩ s))
  | _, _ => no⟩
/-- A block, and what it is found to be. -/
def blkRead (d : Dk) (p : Ptr) : ByteArray × Int :=
  if p.at_ = 0 ∧ p.sum = 0 ∧ p.birth = 0 then (⟨#[]⟩, 1) else if d.ok && realB p then (if d.has p 0 then (d.text 0 p.at_, 0) else if d.has p 1 then (d.text 1 p.at_, 0) else (⟨#[]⟩, 2)) else (⟨#[]⟩, 2)
@[go_sem] def ctBlkRead : Ct := ⟨false, [[some .str, some .str, some .late]], fun args os => match args, os with
  | [.agg [.isl .str a, .isl .str b, .isl .late l], .agg [.val (.int .i64 pa), .val (.int .i64 ps), .val (.int .i64 pb)]], [] => ifp (Dk.mk a b l).small (.tup [vs (blkRead ⟨a, b, l⟩ ⟨pa, ps, pb⟩).1, vi (blkRead ⟨a, b, l⟩ ⟨pa, ps, pb⟩).2])
  | _, _ => no⟩
@[go_sem] def sgBr (a b : List ByteArray) (l : List Late) (pa ps pb : Int) (s : Nat) : Sg := ⟨[(2, .one (.ptr 0 0)), (3, .one (.ptr 1 0)), (16, vi s)], [some (.cells [.isl .str a, .isl .str b, .isl .late l]), some (.cells [.val (.int .i64 pa), .val (.int .i64 ps), .val (.int .i64 pb)])], []⟩
theorem same_ptr0 (pa ps pb : Int) : same (Ptr.mk pa ps pb) (Ptr.mk 0 0 0) = decide (pa = 0 ∧ ps = 0 ∧ pb = 0) := by
  rw [Bool.eq_iff_iff, same_true, decide_eq_true_eq, Ptr.mk.injEq]
theorem s_blkRead_e : EnterOk Try.prog 59 := ⟨_, Try.func59, rfl, by decide⟩
@[go_sem] def s_blkRead_lv : List (List Nat) := [[2, 3], [2, 3, 9], [4, 5], [2, 3, 15], [2, 3, 16], [2, 3, 16, 17], [2, 3, 6, 16], [2, 3, 6, 16, 22], [4, 5], [2, 3, 16], [4, 5]]
@[go_sem] noncomputable def s_blkRead_K : Known := ((((Known.nil).cons 43 ctDiskOk s_diskOk s_diskOk_e).cons 87 ctReal s_isReal s_isReal_e).cons 60 ctHas s_has s_has_e).cons 88 ctTextOf s_textOf s_textOf_e
set_option maxHeartbeats 8000000 in
theorem s_blkRead : Sound Try.prog 59 ctBlkRead := by
  refine sound_intro (E := ⟨ti, s_blkRead_K.Γ, []⟩) (s_blkRead_K.env []) Try.func59 Try.ntmps59 rfl (rs := [.tmp 4, .tmp 5]) rfl ?_
  intro args os hp
  unfold ctBlkRead at hp ⊢
  dsimp only at hp ⊢
  split at hp
  · rename_i a b l pa ps pb
    refine ⟨by simp, fun φ0 w0 => ?_⟩
    obtain ⟨h1, h2, h3⟩ : a.length ≤ 4000000 ∧ b.length ≤ 4000000 ∧ l.length ≤ 4000000 := hp
    have e : blkRead ⟨a, b, l⟩ ⟨pa, ps, pb⟩ = if pa = 0 ∧ ps = 0 ∧ pb = 0 then (⟨#[]⟩, 1) else if (Dk.mk a b l).ok && realB ⟨pa, ps, pb⟩ then (if (Dk.mk a b l).has ⟨pa, ps, pb⟩ 0 then ((Dk.mk a b l).text 0 pa, 0) else if (Dk.mk a b l).has ⟨pa, ps, pb⟩ 1 then ((Dk.mk a b l).text 1 pa, 0) else (⟨#[]⟩, 2)) else (⟨#[]⟩, 2) := rfl
    repeat' first
      | refine W_seq ?_
      | (refine W_reg (s_blkRead_K.env []) s_blkRead_lv fun K' hK' => ?_
         simp only [go_sem, ↓reduceIte, ↓reduceDIte, reduceCtorEq, Nat.reduceAdd, Nat.reduceMul, Nat.reduceSub, Nat.reduceLT, Nat.reduceLeDiff, Nat.reduceEqDiff, Nat.reduceBEq, Int.reduceToNat, Int.reduceLE, Int.reduceLT, Int.reduceEq, Int.reduceNe, Int.reduceNeg]
         (repeat' apply And.intro) <;> try first | ((with_reducible refine hK' _ ?_ ?_ ?_); rotate_left; (simp only [go_sem, pr, keepSl, ↓reduceIte, Nat.reduceEqDiff]; try rfl); clear hK' K') | (clear hK' K'; first | omega | (with_reducible refine drawOk_k ?_; kernel_rfl) | assumption | refine Eq.refl _ | exact fun h => ⟨h, fun k => ⟨h, k⟩⟩ | (intro _; (repeat' apply And.intro) <;> first | omega | assumption) | skip))
      | with_reducible first | refine W_skip ?_ | refine W_exit ?_ | refine W_ret ?_ | refine W_block ?_ | refine thenG_n ?_ | refine thenG_x ?_ | refine thenG_r ?_ | refine blockG_n ?_ | refine blockG_r ?_ | refine blockG_x ?_ | refine blockG_o (by decide) ?_
    refine W_cond _ (by exact rfl) (by exact trivial) ?_ ?_ <;> intro hc <;> rw [same_ptr0] at hc
    · have hc : pa = 0 ∧ ps = 0 ∧ pb = 0 := by simpa only [decide_eq_true_eq] using hc
      rw [if_pos hc] at e
      repeat' first
        | refine W_seq ?_
        | (refine W_reg (s_blkRead_K.env []) s_blkRead_lv fun K' hK' => ?_
           simp only [go_sem, ↓reduceIte, ↓reduceDIte, reduceCtorEq, Nat.reduceAdd, Nat.reduceMul, Nat.reduceSub, Nat.reduceLT, Nat.reduceLeDiff, Nat.reduceEqDiff, Nat.reduceBEq, Int.reduceToNat, Int.reduceLE, Int.reduceLT, Int.reduceEq, Int.reduceNe, Int.reduceNeg]
           (repeat' apply And.intro) <;> try first | ((with_reducible refine hK' _ ?_ ?_ ?_); rotate_left; (simp only [go_sem, pr, keepSl, ↓reduceIte, Nat.reduceEqDiff]; try rfl); clear hK' K') | (clear hK' K'; first | omega | (with_reducible refine drawOk_k ?_; kernel_rfl) | assumption | refine Eq.refl _ | exact fun h => ⟨h, fun k => ⟨h, k⟩⟩ | (intro _; (repeat' apply And.intro) <;> first | omega | assumption) | skip))
        | with_reducible first | refine W_skip ?_ | refine W_exit ?_ | refine W_ret ?_ | refine W_block ?_ | refine thenG_n ?_ | refine thenG_x ?_ | refine thenG_r ?_ | refine blockG_n ?_ | refine blockG_r ?_ | refine blockG_x ?_ | refine blockG_o (by decide) ?_
      refine ⟨by (simp only [go_sem, e, ↓reduceIte, reduceCtorEq, Nat.reduceAdd, Nat.reduceLT, Nat.reduceLeDiff, Nat.reduceEqDiff]) <;> trivial, [], ?_⟩
      all_goals try simp only [go_sem, e, ↓reduceIte, reduceCtorEq, Nat.reduceAdd, Nat.reduceLT, Nat.reduceLeDiff, Nat.reduceEqDiff, Int.reduceEq, TC.val.injEq, Value.bool.injEq, Value.int.injEq, Value.string.injEq, TV.one.injEq]
      all_goals (repeat' apply And.intro) <;> try first | rfl | trivial | omega | (rw [wrap_id] <;> omega)
    · have hc : ¬ (pa = 0 ∧ ps = 0 ∧ pb = 0) := by simpa only [decide_eq_false_iff_not] using hc
      rw [if_neg hc] at e
      repeat' first
        | refine W_seq ?_
        | (refine W_reg (s_blkRead_K.env []) s_blkRead_lv fun K' hK' => ?_
           simp only [go_sem, Dk.small, ↓reduceIte, ↓reduceDIte, reduceCtorEq, Nat.reduceAdd, Nat.reduceMul, Nat.reduceSub, Nat.reduceLT, Nat.reduceLeDiff, Nat.reduceEqDiff, Nat.reduceBEq, Int.reduceToNat, Int.reduceLE, Int.reduceLT, Int.reduceEq, Int.reduceNe, Int.reduceNeg]
           (repeat' apply And.intro) <;> try first | ((with_reducible refine hK' _ ?_ ?_ ?_); rotate_left; (simp only [go_sem, Dk.small, pr, keepSl, ↓reduceIte, Nat.reduceEqDiff]; try rfl); clear hK' K') | (clear hK' K'; first | omega | (with_reducible refine drawOk_k ?_; kernel_rfl) | assumption | refine Eq.refl _ | exact fun h => ⟨h, fun k => ⟨h, k⟩⟩ | (intro _; (repeat' apply And.intro) <;> first | omega | assumption) | skip))
        | with_reducible first | refine W_skip ?_ | refine W_exit ?_ | refine W_ret ?_ | refine W_block ?_ | refine thenG_n ?_ | refine thenG_x ?_ | refine thenG_r ?_ | refine blockG_n ?_ | refine blockG_r ?_ | refine blockG_x ?_ | refine blockG_o (by decide) ?_
      refine W_cond _ (by exact rfl) (by exact trivial) ?_ ?_ <;> intro hc2
      · obtain ⟨hok, hre⟩ : (Dk.mk a b l).ok = true ∧ realB ⟨pa, ps, pb⟩ = true := by
          simp only [Bool.if_false_right, Bool.and_eq_true, decide_eq_true_eq] at hc2; exact hc2
        rw [hok, hre] at e
        simp only [Bool.and_self, if_true] at e
        obtain ⟨-, -, hab, -⟩ := (Dk.ok_iff _).1 hok
        simp only at hab
        repeat' first
          | refine W_seq ?_
          | (refine W_reg (s_blkRead_K.env []) s_blkRead_lv fun K' hK' => ?_
             simp only [go_sem, ↓reduceIte, ↓reduceDIte, reduceCtorEq, Nat.reduceAdd, Nat.reduceMul, Nat.reduceSub, Nat.reduceLT, Nat.reduceLeDiff, Nat.reduceEqDiff, Nat.reduceBEq, Int.reduceToNat, Int.reduceLE, Int.reduceLT, Int.reduceEq, Int.reduceNe, Int.reduceNeg]
             (repeat' apply And.intro) <;> try first | ((with_reducible refine hK' _ ?_ ?_ ?_); rotate_left; (simp only [go_sem, pr, keepSl, ↓reduceIte, Nat.reduceEqDiff]; try rfl); clear hK' K') | (clear hK' K'; first | omega | (with_reducible refine drawOk_k ?_; kernel_rfl) | assumption | refine Eq.refl _ | exact fun h => ⟨h, fun k => ⟨h, k⟩⟩ | (intro _; (repeat' apply And.intro) <;> first | omega | assumption) | skip))
          | with_reducible first | refine W_skip ?_ | refine W_exit ?_ | refine W_ret ?_ | refine W_block ?_ | refine thenG_n ?_ | refine thenG_x ?_ | refine thenG_r ?_ | refine blockG_n ?_ | refine blockG_r ?_ | refine blockG_x ?_ | refine blockG_o (by decide) ?_
        refine W_le (σ' := sgBr a b l pa ps pb 0) [some 0, some 1] (by
          simp only [go_sem, ↓reduceIte, reduceCtorEq, Nat.reduceAdd, Nat.reduceLT, Nat.reduceLeDiff, Nat.reduceEqDiff, Int.reduceEq, TC.val.injEq, Value.bool.injEq, Value.int.injEq, Value.string.injEq, TV.one.injEq]
          all_goals (repeat' apply And.intro) <;> try first | rfl | trivial | omega | (rw [wrap_id] <;> omega)
          ) ?_
        refine W_loop (fun n σ => ∃ s : Nat, s ≤ 2 ∧ n = 2 - s ∧ (0 < s → (Dk.mk a b l).has ⟨pa, ps, pb⟩ 0 = false) ∧ (1 < s → (Dk.mk a b l).has ⟨pa, ps, pb⟩ 1 = false) ∧ σ = sgBr a b l pa ps pb s) 2 ⟨0, by omega, by omega, fun h => absurd h (by omega), fun h => absurd h (by omega), rfl⟩ ?_
        rintro n σ ⟨s, hs, rfl, hh0, hh1, rfl⟩
        unfold sgBr
        repeat' first
          | refine W_seq ?_
          | (refine W_reg (s_blkRead_K.env []) s_blkRead_lv fun K' hK' => ?_
             simp only [go_sem, ↓reduceIte, ↓reduceDIte, reduceCtorEq, Nat.reduceAdd, Nat.reduceMul, Nat.reduceSub, Nat.reduceLT, Nat.reduceLeDiff, Nat.reduceEqDiff, Nat.reduceBEq, Int.reduceToNat, Int.reduceLE, Int.reduceLT, Int.reduceEq, Int.reduceNe, Int.reduceNeg]
             (repeat' apply And.intro) <;> try first | ((with_reducible refine hK' _ ?_ ?_ ?_); rotate_left; (simp only [go_sem, pr, keepSl, ↓reduceIte, Nat.reduceEqDiff]; try rfl); clear hK' K') | (clear hK' K'; first | omega | (with_reducible refine drawOk_k ?_; kernel_rfl) | assumption | refine Eq.refl _ | exact fun h => ⟨h, fun k => ⟨h, k⟩⟩ | (intro _; (repeat' apply And.intro) <;> first | omega | assumption) | skip))
          | with_reducible first | refine W_skip ?_ | refine W_exit ?_ | refine W_ret ?_ | refine W_block ?_ | refine thenG_n ?_ | refine thenG_x ?_ | refine thenG_r ?_ | refine blockG_n ?_ | refine blockG_r ?_ | refine blockG_x ?_ | refine blockG_o (by decide) ?_
        refine W_cond _ (by exact rfl) (by exact trivial) ?_ ?_ <;> (try simp only [Bool.if_true_left, Bool.if_false_right, Bool.if_true_right, Bool.if_false_left, Bool.decide_eq_true, Bool.or_assoc, Bool.and_assoc, Bool.and_true, Bool.or_false, Bool.true_and, Bool.false_or, decide_eq_true_eq, decide_eq_false_iff_not, not_and, not_or, Classical.not_not, Bool.and_eq_true, Bool.or_eq_true, Bool.not_eq_true', Bool.not_eq_false', Bool.or_eq_false_iff, Bool.and_eq_false_iff, bne_iff_ne, ne_eq, beq_iff_eq, bne_eq_false_iff_eq, same_true, same_false, Int.ofNat_inj]) <;> intro hls
        · have hs2 : s = 0 ∨ s = 1 := by omega
          rcases hs2 with hs2 | hs2
          all_goals
            repeat' first
              | refine W_seq ?_
              | (refine W_reg (s_blkRead_K.env []) s_blkRead_lv fun K' hK' => ?_
                 simp only [go_sem, hs2, ↓reduceIte, ↓reduceDIte, reduceCtorEq, Nat.reduceAdd, Nat.reduceMul, Nat.reduceSub, Nat.reduceLT, Nat.reduceLeDiff, Nat.reduceEqDiff, Nat.reduceBEq, Int.reduceToNat, Int.reduceLE, Int.reduceLT, Int.reduceEq, Int.reduceNe, Int.reduceNeg]
                 (repeat' apply And.intro) <;> try first | ((with_reducible refine hK' _ ?_ ?_ ?_); rotate_left; (simp only [go_sem, hs2, pr, keepSl, ↓reduceIte, Nat.reduceEqDiff]; try rfl); clear hK' K') | (clear hK' K'; first | omega | (with_reducible refine drawOk_k ?_; kernel_rfl) | assumption | refine Eq.refl _ | exact fun h => ⟨h, fun k => ⟨h, k⟩⟩ | (intro _; (repeat' apply And.intro) <;> first | omega | assumption) | skip))
              | with_reducible first | refine W_skip ?_ | refine W_exit ?_ | refine W_ret ?_ | refine W_block ?_ | refine thenG_n ?_ | refine thenG_x ?_ | refine thenG_r ?_ | refine blockG_n ?_ | refine blockG_r ?_ | refine blockG_x ?_ | refine blockG_o (by decide) ?_
            refine W_cond _ (by exact rfl) (by exact trivial) ?_ ?_ <;> intro hc3
            · have hsec := hc3
              unfold Dk.has at hsec
              simp only [Bool.and_eq_true] at hsec
              have hse := hsec.1
              repeat' first
                | refine W_seq ?_
                | (refine W_reg (s_blkRead_K.env []) s_blkRead_lv fun K' hK' => ?_
                   simp only [go_sem, hs2, Dk.small, ↓reduceIte, ↓reduceDIte, reduceCtorEq, Nat.reduceAdd, Nat.reduceMul, Nat.reduceSub, Nat.reduceLT, Nat.reduceLeDiff, Nat.reduceEqDiff, Nat.reduceBEq, Int.reduceToNat, Int.reduceLE, Int.reduceLT, Int.reduceEq, Int.reduceNe, Int.reduceNeg]
                   (repeat' apply And.intro) <;> try first | ((with_reducible refine hK' _ ?_ ?_ ?_); rotate_left; (simp only [go_sem, hs2, Dk.small, pr, keepSl, ↓reduceIte, Nat.reduceEqDiff]; try rfl); clear hK' K') | (clear hK' K'; first | omega | (with_reducible refine drawOk_k ?_; kernel_rfl) | assumption | refine Eq.refl _ | exact fun h => ⟨h, fun k => ⟨h, k⟩⟩ | (intro _; (repeat' apply And.intro) <;> first | omega | assumption) | skip))
                | with_reducible first | refine W_skip ?_ | refine W_exit ?_ | refine W_ret ?_ | refine W_block ?_ | refine thenG_n ?_ | refine thenG_x ?_ | refine thenG_r ?_ | refine blockG_n ?_ | refine blockG_r ?_ | refine blockG_x ?_ | refine blockG_o (by decide) ?_
              refine ⟨by (simp only [go_sem, e, hc3, ↓reduceIte, reduceCtorEq, Nat.reduceAdd, Nat.reduceLT, Nat.reduceLeDiff, Nat.reduceEqDiff]) <;> trivial, [], ?_⟩
              all_goals try simp only [go_sem, e, hc3, ↓reduceIte, reduceCtorEq, Nat.reduceAdd, Nat.reduceLT, Nat.reduceLeDiff, Nat.reduceEqDiff, Int.reduceEq, TC.val.injEq, Value.bool.injEq, Value.int.injEq, Value.string.injEq, TV.one.injEq]
              all_goals (repeat' apply And.intro) <;> try first | rfl | trivial | omega | (rw [wrap_id] <;> omega)
              all_goals try simp only [hh0 (by omega), hc3, if_true, if_false, Bool.false_eq_true]
            · repeat' first
                | refine W_seq ?_
                | (refine W_reg (s_blkRead_K.env []) s_blkRead_lv fun K' hK' => ?_
                   simp only [go_sem, hs2, ↓reduceIte, ↓reduceDIte, reduceCtorEq, Nat.reduceAdd, Nat.reduceMul, Nat.reduceSub, Nat.reduceLT, Nat.reduceLeDiff, Nat.reduceEqDiff, Nat.reduceBEq, Int.reduceToNat, Int.reduceLE, Int.reduceLT, Int.reduceEq, Int.reduceNe, Int.reduceNeg]
                   (repeat' apply And.intro) <;> try first | ((with_reducible refine hK' _ ?_ ?_ ?_); rotate_left; (simp only [go_sem, hs2, pr, keepSl, ↓reduceIte, Nat.reduceEqDiff]; try rfl); clear hK' K') | (clear hK' K'; first | omega | (with_reducible refine drawOk_k ?_; kernel_rfl) | assumption | refine Eq.refl _ | exact fun h => ⟨h, fun k => ⟨h, k⟩⟩ | (intro _; (repeat' apply And.intro) <;> first | omega | assumption) | skip))
                | with_reducible first | refine W_skip ?_ | refine W_exit ?_ | refine W_ret ?_ | refine W_block ?_ | refine thenG_n ?_ | refine thenG_x ?_ | refine thenG_r ?_ | refine blockG_n ?_ | refine blockG_r ?_ | refine blockG_x ?_ | refine blockG_o (by decide) ?_
              refine ⟨2 - (s + 1), [some 0, some 1], sgBr a b l pa ps pb (s + 1), by omega, ?_, s + 1, by omega, rfl, fun h => ?_, fun h => ?_, rfl⟩
              · simp only [go_sem, hs2, ↓reduceIte, reduceCtorEq, Nat.reduceAdd, Nat.reduceLT, Nat.reduceLeDiff, Nat.reduceEqDiff, Int.reduceEq, TC.val.injEq, Value.bool.injEq, Value.int.injEq, Value.string.injEq, TV.one.injEq]
                all_goals (repeat' apply And.intro) <;> try first | rfl | trivial | omega | (rw [wrap_id] <;> omega)
              · first | exact hc3 | exact hh0 (by omega)
              · first | (exfalso; omega) | exact hc3
        · have : s = 2 := by omega
          subst this
          rw [hh0 (by omega), hh1 (by omega)] at e
          simp only [if_false, Bool.false_eq_true] at e
          repeat' first
            | refine W_seq ?_
            | (refine W_reg (s_blkRead_K.env []) s_blkRead_lv fun K' hK' => ?_
               simp only [go_sem, ↓reduceIte, ↓reduceDIte, reduceCtorEq, Nat.reduceAdd, Nat.reduceMul, Nat.reduceSub, Nat.reduceLT, Nat.reduceLeDiff, Nat.reduceEqDiff, Nat.reduceBEq, Int.reduceToNat, Int.reduceLE, Int.reduceLT, Int.reduceEq, Int.reduceNe, Int.reduceNeg]
               (repeat' apply And.intro) <;> try first | ((with_reducible refine hK' _ ?_ ?_ ?_); rotate_left; (simp only [go_sem, pr, keepSl, ↓reduceIte, Nat.reduceEqDiff]; try rfl); clear hK' K') | (clear hK' K'; first | omega | (with_reducible refine drawOk_k ?_; kernel_rfl) | assumption | refine Eq.refl _ | exact fun h => ⟨h, fun k => ⟨h, k⟩⟩ | (intro _; (repeat' apply And.intro) <;> first | omega | assumption) | skip))
            | with_reducible first | refine W_skip ?_ | refine W_exit ?_ | refine W_ret ?_ | refine W_block ?_ | refine thenG_n ?_ | refine thenG_x ?_ | refine thenG_r ?_ | refine blockG_n ?_ | refine blockG_r ?_ | refine blockG_x ?_ | refine blockG_o (by decide) ?_
          refine ⟨by (simp only [go_sem, e, ↓reduceIte, reduceCtorEq, Nat.reduceAdd, Nat.reduceLT, Nat.reduceLeDiff, Nat.reduceEqDiff]) <;> trivial, [], ?_⟩
          all_goals try simp only [go_sem, e, ↓reduceIte, reduceCtorEq, Nat.reduceAdd, Nat.reduceLT, Nat.reduceLeDiff, Nat.reduceEqDiff, Int.reduceEq, TC.val.injEq, Value.bool.injEq, Value.int.injEq, Value.string.injEq, TV.one.injEq]
          all_goals (repeat' apply And.intro) <;> try first | rfl | trivial | omega | (rw [wrap_id] <;> omega)
      · have hre : ((Dk.mk a b l).ok && realB ⟨pa, ps, pb⟩) = false := by
          simp only [Bool.if_false_right, Bool.decide_eq_true] at hc2; exact hc2
        rw [hre] at e
        simp only [if_false, Bool.false_eq_true] at e
        repeat' first
          | refine W_seq ?_
          | (refine W_reg (s_blkRead_K.env []) s_blkRead_lv fun K' hK' => ?_
             simp only [go_sem, ↓reduceIte, ↓reduceDIte, reduceCtorEq, Nat.reduceAdd, Nat.reduceMul, Nat.reduceSub, Nat.reduceLT, Nat.reduceLeDiff, Nat.reduceEqDiff, Nat.reduceBEq, Int.reduceToNat, Int.reduceLE, Int.reduceLT, Int.reduceEq, Int.reduceNe, Int.reduceNeg]
             (repeat' apply And.intro) <;> try first | ((with_reducible refine hK' _ ?_ ?_ ?_); rotate_left; (simp only [go_sem, pr, keepSl, ↓reduceIte, Nat.reduceEqDiff]; try rfl); clear hK' K') | (clear hK' K'; first | omega | (with_reducible refine drawOk_k ?_; kernel_rfl) | assumption | refine Eq.refl _ | exact fun h => ⟨h, fun k => ⟨h, k⟩⟩ | (intro _; (repeat' apply And.intro) <;> first | omega | assumption) | skip))
          | with_reducible first | refine W_skip ?_ | refine W_exit ?_ | refine W_ret ?_ | refine W_block ?_ | refine thenG_n ?_ | refine thenG_x ?_ | refine thenG_r ?_ | refine blockG_n ?_ | refine blockG_r ?_ | refine blockG_x ?_ | refine blockG_o (by decide) ?_
        refine ⟨by (simp only [go_sem, e, ↓reduceIte, reduceCtorEq, Nat.reduceAdd, Nat.reduceLT, Nat.reduceLeDiff, Nat.reduceEqDiff]) <;> trivial, [], ?_⟩
        all_goals try simp only [go_sem, e, ↓reduceIte, reduceCtorEq, Nat.reduceAdd, Nat.reduceLT, Nat.reduceLeDiff, Nat.reduceEqDiff, Int.reduceEq, TC.val.injEq, Value.bool.injEq, Value.int.injEq, Value.string.injEq, TV.one.injEq]
        all_goals (repeat' apply And.intro) <;> try first | rfl | trivial | omega | (rw [wrap_id] <;> omega)
  · simp [no, ifp] at hp
/-- (*Disk).writeBoth: both sides, or none. -/
def Dk.may2 (d : Dk) (k : Int) (t : ByteArray) : Bool := decide (d.l.length ≤ 598) && d.may 0 k t
@[go_sem] def ctWriteBoth : Ct := ⟨true, [], fun args os => match args, os with
  | [.one (.ptr 0 0), .one (.val (.int .i64 k)), .one (.val (.string t))], [.cells [.osl .str 1 0 na, .osl .str 2 0 nb, .osl .late 3 0 nl], .arr .str a, .arr .str b, .arr .late l] =>
    if (Dk.mk a b l).may2 k t then ⟨(Dk.mk a b l).small ∧ na = a.length ∧ nb = b.length ∧ nl = l.length, vb true, [(0, some (.cells [.osl .str 1 0 na, .osl .str 2 0 nb, .osl .late 4 0 (nl + 2)])), (3, none)], [.arr .late (l ++ [⟨0, k, t⟩] ++ [⟨1, k, t⟩])]⟩
    else ⟨(Dk.mk a b l).small ∧ na = a.length ∧ nb = b.length ∧ nl = l.length, vb false, [], []⟩
  | _, _ => no⟩
theorem s_writeBoth_e : EnterOk Try.prog 55 := ⟨_, Try.func55, rfl, by decide⟩
@[go_sem] def s_writeBoth_lv : List (List Nat) := [[0, 1, 2], [0, 1, 2, 12], [6], [6]]
@[go_sem] noncomputable def s_writeBoth_K : Known := (Known.nil).cons 54 ctWrite s_write s_write_e
set_option maxHeartbeats 8000000 in
theorem s_writeBoth : Sound Try.prog 55 ctWriteBoth := by
  refine sound_intro (E := ⟨ti, s_writeBoth_K.Γ, []⟩) (s_writeBoth_K.env []) Try.func55 Try.ntmps55 rfl (rs := [.tmp 6]) rfl ?_
  intro args os hp
  unfold ctWriteBoth at hp ⊢
  dsimp only at hp ⊢
  split at hp
  · rename_i k t na nb nl a b l
    refine ⟨by simp, fun φ0 w0 => ?_⟩
    have hp' : (Dk.mk a b l).small ∧ na = a.length ∧ nb = b.length ∧ nl = l.length := by
      by_cases h : (Dk.mk a b l).may2 k t = true
      · rw [if_pos h] at hp; exact hp
      · rw [if_neg h] at hp; exact hp
    obtain ⟨⟨h1, h2, h3⟩, rfl, rfl, rfl⟩ := hp'
    simp only at h1 h2 h3
    have hm : (Dk.mk a b l).may2 k t = (decide (l.length ≤ 598) && (Dk.mk a b l).may 0 k t) := rfl
    clear hp
    repeat' first
      | refine W_seq ?_
      | (refine W_reg (s_writeBoth_K.env []) s_writeBoth_lv fun K' hK' => ?_
         simp only [go_sem, ↓reduceIte, ↓reduceDIte, reduceCtorEq, Nat.reduceAdd, Nat.reduceMul, Nat.reduceSub, Nat.reduceLT, Nat.reduceLeDiff, Nat.reduceEqDiff, Nat.reduceBEq, Int.reduceToNat, Int.reduceLE, Int.reduceLT, Int.reduceEq, Int.reduceNe, Int.reduceNeg]
         (repeat' apply And.intro) <;> try first | ((with_reducible refine hK' _ ?_ ?_ ?_); rotate_left; (simp only [go_sem, pr, keepSl, ↓reduceIte, Nat.reduceEqDiff]; try rfl); clear hK' K') | (clear hK' K'; first | omega | (with_reducible refine drawOk_k ?_; kernel_rfl) | assumption | refine Eq.refl _ | exact fun h => ⟨h, fun k => ⟨h, k⟩⟩ | (intro _; (repeat' apply And.intro) <;> first | omega | assumption) | skip))
      | with_reducible first | refine W_skip ?_ | refine W_exit ?_ | refine W_ret ?_ | refine W_block ?_ | refine thenG_n ?_ | refine thenG_x ?_ | refine thenG_r ?_ | refine blockG_n ?_ | refine blockG_r ?_ | refine blockG_x ?_ | refine blockG_o (by decide) ?_
    refine W_cond _ (by exact rfl) (by exact trivial) ?_ ?_ <;> (try simp only [Bool.if_true_left, Bool.if_false_right, Bool.if_true_right, Bool.if_false_left, Bool.decide_eq_true, Bool.or_assoc, Bool.and_assoc, Bool.and_true, Bool.or_false, Bool.true_and, Bool.false_or, decide_eq_true_eq, decide_eq_false_iff_not, not_and, not_or, Classical.not_not, Bool.and_eq_true, Bool.or_eq_true, Bool.not_eq_true', Bool.not_eq_false', Bool.or_eq_false_iff, Bool.and_eq_false_iff, bne_iff_ne, ne_eq, beq_iff_eq, bne_eq_false_iff_eq, same_true, same_false, Int.ofNat_inj]) <;> intro hc
    · have hm0 : (Dk.mk a b l).may2 k t = false := by
        rw [hm, Bool.and_eq_false_iff]; left; simp; omega
      repeat' first
        | refine W_seq ?_
        | (refine W_reg (s_writeBoth_K.env []) s_writeBoth_lv fun K' hK' => ?_
           simp only [go_sem, ↓reduceIte, ↓reduceDIte, reduceCtorEq, Nat.reduceAdd, Nat.reduceMul, Nat.reduceSub, Nat.reduceLT, Nat.reduceLeDiff, Nat.reduceEqDiff, Nat.reduceBEq, Int.reduceToNat, Int.reduceLE, Int.reduceLT, Int.reduceEq, Int.reduceNe, Int.reduceNeg]
           (repeat' apply And.intro) <;> try first | ((with_reducible refine hK' _ ?_ ?_ ?_); rotate_left; (simp only [go_sem, pr, keepSl, ↓reduceIte, Nat.reduceEqDiff]; try rfl); clear hK' K') | (clear hK' K'; first | omega | (with_reducible refine drawOk_k ?_; kernel_rfl) | assumption | refine Eq.refl _ | exact fun h => ⟨h, fun k => ⟨h, k⟩⟩ | (intro _; (repeat' apply And.intro) <;> first | omega | assumption) | skip))
        | with_reducible first | refine W_skip ?_ | refine W_exit ?_ | refine W_ret ?_ | refine W_block ?_ | refine thenG_n ?_ | refine thenG_x ?_ | refine thenG_r ?_ | refine blockG_n ?_ | refine blockG_r ?_ | refine blockG_x ?_ | refine blockG_o (by decide) ?_
      refine ⟨by (simp only [go_sem, hm0, ↓reduceIte, reduceCtorEq, Nat.reduceAdd, Nat.reduceLT, Nat.reduceLeDiff, Nat.reduceEqDiff]) <;> trivial, [some 0, some 1, some 2, some 3], ?_⟩
      all_goals try simp only [go_sem, hm0, ↓reduceIte, reduceCtorEq, Nat.reduceAdd, Nat.reduceLT, Nat.reduceLeDiff, Nat.reduceEqDiff, Int.reduceEq, TC.val.injEq, Value.bool.injEq, Value.int.injEq, Value.string.injEq, TV.one.injEq]
      all_goals (repeat' apply And.intro) <;> try first | rfl | trivial | omega | (rw [wrap_id] <;> omega)
    · by_cases h0 : (Dk.mk a b l).may 0 k t = true
      · have hm0 : (Dk.mk a b l).may2 k t = true := by
          rw [hm, h0]; simp; omega
        have h00 : (Dk.mk a b (l ++ [⟨0, k, t⟩])).may 1 k t = true := by
          unfold Dk.may fits at h0 ⊢
          simp only [Bool.and_eq_true, decide_eq_true_eq, List.length_append, List.length_cons, List.length_nil] at h0 ⊢
          omega
        repeat' first
          | refine W_seq ?_
          | (refine W_reg (s_writeBoth_K.env []) s_writeBoth_lv fun K' hK' => ?_
             simp only [go_sem, Dk.small, h0, h00, ↓reduceIte, ↓reduceDIte, reduceCtorEq, Nat.reduceAdd, Nat.reduceMul, Nat.reduceSub, Nat.reduceLT, Nat.reduceLeDiff, Nat.reduceEqDiff, Nat.reduceBEq, Int.reduceToNat, Int.reduceLE, Int.reduceLT, Int.reduceEq, Int.reduceNe, Int.reduceNeg]
             (repeat' apply And.intro) <;> try first | ((with_reducible refine hK' _ ?_ ?_ ?_); rotate_left; (simp only [go_sem, Dk.small, h0, h00, pr, keepSl, ↓reduceIte, Nat.reduceEqDiff]; try rfl); clear hK' K') | (clear hK' K'; first | omega | (with_reducible refine drawOk_k ?_; kernel_rfl) | assumption | refine Eq.refl _ | exact fun h => ⟨h, fun k => ⟨h, k⟩⟩ | (intro _; (repeat' apply And.intro) <;> first | omega | assumption) | skip))
          | with_reducible first | refine W_skip ?_ | refine W_exit ?_ | refine W_ret ?_ | refine W_block ?_ | refine thenG_n ?_ | refine thenG_x ?_ | refine thenG_r ?_ | refine blockG_n ?_ | refine blockG_r ?_ | refine blockG_x ?_ | refine blockG_o (by decide) ?_
        refine ⟨by (simp only [go_sem, hm0, ↓reduceIte, reduceCtorEq, Nat.reduceAdd, Nat.reduceLT, Nat.reduceLeDiff, Nat.reduceEqDiff]) <;> trivial, [some 0, some 1, some 2, some 3, some 5], ?_⟩
        all_goals try simp only [go_sem, hm0, ↓reduceIte, reduceCtorEq, Nat.reduceAdd, Nat.reduceLT, Nat.reduceLeDiff, Nat.reduceEqDiff, Int.reduceEq, TC.val.injEq, Value.bool.injEq, Value.int.injEq, Value.string.injEq, TV.one.injEq]
        all_goals (repeat' apply And.intro) <;> try first | rfl | trivial | omega | (rw [wrap_id] <;> omega)
      · have h0 : (Dk.mk a b l).may 0 k t = false := by simpa using h0
        have hm0 : (Dk.mk a b l).may2 k t = false := by rw [hm, h0, Bool.and_false]
        repeat' first
          | refine W_seq ?_
          | (refine W_reg (s_writeBoth_K.env [18, 19, 20, 21]) s_writeBoth_lv fun K' hK' => ?_
             simp only [go_sem, Dk.small, h0, ↓reduceIte, ↓reduceDIte, reduceCtorEq, Nat.reduceAdd, Nat.reduceMul, Nat.reduceSub, Nat.reduceLT, Nat.reduceLeDiff, Nat.reduceEqDiff, Nat.reduceBEq, Int.reduceToNat, Int.reduceLE, Int.reduceLT, Int.reduceEq, Int.reduceNe, Int.reduceNeg]
             (repeat' apply And.intro) <;> try first | ((with_reducible refine hK' _ ?_ ?_ ?_); rotate_left; (simp only [go_sem, Dk.small, h0, pr, keepSl, ↓reduceIte, Nat.reduceEqDiff]; try rfl); clear hK' K') | (clear hK' K'; first | omega | (with_reducible refine drawOk_k ?_; kernel_rfl) | assumption | refine Eq.refl _ | exact fun h => ⟨h, fun k => ⟨h, k⟩⟩ | (intro _; (repeat' apply And.intro) <;> first | omega | assumption) | skip))
          | with_reducible first | refine W_skip ?_ | refine W_exit ?_ | refine W_ret ?_ | refine W_block ?_ | refine thenG_n ?_ | refine thenG_x ?_ | refine thenG_r ?_ | refine blockG_n ?_ | refine blockG_r ?_ | refine blockG_x ?_ | refine blockG_o (by decide) ?_
        refine ⟨by (simp only [go_sem, hm0, ↓reduceIte, reduceCtorEq, Nat.reduceAdd, Nat.reduceLT, Nat.reduceLeDiff, Nat.reduceEqDiff]) <;> trivial, [some 0, some 1, some 2, some 3], ?_⟩
        all_goals try simp only [go_sem, hm0, ↓reduceIte, reduceCtorEq, Nat.reduceAdd, Nat.reduceLT, Nat.reduceLeDiff, Nat.reduceEqDiff, Int.reduceEq, TC.val.injEq, Value.bool.injEq, Value.int.injEq, Value.string.injEq, TV.one.injEq]
        all_goals (repeat' apply And.intro) <;> try first | rfl | trivial | omega | (rw [wrap_id] <;> omega)
  · simp [no] at hp
end Go.Proofs.Ytfmeopnankeaeaa
