/- Functions: a block that is drawn to be written. -/
import Derived.Test.YtjdpppbegjnpaaaTFu
import Derived.Test.YtjdpppbegjnpaaaTFq
set_option linter.unusedSimpArgs false
set_option linter.unusedVariables false
set_option linter.unusedSectionVars false
namespace Go.Proofs.Ytjdpppbegjnpaaa
open Go.RowKit

def bwP (code : List UInt8) : Int := (blkDisk (code.take 2000) 0).2
def bwD (code : List UInt8) : Dk := (blkDisk (code.take 2000) 0).1
def bwA (code : List UInt8) : Int := pickV (code.take 2000) (bwP code) 8 - 1
def bwT (code : List UInt8) : ByteArray := textV (code.take 2000) (bwP code + 1)
theorem bw_all (code : List UInt8) : ((bwD code).a.length ≤ 6 ∧ (bwD code).b.length ≤ 6 ∧ (bwD code).l.length ≤ 12) ∧ 0 ≤ bwP code ∧ bwP code ≤ 30 ∧ (bwT code).size ≤ 421 ∧ -1 ≤ bwA code ∧ bwA code ≤ 6 := by
  obtain ⟨-, ⟨h1, h2, h3⟩, h4, h5⟩ := blkDisk_all (code.take 2000) 0 ⟨by omega, by omega, take2000 code⟩
  have e : bwP code = (l3c (code.take 2000) 0).2 + 1 := rfl
  have hp := pickV_in (code.take 2000) (bwP code) 8 (by omega) (by omega) (by omega)
  have ht := textV_size (code.take 2000) (bwP code + 1) ⟨by omega, by omega, take2000 code⟩
  refine ⟨?_, by omega, by omega, by unfold bwT; omega, by unfold bwA; omega, by unfold bwA; omega⟩
  unfold bwD blkDisk
  split
  · exact ⟨Nat.zero_le _, h2, h3⟩
  · exact ⟨h1, h2, h3⟩
@[go_sem] def ctDrawBlk : Ct := ⟨false, [[some .byte]], fun args os => match args, os with
  | [.one (.isl .byte code)], [] => ⟨code.length ≤ 1048576, .tup [(bwD code).v 0, vi (bwA code), vs (bwT code)], [], (bwD code).objs⟩
  | _, _ => no⟩
theorem s_drawBlk_e : EnterOk Try.prog 23 := ⟨_, Try.func23, rfl, by decide⟩
@[go_sem] def s_drawBlk_lv : List (List Nat) := [[0, 2], [2, 5], [2, 5, 6], [2, 3, 4]]
@[go_sem] noncomputable def s_drawBlk_K : Known := ((((Known.nil).cons 31 ctOpen s_open s_open_e).cons 50 ctBlkDisk s_blkDisk s_blkDisk_e).cons 35 ctPick s_pick s_pick_e).cons 47 ctText s_text s_text_e
set_option maxHeartbeats 8000000 in
theorem s_drawBlk : Sound Try.prog 23 ctDrawBlk := by
  refine sound_intro (E := ⟨ti, s_drawBlk_K.Γ, []⟩) (s_drawBlk_K.env []) Try.func23 Try.ntmps23 rfl (rs := [.cell 2 27, .tmp 3, .tmp 4]) rfl ?_
  intro args os hp
  unfold ctDrawBlk at hp ⊢
  dsimp only at hp ⊢
  split at hp
  · rename_i code
    refine ⟨by simp, fun φ0 w0 => ?_⟩
    have hlen : code.length ≤ 1048576 := hp
    obtain ⟨-, h1, h2, -⟩ := bw_all code
    have hr : rdOk2 (code.take 2000) 0 := ⟨by omega, by omega, take2000 code⟩
    have e1 : (blkDisk (code.take 2000) 0).2 = bwP code := rfl
    have e2 : (blkDisk (code.take 2000) 0).1 = bwD code := rfl
    have p1 := pickV_in (code.take 2000) (bwP code) 8 (by omega) (by omega) (by omega)
    have w1 := wrap_id (pickV (code.take 2000) (bwP code) 8 - 1) (by omega) (by omega)
    have hr3 : rdOk (code.take 2000) (bwP code + 1) := ⟨by omega, by omega, take2000 code⟩
    have hb := take2000 code
    clear hp
    repeat' first
      | refine W_seq ?_
      | (refine W_reg (s_drawBlk_K.env []) s_drawBlk_lv fun K' hK' => ?_
         simp only [go_sem, e1, e2, w1, ↓reduceIte, ↓reduceDIte, reduceCtorEq, Nat.reduceAdd, Nat.reduceMul, Nat.reduceSub, Nat.reduceLT, Nat.reduceLeDiff, Nat.reduceEqDiff, Nat.reduceBEq, Int.reduceToNat, Int.reduceLE, Int.reduceLT, Int.reduceEq, Int.reduceNe, Int.reduceNeg]
         (repeat' apply And.intro) <;> try first | ((with_reducible refine hK' _ ?_ ?_ ?_); rotate_left; (simp only [go_sem, e1, e2, w1, pr, keepSl, ↓reduceIte, Nat.reduceEqDiff]; try rfl); clear hK' K') | (clear hK' K'; first | omega | (with_reducible refine drawOk_k ?_; kernel_rfl) | assumption | refine Eq.refl _ | exact fun h => ⟨h, fun k => ⟨h, k⟩⟩ | (intro _; (repeat' apply And.intro) <;> first | omega | assumption) | skip))
      | with_reducible first | refine W_skip ?_ | refine W_exit ?_ | refine W_ret ?_ | refine W_block ?_ | refine thenG_n ?_ | refine thenG_x ?_ | refine thenG_r ?_ | refine blockG_n ?_ | refine blockG_r ?_ | refine blockG_x ?_ | refine blockG_o (by decide) ?_
    refine ⟨by (simp only [go_sem, bwA, bwT, ↓reduceIte, reduceCtorEq, Nat.reduceAdd, Nat.reduceLT, Nat.reduceLeDiff, Nat.reduceEqDiff]) <;> trivial, [some 2, some 3, some 4], ?_⟩
    all_goals try simp only [go_sem, bwA, bwT, ↓reduceIte, reduceCtorEq, Nat.reduceAdd, Nat.reduceLT, Nat.reduceLeDiff, Nat.reduceEqDiff, Int.reduceEq, TC.val.injEq, Value.bool.injEq, Value.int.injEq, Value.string.injEq, TV.one.injEq]
    all_goals (repeat' apply And.intro) <;> try first | rfl | trivial | omega | (rw [wrap_id] <;> omega)
  · simp [no] at hp
end Go.Proofs.Ytjdpppbegjnpaaa
