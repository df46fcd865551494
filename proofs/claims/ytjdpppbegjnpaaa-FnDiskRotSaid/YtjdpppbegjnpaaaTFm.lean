/- Functions: what is drawn to decay. -/
import Derived.Test.YtjdpppbegjnpaaaTFl
set_option linter.unusedSimpArgs false
set_option linter.unusedVariables false
set_option linter.unusedSectionVars false
namespace Go.Proofs.Ytjdpppbegjnpaaa
open Go.RowKit

def rotP (code : List UInt8) : Int := (drawDisk (code.take 2000) 0).2
def rotD (code : List UInt8) : Dk := dkFlush (drawDisk (code.take 2000) 0).1
def rotS (code : List UInt8) : Int := ET.int.at [0, 0, 1, 1, -1, 2] (pickV (code.take 2000) (rotP code) 6).toNat
def rotA (code : List UInt8) : Int := pickV (code.take 2000) (rotP code + 1) 7 - 1
def rotK (code : List UInt8) : Int := pickV (code.take 2000) (rotP code + 2) 8 - 1
def rotM (code : List UInt8) : Int := ET.int.at [1, 128, 255, 3, 0, 256] (pickV (code.take 2000) (rotP code + 3) 6).toNat
theorem rotD_all (code : List UInt8) : (rotD code).a.length ≤ 7 ∧ (rotD code).b.length ≤ 7 ∧ (rotD code).l.length = 0 := by
  obtain ⟨⟨h1, h2, h3⟩, -⟩ := drawDisk_all (code.take 2000) 0 ⟨by omega, by omega, by rw [List.length_take]; omega⟩
  unfold rotD dkFlush
  generalize (drawDisk (code.take 2000) 0).1 = d at *
  split
  · have := d.done_len d.l.length
    exact ⟨by show (d.done _).1.length ≤ 7; omega, by show (d.done _).2.length ≤ 7; omega, rfl⟩
  · exact ⟨Nat.zero_le _, Nat.zero_le _, rfl⟩
@[go_sem] def ctDrawRot : Ct := ⟨false, [[some .byte]], fun args os => match args, os with
  | [.one (.isl .byte code)], [] => ⟨code.length ≤ 1048576, .tup [(rotD code).v 0, vi (rotS code), vi (rotA code), vi (rotK code), vi (rotM code)], [], (rotD code).objs⟩
  | _, _ => no⟩
theorem s_drawRot_e : EnterOk Try.prog 9 := ⟨_, Try.func9, rfl, by decide⟩
@[go_sem] def s_drawRot_lv : List (List Nat) := [[0, 2], [2, 7], [2, 7, 8], [2, 7, 8, 9], [2, 7, 8, 9, 10], [2, 7, 8, 9, 10, 11], [2, 3, 4, 5, 6]]
@[go_sem] noncomputable def s_drawRot_K : Known := (((((Known.nil).cons 31 ctOpen s_open s_open_e).cons 33 ctDrawDisk s_drawDisk s_drawDisk_e).cons 32 ctDiskFlush s_specFlush s_specFlush_e).cons 34 ctNum s_num s_num_e).cons 35 ctPick s_pick s_pick_e
set_option maxHeartbeats 8000000 in
theorem s_drawRot : Sound Try.prog 9 ctDrawRot := by
  refine sound_intro (E := ⟨ti, s_drawRot_K.Γ, []⟩) (s_drawRot_K.env []) Try.func9 Try.ntmps9 rfl (rs := [.cell 2 27, .tmp 3, .tmp 4, .tmp 5, .tmp 6]) rfl ?_
  intro args os hp
  unfold ctDrawRot at hp ⊢
  dsimp only at hp ⊢
  split at hp
  · rename_i code
    refine ⟨by simp, fun φ0 w0 => ?_⟩
    have hlen : code.length ≤ 1048576 := hp
    have hb : (code.take 2000).length ≤ 2000 := by rw [List.length_take]; omega
    obtain ⟨⟨h1, h2, h3⟩, h4, h5⟩ := drawDisk_all (code.take 2000) 0 ⟨by omega, by omega, hb⟩
    have hr : rdOk2 (code.take 2000) 0 := ⟨by omega, by omega, hb⟩
    have e1 : (drawDisk (code.take 2000) 0).2 = rotP code := rfl
    have e2 : dkFlush (drawDisk (code.take 2000) 0).1 = rotD code := rfl
    rw [e1] at h4 h5
    have p1 := pickV_in (code.take 2000) (rotP code + 1) 7 (by omega) (by omega) (by omega)
    have p2 := pickV_in (code.take 2000) (rotP code + 2) 8 (by omega) (by omega) (by omega)
    have w1 := wrap_id (pickV (code.take 2000) (rotP code + 1) 7 - 1) (by omega) (by omega)
    have w2 := wrap_id (pickV (code.take 2000) (rotP code + 2) 8 - 1) (by omega) (by omega)
    have q1 : rotP code + 1 + 1 = rotP code + 2 := by omega
    have q2 : rotP code + 2 + 1 = rotP code + 3 := by omega
    clear hp
    repeat' first
      | refine W_seq ?_
      | (refine W_region_l (s_drawRot_K.env []) s_drawRot_lv fun K' hK' => ?_
         simp only [go_sem, Dk.small, e1, e2, w1, w2, q1, q2, ↓reduceIte, ↓reduceDIte, reduceCtorEq, Nat.reduceAdd, Nat.reduceMul, Nat.reduceSub, Nat.reduceLT, Nat.reduceLeDiff, Nat.reduceEqDiff, Nat.reduceBEq, Int.reduceToNat, Int.reduceLE, Int.reduceLT, Int.reduceEq, Int.reduceNe, Int.reduceNeg]
         (repeat' apply And.intro) <;> try first | ((with_reducible refine hK' _ ?_ ?_ ?_); rotate_left; (simp only [go_sem, Dk.small, e1, e2, w1, w2, q1, q2, pr, keepSl, ↓reduceIte, Nat.reduceEqDiff]; try rfl); clear hK' K') | (clear hK' K'; first | omega | (with_reducible refine drawOk_k ?_; kernel_rfl) | assumption | refine Eq.refl _ | skip))
      | (refine W_drawn_l (s_drawRot_K.env []) mixed s_drawRot_lv fun K' hK' => ?_
         simp only [go_sem, Dk.small, e1, e2, w1, w2, q1, q2, ↓reduceIte, ↓reduceDIte, reduceCtorEq, Nat.reduceAdd, Nat.reduceMul, Nat.reduceSub, Nat.reduceLT, Nat.reduceLeDiff, Nat.reduceEqDiff, Nat.reduceBEq, Int.reduceToNat, Int.reduceLE, Int.reduceLT, Int.reduceEq, Int.reduceNe, Int.reduceNeg]
         (repeat' apply And.intro) <;> try first | ((with_reducible refine hK' _ ?_ ?_ ?_); rotate_left; (simp only [go_sem, Dk.small, e1, e2, w1, w2, q1, q2, pr, keepSl, ↓reduceIte, Nat.reduceEqDiff]; try rfl); clear hK' K') | (clear hK' K'; first | omega | (with_reducible refine drawOk_k ?_; kernel_rfl) | assumption | refine Eq.refl _ | skip))
      | refine W_skip ?_
      | refine W_exit ?_
      | refine W_ret ?_
      | refine W_block ?_
      | with_reducible refine thenG_n ?_
      | with_reducible refine thenG_x ?_
      | with_reducible refine thenG_r ?_
      | with_reducible refine blockG_n ?_
      | with_reducible refine blockG_r ?_
      | with_reducible refine blockG_x ?_
      | with_reducible refine blockG_o (by decide) ?_
    refine ⟨by (simp only [go_sem, rotS, rotA, rotK, rotM, ↓reduceIte, reduceCtorEq, Nat.reduceAdd, Nat.reduceLT, Nat.reduceLeDiff, Nat.reduceEqDiff]) <;> trivial, [some 5, some 6, some 7], ?_⟩
    all_goals try simp only [go_sem, rotS, rotA, rotK, rotM, ↓reduceIte, reduceCtorEq, Nat.reduceAdd, Nat.reduceLT, Nat.reduceLeDiff, Nat.reduceEqDiff, Int.reduceEq, TC.val.injEq, Value.bool.injEq, Value.int.injEq, Value.string.injEq, TV.one.injEq]
    all_goals (repeat' apply And.intro) <;> try first | rfl | trivial | omega | (rw [wrap_id] <;> omega)
  · simp [no] at hp
end Go.Proofs.Ytjdpppbegjnpaaa
