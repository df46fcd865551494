/- Functions: what is drawn to fall, to be written. -/
import Derived.Test.YtjdpppbegjnpaaaTFl
set_option linter.unusedSimpArgs false
set_option linter.unusedVariables false
set_option linter.unusedSectionVars false
namespace Go.Proofs.Ytjdpppbegjnpaaa
open Go.RowKit

def fallF (code : List UInt8) : List Int := fateV (code.take 2000) 0
def fallD (code : List UInt8) : Dk := (drawDisk (code.take 2000) (fateP (code.take 2000) 0)).1
theorem take2000 (code : List UInt8) : (code.take 2000).length ≤ 2000 := by rw [List.length_take]; omega
theorem fall_all (code : List UInt8) : ((fallD code).a.length ≤ 7 ∧ (fallD code).b.length ≤ 7 ∧ (fallD code).l.length ≤ 14) ∧ (fallF code).length ≤ 15 := by
  have h := fateP_in (code.take 2000) 0 ⟨by omega, by omega, take2000 code⟩
  exact ⟨(drawDisk_all (code.take 2000) _ ⟨by omega, by omega, take2000 code⟩).1, fateV_len _ _ ⟨by omega, by omega, take2000 code⟩⟩
@[go_sem] def ctDrawFall : Ct := ⟨false, [[some .byte]], fun args os => match args, os with
  | [.one (.isl .byte code)], [] => ⟨code.length ≤ 1048576, .tup [(fallD code).v 0, .one (.osl .int 3 0 (fallF code).length)], [], (fallD code).objs ++ [.arr .int (fallF code)]⟩
  | _, _ => no⟩
theorem s_drawFall_e : EnterOk Try.prog 15 := ⟨_, Try.func15, rfl, by decide⟩
@[go_sem] def s_drawFall_lv : List (List Nat) := [[0, 2], [2, 4], [2, 4, 5], [2, 3]]
@[go_sem] noncomputable def s_drawFall_K : Known := (((Known.nil).cons 31 ctOpen s_open s_open_e).cons 43 ctFate s_fate s_fate_e).cons 33 ctDrawDisk s_drawDisk s_drawDisk_e
set_option maxHeartbeats 8000000 in
theorem s_drawFall : Sound Try.prog 15 ctDrawFall := by
  refine sound_intro (E := ⟨ti, s_drawFall_K.Γ, []⟩) (s_drawFall_K.env []) Try.func15 Try.ntmps15 rfl (rs := [.cell 2 27, .tmp 3]) rfl ?_
  intro args os hp
  unfold ctDrawFall at hp ⊢
  dsimp only at hp ⊢
  split at hp
  · rename_i code
    refine ⟨by simp, fun φ0 w0 => ?_⟩
    have hlen : code.length ≤ 1048576 := hp
    have h := fateP_in (code.take 2000) 0 ⟨by omega, by omega, take2000 code⟩
    have hr : rdOk (code.take 2000) 0 := ⟨by omega, by omega, take2000 code⟩
    have hr2 : rdOk2 (code.take 2000) (fateP (code.take 2000) 0) := ⟨by omega, by omega, take2000 code⟩
    have hb := take2000 code
    have e1 : fateV (code.take 2000) 0 = fallF code := rfl
    have e2 : (drawDisk (code.take 2000) (fateP (code.take 2000) 0)).1 = fallD code := rfl
    clear hp
    repeat' first
      | refine W_seq ?_
      | (refine W_reg (s_drawFall_K.env []) s_drawFall_lv fun K' hK' => ?_
         simp only [go_sem, Dk.small, e1, e2, ↓reduceIte, ↓reduceDIte, reduceCtorEq, Nat.reduceAdd, Nat.reduceMul, Nat.reduceSub, Nat.reduceLT, Nat.reduceLeDiff, Nat.reduceEqDiff, Nat.reduceBEq, Int.reduceToNat, Int.reduceLE, Int.reduceLT, Int.reduceEq, Int.reduceNe, Int.reduceNeg]
         (repeat' apply And.intro) <;> try first | ((with_reducible refine hK' _ ?_ ?_ ?_); rotate_left; (simp only [go_sem, Dk.small, e1, e2, pr, keepSl, ↓reduceIte, Nat.reduceEqDiff]; try rfl); clear hK' K') | (clear hK' K'; first | omega | (with_reducible refine drawOk_k ?_; kernel_rfl) | assumption | refine Eq.refl _ | exact fun h => ⟨h, fun k => ⟨h, k⟩⟩ | (intro _; (repeat' apply And.intro) <;> first | omega | assumption) | skip))
      | with_reducible first | refine W_skip ?_ | refine W_exit ?_ | refine W_ret ?_ | refine W_block ?_ | refine thenG_n ?_ | refine thenG_x ?_ | refine thenG_r ?_ | refine blockG_n ?_ | refine blockG_r ?_ | refine blockG_x ?_ | refine blockG_o (by decide) ?_
    refine ⟨by (simp only [go_sem, ↓reduceIte, reduceCtorEq, Nat.reduceAdd, Nat.reduceLT, Nat.reduceLeDiff, Nat.reduceEqDiff]) <;> trivial, [some 3, some 4, some 5, some 2], ?_⟩
    all_goals try simp only [go_sem, ↓reduceIte, reduceCtorEq, Nat.reduceAdd, Nat.reduceLT, Nat.reduceLeDiff, Nat.reduceEqDiff, Int.reduceEq, TC.val.injEq, Value.bool.injEq, Value.int.injEq, Value.string.injEq, TV.one.injEq]
    all_goals (repeat' apply And.intro) <;> try first | rfl | trivial | omega | (rw [wrap_id] <;> omega)
  · simp [no] at hp
def wrP (code : List UInt8) : Int := (drawDisk (code.take 2000) 0).2
def wrD (code : List UInt8) : Dk := (drawDisk (code.take 2000) 0).1
def wrS (code : List UInt8) : Int := ET.int.at [0, 0, 1, 1, -1, 2] (pickV (code.take 2000) (wrP code) 6).toNat
def wrA (code : List UInt8) : Int := pickV (code.take 2000) (wrP code + 1) 8 - 1
def wrT (code : List UInt8) : ByteArray := if pickV (code.take 2000) (wrP code + 2) 20 = 0 then many ⟨#[120]⟩ (420 + pickV (code.take 2000) (wrP code + 3) 2).toNat else textV (code.take 2000) (wrP code + 3)
theorem wr_all (code : List UInt8) : ((wrD code).a.length ≤ 7 ∧ (wrD code).b.length ≤ 7 ∧ (wrD code).l.length ≤ 14) ∧ 0 ≤ wrP code ∧ wrP code ≤ 503 ∧ (wrT code).size ≤ 421 := by
  obtain ⟨h1, h2, h3⟩ := drawDisk_all (code.take 2000) 0 ⟨by omega, by omega, take2000 code⟩
  have h2' : 0 ≤ wrP code := h2
  have h3' : wrP code ≤ 0 + 503 := h3
  refine ⟨h1, h2', by omega, ?_⟩
  unfold wrT
  split
  · have := pickV_in (code.take 2000) (wrP code + 3) 2 (by omega) (by omega) (by omega)
    rw [many_size _ _ (by omega)]
    show _ * 1 ≤ _
    omega
  · have := textV_size (code.take 2000) (wrP code + 3) ⟨by omega, by omega, take2000 code⟩
    omega
@[go_sem] def ctDrawWrite : Ct := ⟨false, [[some .byte]], fun args os => match args, os with
  | [.one (.isl .byte code)], [] => ⟨code.length ≤ 1048576, .tup [(wrD code).v 0, vi (wrS code), vi (wrA code), vs (wrT code)], [], (wrD code).objs⟩
  | _, _ => no⟩
theorem s_drawWrite_e : EnterOk Try.prog 19 := ⟨_, Try.func19, rfl, by decide⟩
@[go_sem] def s_drawWrite_lv : List (List Nat) := [[0, 2], [2, 6], [2, 6, 7], [2, 6, 7, 8], [2, 6, 7, 8, 9], [2, 6, 7, 8, 9, 22], [2, 3, 4, 5], [2, 3, 4, 5]]
@[go_sem] noncomputable def s_drawWrite_K : Known := ((((((Known.nil).cons 31 ctOpen s_open s_open_e).cons 33 ctDrawDisk s_drawDisk s_drawDisk_e).cons 34 ctNum s_num s_num_e).cons 35 ctPick s_pick s_pick_e).cons 46 ctMany s_many s_many_e).cons 47 ctText s_text s_text_e
set_option maxHeartbeats 8000000 in
theorem s_drawWrite : Sound Try.prog 19 ctDrawWrite := by
  refine sound_intro (E := ⟨ti, s_drawWrite_K.Γ, []⟩) (s_drawWrite_K.env []) Try.func19 Try.ntmps19 rfl (rs := [.cell 2 27, .tmp 3, .tmp 4, .tmp 5]) rfl ?_
  intro args os hp
  unfold ctDrawWrite at hp ⊢
  dsimp only at hp ⊢
  split at hp
  · rename_i code
    refine ⟨by simp, fun φ0 w0 => ?_⟩
    have hlen : code.length ≤ 1048576 := hp
    obtain ⟨-, h1, h2, -⟩ := wr_all code
    have hr : rdOk2 (code.take 2000) 0 := ⟨by omega, by omega, take2000 code⟩
    have e1 : (drawDisk (code.take 2000) 0).2 = wrP code := rfl
    have e2 : (drawDisk (code.take 2000) 0).1 = wrD code := rfl
    have p1 := pickV_in (code.take 2000) (wrP code + 1) 8 (by omega) (by omega) (by omega)
    have w1 := wrap_id (pickV (code.take 2000) (wrP code + 1) 8 - 1) (by omega) (by omega)
    have q1 : wrP code + 1 + 1 = wrP code + 2 := by omega
    have q2 : wrP code + 2 + 1 = wrP code + 3 := by omega
    have hb := take2000 code
    clear hp
    repeat' first
      | refine W_seq ?_
      | (refine W_reg (s_drawWrite_K.env []) s_drawWrite_lv fun K' hK' => ?_
         simp only [go_sem, e1, e2, w1, q1, q2, ↓reduceIte, ↓reduceDIte, reduceCtorEq, Nat.reduceAdd, Nat.reduceMul, Nat.reduceSub, Nat.reduceLT, Nat.reduceLeDiff, Nat.reduceEqDiff, Nat.reduceBEq, Int.reduceToNat, Int.reduceLE, Int.reduceLT, Int.reduceEq, Int.reduceNe, Int.reduceNeg]
         (repeat' apply And.intro) <;> try first | ((with_reducible refine hK' _ ?_ ?_ ?_); rotate_left; (simp only [go_sem, e1, e2, w1, q1, q2, pr, keepSl, ↓reduceIte, Nat.reduceEqDiff]; try rfl); clear hK' K') | (clear hK' K'; first | omega | (with_reducible refine drawOk_k ?_; kernel_rfl) | assumption | refine Eq.refl _ | exact fun h => ⟨h, fun k => ⟨h, k⟩⟩ | (intro _; (repeat' apply And.intro) <;> first | omega | assumption) | skip))
      | with_reducible first | refine W_skip ?_ | refine W_exit ?_ | refine W_ret ?_ | refine W_block ?_ | refine thenG_n ?_ | refine thenG_x ?_ | refine thenG_r ?_ | refine blockG_n ?_ | refine blockG_r ?_ | refine blockG_x ?_ | refine blockG_o (by decide) ?_
    refine W_cond _ (by exact rfl) (by exact trivial) ?_ ?_ <;> intro hc
    · have c0 : pickV (code.take 2000) (wrP code + 2) 20 = 0 := by simpa using hc
      have e3 : wrT code = many ⟨#[120]⟩ (420 + pickV (code.take 2000) (wrP code + 3) 2).toNat := by unfold wrT; rw [if_pos c0]
      have p2 := pickV_in (code.take 2000) (wrP code + 3) 2 (by omega) (by omega) (by omega)
      have w2 := wrap_id (420 + pickV (code.take 2000) (wrP code + 3) 2) (by omega) (by omega)
      repeat' first
        | refine W_seq ?_
        | (refine W_reg (s_drawWrite_K.env []) s_drawWrite_lv fun K' hK' => ?_
           simp only [go_sem, w2, ↓reduceIte, ↓reduceDIte, reduceCtorEq, Nat.reduceAdd, Nat.reduceMul, Nat.reduceSub, Nat.reduceLT, Nat.reduceLeDiff, Nat.reduceEqDiff, Nat.reduceBEq, Int.reduceToNat, Int.reduceLE, Int.reduceLT, Int.reduceEq, Int.reduceNe, Int.reduceNeg]
           (repeat' apply And.intro) <;> try first | ((with_reducible refine hK' _ ?_ ?_ ?_); rotate_left; (simp only [go_sem, w2, pr, keepSl, ↓reduceIte, Nat.reduceEqDiff]; try rfl); clear hK' K') | (clear hK' K'; first | omega | (with_reducible refine drawOk_k ?_; kernel_rfl) | assumption | refine Eq.refl _ | exact fun h => ⟨h, fun k => ⟨h, k⟩⟩ | (intro _; (repeat' apply And.intro) <;> first | omega | assumption) | skip))
        | with_reducible first | refine W_skip ?_ | refine W_exit ?_ | refine W_ret ?_ | refine W_block ?_ | refine thenG_n ?_ | refine thenG_x ?_ | refine thenG_r ?_ | refine blockG_n ?_ | refine blockG_r ?_ | refine blockG_x ?_ | refine blockG_o (by decide) ?_
      refine ⟨by (simp only [go_sem, e3, wrS, wrA, ↓reduceIte, reduceCtorEq, Nat.reduceAdd, Nat.reduceLT, Nat.reduceLeDiff, Nat.reduceEqDiff]) <;> trivial, [some 2, some 3, some 4], ?_⟩
      all_goals try simp only [go_sem, e3, wrS, wrA, ↓reduceIte, reduceCtorEq, Nat.reduceAdd, Nat.reduceLT, Nat.reduceLeDiff, Nat.reduceEqDiff, Int.reduceEq, TC.val.injEq, Value.bool.injEq, Value.int.injEq, Value.string.injEq, TV.one.injEq]
      all_goals (repeat' apply And.intro) <;> try first | rfl | trivial | omega | (rw [wrap_id] <;> omega)
    · have c0 : ¬ pickV (code.take 2000) (wrP code + 2) 20 = 0 := by simpa using hc
      have e3 : wrT code = textV (code.take 2000) (wrP code + 3) := by unfold wrT; rw [if_neg c0]
      have hr3 : rdOk (code.take 2000) (wrP code + 3) := ⟨by omega, by omega, hb⟩
      repeat' first
        | refine W_seq ?_
        | (refine W_reg (s_drawWrite_K.env []) s_drawWrite_lv fun K' hK' => ?_
           simp only [go_sem, ↓reduceIte, ↓reduceDIte, reduceCtorEq, Nat.reduceAdd, Nat.reduceMul, Nat.reduceSub, Nat.reduceLT, Nat.reduceLeDiff, Nat.reduceEqDiff, Nat.reduceBEq, Int.reduceToNat, Int.reduceLE, Int.reduceLT, Int.reduceEq, Int.reduceNe, Int.reduceNeg]
           (repeat' apply And.intro) <;> try first | ((with_reducible refine hK' _ ?_ ?_ ?_); rotate_left; (simp only [go_sem, pr, keepSl, ↓reduceIte, Nat.reduceEqDiff]; try rfl); clear hK' K') | (clear hK' K'; first | omega | (with_reducible refine drawOk_k ?_; kernel_rfl) | assumption | refine Eq.refl _ | exact fun h => ⟨h, fun k => ⟨h, k⟩⟩ | (intro _; (repeat' apply And.intro) <;> first | omega | assumption) | skip))
        | with_reducible first | refine W_skip ?_ | refine W_exit ?_ | refine W_ret ?_ | refine W_block ?_ | refine thenG_n ?_ | refine thenG_x ?_ | refine thenG_r ?_ | refine blockG_n ?_ | refine blockG_r ?_ | refine blockG_x ?_ | refine blockG_o (by decide) ?_
      refine ⟨by (simp only [go_sem, e3, wrS, wrA, ↓reduceIte, reduceCtorEq, Nat.reduceAdd, Nat.reduceLT, Nat.reduceLeDiff, Nat.reduceEqDiff]) <;> trivial, [some 2, some 3, some 4], ?_⟩
      all_goals try simp only [go_sem, e3, wrS, wrA, ↓reduceIte, reduceCtorEq, Nat.reduceAdd, Nat.reduceLT, Nat.reduceLeDiff, Nat.reduceEqDiff, Int.reduceEq, TC.val.injEq, Value.bool.injEq, Value.int.injEq, Value.string.injEq, TV.one.injEq]
      all_goals (repeat' apply And.intro) <;> try first | rfl | trivial | omega | (rw [wrap_id] <;> omega)
  · simp [no] at hp
end Go.Proofs.Ytjdpppbegjnpaaa
