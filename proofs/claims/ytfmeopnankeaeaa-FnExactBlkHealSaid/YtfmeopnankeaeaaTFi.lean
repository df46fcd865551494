/- Functions: falls. -/
import Derived.Test.YtfmeopnankeaeaaTFh
import Derived.Test.YtfmeopnankeaeaaTFe
set_option linter.unusedSimpArgs false
set_option linter.unusedVariables false
set_option linter.unusedSectionVars false
namespace Go.Proofs.Ytfmeopnankeaeaa
open Go.RowKit

theorem at_set {α : Type} (xs : List α) (i j : Nat) (v d : α) : (xs.set i v).getD j d = if i = j ∧ j < xs.length then v else xs.getD j d := by
  simp only [List.getD_eq_getElem?_getD, List.getElem?_set]
  by_cases h : i = j
  · subst h
    by_cases h2 : i < xs.length
    · simp [h2]
    · simp [h2]
  · simp [h]
abbrev Two := List ByteArray × List ByteArray
/-- A sector. -/
def sec (x : Two) (s k : Int) : ByteArray := if s = 0 then ET.str.at x.1 k.toNat else ET.str.at x.2 k.toNat
def Sm (x : Two) : Prop := ∀ j : Nat, (x.1.getD j ET.str.dflt).size ≤ 420 ∧ (x.2.getD j ET.str.dflt).size ≤ 420
theorem Sm.sec {x : Two} (h : Sm x) (s k : Int) : (sec x s k).size ≤ 420 := by
  unfold Go.Proofs.Ytfmeopnankeaeaa.sec; split
  · exact (h _).1
  · exact (h _).2
theorem Sm.put {x : Two} (h : Sm x) (w : Late) (hw : w.text.size ≤ 420) : Sm (putW x w) := by
  intro j
  unfold putW
  split
  · refine ⟨?_, (h j).2⟩
    simp only [at_set]
    split
    · exact hw
    · exact (h j).1
  · refine ⟨(h j).1, ?_⟩
    simp only [at_set]
    split
    · exact hw
    · exact (h j).2
theorem torn_size (old now : ByteArray) (h1 : old.size ≤ 420) (h2 : now.size ≤ 420) : (torn old now).size ≤ 420 := by
  unfold torn
  split
  · rw [ByteArray.size_append, ByteArray.size_extract, ByteArray.size_extract]; omega
  · rw [ByteArray.size_extract]; omega
/-- What becomes of a write. -/
def fell (f : Int) (x : Two) (w : Late) : Two := if f = 1 then putW x w else if f = 2 then putW x ⟨w.side, w.at_, torn (sec x w.side w.at_) w.text⟩ else x
theorem fell_len (f : Int) (x : Two) (w : Late) : (fell f x w).1.length = x.1.length ∧ (fell f x w).2.length = x.2.length := by
  unfold fell; split
  · exact putW_len x w
  · split
    · exact putW_len x _
    · exact ⟨rfl, rfl⟩
theorem Sm.fell {x : Two} (h : Sm x) (f : Int) (w : Late) (hw : w.text.size ≤ 420) : Sm (fell f x w) := by
  unfold Go.Proofs.Ytfmeopnankeaeaa.fell; split
  · exact h.put w hw
  · split
    · exact h.put _ (torn_size _ _ (h.sec _ _) hw)
    · exact h
def Dk.fallN (d : Dk) (fate : List Int) : Nat → Two
  | 0 => (d.a, d.b)
  | n + 1 => fell (ET.int.at fate n) (d.fallN fate n) (ET.late.at d.l n)
theorem Dk.fallN_len (d : Dk) (fate : List Int) : ∀ n, (d.fallN fate n).1.length = d.a.length ∧ (d.fallN fate n).2.length = d.b.length
  | 0 => ⟨rfl, rfl⟩
  | n + 1 => by
    have h := fell_len (ET.int.at fate n) (d.fallN fate n) (ET.late.at d.l n)
    have h' := d.fallN_len fate n
    unfold Dk.fallN; rw [h.1, h.2]; exact h'
theorem Dk.ok_sm {d : Dk} (h : d.ok = true) : Sm (d.a, d.b) := by
  obtain ⟨-, -, -, -, h5, h6, -⟩ := (Dk.ok_iff d).1 h
  intro j
  have e : ∀ xs : List ByteArray, (∀ j, j < xs.length → long (xs.getD j ET.str.dflt) = false) → (xs.getD j ET.str.dflt).size ≤ 420 := by
    intro xs hx
    rcases Nat.lt_or_ge j xs.length with hj | hj
    · have := hx j hj; unfold long at this; simp only [decide_eq_false_iff_not] at this; omega
    · rw [List.getD_eq_getElem?_getD, List.getElem?_eq_none hj]; exact Nat.zero_le _
  exact ⟨e d.a h5, e d.b h6⟩
theorem Dk.fallN_sm {d : Dk} (h : d.ok = true) (fate : List Int) : ∀ n, n ≤ d.l.length → Sm (d.fallN fate n)
  | 0, _ => d.ok_sm h
  | n + 1, hn => (d.fallN_sm h fate n (by omega)).fell _ _ (Dk.ok_late h n (by omega)).2.2.2
def Dk.fallen (d : Dk) (fate : List Int) : Dk := ⟨(d.fallN fate (min d.l.length fate.length)).1, (d.fallN fate (min d.l.length fate.length)).2, []⟩
def dkFall (d : Dk) (fate : List Int) : Dk := if d.ok then d.fallen fate else .nil
@[go_sem] def ctDiskFall : Ct := ⟨false, [[some .str, some .str, some .late], [some .int]], fun args os => match args, os with
  | [.agg [.isl .str a, .isl .str b, .isl .late l], .one (.isl .int fate)], [] => ⟨(Dk.mk a b l).small ∧ fate.length ≤ 4000000, (dkFall ⟨a, b, l⟩ fate).v 0, [], (dkFall ⟨a, b, l⟩ fate).objs⟩
  | _, _ => no⟩
theorem extr_id (s : ByteArray) : s.extract 0 s.size = s := ByteArray.extract_zero_size
@[go_sem] def sgFall (a b : List ByteArray) (l : List Late) (fate : List Int) (x : Two) (i : Nat) : Sg := ⟨[(1, .one (.isl .int fate)), (2, .one (.ptr 0 0)), (4, .one (.ptr 1 0)), (5, .one (.ptr 5 0)), (6, vi i)],
  [some (.cells [.isl .str a, .isl .str b, .isl .late l]), some (.cells [.val (.slice none 0 0), .val (.slice none 0 0), .val (.slice none 0 0)]), some (.arr .str x.1), some (.arr .str x.2), some (.arr .late l), some (.cells [.osl .str 2 0 x.1.length, .osl .str 3 0 x.2.length, .osl .late 4 0 l.length])], []⟩
theorem s_specFall_e : EnterOk Try.prog 23 := ⟨_, Try.func23, rfl, by decide⟩
@[go_sem] def s_specFall_lv : List (List Nat) := [[1, 2, 4], [1, 2, 4, 10], [4], [1, 2, 4, 5], [1, 2, 4, 5, 6], [1, 2, 4, 5, 6, 24], [1, 2, 4, 5, 6], [1, 2, 4, 5, 6, 7], [1, 2, 4, 5, 6, 7, 35], [1, 2, 4, 5, 6, 7, 35, 36], [1, 2, 4, 5, 6], [1, 2, 4, 5, 6, 7, 48], [1, 2, 4, 5, 6], [4, 5], [4]]
@[go_sem] noncomputable def s_specFall_K : Known := (((Known.nil).cons 38 ctDiskOk s_specDiskOk s_specDiskOk_e).cons 39 ctOwn s_copy s_copy_e).cons 56 ctTorn s_torn s_torn_e
set_option maxHeartbeats 8000000 in
theorem s_specFall : Sound Try.prog 23 ctDiskFall := by
  refine sound_intro (E := ⟨ti, s_specFall_K.Γ, []⟩) (s_specFall_K.env []) Try.func23 Try.ntmps23 rfl (rs := [.cell 4 30]) rfl ?_
  intro args os hp
  unfold ctDiskFall at hp ⊢
  dsimp only at hp ⊢
  split at hp
  · rename_i a b l fate
    refine ⟨by simp, fun φ0 w0 => ?_⟩
    obtain ⟨⟨h1, h2, h3⟩, h4⟩ : (a.length ≤ 4000000 ∧ b.length ≤ 4000000 ∧ l.length ≤ 4000000) ∧ fate.length ≤ 4000000 := hp
    repeat' first
      | refine W_seq ?_
      | (refine W_reg (s_specFall_K.env []) s_specFall_lv fun K' hK' => ?_
         simp only [go_sem, Dk.small, ↓reduceIte, ↓reduceDIte, reduceCtorEq, Nat.reduceAdd, Nat.reduceMul, Nat.reduceSub, Nat.reduceLT, Nat.reduceLeDiff, Nat.reduceEqDiff, Nat.reduceBEq, Int.reduceToNat, Int.reduceLE, Int.reduceLT, Int.reduceEq, Int.reduceNe, Int.reduceNeg]
         (repeat' apply And.intro) <;> try first | ((with_reducible refine hK' _ ?_ ?_ ?_); rotate_left; (simp only [go_sem, Dk.small, pr, keepSl, ↓reduceIte, Nat.reduceEqDiff]; try rfl); clear hK' K') | (clear hK' K'; first | omega | (with_reducible refine drawOk_k ?_; kernel_rfl) | assumption | refine Eq.refl _ | exact fun h => ⟨h, fun k => ⟨h, k⟩⟩ | (intro _; (repeat' apply And.intro) <;> first | omega | assumption) | skip))
      | with_reducible first | refine W_skip ?_ | refine W_exit ?_ | refine W_ret ?_ | refine W_block ?_ | refine thenG_n ?_ | refine thenG_x ?_ | refine thenG_r ?_ | refine blockG_n ?_ | refine blockG_r ?_ | refine blockG_x ?_ | refine blockG_o (by decide) ?_
    refine W_cond _ (by exact rfl) (by exact trivial) ?_ ?_ <;> (try simp only [Bool.if_true_left, Bool.if_false_right, Bool.if_true_right, Bool.if_false_left, Bool.decide_eq_true, Bool.or_assoc, Bool.and_assoc, Bool.and_true, Bool.or_false, Bool.true_and, Bool.false_or, decide_eq_true_eq, decide_eq_false_iff_not, not_and, not_or, Classical.not_not, Bool.and_eq_true, Bool.or_eq_true, Bool.not_eq_true', Bool.not_eq_false', Bool.or_eq_false_iff, Bool.and_eq_false_iff, bne_iff_ne, ne_eq, beq_iff_eq, bne_eq_false_iff_eq, same_true, same_false, Int.ofNat_inj]) <;> intro hok
    · have e1 : dkFall ⟨a, b, l⟩ fate = .nil := by unfold dkFall; rw [hok]; rfl
      repeat' first
        | refine W_seq ?_
        | (refine W_reg (s_specFall_K.env []) s_specFall_lv fun K' hK' => ?_
           simp only [go_sem, ↓reduceIte, ↓reduceDIte, reduceCtorEq, Nat.reduceAdd, Nat.reduceMul, Nat.reduceSub, Nat.reduceLT, Nat.reduceLeDiff, Nat.reduceEqDiff, Nat.reduceBEq, Int.reduceToNat, Int.reduceLE, Int.reduceLT, Int.reduceEq, Int.reduceNe, Int.reduceNeg]
           (repeat' apply And.intro) <;> try first | ((with_reducible refine hK' _ ?_ ?_ ?_); rotate_left; (simp only [go_sem, pr, keepSl, ↓reduceIte, Nat.reduceEqDiff]; try rfl); clear hK' K') | (clear hK' K'; first | omega | (with_reducible refine drawOk_k ?_; kernel_rfl) | assumption | refine Eq.refl _ | exact fun h => ⟨h, fun k => ⟨h, k⟩⟩ | (intro _; (repeat' apply And.intro) <;> first | omega | assumption) | skip))
        | with_reducible first | refine W_skip ?_ | refine W_exit ?_ | refine W_ret ?_ | refine W_block ?_ | refine thenG_n ?_ | refine thenG_x ?_ | refine thenG_r ?_ | refine blockG_n ?_ | refine blockG_r ?_ | refine blockG_x ?_ | refine blockG_o (by decide) ?_
      refine ⟨by (simp only [go_sem, e1, Dk.nil, ↓reduceIte, reduceCtorEq, Nat.reduceAdd, Nat.reduceLT, Nat.reduceLeDiff, Nat.reduceEqDiff]) <;> trivial, [none, none, none], ?_⟩
      all_goals try simp only [go_sem, e1, Dk.nil, ↓reduceIte, reduceCtorEq, Nat.reduceAdd, Nat.reduceLT, Nat.reduceLeDiff, Nat.reduceEqDiff, Int.reduceEq, TC.val.injEq, Value.bool.injEq, Value.int.injEq, Value.string.injEq, TV.one.injEq]
      all_goals (repeat' apply And.intro) <;> try first | rfl | trivial | omega | (rw [wrap_id] <;> omega)
    · have e1 : dkFall ⟨a, b, l⟩ fate = (Dk.mk a b l).fallen fate := by unfold dkFall; rw [hok]; rfl
      repeat' first
        | refine W_seq ?_
        | (refine W_reg (s_specFall_K.env []) s_specFall_lv fun K' hK' => ?_
           simp only [go_sem, Dk.small, ↓reduceIte, ↓reduceDIte, reduceCtorEq, Nat.reduceAdd, Nat.reduceMul, Nat.reduceSub, Nat.reduceLT, Nat.reduceLeDiff, Nat.reduceEqDiff, Nat.reduceBEq, Int.reduceToNat, Int.reduceLE, Int.reduceLT, Int.reduceEq, Int.reduceNe, Int.reduceNeg]
           (repeat' apply And.intro) <;> try first | ((with_reducible refine hK' _ ?_ ?_ ?_); rotate_left; (simp only [go_sem, Dk.small, pr, keepSl, ↓reduceIte, Nat.reduceEqDiff]; try rfl); clear hK' K') | (clear hK' K'; first | omega | (with_reducible refine drawOk_k ?_; kernel_rfl) | assumption | refine Eq.refl _ | exact fun h => ⟨h, fun k => ⟨h, k⟩⟩ | (intro _; (repeat' apply And.intro) <;> first | omega | assumption) | skip))
        | with_reducible first | refine W_skip ?_ | refine W_exit ?_ | refine W_ret ?_ | refine W_block ?_ | refine thenG_n ?_ | refine thenG_x ?_ | refine thenG_r ?_ | refine blockG_n ?_ | refine blockG_r ?_ | refine blockG_x ?_ | refine blockG_o (by decide) ?_
      refine W_le (σ' := sgFall a b l fate ((Dk.mk a b l).fallN fate 0) 0) [some 0, some 1, some 2, some 3, some 4, some 5] (by
        simp only [go_sem, Dk.fallN, ↓reduceIte, reduceCtorEq, Nat.reduceAdd, Nat.reduceLT, Nat.reduceLeDiff, Nat.reduceEqDiff, Int.reduceEq, TC.val.injEq, Value.bool.injEq, Value.int.injEq, Value.string.injEq, TV.one.injEq]
        all_goals (repeat' apply And.intro) <;> try first | rfl | trivial | omega | (rw [wrap_id] <;> omega)
        ) ?_
      refine W_loop (fun n σ => ∃ i : Nat, i ≤ min l.length fate.length ∧ n = l.length - i ∧ σ = sgFall a b l fate ((Dk.mk a b l).fallN fate i) i) l.length ⟨0, by omega, by omega, rfl⟩ ?_
      rintro n σ ⟨i, hi, rfl, rfl⟩
      obtain ⟨hl1, hl2⟩ := (Dk.mk a b l).fallN_len fate i
      simp only at hl1 hl2
      unfold sgFall
      repeat' first
        | refine W_seq ?_
        | (refine W_reg (s_specFall_K.env []) s_specFall_lv fun K' hK' => ?_
           simp only [go_sem, ↓reduceIte, ↓reduceDIte, reduceCtorEq, Nat.reduceAdd, Nat.reduceMul, Nat.reduceSub, Nat.reduceLT, Nat.reduceLeDiff, Nat.reduceEqDiff, Nat.reduceBEq, Int.reduceToNat, Int.reduceLE, Int.reduceLT, Int.reduceEq, Int.reduceNe, Int.reduceNeg]
           (repeat' apply And.intro) <;> try first | ((with_reducible refine hK' _ ?_ ?_ ?_); rotate_left; (simp only [go_sem, pr, keepSl, ↓reduceIte, Nat.reduceEqDiff]; try rfl); clear hK' K') | (clear hK' K'; first | omega | (with_reducible refine drawOk_k ?_; kernel_rfl) | assumption | refine Eq.refl _ | exact fun h => ⟨h, fun k => ⟨h, k⟩⟩ | (intro _; (repeat' apply And.intro) <;> first | omega | assumption) | skip))
        | with_reducible first | refine W_skip ?_ | refine W_exit ?_ | refine W_ret ?_ | refine W_block ?_ | refine thenG_n ?_ | refine thenG_x ?_ | refine thenG_r ?_ | refine blockG_n ?_ | refine blockG_r ?_ | refine blockG_x ?_ | refine blockG_o (by decide) ?_
      refine W_cond _ (by exact rfl) (by exact trivial) ?_ ?_ <;> intro hc
      · obtain ⟨hi1, hi2⟩ : i < l.length ∧ i < fate.length := by
          split at hc
          · simp only [decide_eq_true_eq] at hc; omega
          · cases hc
        clear hc
        obtain ⟨ws, w1, w2, w3⟩ := Dk.ok_late hok i hi1
        have hsm := Dk.fallN_sm hok fate i (show i ≤ l.length by omega)
        have hd : (Dk.mk a b l).fallN fate (i + 1) = fell (fate.getD i ET.int.dflt) ((Dk.mk a b l).fallN fate i) (l.getD i ET.late.dflt) := rfl
        obtain ⟨-, -, hab, -⟩ := (Dk.ok_iff _).1 hok
        simp only at ws w1 w2 w3 hd hab
        generalize hx : (Dk.mk a b l).fallN fate i = x at *
        generalize hw : l.getD i ET.late.dflt = w at *
        generalize hf : fate.getD i ET.int.dflt = f at *
        obtain ⟨s, k, t⟩ := w
        have hz := hsm.sec s k
        unfold sec at hz
        simp only at ws w1 w2 w3
        repeat' first
          | refine W_seq ?_
          | (refine W_reg (s_specFall_K.env []) s_specFall_lv fun K' hK' => ?_
             simp only [go_sem, hw, hf, ↓reduceIte, ↓reduceDIte, reduceCtorEq, Nat.reduceAdd, Nat.reduceMul, Nat.reduceSub, Nat.reduceLT, Nat.reduceLeDiff, Nat.reduceEqDiff, Nat.reduceBEq, Int.reduceToNat, Int.reduceLE, Int.reduceLT, Int.reduceEq, Int.reduceNe, Int.reduceNeg]
             (repeat' apply And.intro) <;> try first | ((with_reducible refine hK' _ ?_ ?_ ?_); rotate_left; (simp only [go_sem, hw, hf, pr, keepSl, ↓reduceIte, Nat.reduceEqDiff]; try rfl); clear hK' K') | (clear hK' K'; first | omega | (with_reducible refine drawOk_k ?_; kernel_rfl) | assumption | refine Eq.refl _ | exact fun h => ⟨h, fun k => ⟨h, k⟩⟩ | (intro _; (repeat' apply And.intro) <;> first | omega | assumption) | skip))
          | with_reducible first | refine W_skip ?_ | refine W_exit ?_ | refine W_ret ?_ | refine W_block ?_ | refine thenG_n ?_ | refine thenG_x ?_ | refine thenG_r ?_ | refine blockG_n ?_ | refine blockG_r ?_ | refine blockG_x ?_ | refine blockG_o (by decide) ?_
        refine W_cond _ (by exact rfl) (by exact trivial) ?_ ?_ <;> intro hc
        · obtain rfl : f = 1 := by simpa using hc
          rcases ws with rfl | rfl
          all_goals
            repeat' first
              | refine W_seq ?_
              | (refine W_reg (s_specFall_K.env []) s_specFall_lv fun K' hK' => ?_
                 simp only [go_sem, hw, hf, ↓reduceIte, ↓reduceDIte, reduceCtorEq, Nat.reduceAdd, Nat.reduceMul, Nat.reduceSub, Nat.reduceLT, Nat.reduceLeDiff, Nat.reduceEqDiff, Nat.reduceBEq, Int.reduceToNat, Int.reduceLE, Int.reduceLT, Int.reduceEq, Int.reduceNe, Int.reduceNeg]
                 (repeat' apply And.intro) <;> try first | ((with_reducible refine hK' _ ?_ ?_ ?_); rotate_left; (simp only [go_sem, hw, hf, pr, keepSl, ↓reduceIte, Nat.reduceEqDiff]; try rfl); clear hK' K') | (clear hK' K'; first | omega | (with_reducible refine drawOk_k ?_; kernel_rfl) | assumption | refine Eq.refl _ | exact fun h => ⟨h, fun k => ⟨h, k⟩⟩ | (intro _; (repeat' apply And.intro) <;> first | omega | assumption) | skip))
              | with_reducible first | refine W_skip ?_ | refine W_exit ?_ | refine W_ret ?_ | refine W_block ?_ | refine thenG_n ?_ | refine thenG_x ?_ | refine thenG_r ?_ | refine blockG_n ?_ | refine blockG_r ?_ | refine blockG_x ?_ | refine blockG_o (by decide) ?_
            refine ⟨l.length - (i + 1), [some 0, some 1, some 2, some 3, some 4, some 5], sgFall a b l fate ((Dk.mk a b l).fallN fate (i + 1)) (i + 1), by omega, ?_, i + 1, by omega, rfl, rfl⟩
            rw [hd]
            simp only [go_sem, fell, putW, List.length_set, ↓reduceIte, reduceCtorEq, Nat.reduceAdd, Nat.reduceLT, Nat.reduceLeDiff, Nat.reduceEqDiff, Int.reduceEq, TC.val.injEq, Value.bool.injEq, Value.int.injEq, Value.string.injEq, TV.one.injEq]
            all_goals (repeat' apply And.intro) <;> try first | rfl | trivial | omega | (rw [wrap_id] <;> omega)
        · have hf1 : ¬ f = 1 := by simpa using hc
          repeat' first
            | refine W_seq ?_
            | (refine W_reg (s_specFall_K.env []) s_specFall_lv fun K' hK' => ?_
               simp only [go_sem, hw, hf, ↓reduceIte, ↓reduceDIte, reduceCtorEq, Nat.reduceAdd, Nat.reduceMul, Nat.reduceSub, Nat.reduceLT, Nat.reduceLeDiff, Nat.reduceEqDiff, Nat.reduceBEq, Int.reduceToNat, Int.reduceLE, Int.reduceLT, Int.reduceEq, Int.reduceNe, Int.reduceNeg]
               (repeat' apply And.intro) <;> try first | ((with_reducible refine hK' _ ?_ ?_ ?_); rotate_left; (simp only [go_sem, hw, hf, pr, keepSl, ↓reduceIte, Nat.reduceEqDiff]; try rfl); clear hK' K') | (clear hK' K'; first | omega | (with_reducible refine drawOk_k ?_; kernel_rfl) | assumption | refine Eq.refl _ | exact fun h => ⟨h, fun k => ⟨h, k⟩⟩ | (intro _; (repeat' apply And.intro) <;> first | omega | assumption) | skip))
            | with_reducible first | refine W_skip ?_ | refine W_exit ?_ | refine W_ret ?_ | refine W_block ?_ | refine thenG_n ?_ | refine thenG_x ?_ | refine thenG_r ?_ | refine blockG_n ?_ | refine blockG_r ?_ | refine blockG_x ?_ | refine blockG_o (by decide) ?_
          refine W_cond _ (by exact rfl) (by exact trivial) ?_ ?_ <;> intro hc2
          · obtain rfl : f = 2 := by simpa using hc2
            rcases ws with rfl | rfl
            all_goals
              simp only [↓reduceIte, Int.reduceEq, ET.at] at hz
              repeat' first
                | refine W_seq ?_
                | (refine W_reg (s_specFall_K.env []) s_specFall_lv fun K' hK' => ?_
                   simp only [go_sem, hw, hf, ↓reduceIte, ↓reduceDIte, reduceCtorEq, Nat.reduceAdd, Nat.reduceMul, Nat.reduceSub, Nat.reduceLT, Nat.reduceLeDiff, Nat.reduceEqDiff, Nat.reduceBEq, Int.reduceToNat, Int.reduceLE, Int.reduceLT, Int.reduceEq, Int.reduceNe, Int.reduceNeg]
                   (repeat' apply And.intro) <;> try first | ((with_reducible refine hK' _ ?_ ?_ ?_); rotate_left; (simp only [go_sem, hw, hf, pr, keepSl, ↓reduceIte, Nat.reduceEqDiff]; try rfl); clear hK' K') | (clear hK' K'; first | omega | (with_reducible refine drawOk_k ?_; kernel_rfl) | assumption | refine Eq.refl _ | exact fun h => ⟨h, fun k => ⟨h, k⟩⟩ | (intro _; (repeat' apply And.intro) <;> first | omega | assumption) | skip))
                | with_reducible first | refine W_skip ?_ | refine W_exit ?_ | refine W_ret ?_ | refine W_block ?_ | refine thenG_n ?_ | refine thenG_x ?_ | refine thenG_r ?_ | refine blockG_n ?_ | refine blockG_r ?_ | refine blockG_x ?_ | refine blockG_o (by decide) ?_
              refine ⟨l.length - (i + 1), [some 0, some 1, some 2, some 3, some 4, some 5], sgFall a b l fate ((Dk.mk a b l).fallN fate (i + 1)) (i + 1), by omega, ?_, i + 1, by omega, rfl, rfl⟩
              rw [hd]
              simp only [go_sem, fell, putW, sec, List.length_set, ↓reduceIte, reduceCtorEq, Nat.reduceAdd, Nat.reduceLT, Nat.reduceLeDiff, Nat.reduceEqDiff, Int.reduceEq, TC.val.injEq, Value.bool.injEq, Value.int.injEq, Value.string.injEq, TV.one.injEq]
              all_goals (repeat' apply And.intro) <;> try first | rfl | trivial | omega | (rw [wrap_id] <;> omega)
          · have hf2 : ¬ f = 2 := by simpa using hc2
            repeat' first
              | refine W_seq ?_
              | (refine W_reg (s_specFall_K.env []) s_specFall_lv fun K' hK' => ?_
                 simp only [go_sem, hw, hf, ↓reduceIte, ↓reduceDIte, reduceCtorEq, Nat.reduceAdd, Nat.reduceMul, Nat.reduceSub, Nat.reduceLT, Nat.reduceLeDiff, Nat.reduceEqDiff, Nat.reduceBEq, Int.reduceToNat, Int.reduceLE, Int.reduceLT, Int.reduceEq, Int.reduceNe, Int.reduceNeg]
                 (repeat' apply And.intro) <;> try first | ((with_reducible refine hK' _ ?_ ?_ ?_); rotate_left; (simp only [go_sem, hw, hf, pr, keepSl, ↓reduceIte, Nat.reduceEqDiff]; try rfl); clear hK' K') | (clear hK' K'; first | omega | (with_reducible refine drawOk_k ?_; kernel_rfl) | assumption | refine Eq.refl _ | exact fun h => ⟨h, fun k => ⟨h, k⟩⟩ | (intro _; (repeat' apply And.intro) <;> first | omega | assumption) | skip))
              | with_reducible first | refine W_skip ?_ | refine W_exit ?_ | refine W_ret ?_ | refine W_block ?_ | refine thenG_n ?_ | refine thenG_x ?_ | refine thenG_r ?_ | refine blockG_n ?_ | refine blockG_r ?_ | refine blockG_x ?_ | refine blockG_o (by decide) ?_
            refine ⟨l.length - (i + 1), [some 0, some 1, some 2, some 3, some 4, some 5], sgFall a b l fate ((Dk.mk a b l).fallN fate (i + 1)) (i + 1), by omega, ?_, i + 1, by omega, rfl, rfl⟩
            rw [hd]
            simp only [go_sem, fell, hf1, hf2, ↓reduceIte, reduceCtorEq, Nat.reduceAdd, Nat.reduceLT, Nat.reduceLeDiff, Nat.reduceEqDiff, Int.reduceEq, TC.val.injEq, Value.bool.injEq, Value.int.injEq, Value.string.injEq, TV.one.injEq]
            all_goals (repeat' apply And.intro) <;> try first | rfl | trivial | omega | (rw [wrap_id] <;> omega)
      · have : i = min l.length fate.length := by
          split at hc
          · simp only [decide_eq_false_iff_not] at hc; omega
          · omega
        subst this
        repeat' first
          | refine W_seq ?_
          | (refine W_reg (s_specFall_K.env []) s_specFall_lv fun K' hK' => ?_
             simp only [go_sem, ↓reduceIte, ↓reduceDIte, reduceCtorEq, Nat.reduceAdd, Nat.reduceMul, Nat.reduceSub, Nat.reduceLT, Nat.reduceLeDiff, Nat.reduceEqDiff, Nat.reduceBEq, Int.reduceToNat, Int.reduceLE, Int.reduceLT, Int.reduceEq, Int.reduceNe, Int.reduceNeg]
             (repeat' apply And.intro) <;> try first | ((with_reducible refine hK' _ ?_ ?_ ?_); rotate_left; (simp only [go_sem, pr, keepSl, ↓reduceIte, Nat.reduceEqDiff]; try rfl); clear hK' K') | (clear hK' K'; first | omega | (with_reducible refine drawOk_k ?_; kernel_rfl) | assumption | refine Eq.refl _ | exact fun h => ⟨h, fun k => ⟨h, k⟩⟩ | (intro _; (repeat' apply And.intro) <;> first | omega | assumption) | skip))
          | with_reducible first | refine W_skip ?_ | refine W_exit ?_ | refine W_ret ?_ | refine W_block ?_ | refine thenG_n ?_ | refine thenG_x ?_ | refine thenG_r ?_ | refine blockG_n ?_ | refine blockG_r ?_ | refine blockG_x ?_ | refine blockG_o (by decide) ?_
        refine ⟨by (simp only [go_sem, e1, Dk.fallen, ↓reduceIte, reduceCtorEq, Nat.reduceAdd, Nat.reduceLT, Nat.reduceLeDiff, Nat.reduceEqDiff]) <;> trivial, [some 2, some 3, none], ?_⟩
        all_goals try simp only [go_sem, e1, Dk.fallen, ↓reduceIte, reduceCtorEq, Nat.reduceAdd, Nat.reduceLT, Nat.reduceLeDiff, Nat.reduceEqDiff, Int.reduceEq, TC.val.injEq, Value.bool.injEq, Value.int.injEq, Value.string.injEq, TV.one.injEq]
        all_goals (repeat' apply And.intro) <;> try first | rfl | trivial | omega | (rw [wrap_id] <;> omega)
  · simp [no] at hp
end Go.Proofs.Ytfmeopnankeaeaa
