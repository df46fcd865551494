/- Functions: where a set stands, the program's. -/
import Derived.Test.YtfmeopnankeaeaaDoorTFbs
import Derived.Test.YtfmeopnankeaeaaDoorTSh2
set_option linter.unusedSimpArgs false
set_option linter.unusedVariables false
set_option linter.unusedSectionVars false
namespace Go.Proofs.YtfmeopnankeaeaaDoor
open Go.RowKit

def cmpB (a b : ByteArray) : Int := Lib.compareBytes a.data.toList b.data.toList
theorem cmp_less : ∀ x y : List UInt8, Lib.compareBytes x y < 0 ↔ Op.bytesLess x y = true
  | [], [] => by simp [Lib.compareBytes, Op.bytesLess]
  | [], _ :: _ => by simp [Lib.compareBytes, Op.bytesLess]
  | _ :: _, [] => by simp [Lib.compareBytes, Op.bytesLess]
  | a :: x, b :: y => by
    simp only [Lib.compareBytes, Op.bytesLess, Bool.or_eq_true, Bool.and_eq_true, decide_eq_true_eq, beq_iff_eq]
    by_cases h : a < b
    · simp [h]
    · by_cases h2 : b < a
      · have hne : a ≠ b := fun e => by subst e; exact h h2
        simp [h, h2, hne]
      · have e : a = b := by
          rw [UInt8.lt_iff_toNat_lt] at h h2
          exact UInt8.toNat_inj.1 (by omega)
        subst e
        simp [h, cmp_less x y]
theorem cmp_same : ∀ x y : List UInt8, Lib.compareBytes x y = 0 ↔ x = y
  | [], [] => by simp [Lib.compareBytes]
  | [], _ :: _ => by simp [Lib.compareBytes]
  | _ :: _, [] => by simp [Lib.compareBytes]
  | a :: x, b :: y => by
    simp only [Lib.compareBytes]
    by_cases h : a < b
    · have hne : a ≠ b := fun e => by
        subst e; rw [UInt8.lt_iff_toNat_lt] at h; omega
      simp [h, hne]
    · by_cases h2 : b < a
      · have hne : a ≠ b := fun e => by subst e; exact h h2
        simp [h, h2, hne]
      · have e : a = b := by
          rw [UInt8.lt_iff_toNat_lt] at h h2
          exact UInt8.toNat_inj.1 (by omega)
        subst e
        simp [h, cmp_same x y]
theorem cmpB_less (a b : ByteArray) : decide (cmpB a b < 0) = lessB a b := by
  rw [Bool.eq_iff_iff, decide_eq_true_eq]
  unfold cmpB lessB
  rw [cmp_less, ByteArray.toList_eq, ByteArray.toList_eq]
theorem cmpB_same (a b : ByteArray) : (cmpB a b == 0) = same a b := by
  rw [Bool.eq_iff_iff, beq_iff_eq, same_true]
  unfold cmpB
  rw [cmp_same]
  constructor
  · intro h
    obtain ⟨⟨a⟩⟩ := a
    obtain ⟨⟨b⟩⟩ := b
    simpa using h
  · rintro rfl; rfl
@[go_sem] def ctCmp : Ct := ⟨false, [], fun args os => match args, os with
  | [.one (.val (.string a)), .one (.val (.string b))], [] => is (vi (cmpB a b))
  | _, _ => no⟩
theorem s_cmpStr_e : EnterOk Tryd.prog 64 := ⟨_, Tryd.func64, rfl, by decide⟩
theorem s_cmpStr : Sound Tryd.prog 64 ctCmp := by
  refine sound_plain fun args os hp => ?_
  unfold ctCmp at hp ⊢
  dsimp only at hp ⊢
  split at hp
  · rename_i a b
    refine ⟨rfl, [.string a, .string b], .int .i64 (cmpB a b), rfl, rfl, fun w => ?_⟩
    refine (Any.bytealg_CompareString Tryd.lays213 a b w).mono ?_
    rintro e w' ⟨rfl, rfl⟩
    exact ⟨rfl, Below.refl _ _⟩
  · exact hp.elim
theorem s_compare_e : EnterOk Tryd.prog 55 := ⟨_, Tryd.func55, rfl, by decide⟩
@[go_sem] def s_compare_lv : List (List Nat) := [[0, 1], [4]]
@[go_sem] noncomputable def s_compare_K : Known := (Known.nil).cons 64 ctCmp s_cmpStr s_cmpStr_e
set_option maxHeartbeats 8000000 in
theorem s_compare : Sound Tryd.prog 55 ctCmp := by
  refine sound_intro (E := ⟨ti, s_compare_K.Γ, []⟩) (s_compare_K.env []) Tryd.func55 Tryd.ntmps55 rfl (rs := [.tmp 4]) rfl ?_
  intro args os hp
  unfold ctCmp at hp ⊢
  dsimp only at hp ⊢
  split at hp
  · rename_i a b
    refine ⟨by simp, fun φ0 w0 => ?_⟩
    repeat' first
      | refine W_seq ?_
      | (refine W_reg (s_compare_K.env []) s_compare_lv fun K' hK' => ?_
         simp only [go_sem, ↓reduceIte, ↓reduceDIte, reduceCtorEq, Nat.reduceAdd, Nat.reduceMul, Nat.reduceSub, Nat.reduceLT, Nat.reduceLeDiff, Nat.reduceEqDiff, Nat.reduceBEq, Int.reduceToNat, Int.reduceLE, Int.reduceLT, Int.reduceEq, Int.reduceNe, Int.reduceNeg]
         (repeat' apply And.intro) <;> try first | ((with_reducible refine hK' _ ?_ ?_ ?_); rotate_left; (simp only [go_sem, pr, keepSl, ↓reduceIte, Nat.reduceEqDiff]; try rfl); clear hK' K') | (clear hK' K'; first | omega | (with_reducible refine drawOk_k ?_; kernel_rfl) | assumption | refine Eq.refl _ | exact fun h => ⟨h, fun k => ⟨h, k⟩⟩ | (intro _; (repeat' apply And.intro) <;> first | omega | assumption) | skip))
      | with_reducible first | refine W_skip ?_ | refine W_exit ?_ | refine W_ret ?_ | refine W_block ?_ | refine thenG_n ?_ | refine thenG_x ?_ | refine thenG_r ?_ | refine blockG_n ?_ | refine blockG_r ?_ | refine blockG_x ?_ | refine blockG_o (by decide) ?_
    refine ⟨by (simp only [go_sem, ↓reduceIte, reduceCtorEq, Nat.reduceAdd, Nat.reduceLT, Nat.reduceLeDiff, Nat.reduceEqDiff]) <;> trivial, [], ?_⟩
    all_goals try simp only [go_sem, ↓reduceIte, reduceCtorEq, Nat.reduceAdd, Nat.reduceLT, Nat.reduceLeDiff, Nat.reduceEqDiff, Int.reduceEq, TC.val.injEq, Value.bool.injEq, Value.int.injEq, Value.string.injEq, TV.one.injEq]
    all_goals (repeat' apply And.intro) <;> try first | rfl | trivial | omega | (rw [wrap_id] <;> omega)
  · simp [no, is] at hp
@[go_sem] def ctPlace1 : Ct := ⟨false, [], fun args os => match args, os with
  | [.agg cs, .one (.val (.string b))], [] => (match bsetOf cs with | some s => is (vi (cmpB s.name b)) | none => no)
  | _, _ => no⟩
theorem s_place1_e : EnterOk Tryd.prog 54 := ⟨_, Tryd.func54, rfl, by decide⟩
@[go_sem] def s_place1_lv : List (List Nat) := [[1, 2], [4]]
@[go_sem] noncomputable def s_place1_K : Known := (Known.nil).cons 55 ctCmp s_compare s_compare_e
set_option maxHeartbeats 8000000 in
theorem s_place1 : Sound Tryd.prog 54 ctPlace1 := by
  refine sound_intro (E := ⟨ti, s_place1_K.Γ, []⟩) (s_place1_K.env []) Tryd.func54 Tryd.ntmps54 rfl (rs := [.tmp 4]) rfl ?_
  intro args os hp
  unfold ctPlace1 at hp ⊢
  dsimp only at hp ⊢
  split at hp
  · rename_i cs b
    split at hp
    · rename_i s hs
      obtain rfl := bsetOf_some hs
      clear hs hp
      refine ⟨by simp, fun φ0 w0 => ?_⟩
      repeat' first
        | refine W_seq ?_
        | (refine W_reg (s_place1_K.env []) s_place1_lv fun K' hK' => ?_
           simp only [go_sem, ↓reduceIte, ↓reduceDIte, reduceCtorEq, Nat.reduceAdd, Nat.reduceMul, Nat.reduceSub, Nat.reduceLT, Nat.reduceLeDiff, Nat.reduceEqDiff, Nat.reduceBEq, Int.reduceToNat, Int.reduceLE, Int.reduceLT, Int.reduceEq, Int.reduceNe, Int.reduceNeg]
           (repeat' apply And.intro) <;> try first | ((with_reducible refine hK' _ ?_ ?_ ?_); rotate_left; (simp only [go_sem, pr, keepSl, ↓reduceIte, Nat.reduceEqDiff]; try rfl); clear hK' K') | (clear hK' K'; first | omega | (with_reducible refine drawOk_k ?_; kernel_rfl) | assumption | refine Eq.refl _ | exact fun h => ⟨h, fun k => ⟨h, k⟩⟩ | (intro _; (repeat' apply And.intro) <;> first | omega | assumption) | skip))
        | with_reducible first | refine W_skip ?_ | refine W_exit ?_ | refine W_ret ?_ | refine W_block ?_ | refine thenG_n ?_ | refine thenG_x ?_ | refine thenG_r ?_ | refine blockG_n ?_ | refine blockG_r ?_ | refine blockG_x ?_ | refine blockG_o (by decide) ?_
      refine ⟨by (simp only [go_sem, ↓reduceIte, reduceCtorEq, Nat.reduceAdd, Nat.reduceLT, Nat.reduceLeDiff, Nat.reduceEqDiff]) <;> trivial, [], ?_⟩
      all_goals try simp only [go_sem, ↓reduceIte, reduceCtorEq, Nat.reduceAdd, Nat.reduceLT, Nat.reduceLeDiff, Nat.reduceEqDiff, Int.reduceEq, TC.val.injEq, Value.bool.injEq, Value.int.injEq, Value.string.injEq, TV.one.injEq]
      all_goals (repeat' apply And.intro) <;> try first | rfl | trivial | omega | (rw [wrap_id] <;> omega)
    · simp [no] at hp
  · simp [no] at hp
@[go_sem] noncomputable def ctSearch : Ct := ⟨false, [[some .bset]], fun args os => match args, os with
  | [.one (.isl .bset xs), .one (.val (.string name)), .one (.fn 54 [])], [] => ifp (xs.length ≤ 4000000 ∧ Sorted xs) (.tup [vi (lowN xs name), vb (thereB xs name)])
  | _, _ => no⟩
@[go_sem] def sgSearch (xs : List BSet) (name : ByteArray) (i j : Nat) : Sg := ⟨[(0, .one (.isl .bset xs)), (1, vs name), (2, .one (.fn 54 [])), (8, vi xs.length), (9, vi i), (10, vi j)], [], []⟩
theorem Sorted.high {xs : List BSet} (h : Sorted xs) (name : ByteArray) {i j : Nat} (hij : i ≤ j) (hj : j < xs.length) (hs : lessB (xs.getD i ET.bset.dflt).name name = false) : lessB (xs.getD j ET.bset.dflt).name name = false := by
  rcases Nat.eq_or_lt_of_le hij with rfl | hlt
  · exact hs
  · rw [← Bool.not_eq_true]
    intro h1
    have h2 := h.lt i (j - i - 1) (by omega)
    rw [show i + (j - i - 1) + 1 = j by omega] at h2
    rw [less_trans h2 h1] at hs; cases hs
theorem Sorted.low {xs : List BSet} (h : Sorted xs) (name : ByteArray) {i j : Nat} (hij : i ≤ j) (hj : j < xs.length) (hs : lessB (xs.getD j ET.bset.dflt).name name = true) : lessB (xs.getD i ET.bset.dflt).name name = true := by
  rw [← Bool.not_eq_false]
  intro h1
  rw [h.high name hij hj h1] at hs; cases hs
theorem half (i j : Nat) (hi : i ≤ 4000000) (hj : j ≤ 4000000) : IntKind.i64.wrap ((IntKind.u64.wrap (IntKind.i64.wrap ((i : Int) + (j : Int)))).fdiv (2 ^ min 1 64)) = ((i + j) / 2 : Nat) := by
  rw [wrap_id ((i : Int) + j) (by omega) (by omega)]
  have hu : IntKind.u64.wrap ((i : Int) + j) = (i : Int) + j := by
    unfold IntKind.wrap
    simp [IntKind.signed, IntKind.bits]
    omega
  rw [hu, show ((2 : Int) ^ min 1 64) = 2 from rfl, Int.fdiv_eq_ediv_of_nonneg _ (by decide), wrap_id _ (by omega) (by omega)]
  omega
theorem s_search_e : EnterOk Tryd.prog 53 := ⟨_, Tryd.func53, rfl, by decide⟩
@[go_sem] def s_search_lv : List (List Nat) := [[0, 1, 2], [0, 1, 2, 8], [0, 1, 2, 8, 9, 10], [0, 1, 2, 8, 9, 10, 17], [0, 1, 2, 8, 9, 10, 11], [0, 1, 2, 8, 9, 10, 11, 31], [0, 1, 2, 8, 9, 10], [0, 1, 2, 8, 9, 10], [6, 7]]
@[go_sem] noncomputable def s_search_K : Known := (Known.nil).cons 54 ctPlace1 s_place1 s_place1_e
set_option maxHeartbeats 8000000 in
theorem s_search : Sound Tryd.prog 53 ctSearch := by
  refine sound_intro (E := ⟨ti, s_search_K.Γ, []⟩) (s_search_K.env []) Tryd.func53 Tryd.ntmps53 rfl (rs := [.tmp 6, .tmp 7]) rfl ?_
  intro args os hp
  unfold ctSearch at hp ⊢
  dsimp only at hp ⊢
  split at hp
  · rename_i xs name
    refine ⟨by simp, fun φ0 w0 => ?_⟩
    obtain ⟨hlen, hso⟩ : xs.length ≤ 4000000 ∧ Sorted xs := hp
    repeat' first
      | refine W_seq ?_
      | (refine W_reg (s_search_K.env []) s_search_lv fun K' hK' => ?_
         simp only [go_sem, ↓reduceIte, ↓reduceDIte, reduceCtorEq, Nat.reduceAdd, Nat.reduceMul, Nat.reduceSub, Nat.reduceLT, Nat.reduceLeDiff, Nat.reduceEqDiff, Nat.reduceBEq, Int.reduceToNat, Int.reduceLE, Int.reduceLT, Int.reduceEq, Int.reduceNe, Int.reduceNeg]
         (repeat' apply And.intro) <;> try first | ((with_reducible refine hK' _ ?_ ?_ ?_); rotate_left; (simp only [go_sem, pr, keepSl, ↓reduceIte, Nat.reduceEqDiff]; try rfl); clear hK' K') | (clear hK' K'; first | omega | (with_reducible refine drawOk_k ?_; kernel_rfl) | assumption | refine Eq.refl _ | exact fun h => ⟨h, fun k => ⟨h, k⟩⟩ | (intro _; (repeat' apply And.intro) <;> first | omega | assumption) | skip))
      | with_reducible first | refine W_skip ?_ | refine W_exit ?_ | refine W_ret ?_ | refine W_block ?_ | refine thenG_n ?_ | refine thenG_x ?_ | refine thenG_r ?_ | refine blockG_n ?_ | refine blockG_r ?_ | refine blockG_x ?_ | refine blockG_o (by decide) ?_
    refine W_le (σ' := sgSearch xs name 0 xs.length) [] (by
      simp only [go_sem, ↓reduceIte, reduceCtorEq, Nat.reduceAdd, Nat.reduceLT, Nat.reduceLeDiff, Nat.reduceEqDiff, Int.reduceEq, TC.val.injEq, Value.bool.injEq, Value.int.injEq, Value.string.injEq, TV.one.injEq]
      all_goals (repeat' apply And.intro) <;> try first | rfl | trivial | omega | (rw [wrap_id] <;> omega)
      ) ?_
    refine W_loop (fun q σ => ∃ i j : Nat, i ≤ j ∧ j ≤ xs.length ∧ q = j - i ∧ (∀ k, k < i → lessB (xs.getD k ET.bset.dflt).name name = true) ∧ (j < xs.length → lessB (xs.getD j ET.bset.dflt).name name = false) ∧ σ = sgSearch xs name i j) xs.length ⟨0, xs.length, by omega, by omega, by omega, by omega, by omega, rfl⟩ ?_
    rintro q σ ⟨i, j, hij, hj, rfl, hlo, hhi, rfl⟩
    unfold sgSearch
    repeat' first
      | refine W_seq ?_
      | (refine W_reg (s_search_K.env []) s_search_lv fun K' hK' => ?_
         simp only [go_sem, ↓reduceIte, ↓reduceDIte, reduceCtorEq, Nat.reduceAdd, Nat.reduceMul, Nat.reduceSub, Nat.reduceLT, Nat.reduceLeDiff, Nat.reduceEqDiff, Nat.reduceBEq, Int.reduceToNat, Int.reduceLE, Int.reduceLT, Int.reduceEq, Int.reduceNe, Int.reduceNeg]
         (repeat' apply And.intro) <;> try first | ((with_reducible refine hK' _ ?_ ?_ ?_); rotate_left; (simp only [go_sem, pr, keepSl, ↓reduceIte, Nat.reduceEqDiff]; try rfl); clear hK' K') | (clear hK' K'; first | omega | (with_reducible refine drawOk_k ?_; kernel_rfl) | assumption | refine Eq.refl _ | exact fun h => ⟨h, fun k => ⟨h, k⟩⟩ | (intro _; (repeat' apply And.intro) <;> first | omega | assumption) | skip))
      | with_reducible first | refine W_skip ?_ | refine W_exit ?_ | refine W_ret ?_ | refine W_block ?_ | refine thenG_n ?_ | refine thenG_x ?_ | refine thenG_r ?_ | refine blockG_n ?_ | refine blockG_r ?_ | refine blockG_x ?_ | refine blockG_o (by decide) ?_
    refine W_cond _ (by exact rfl) (by exact trivial) ?_ ?_ <;> (try simp only [Bool.if_true_left, Bool.if_false_right, Bool.if_true_right, Bool.if_false_left, Bool.decide_eq_true, Bool.or_assoc, Bool.and_assoc, Bool.and_true, Bool.or_false, Bool.true_and, Bool.false_or, decide_eq_true_eq, decide_eq_false_iff_not, not_and, not_or, Classical.not_not, Bool.and_eq_true, Bool.or_eq_true, Bool.not_eq_true', Bool.not_eq_false', Bool.or_eq_false_iff, Bool.and_eq_false_iff, bne_iff_ne, ne_eq, beq_iff_eq, bne_eq_false_iff_eq, same_true, same_false, Int.ofNat_inj]) <;> intro hlt
    · have hH := half i j (by omega) (by omega)
      obtain ⟨h, hh⟩ : ∃ h, (i + j) / 2 = h := ⟨_, rfl⟩
      rw [hh] at hH
      repeat' first
        | refine W_seq ?_
        | (refine W_reg (s_search_K.env []) s_search_lv fun K' hK' => ?_
           simp only [go_sem, hH, cmpB_less, ↓reduceIte, ↓reduceDIte, reduceCtorEq, Nat.reduceAdd, Nat.reduceMul, Nat.reduceSub, Nat.reduceLT, Nat.reduceLeDiff, Nat.reduceEqDiff, Nat.reduceBEq, Int.reduceToNat, Int.reduceLE, Int.reduceLT, Int.reduceEq, Int.reduceNe, Int.reduceNeg]
           (repeat' apply And.intro) <;> try first | ((with_reducible refine hK' _ ?_ ?_ ?_); rotate_left; (simp only [go_sem, hH, cmpB_less, pr, keepSl, ↓reduceIte, Nat.reduceEqDiff]; try rfl); clear hK' K') | (clear hK' K'; first | omega | (with_reducible refine drawOk_k ?_; kernel_rfl) | assumption | refine Eq.refl _ | exact fun h => ⟨h, fun k => ⟨h, k⟩⟩ | (intro _; (repeat' apply And.intro) <;> first | omega | assumption) | skip))
        | with_reducible first | refine W_skip ?_ | refine W_exit ?_ | refine W_ret ?_ | refine W_block ?_ | refine thenG_n ?_ | refine thenG_x ?_ | refine thenG_r ?_ | refine blockG_n ?_ | refine blockG_r ?_ | refine blockG_x ?_ | refine blockG_o (by decide) ?_
      refine W_cond _ (by exact rfl) (by exact trivial) ?_ ?_ <;> intro hc
      · repeat' first
          | refine W_seq ?_
          | (refine W_reg (s_search_K.env []) s_search_lv fun K' hK' => ?_
             simp only [go_sem, ↓reduceIte, ↓reduceDIte, reduceCtorEq, Nat.reduceAdd, Nat.reduceMul, Nat.reduceSub, Nat.reduceLT, Nat.reduceLeDiff, Nat.reduceEqDiff, Nat.reduceBEq, Int.reduceToNat, Int.reduceLE, Int.reduceLT, Int.reduceEq, Int.reduceNe, Int.reduceNeg]
             (repeat' apply And.intro) <;> try first | ((with_reducible refine hK' _ ?_ ?_ ?_); rotate_left; (simp only [go_sem, pr, keepSl, ↓reduceIte, Nat.reduceEqDiff]; try rfl); clear hK' K') | (clear hK' K'; first | omega | (with_reducible refine drawOk_k ?_; kernel_rfl) | assumption | refine Eq.refl _ | exact fun h => ⟨h, fun k => ⟨h, k⟩⟩ | (intro _; (repeat' apply And.intro) <;> first | omega | assumption) | skip))
          | with_reducible first | refine W_skip ?_ | refine W_exit ?_ | refine W_ret ?_ | refine W_block ?_ | refine thenG_n ?_ | refine thenG_x ?_ | refine thenG_r ?_ | refine blockG_n ?_ | refine blockG_r ?_ | refine blockG_x ?_ | refine blockG_o (by decide) ?_
        refine ⟨j - (h + 1), [], sgSearch xs name (h + 1) j, by omega, ?_, h + 1, j, by omega, hj, rfl, fun k hk => hso.low name (show k ≤ h by omega) (by omega) hc, hhi, rfl⟩
        simp only [go_sem, ↓reduceIte, reduceCtorEq, Nat.reduceAdd, Nat.reduceLT, Nat.reduceLeDiff, Nat.reduceEqDiff, Int.reduceEq, TC.val.injEq, Value.bool.injEq, Value.int.injEq, Value.string.injEq, TV.one.injEq]
        all_goals (repeat' apply And.intro) <;> try first | rfl | trivial | omega | (rw [wrap_id] <;> omega)
      · repeat' first
          | refine W_seq ?_
          | (refine W_reg (s_search_K.env []) s_search_lv fun K' hK' => ?_
             simp only [go_sem, ↓reduceIte, ↓reduceDIte, reduceCtorEq, Nat.reduceAdd, Nat.reduceMul, Nat.reduceSub, Nat.reduceLT, Nat.reduceLeDiff, Nat.reduceEqDiff, Nat.reduceBEq, Int.reduceToNat, Int.reduceLE, Int.reduceLT, Int.reduceEq, Int.reduceNe, Int.reduceNeg]
             (repeat' apply And.intro) <;> try first | ((with_reducible refine hK' _ ?_ ?_ ?_); rotate_left; (simp only [go_sem, pr, keepSl, ↓reduceIte, Nat.reduceEqDiff]; try rfl); clear hK' K') | (clear hK' K'; first | omega | (with_reducible refine drawOk_k ?_; kernel_rfl) | assumption | refine Eq.refl _ | exact fun h => ⟨h, fun k => ⟨h, k⟩⟩ | (intro _; (repeat' apply And.intro) <;> first | omega | assumption) | skip))
          | with_reducible first | refine W_skip ?_ | refine W_exit ?_ | refine W_ret ?_ | refine W_block ?_ | refine thenG_n ?_ | refine thenG_x ?_ | refine thenG_r ?_ | refine blockG_n ?_ | refine blockG_r ?_ | refine blockG_x ?_ | refine blockG_o (by decide) ?_
        refine ⟨h - i, [], sgSearch xs name i h, by omega, ?_, i, h, by omega, by omega, rfl, hlo, fun _ => hc, rfl⟩
        simp only [go_sem, ↓reduceIte, reduceCtorEq, Nat.reduceAdd, Nat.reduceLT, Nat.reduceLeDiff, Nat.reduceEqDiff, Int.reduceEq, TC.val.injEq, Value.bool.injEq, Value.int.injEq, Value.string.injEq, TV.one.injEq]
        all_goals (repeat' apply And.intro) <;> try first | rfl | trivial | omega | (rw [wrap_id] <;> omega)
    · obtain rfl : i = j := by omega
      have e : lowN xs name = i := lowN_eq hj hlo (by
        by_cases h : i < xs.length
        · exact .inr (hhi h)
        · exact .inl (by omega))
      repeat' first
        | refine W_seq ?_
        | (refine W_reg (s_search_K.env []) s_search_lv fun K' hK' => ?_
           simp only [go_sem, cmpB_same, ↓reduceIte, ↓reduceDIte, reduceCtorEq, Nat.reduceAdd, Nat.reduceMul, Nat.reduceSub, Nat.reduceLT, Nat.reduceLeDiff, Nat.reduceEqDiff, Nat.reduceBEq, Int.reduceToNat, Int.reduceLE, Int.reduceLT, Int.reduceEq, Int.reduceNe, Int.reduceNeg]
           (repeat' apply And.intro) <;> try first | ((with_reducible refine hK' _ ?_ ?_ ?_); rotate_left; (simp only [go_sem, cmpB_same, pr, keepSl, ↓reduceIte, Nat.reduceEqDiff]; try rfl); clear hK' K') | (clear hK' K'; first | omega | (with_reducible refine drawOk_k ?_; kernel_rfl) | assumption | refine Eq.refl _ | exact fun h => ⟨h, fun k => ⟨h, k⟩⟩ | (intro _; (repeat' apply And.intro) <;> first | omega | assumption) | skip))
        | with_reducible first | refine W_skip ?_ | refine W_exit ?_ | refine W_ret ?_ | refine W_block ?_ | refine thenG_n ?_ | refine thenG_x ?_ | refine thenG_r ?_ | refine blockG_n ?_ | refine blockG_r ?_ | refine blockG_x ?_ | refine blockG_o (by decide) ?_
      refine ⟨by (simp only [go_sem, e, ↓reduceIte, reduceCtorEq, Nat.reduceAdd, Nat.reduceLT, Nat.reduceLeDiff, Nat.reduceEqDiff]) <;> trivial, [], ?_⟩
      all_goals try simp only [go_sem, e, ↓reduceIte, reduceCtorEq, Nat.reduceAdd, Nat.reduceLT, Nat.reduceLeDiff, Nat.reduceEqDiff, Int.reduceEq, TC.val.injEq, Value.bool.injEq, Value.int.injEq, Value.string.injEq, TV.one.injEq]
      all_goals (repeat' apply And.intro) <;> try first | rfl | trivial | omega | (rw [wrap_id] <;> omega)
      unfold thereB
      rw [e]
      by_cases h : (i : Int) < xs.length
      · rw [if_pos h, decide_eq_true (show i < xs.length by omega), Bool.true_and]
      · rw [if_neg h, decide_eq_false (show ¬ i < xs.length by omega), Bool.false_and]
  · simp [no, ifp] at hp
end Go.Proofs.YtfmeopnankeaeaaDoor
