/- Functions: a set and those from which it comes. -/
import Derived.Test.YtfmeopnankeaeaaDoorTFbt
import Derived.Test.YtfmeopnankeaeaaDoorTFpl
set_option linter.unusedSimpArgs false
set_option linter.unusedVariables false
set_option linter.unusedSectionVars false
namespace Go.Proofs.YtfmeopnankeaeaaDoor
open Go.RowKit

noncomputable def lineN (xs : List BSet) : Nat → ByteArray → List ByteArray
  | 0, _ => []
  | n + 1, name => if thereB xs name = true then name :: lineN xs n (xs.getD (lowN xs name) ET.bset.dflt).from_ else []
theorem line_len (xs : List BSet) : ∀ (n : Nat) (name : ByteArray), (lineN xs n name).length ≤ n
  | 0, _ => Nat.le_refl _
  | n + 1, name => by
    unfold lineN
    split
    · have := line_len xs n (xs.getD (lowN xs name) ET.bset.dflt).from_
      simp only [List.length_cons]; omega
    · exact Nat.zero_le _
theorem line_none {xs : List BSet} {name : ByteArray} (h : thereB xs name = false) : ∀ n, lineN xs n name = []
  | 0 => rfl
  | n + 1 => by unfold lineN; rw [if_neg (by rw [h]; decide)]
/-- The way up from a name ends in so many rounds. -/
def Ends (xs : List BSet) (m : Nat) (name : ByteArray) : Prop := thereB xs name = true → leadsN xs m (xs.getD (lowN xs name) ET.bset.dflt) = true
theorem there_lt {xs : List BSet} {name : ByteArray} (h : thereB xs name = true) : lowN xs name < xs.length ∧ (xs.getD (lowN xs name) ET.bset.dflt).name = name := by
  unfold thereB at h
  rw [Bool.and_eq_true, decide_eq_true_eq, same_true] at h
  exact h
theorem empty_none {xs : List BSet} (h : BookP xs) : thereB xs ⟨#[]⟩ = false := by
  rw [← Bool.not_eq_true]
  intro ht
  obtain ⟨h1, h2⟩ := there_lt ht
  have h3 := (h.each _ h1).name
  rw [h2] at h3
  exact absurd h3 (by decide)
theorem book_sorted {xs : List BSet} (h : BookP xs) : Sorted xs := ⟨fun i h0 hi => (h.each i hi).less h0⟩
theorem ends_next {xs : List BSet} (h : BookP xs) {m : Nat} {name : ByteArray} (he : Ends xs m name) (ht : thereB xs name = true) : ∃ k, m = k + 1 ∧ Ends xs k (xs.getD (lowN xs name) ET.bset.dflt).from_ := by
  have h1 := he ht
  cases m with
  | zero => simp [leadsN] at h1
  | succ k =>
    refine ⟨k, rfl, fun ht2 => ?_⟩
    unfold leadsN at h1
    by_cases hf : same (xs.getD (lowN xs name) ET.bset.dflt).from_ ⟨#[]⟩ = true
    · rw [same_true.1 hf, empty_none h] at ht2; cases ht2
    · rw [if_neg hf] at h1
      split at h1
      · cases h1
      · have hat := (at_low (book_sorted h) (xs.getD (lowN xs name) ET.bset.dflt).from_).1 ht2
        unfold setOf at h1
        rw [hat] at h1
        exact h1
theorem line_more {xs : List BSet} (h : BookP xs) : ∀ (m : Nat) (name : ByteArray), Ends xs m name → lineN xs (m + 1) name = lineN xs m name
  | m, name, he => by
    cases ht : thereB xs name with
    | false => rw [line_none ht, line_none ht]
    | true =>
      obtain ⟨k, rfl, h2⟩ := ends_next h he ht
      have ih := line_more h k _ h2
      show (if thereB xs name = true then name :: lineN xs (k + 1) _ else []) = (if thereB xs name = true then name :: lineN xs k _ else [])
      rw [if_pos ht, if_pos ht, ih]
theorem ends_first {xs : List BSet} (h : BookP xs) (name : ByteArray) : Ends xs xs.length name := fun ht => by
  obtain ⟨h1, -⟩ := there_lt ht
  have h2 := h.leads
  rw [List.any_eq_false] at h2
  have h3 := h2 (xs.getD (lowN xs name) ET.bset.dflt) (by simp [h1])
  simpa using h3
noncomputable def treeLine (xs : List BSet) (name : ByteArray) : List ByteArray := if bookB xs = true then lineN xs xs.length name else []
theorem treeLine_len (xs : List BSet) (name : ByteArray) : (treeLine xs name).length ≤ xs.length := by
  unfold treeLine
  split
  · exact line_len xs _ name
  · exact Nat.zero_le _
@[go_sem] noncomputable def ctPlace : Ct := ⟨false, [[some .bset]], fun args os => match args, os with
  | [.agg [.isl .bset xs], .one (.val (.string name))], [] => ifp (xs.length ≤ 4000000 ∧ Sorted xs) (.tup [vi (lowN xs name), vb (thereB xs name)])
  | _, _ => no⟩
theorem s_place_e : EnterOk Tryd.prog 37 := ⟨_, Tryd.func37, rfl, by decide⟩
@[go_sem] def s_place_lv : List (List Nat) := [[1, 2], [4, 5]]
@[go_sem] noncomputable def s_place_K : Known := ((Known.nil).cons 53 ctSearch s_search s_search_e).cons 54 ctPlace1 s_place1 s_place1_e
set_option maxHeartbeats 8000000 in
theorem s_place : Sound Tryd.prog 37 ctPlace := by
  refine sound_intro (E := ⟨ti, s_place_K.Γ, []⟩) (s_place_K.env []) Tryd.func37 Tryd.ntmps37 rfl (rs := [.tmp 4, .tmp 5]) rfl ?_
  intro args os hp
  unfold ctPlace at hp ⊢
  dsimp only at hp ⊢
  split at hp
  · rename_i xs name
    refine ⟨by simp, fun φ0 w0 => ?_⟩
    obtain ⟨hlen, hso⟩ : xs.length ≤ 4000000 ∧ Sorted xs := hp
    repeat' first
      | refine W_seq ?_
      | (refine W_reg (s_place_K.env []) s_place_lv fun K' hK' => ?_
         simp only [go_sem, ↓reduceIte, ↓reduceDIte, reduceCtorEq, Nat.reduceAdd, Nat.reduceMul, Nat.reduceSub, Nat.reduceLT, Nat.reduceLeDiff, Nat.reduceEqDiff, Nat.reduceBEq, Int.reduceToNat, Int.reduceLE, Int.reduceLT, Int.reduceEq, Int.reduceNe, Int.reduceNeg]
         (repeat' apply And.intro) <;> try first | ((with_reducible refine hK' _ ?_ ?_ ?_); rotate_left; (simp only [go_sem, pr, keepSl, ↓reduceIte, Nat.reduceEqDiff]; try rfl); clear hK' K') | (clear hK' K'; first | omega | (with_reducible refine drawOk_k ?_; kernel_rfl) | assumption | refine Eq.refl _ | exact fun h => ⟨h, fun k => ⟨h, k⟩⟩ | (intro _; (repeat' apply And.intro) <;> first | omega | assumption) | skip))
      | with_reducible first | refine W_skip ?_ | refine W_exit ?_ | refine W_ret ?_ | refine W_block ?_ | refine thenG_n ?_ | refine thenG_x ?_ | refine thenG_r ?_ | refine blockG_n ?_ | refine blockG_r ?_ | refine blockG_x ?_ | refine blockG_o (by decide) ?_
    refine ⟨by (simp only [go_sem, ↓reduceIte, reduceCtorEq, Nat.reduceAdd, Nat.reduceLT, Nat.reduceLeDiff, Nat.reduceEqDiff]) <;> trivial, [], ?_⟩
    all_goals try simp only [go_sem, ↓reduceIte, reduceCtorEq, Nat.reduceAdd, Nat.reduceLT, Nat.reduceLeDiff, Nat.reduceEqDiff, Int.reduceEq, TC.val.injEq, Value.bool.injEq, Value.int.injEq, Value.string.injEq, TV.one.injEq]
    all_goals (repeat' apply And.intro) <;> try first | rfl | trivial | omega | (rw [wrap_id] <;> omega)
  · simp [no, ifp] at hp
@[go_sem] noncomputable def ctTreeLine : Ct := ⟨false, [[some .bset]], fun args os => match args, os with
  | [.agg [.isl .bset xs], .one (.val (.string name))], [] => ⟨xs.length ≤ 4000000 ∧ ∀ i : Nat, (xs.getD i ET.bset.dflt).name.size ≤ 9223372036854775807, .one (.osl .str 0 0 (treeLine xs name).length), [], [.arr .str (treeLine xs name)]⟩
  | _, _ => no⟩
@[go_sem] noncomputable def sgTl (xs : List BSet) (name : ByteArray) (ys : List ByteArray) : Sg := ⟨[(1, vs name), (2, .one (.ptr 0 0)), (5, .one (.osl .str 1 0 ys.length))], [some (.cells [.isl .bset xs]), some (.arr .str ys)], []⟩
theorem s_treeLine_e : EnterOk Tryd.prog 18 := ⟨_, Tryd.func18, rfl, by decide⟩
@[go_sem] def s_treeLine_lv : List (List Nat) := [[1, 2], [1, 2, 10], [4], [1, 2, 5], [1, 2, 5, 6, 7], [1, 2, 5, 6, 18], [4], [2, 5, 6], [1, 2, 5]]
@[go_sem] noncomputable def s_treeLine_K : Known := ((Known.nil).cons 31 ctBookOk s_bookOk s_bookOk_e).cons 37 ctPlace s_place s_place_e
set_option maxHeartbeats 8000000 in
theorem s_treeLine : Sound Tryd.prog 18 ctTreeLine := by
  refine sound_intro (E := ⟨ti, s_treeLine_K.Γ, []⟩) (s_treeLine_K.env []) Tryd.func18 Tryd.ntmps18 rfl (rs := [.tmp 4]) rfl ?_
  intro args os hp
  unfold ctTreeLine at hp ⊢
  dsimp only at hp ⊢
  split at hp
  · rename_i xs name0
    refine ⟨by simp, fun φ0 w0 => ?_⟩
    obtain ⟨hlen, hsz⟩ : xs.length ≤ 4000000 ∧ ∀ i : Nat, (xs.getD i ET.bset.dflt).name.size ≤ 9223372036854775807 := hp
    repeat' first
      | refine W_seq ?_
      | (refine W_reg (s_treeLine_K.env []) s_treeLine_lv fun K' hK' => ?_
         simp only [go_sem, ↓reduceIte, ↓reduceDIte, reduceCtorEq, Nat.reduceAdd, Nat.reduceMul, Nat.reduceSub, Nat.reduceLT, Nat.reduceLeDiff, Nat.reduceEqDiff, Nat.reduceBEq, Int.reduceToNat, Int.reduceLE, Int.reduceLT, Int.reduceEq, Int.reduceNe, Int.reduceNeg]
         (repeat' apply And.intro) <;> try first | ((with_reducible refine hK' _ ?_ ?_ ?_); rotate_left; (simp only [go_sem, pr, keepSl, ↓reduceIte, Nat.reduceEqDiff]; try rfl); clear hK' K') | (clear hK' K'; first | omega | (with_reducible refine drawOk_k ?_; kernel_rfl) | assumption | refine Eq.refl _ | exact fun h => ⟨h, fun k => ⟨h, k⟩⟩ | (intro _; (repeat' apply And.intro) <;> first | omega | assumption) | skip))
      | with_reducible first | refine W_skip ?_ | refine W_exit ?_ | refine W_ret ?_ | refine W_block ?_ | refine thenG_n ?_ | refine thenG_x ?_ | refine thenG_r ?_ | refine blockG_n ?_ | refine blockG_r ?_ | refine blockG_x ?_ | refine blockG_o (by decide) ?_
    refine W_cond _ (by exact rfl) (by exact trivial) ?_ ?_ <;> intro hc
    · have e : treeLine xs name0 = [] := by unfold treeLine; rw [if_neg (by simpa using hc)]
      repeat' first
        | refine W_seq ?_
        | (refine W_reg (s_treeLine_K.env []) s_treeLine_lv fun K' hK' => ?_
           simp only [go_sem, ↓reduceIte, ↓reduceDIte, reduceCtorEq, Nat.reduceAdd, Nat.reduceMul, Nat.reduceSub, Nat.reduceLT, Nat.reduceLeDiff, Nat.reduceEqDiff, Nat.reduceBEq, Int.reduceToNat, Int.reduceLE, Int.reduceLT, Int.reduceEq, Int.reduceNe, Int.reduceNeg]
           (repeat' apply And.intro) <;> try first | ((with_reducible refine hK' _ ?_ ?_ ?_); rotate_left; (simp only [go_sem, pr, keepSl, ↓reduceIte, Nat.reduceEqDiff]; try rfl); clear hK' K') | (clear hK' K'; first | omega | (with_reducible refine drawOk_k ?_; kernel_rfl) | assumption | refine Eq.refl _ | exact fun h => ⟨h, fun k => ⟨h, k⟩⟩ | (intro _; (repeat' apply And.intro) <;> first | omega | assumption) | skip))
        | with_reducible first | refine W_skip ?_ | refine W_exit ?_ | refine W_ret ?_ | refine W_block ?_ | refine thenG_n ?_ | refine thenG_x ?_ | refine thenG_r ?_ | refine blockG_n ?_ | refine blockG_r ?_ | refine blockG_x ?_ | refine blockG_o (by decide) ?_
      refine ⟨by (simp only [go_sem, e, ↓reduceIte, reduceCtorEq, Nat.reduceAdd, Nat.reduceLT, Nat.reduceLeDiff, Nat.reduceEqDiff]) <;> trivial, [none], ?_⟩
      all_goals try simp only [go_sem, e, ↓reduceIte, reduceCtorEq, Nat.reduceAdd, Nat.reduceLT, Nat.reduceLeDiff, Nat.reduceEqDiff, Int.reduceEq, TC.val.injEq, Value.bool.injEq, Value.int.injEq, Value.string.injEq, TV.one.injEq]
      all_goals (repeat' apply And.intro) <;> try first | rfl | trivial | omega | (rw [wrap_id] <;> omega)
    · have hb : bookB xs = true := by simpa using hc
      have hB := bookB_true.1 hb
      have hso := book_sorted hB
      have et : treeLine xs name0 = lineN xs xs.length name0 := by unfold treeLine; rw [if_pos hb]
      repeat' first
        | refine W_seq ?_
        | (refine W_reg (s_treeLine_K.env []) s_treeLine_lv fun K' hK' => ?_
           simp only [go_sem, ↓reduceIte, ↓reduceDIte, reduceCtorEq, Nat.reduceAdd, Nat.reduceMul, Nat.reduceSub, Nat.reduceLT, Nat.reduceLeDiff, Nat.reduceEqDiff, Nat.reduceBEq, Int.reduceToNat, Int.reduceLE, Int.reduceLT, Int.reduceEq, Int.reduceNe, Int.reduceNeg]
           (repeat' apply And.intro) <;> try first | ((with_reducible refine hK' _ ?_ ?_ ?_); rotate_left; (simp only [go_sem, pr, keepSl, ↓reduceIte, Nat.reduceEqDiff]; try rfl); clear hK' K') | (clear hK' K'; first | omega | (with_reducible refine drawOk_k ?_; kernel_rfl) | assumption | refine Eq.refl _ | exact fun h => ⟨h, fun k => ⟨h, k⟩⟩ | (intro _; (repeat' apply And.intro) <;> first | omega | assumption) | skip))
        | with_reducible first | refine W_skip ?_ | refine W_exit ?_ | refine W_ret ?_ | refine W_block ?_ | refine thenG_n ?_ | refine thenG_x ?_ | refine thenG_r ?_ | refine blockG_n ?_ | refine blockG_r ?_ | refine blockG_x ?_ | refine blockG_o (by decide) ?_
      refine W_le (σ' := sgTl xs name0 []) [some 0, none] (by
        simp only [go_sem, ↓reduceIte, reduceCtorEq, Nat.reduceAdd, Nat.reduceLT, Nat.reduceLeDiff, Nat.reduceEqDiff, Int.reduceEq, TC.val.injEq, Value.bool.injEq, Value.int.injEq, Value.string.injEq, TV.one.injEq]
        all_goals (repeat' apply And.intro) <;> try first | rfl | trivial | omega | (rw [wrap_id] <;> omega)
        ) ?_
      refine W_loop (fun q σ => ∃ (m : Nat) (name : ByteArray) (ys : List ByteArray), q = m ∧ ys.length + m = xs.length ∧ Ends xs m name ∧ ys ++ lineN xs m name = treeLine xs name0 ∧ σ = sgTl xs name ys) xs.length ⟨xs.length, name0, [], rfl, by simp, ends_first hB name0, by rw [et]; rfl, rfl⟩ ?_
      rintro q σ ⟨m, name, ys, rfl, hl, he, hy, rfl⟩
      unfold sgTl
      repeat' first
        | refine W_seq ?_
        | (refine W_reg (s_treeLine_K.env []) s_treeLine_lv fun K' hK' => ?_
           simp only [go_sem, ↓reduceIte, ↓reduceDIte, reduceCtorEq, Nat.reduceAdd, Nat.reduceMul, Nat.reduceSub, Nat.reduceLT, Nat.reduceLeDiff, Nat.reduceEqDiff, Nat.reduceBEq, Int.reduceToNat, Int.reduceLE, Int.reduceLT, Int.reduceEq, Int.reduceNe, Int.reduceNeg]
           (repeat' apply And.intro) <;> try first | ((with_reducible refine hK' _ ?_ ?_ ?_); rotate_left; (simp only [go_sem, pr, keepSl, ↓reduceIte, Nat.reduceEqDiff]; try rfl); clear hK' K') | (clear hK' K'; first | omega | (with_reducible refine drawOk_k ?_; kernel_rfl) | assumption | refine Eq.refl _ | exact fun h => ⟨h, fun k => ⟨h, k⟩⟩ | (intro _; (repeat' apply And.intro) <;> first | omega | assumption) | skip))
        | with_reducible first | refine W_skip ?_ | refine W_exit ?_ | refine W_ret ?_ | refine W_block ?_ | refine thenG_n ?_ | refine thenG_x ?_ | refine thenG_r ?_ | refine blockG_n ?_ | refine blockG_r ?_ | refine blockG_x ?_ | refine blockG_o (by decide) ?_
      refine W_cond _ (by exact rfl) (by exact trivial) ?_ ?_ <;> intro ht
      · have ht2 : thereB xs name = false := by simpa using ht
        rw [line_none ht2, List.append_nil] at hy
        repeat' first
          | refine W_seq ?_
          | (refine W_reg (s_treeLine_K.env []) s_treeLine_lv fun K' hK' => ?_
             simp only [go_sem, ↓reduceIte, ↓reduceDIte, reduceCtorEq, Nat.reduceAdd, Nat.reduceMul, Nat.reduceSub, Nat.reduceLT, Nat.reduceLeDiff, Nat.reduceEqDiff, Nat.reduceBEq, Int.reduceToNat, Int.reduceLE, Int.reduceLT, Int.reduceEq, Int.reduceNe, Int.reduceNeg]
             (repeat' apply And.intro) <;> try first | ((with_reducible refine hK' _ ?_ ?_ ?_); rotate_left; (simp only [go_sem, pr, keepSl, ↓reduceIte, Nat.reduceEqDiff]; try rfl); clear hK' K') | (clear hK' K'; first | omega | (with_reducible refine drawOk_k ?_; kernel_rfl) | assumption | refine Eq.refl _ | exact fun h => ⟨h, fun k => ⟨h, k⟩⟩ | (intro _; (repeat' apply And.intro) <;> first | omega | assumption) | skip))
          | with_reducible first | refine W_skip ?_ | refine W_exit ?_ | refine W_ret ?_ | refine W_block ?_ | refine thenG_n ?_ | refine thenG_x ?_ | refine thenG_r ?_ | refine blockG_n ?_ | refine blockG_r ?_ | refine blockG_x ?_ | refine blockG_o (by decide) ?_
        refine ⟨by (simp only [go_sem, hy, ↓reduceIte, reduceCtorEq, Nat.reduceAdd, Nat.reduceLT, Nat.reduceLeDiff, Nat.reduceEqDiff]) <;> trivial, [some 1], ?_⟩
        all_goals try simp only [go_sem, hy, ↓reduceIte, reduceCtorEq, Nat.reduceAdd, Nat.reduceLT, Nat.reduceLeDiff, Nat.reduceEqDiff, Int.reduceEq, TC.val.injEq, Value.bool.injEq, Value.int.injEq, Value.string.injEq, TV.one.injEq]
        all_goals (repeat' apply And.intro) <;> try first | rfl | trivial | omega | (rw [wrap_id] <;> omega)
      · have ht2 : thereB xs name = true := by simpa using ht
        obtain ⟨k, rfl, he2⟩ := ends_next hB he ht2
        have hlow := (there_lt ht2).1
        have hy2 : (ys ++ [name]) ++ lineN xs k (xs.getD (lowN xs name) ET.bset.dflt).from_ = treeLine xs name0 := by
          rw [← hy]
          conv => rhs; unfold lineN
          rw [if_pos ht2, List.append_assoc]; rfl
        repeat' first
          | refine W_seq ?_
          | (refine W_reg (s_treeLine_K.env []) s_treeLine_lv fun K' hK' => ?_
             simp only [go_sem, ↓reduceIte, ↓reduceDIte, reduceCtorEq, Nat.reduceAdd, Nat.reduceMul, Nat.reduceSub, Nat.reduceLT, Nat.reduceLeDiff, Nat.reduceEqDiff, Nat.reduceBEq, Int.reduceToNat, Int.reduceLE, Int.reduceLT, Int.reduceEq, Int.reduceNe, Int.reduceNeg]
             (repeat' apply And.intro) <;> try first | ((with_reducible refine hK' _ ?_ ?_ ?_); rotate_left; (simp only [go_sem, pr, keepSl, ↓reduceIte, Nat.reduceEqDiff]; try rfl); clear hK' K') | (clear hK' K'; first | omega | (with_reducible refine drawOk_k ?_; kernel_rfl) | assumption | refine Eq.refl _ | exact fun h => ⟨h, fun k => ⟨h, k⟩⟩ | (intro _; (repeat' apply And.intro) <;> first | omega | assumption) | skip))
          | with_reducible first | refine W_skip ?_ | refine W_exit ?_ | refine W_ret ?_ | refine W_block ?_ | refine thenG_n ?_ | refine thenG_x ?_ | refine thenG_r ?_ | refine blockG_n ?_ | refine blockG_r ?_ | refine blockG_x ?_ | refine blockG_o (by decide) ?_
        refine ⟨k, [some 0, some 3], sgTl xs (xs.getD (lowN xs name) ET.bset.dflt).from_ (ys ++ [name]), by omega, ?_, k, _, _, rfl, by rw [List.length_append, List.length_singleton]; omega, he2, hy2, rfl⟩
        simp only [go_sem, ↓reduceIte, reduceCtorEq, Nat.reduceAdd, Nat.reduceLT, Nat.reduceLeDiff, Nat.reduceEqDiff, Int.reduceEq, TC.val.injEq, Value.bool.injEq, Value.int.injEq, Value.string.injEq, TV.one.injEq]
        all_goals (repeat' apply And.intro) <;> try first | rfl | trivial | omega | (rw [wrap_id] <;> omega)
  · simp [no] at hp
@[go_sem] noncomputable def sgSl (xs : List BSet) (name : ByteArray) (ys : List ByteArray) (i : Nat) : Sg := ⟨[(1, vs name), (2, .one (.ptr 0 0)), (5, .one (.osl .str 1 0 ys.length)), (6, vi i)], [some (.cells [.isl .bset xs]), some (.arr .str ys)], []⟩
theorem s_specTreeLine_e : EnterOk Tryd.prog 17 := ⟨_, Tryd.func17, rfl, by decide⟩
@[go_sem] def s_specTreeLine_lv : List (List Nat) := [[1, 2], [1, 2, 5], [1, 2, 5, 6], [1, 2, 5, 6, 18], [1, 2, 5, 6], [1, 2, 5, 6, 7, 8], [1, 2, 5, 6, 7, 28], [4], [2, 5, 6, 7], [1, 2, 5, 6], [4]]
@[go_sem] noncomputable def s_specTreeLine_K : Known := ((Known.nil).cons 29 ctBookOk s_specBookOk s_specBookOk_e).cons 36 ctAt s_l4At s_l4At_e
set_option maxHeartbeats 8000000 in
theorem s_specTreeLine : Sound Tryd.prog 17 ctTreeLine := by
  refine sound_intro (E := ⟨ti, s_specTreeLine_K.Γ, []⟩) (s_specTreeLine_K.env []) Tryd.func17 Tryd.ntmps17 rfl (rs := [.tmp 4]) rfl ?_
  intro args os hp
  unfold ctTreeLine at hp ⊢
  dsimp only at hp ⊢
  split at hp
  · rename_i xs name0
    refine ⟨by simp, fun φ0 w0 => ?_⟩
    obtain ⟨hlen, hsz⟩ : xs.length ≤ 4000000 ∧ ∀ i : Nat, (xs.getD i ET.bset.dflt).name.size ≤ 9223372036854775807 := hp
    repeat' first
      | refine W_seq ?_
      | (refine W_reg (s_specTreeLine_K.env []) s_specTreeLine_lv fun K' hK' => ?_
         simp only [go_sem, ↓reduceIte, ↓reduceDIte, reduceCtorEq, Nat.reduceAdd, Nat.reduceMul, Nat.reduceSub, Nat.reduceLT, Nat.reduceLeDiff, Nat.reduceEqDiff, Nat.reduceBEq, Int.reduceToNat, Int.reduceLE, Int.reduceLT, Int.reduceEq, Int.reduceNe, Int.reduceNeg]
         (repeat' apply And.intro) <;> try first | ((with_reducible refine hK' _ ?_ ?_ ?_); rotate_left; (simp only [go_sem, pr, keepSl, ↓reduceIte, Nat.reduceEqDiff]; try rfl); clear hK' K') | (clear hK' K'; first | omega | (with_reducible refine drawOk_k ?_; kernel_rfl) | assumption | refine Eq.refl _ | exact fun h => ⟨h, fun k => ⟨h, k⟩⟩ | (intro _; (repeat' apply And.intro) <;> first | omega | assumption) | skip))
      | with_reducible first | refine W_skip ?_ | refine W_exit ?_ | refine W_ret ?_ | refine W_block ?_ | refine thenG_n ?_ | refine thenG_x ?_ | refine thenG_r ?_ | refine blockG_n ?_ | refine blockG_r ?_ | refine blockG_x ?_ | refine blockG_o (by decide) ?_
    refine W_le (σ' := sgSl xs name0 [] 0) [some 0, some 1] (by
      simp only [go_sem, ↓reduceIte, reduceCtorEq, Nat.reduceAdd, Nat.reduceLT, Nat.reduceLeDiff, Nat.reduceEqDiff, Int.reduceEq, TC.val.injEq, Value.bool.injEq, Value.int.injEq, Value.string.injEq, TV.one.injEq]
      all_goals (repeat' apply And.intro) <;> try first | rfl | trivial | omega | (rw [wrap_id] <;> omega)
      ) ?_
    cases hb : bookB xs with
    | false =>
      have e : treeLine xs name0 = [] := by unfold treeLine; rw [if_neg (by rw [hb]; decide)]
      refine W_loop (fun q σ => q = 0 ∧ σ = sgSl xs name0 [] 0) 0 ⟨rfl, rfl⟩ ?_
      rintro q σ ⟨rfl, rfl⟩
      unfold sgSl
      repeat' first
        | refine W_seq ?_
        | (refine W_reg (s_specTreeLine_K.env []) s_specTreeLine_lv fun K' hK' => ?_
           simp only [go_sem, hb, Bool.false_eq_true, ↓reduceIte, ↓reduceDIte, reduceCtorEq, Nat.reduceAdd, Nat.reduceMul, Nat.reduceSub, Nat.reduceLT, Nat.reduceLeDiff, Nat.reduceEqDiff, Nat.reduceBEq, Int.reduceToNat, Int.reduceLE, Int.reduceLT, Int.reduceEq, Int.reduceNe, Int.reduceNeg]
           (repeat' apply And.intro) <;> try first | ((with_reducible refine hK' _ ?_ ?_ ?_); rotate_left; (simp only [go_sem, hb, Bool.false_eq_true, pr, keepSl, ↓reduceIte, Nat.reduceEqDiff]; try rfl); clear hK' K') | (clear hK' K'; first | omega | (with_reducible refine drawOk_k ?_; kernel_rfl) | assumption | refine Eq.refl _ | exact fun h => ⟨h, fun k => ⟨h, k⟩⟩ | (intro _; (repeat' apply And.intro) <;> first | omega | assumption) | skip))
        | with_reducible first | refine W_skip ?_ | refine W_exit ?_ | refine W_ret ?_ | refine W_block ?_ | refine thenG_n ?_ | refine thenG_x ?_ | refine thenG_r ?_ | refine blockG_n ?_ | refine blockG_r ?_ | refine blockG_x ?_ | refine blockG_o (by decide) ?_
      refine W_cond _ (by exact rfl) (by exact trivial) ?_ ?_ <;> intro hlit <;> try (cases hlit; done)
      repeat' first
        | refine W_seq ?_
        | (refine W_reg (s_specTreeLine_K.env []) s_specTreeLine_lv fun K' hK' => ?_
           simp only [go_sem, ↓reduceIte, ↓reduceDIte, reduceCtorEq, Nat.reduceAdd, Nat.reduceMul, Nat.reduceSub, Nat.reduceLT, Nat.reduceLeDiff, Nat.reduceEqDiff, Nat.reduceBEq, Int.reduceToNat, Int.reduceLE, Int.reduceLT, Int.reduceEq, Int.reduceNe, Int.reduceNeg]
           (repeat' apply And.intro) <;> try first | ((with_reducible refine hK' _ ?_ ?_ ?_); rotate_left; (simp only [go_sem, pr, keepSl, ↓reduceIte, Nat.reduceEqDiff]; try rfl); clear hK' K') | (clear hK' K'; first | omega | (with_reducible refine drawOk_k ?_; kernel_rfl) | assumption | refine Eq.refl _ | exact fun h => ⟨h, fun k => ⟨h, k⟩⟩ | (intro _; (repeat' apply And.intro) <;> first | omega | assumption) | skip))
        | with_reducible first | refine W_skip ?_ | refine W_exit ?_ | refine W_ret ?_ | refine W_block ?_ | refine thenG_n ?_ | refine thenG_x ?_ | refine thenG_r ?_ | refine blockG_n ?_ | refine blockG_r ?_ | refine blockG_x ?_ | refine blockG_o (by decide) ?_
      refine ⟨by (simp only [go_sem, e, ↓reduceIte, reduceCtorEq, Nat.reduceAdd, Nat.reduceLT, Nat.reduceLeDiff, Nat.reduceEqDiff]) <;> trivial, [some 1], ?_⟩
      all_goals try simp only [go_sem, e, ↓reduceIte, reduceCtorEq, Nat.reduceAdd, Nat.reduceLT, Nat.reduceLeDiff, Nat.reduceEqDiff, Int.reduceEq, TC.val.injEq, Value.bool.injEq, Value.int.injEq, Value.string.injEq, TV.one.injEq]
      all_goals (repeat' apply And.intro) <;> try first | rfl | trivial | omega | (rw [wrap_id] <;> omega)
    | true =>
      have hB := bookB_true.1 hb
      have et : treeLine xs name0 = lineN xs (xs.length + 1) name0 := by unfold treeLine; rw [if_pos hb, line_more hB _ _ (ends_first hB name0)]
      refine W_loop (fun q σ => ∃ (i : Nat) (name : ByteArray) (ys : List ByteArray), q = xs.length + 1 - i ∧ i ≤ xs.length + 1 ∧ ys.length = i ∧ ys ++ lineN xs (xs.length + 1 - i) name = treeLine xs name0 ∧ σ = sgSl xs name ys i) (xs.length + 1) ⟨0, name0, [], rfl, by omega, rfl, by rw [et]; rfl, rfl⟩ ?_
      rintro q σ ⟨i, name, ys, rfl, hi, hl, hy, rfl⟩
      unfold sgSl
      repeat' first
        | refine W_seq ?_
        | (refine W_reg (s_specTreeLine_K.env []) s_specTreeLine_lv fun K' hK' => ?_
           simp only [go_sem, hb, ↓reduceIte, ↓reduceDIte, reduceCtorEq, Nat.reduceAdd, Nat.reduceMul, Nat.reduceSub, Nat.reduceLT, Nat.reduceLeDiff, Nat.reduceEqDiff, Nat.reduceBEq, Int.reduceToNat, Int.reduceLE, Int.reduceLT, Int.reduceEq, Int.reduceNe, Int.reduceNeg]
           (repeat' apply And.intro) <;> try first | ((with_reducible refine hK' _ ?_ ?_ ?_); rotate_left; (simp only [go_sem, hb, pr, keepSl, ↓reduceIte, Nat.reduceEqDiff]; try rfl); clear hK' K') | (clear hK' K'; first | omega | (with_reducible refine drawOk_k ?_; kernel_rfl) | assumption | refine Eq.refl _ | exact fun h => ⟨h, fun k => ⟨h, k⟩⟩ | (intro _; (repeat' apply And.intro) <;> first | omega | assumption) | skip))
        | with_reducible first | refine W_skip ?_ | refine W_exit ?_ | refine W_ret ?_ | refine W_block ?_ | refine thenG_n ?_ | refine thenG_x ?_ | refine thenG_r ?_ | refine blockG_n ?_ | refine blockG_r ?_ | refine blockG_x ?_ | refine blockG_o (by decide) ?_
      refine W_cond _ (by exact rfl) (by exact trivial) ?_ ?_ <;> (try simp only [Bool.if_true_left, Bool.if_false_right, Bool.if_true_right, Bool.if_false_left, Bool.decide_eq_true, Bool.or_assoc, Bool.and_assoc, Bool.and_true, Bool.or_false, Bool.true_and, Bool.false_or, decide_eq_true_eq, decide_eq_false_iff_not, not_and, not_or, Classical.not_not, Bool.and_eq_true, Bool.or_eq_true, Bool.not_eq_true', Bool.not_eq_false', Bool.or_eq_false_iff, Bool.and_eq_false_iff, bne_iff_ne, ne_eq, beq_iff_eq, bne_eq_false_iff_eq, same_true, same_false, Int.ofNat_inj]) <;> intro hlt
      · obtain ⟨k, hk⟩ : ∃ k, xs.length + 1 - i = k + 1 := ⟨xs.length - i, by omega⟩
        rw [hk] at hy
        repeat' first
          | refine W_seq ?_
          | (refine W_reg (s_specTreeLine_K.env []) s_specTreeLine_lv fun K' hK' => ?_
             simp only [go_sem, ↓reduceIte, ↓reduceDIte, reduceCtorEq, Nat.reduceAdd, Nat.reduceMul, Nat.reduceSub, Nat.reduceLT, Nat.reduceLeDiff, Nat.reduceEqDiff, Nat.reduceBEq, Int.reduceToNat, Int.reduceLE, Int.reduceLT, Int.reduceEq, Int.reduceNe, Int.reduceNeg]
             (repeat' apply And.intro) <;> try first | ((with_reducible refine hK' _ ?_ ?_ ?_); rotate_left; (simp only [go_sem, pr, keepSl, ↓reduceIte, Nat.reduceEqDiff]; try rfl); clear hK' K') | (clear hK' K'; first | omega | (with_reducible refine drawOk_k ?_; kernel_rfl) | assumption | refine Eq.refl _ | exact fun h => ⟨h, fun k => ⟨h, k⟩⟩ | (intro _; (repeat' apply And.intro) <;> first | omega | assumption) | skip))
          | with_reducible first | refine W_skip ?_ | refine W_exit ?_ | refine W_ret ?_ | refine W_block ?_ | refine thenG_n ?_ | refine thenG_x ?_ | refine thenG_r ?_ | refine blockG_n ?_ | refine blockG_r ?_ | refine blockG_x ?_ | refine blockG_o (by decide) ?_
        refine W_cond _ (by exact rfl) (by exact trivial) ?_ ?_ <;> intro ht
        · have ht2 : thereB xs name = false := by simpa using ht
          rw [line_none ht2, List.append_nil] at hy
          repeat' first
            | refine W_seq ?_
            | (refine W_reg (s_specTreeLine_K.env []) s_specTreeLine_lv fun K' hK' => ?_
               simp only [go_sem, ↓reduceIte, ↓reduceDIte, reduceCtorEq, Nat.reduceAdd, Nat.reduceMul, Nat.reduceSub, Nat.reduceLT, Nat.reduceLeDiff, Nat.reduceEqDiff, Nat.reduceBEq, Int.reduceToNat, Int.reduceLE, Int.reduceLT, Int.reduceEq, Int.reduceNe, Int.reduceNeg]
               (repeat' apply And.intro) <;> try first | ((with_reducible refine hK' _ ?_ ?_ ?_); rotate_left; (simp only [go_sem, pr, keepSl, ↓reduceIte, Nat.reduceEqDiff]; try rfl); clear hK' K') | (clear hK' K'; first | omega | (with_reducible refine drawOk_k ?_; kernel_rfl) | assumption | refine Eq.refl _ | exact fun h => ⟨h, fun k => ⟨h, k⟩⟩ | (intro _; (repeat' apply And.intro) <;> first | omega | assumption) | skip))
            | with_reducible first | refine W_skip ?_ | refine W_exit ?_ | refine W_ret ?_ | refine W_block ?_ | refine thenG_n ?_ | refine thenG_x ?_ | refine thenG_r ?_ | refine blockG_n ?_ | refine blockG_r ?_ | refine blockG_x ?_ | refine blockG_o (by decide) ?_
          refine ⟨by (simp only [go_sem, ← hy, ↓reduceIte, reduceCtorEq, Nat.reduceAdd, Nat.reduceLT, Nat.reduceLeDiff, Nat.reduceEqDiff]) <;> trivial, [some 1], ?_⟩
          all_goals try simp only [go_sem, ← hy, ↓reduceIte, reduceCtorEq, Nat.reduceAdd, Nat.reduceLT, Nat.reduceLeDiff, Nat.reduceEqDiff, Int.reduceEq, TC.val.injEq, Value.bool.injEq, Value.int.injEq, Value.string.injEq, TV.one.injEq]
          all_goals (repeat' apply And.intro) <;> try first | rfl | trivial | omega | (rw [wrap_id] <;> omega)
        · have ht2 : thereB xs name = true := by simpa using ht
          have hlow := (there_lt ht2).1
          have hy2 : (ys ++ [name]) ++ lineN xs k (xs.getD (lowN xs name) ET.bset.dflt).from_ = treeLine xs name0 := by
            rw [← hy]
            conv => rhs; unfold lineN
            rw [if_pos ht2, List.append_assoc]; rfl
          repeat' first
            | refine W_seq ?_
            | (refine W_reg (s_specTreeLine_K.env []) s_specTreeLine_lv fun K' hK' => ?_
               simp only [go_sem, ↓reduceIte, ↓reduceDIte, reduceCtorEq, Nat.reduceAdd, Nat.reduceMul, Nat.reduceSub, Nat.reduceLT, Nat.reduceLeDiff, Nat.reduceEqDiff, Nat.reduceBEq, Int.reduceToNat, Int.reduceLE, Int.reduceLT, Int.reduceEq, Int.reduceNe, Int.reduceNeg]
               (repeat' apply And.intro) <;> try first | ((with_reducible refine hK' _ ?_ ?_ ?_); rotate_left; (simp only [go_sem, pr, keepSl, ↓reduceIte, Nat.reduceEqDiff]; try rfl); clear hK' K') | (clear hK' K'; first | omega | (with_reducible refine drawOk_k ?_; kernel_rfl) | assumption | refine Eq.refl _ | exact fun h => ⟨h, fun k => ⟨h, k⟩⟩ | (intro _; (repeat' apply And.intro) <;> first | omega | assumption) | skip))
            | with_reducible first | refine W_skip ?_ | refine W_exit ?_ | refine W_ret ?_ | refine W_block ?_ | refine thenG_n ?_ | refine thenG_x ?_ | refine thenG_r ?_ | refine blockG_n ?_ | refine blockG_r ?_ | refine blockG_x ?_ | refine blockG_o (by decide) ?_
          refine ⟨xs.length + 1 - (i + 1), [some 0, some 3], sgSl xs (xs.getD (lowN xs name) ET.bset.dflt).from_ (ys ++ [name]) (i + 1), by omega, ?_, i + 1, _, _, rfl, by omega, by rw [List.length_append, List.length_singleton, hl], by rw [show xs.length + 1 - (i + 1) = k by omega]; exact hy2, rfl⟩
          simp only [go_sem, ↓reduceIte, reduceCtorEq, Nat.reduceAdd, Nat.reduceLT, Nat.reduceLeDiff, Nat.reduceEqDiff, Int.reduceEq, TC.val.injEq, Value.bool.injEq, Value.int.injEq, Value.string.injEq, TV.one.injEq]
          all_goals (repeat' apply And.intro) <;> try first | rfl | trivial | omega | (rw [wrap_id] <;> omega)
      · have h0 : xs.length + 1 - i = 0 := by omega
        rw [h0] at hy
        have hy2 : ys = treeLine xs name0 := by rw [← hy]; exact (List.append_nil _).symm
        repeat' first
          | refine W_seq ?_
          | (refine W_reg (s_specTreeLine_K.env []) s_specTreeLine_lv fun K' hK' => ?_
             simp only [go_sem, ↓reduceIte, ↓reduceDIte, reduceCtorEq, Nat.reduceAdd, Nat.reduceMul, Nat.reduceSub, Nat.reduceLT, Nat.reduceLeDiff, Nat.reduceEqDiff, Nat.reduceBEq, Int.reduceToNat, Int.reduceLE, Int.reduceLT, Int.reduceEq, Int.reduceNe, Int.reduceNeg]
             (repeat' apply And.intro) <;> try first | ((with_reducible refine hK' _ ?_ ?_ ?_); rotate_left; (simp only [go_sem, pr, keepSl, ↓reduceIte, Nat.reduceEqDiff]; try rfl); clear hK' K') | (clear hK' K'; first | omega | (with_reducible refine drawOk_k ?_; kernel_rfl) | assumption | refine Eq.refl _ | exact fun h => ⟨h, fun k => ⟨h, k⟩⟩ | (intro _; (repeat' apply And.intro) <;> first | omega | assumption) | skip))
          | with_reducible first | refine W_skip ?_ | refine W_exit ?_ | refine W_ret ?_ | refine W_block ?_ | refine thenG_n ?_ | refine thenG_x ?_ | refine thenG_r ?_ | refine blockG_n ?_ | refine blockG_r ?_ | refine blockG_x ?_ | refine blockG_o (by decide) ?_
        refine ⟨by (simp only [go_sem, ← hy2, ↓reduceIte, reduceCtorEq, Nat.reduceAdd, Nat.reduceLT, Nat.reduceLeDiff, Nat.reduceEqDiff]) <;> trivial, [some 1], ?_⟩
        all_goals try simp only [go_sem, ← hy2, ↓reduceIte, reduceCtorEq, Nat.reduceAdd, Nat.reduceLT, Nat.reduceLeDiff, Nat.reduceEqDiff, Int.reduceEq, TC.val.injEq, Value.bool.injEq, Value.int.injEq, Value.string.injEq, TV.one.injEq]
        all_goals (repeat' apply And.intro) <;> try first | rfl | trivial | omega | (rw [wrap_id] <;> omega)
  · simp [no] at hp
end Go.Proofs.YtfmeopnankeaeaaDoor
