/- Functions: numbers, texts, sectors. -/
import Derived.Test.YtfmeopnankeaeaaDoorTTac
set_option linter.unusedSimpArgs false
set_option linter.unusedVariables false
set_option linter.unusedSectionVars false
namespace Go.Proofs.YtfmeopnankeaeaaDoor
open Go.RowKit


@[go_sem] def ctWithin : Ct := ⟨false, [], fun args os => match args, os with
  | [.one (.val (.int .i64 n)), .one (.val (.int .i64 lo)), .one (.val (.int .i64 hi))], [] => is (vb (decide (lo ≤ n) && decide (n ≤ hi)))
  | _, _ => no⟩
theorem s_within_e : EnterOk Tryd.prog 58 := ⟨_, Tryd.func58, rfl, by decide⟩
@[go_sem] def s_within_lv : List (List Nat) := [[0, 1, 2], [6]]
@[go_sem] noncomputable def s_within_K : Known := Known.nil
set_option maxHeartbeats 8000000 in
theorem s_within : Sound Tryd.prog 58 ctWithin := by
  refine sound_intro (E := ⟨ti, s_within_K.Γ, []⟩) (s_within_K.env []) Tryd.func58 Tryd.ntmps58 rfl (rs := [.tmp 6]) rfl ?_
  intro args os hp
  unfold ctWithin at hp ⊢
  dsimp only at hp ⊢
  split at hp
  · rename_i n lo hi
    refine ⟨by simp, fun φ0 w0 => ?_⟩
    clear hp
    repeat' first
      | refine W_seq ?_
      | (refine W_reg (s_within_K.env []) s_within_lv fun K' hK' => ?_
         simp only [go_sem, ↓reduceIte, ↓reduceDIte, reduceCtorEq, Nat.reduceAdd, Nat.reduceMul, Nat.reduceSub, Nat.reduceLT, Nat.reduceLeDiff, Nat.reduceEqDiff, Nat.reduceBEq, Int.reduceToNat, Int.reduceLE, Int.reduceLT, Int.reduceEq, Int.reduceNe, Int.reduceNeg]
         (repeat' apply And.intro) <;> try first | ((with_reducible refine hK' _ ?_ ?_ ?_); rotate_left; (simp only [go_sem, pr, keepSl, ↓reduceIte, Nat.reduceEqDiff]; try rfl); clear hK' K') | (clear hK' K'; first | omega | (with_reducible refine drawOk_k ?_; kernel_rfl) | assumption | refine Eq.refl _ | exact fun h => ⟨h, fun k => ⟨h, k⟩⟩ | (intro _; (repeat' apply And.intro) <;> first | omega | assumption) | skip))
      | with_reducible first | refine W_skip ?_ | refine W_exit ?_ | refine W_ret ?_ | refine W_block ?_ | refine thenG_n ?_ | refine thenG_x ?_ | refine thenG_r ?_ | refine blockG_n ?_ | refine blockG_r ?_ | refine blockG_x ?_ | refine blockG_o (by decide) ?_
    refine ⟨by (simp only [go_sem, ↓reduceIte, reduceCtorEq, Nat.reduceAdd, Nat.reduceLT, Nat.reduceLeDiff, Nat.reduceEqDiff]) <;> trivial, [], ?_⟩
    all_goals try simp only [go_sem, ↓reduceIte, reduceCtorEq, Nat.reduceAdd, Nat.reduceLT, Nat.reduceLeDiff, Nat.reduceEqDiff, Int.reduceEq, TC.val.injEq, Value.bool.injEq, Value.int.injEq, Value.string.injEq, TV.one.injEq]
    all_goals (repeat' apply And.intro) <;> try first | rfl | trivial | omega | (rw [wrap_id] <;> omega)
    by_cases h : lo ≤ n <;> simp [h]
  · simp [no] at hp

def long (s : ByteArray) : Bool := decide (420 < s.size)
@[go_sem] def ctIsLong : Ct := ⟨false, [], fun args os => match args, os with
  | [.one (.val (.string s))], [] => is (vb (long s))
  | _, _ => no⟩
/-- The place of the first element of a kind. -/
def firstAt {α : Type} (p : α → Bool) (xs : List α) : Int := match xs.findIdx? p with | some i => i | none => -1
theorem firstAt_some {α : Type} {p : α → Bool} {xs : List α} {i : Nat} {d : α} (hi : i < xs.length) (hb : ∀ j, j < i → p (xs.getD j d) = false) (hp : p (xs.getD i d) = true) : firstAt p xs = i := by
  have : xs.findIdx? p = some i := by
    rw [List.findIdx?_eq_some_iff_getElem]
    refine ⟨hi, by simpa [List.getD_eq_getElem?_getD, List.getElem?_eq_getElem hi] using hp, fun j hj => ?_⟩
    have := hb j hj
    simpa [List.getD_eq_getElem?_getD, List.getElem?_eq_getElem (Nat.lt_trans hj hi)] using this
  simp [firstAt, this]
theorem firstAt_none {α : Type} {p : α → Bool} {xs : List α} {d : α} (hb : ∀ j, j < xs.length → p (xs.getD j d) = false) : firstAt p xs = -1 := by
  have : xs.findIdx? p = none := by
    rw [List.findIdx?_eq_none_iff]
    intro x hx
    obtain ⟨j, hj, rfl⟩ := List.getElem_of_mem hx
    have := hb j hj
    simpa [List.getD_eq_getElem?_getD, List.getElem?_eq_getElem hj] using this
  simp [firstAt, this]
theorem firstAt_ge {α : Type} (p : α → Bool) (xs : List α) : decide (firstAt p xs ≥ 0) = xs.any p := by
  unfold firstAt
  cases h : xs.findIdx? p with
  | some i =>
    rw [List.findIdx?_eq_some_iff_getElem] at h
    obtain ⟨hi, hp, -⟩ := h
    have : xs.any p = true := List.any_eq_true.2 ⟨_, List.getElem_mem hi, hp⟩
    simp [this]
  | none =>
    rw [List.findIdx?_eq_none_iff] at h
    have : xs.any p = false := by simpa [List.any_eq_false] using h
    rw [this]; decide
@[go_sem] def ctCloneStr : Ct := ⟨false, [[some .str]], fun args os => match args, os with
  | [.one (.isl .str xs)], [] => ⟨xs.length ≤ 4000000, .one (.osl .str 0 0 xs.length), [], [.arr .str xs]⟩
  | _, _ => no⟩
theorem list_same {α : Type} {xs ys : List α} {d : α} (hl : xs.length = ys.length) (h : ∀ j, j < xs.length → xs.getD j d = ys.getD j d) : xs = ys := by
  apply List.ext_getElem hl
  intro i h1 h2
  have := h i h1
  simpa [List.getD_eq_getElem?_getD, List.getElem?_eq_getElem h1, List.getElem?_eq_getElem h2] using this
@[go_sem] noncomputable def ctEqualStr : Ct := ⟨false, [[some .str], [some .str]], fun args os => match args, os with
  | [.one (.isl .str xs), .one (.isl .str ys)], [] => ifp (xs.length ≤ 4000000) (vb (same xs ys))
  | _, _ => no⟩
@[go_sem] def sgEqualStr (xs ys : List ByteArray) (i : Nat) : Sg := ⟨[(13, vi i), (12, vi xs.length), (0, .one (.isl .str xs)), (1, .one (.isl .str ys))], [], []⟩
end Go.Proofs.YtfmeopnankeaeaaDoor
