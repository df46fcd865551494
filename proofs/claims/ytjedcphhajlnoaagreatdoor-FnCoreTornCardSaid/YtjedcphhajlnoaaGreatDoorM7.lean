import Derived.Test.YtjedcphhajlnoaaGreatDoorM5
import Derived.Test.YtjedcphhajlnoaaGreatDoorM6
set_option linter.unusedSimpArgs false
set_option linter.unusedVariables false
set_option linter.unusedSectionVars false
/- Functions of the exact laws: numbers; pointers. -/
namespace Go.Proofs.YtjedcphhajlnoaaGreatDoor
open Go.RowKit

@[go_sem] def ctEqI : Ct := ⟨false, [[some .int], [some .int]], fun args os => match args, os with
  | [.one (.isl .int xs), .one (.isl .int ys)], [] => ifp (xs = ys ∧ xs.length ≤ 4000000) (vb true)
  | _, _ => no⟩
@[go_sem] def sgEqI (xs : List Int) (i : Nat) : Sg := ⟨[(0, .one (.isl .int xs)), (1, .one (.isl .int xs)), (5, vi i)], [], []⟩
theorem s_eqI_e : EnterOk Tryz.prog 52 := ⟨_, Tryz.func52, rfl, by decide⟩
@[go_sem] def s_eqI_lv : List (List Nat) := [[0, 1], [0, 1, 10], [4], [0, 1, 5], [0, 1, 5, 14], [0, 1, 5], [0, 1, 5, 25], [4], [4]]
@[go_sem] noncomputable def s_eqI_K : Known := Known.nil
set_option maxHeartbeats 8000000 in
theorem s_eqI : Sound Tryz.prog 52 ctEqI := by
  have ke := s_eqI_K.env []
  have kl : Lives s_eqI_lv := trivial
  refine sound_intro (E := ⟨ti, s_eqI_K.Γ, []⟩) ke Tryz.func52 Tryz.ntmps52 rfl (rs := [.tmp 4]) rfl ?_
  intro args os hp
  unfold ctEqI at hp ⊢
  dsimp only at hp ⊢
  split at hp
  · rename_i xs ys
    refine ⟨by simp, fun φ0 w0 => ?_⟩
    obtain ⟨rfl, hlen⟩ : xs = ys ∧ xs.length ≤ 4000000 := hp
    refine goh trivial ?_
    refine W_cnd ?_ ?_ <;> intro hlit <;> try (cases hlit; done)
    refine goh trivial ?_
    refine W_le (σ' := sgEqI xs 0) [] (by
      simp only [go_sem, inj_r, ↓reduceIte, reduceCtorEq, Nat.reduceAdd, Nat.reduceLT, Nat.reduceLeDiff, Nat.reduceEqDiff, Int.reduceEq]
      all_goals (repeat' refine And.intro ?_ ?_) <;> try exact shut7
      ) ?_
    refine W_loop (fun n σ => ∃ i : Nat, i ≤ xs.length ∧ n = xs.length - i ∧ σ = sgEqI xs i) xs.length ⟨0, by omega, by omega, rfl⟩ ?_
    rintro n σ ⟨i, hi, rfl, rfl⟩
    unfold sgEqI
    refine goh trivial ?_
    refine W_cnd ?_ ?_ <;> (try simp only [cnd_r]) <;> intro hlt
    · refine goh trivial ?_
      refine W_cnd ?_ ?_ <;> intro hlit <;> try (cases hlit; done)
      refine goh trivial ?_
      refine ⟨xs.length - (i + 1), [], sgEqI xs (i + 1), by omega, ?_, i + 1, by omega, rfl, rfl⟩
      exact leh trivial
    · refine goh trivial ?_
      exact finh [] trivial
  · simp [no, ifp] at hp
@[go_sem] def ctToI : Ct := ⟨false, [[some .int]], fun args os => match args, os with
  | [.one (.isl .int xs)], [] => ⟨xs.length ≤ 4000000, .one (.osl .int 0 0 xs.length), [], [.arr .int xs]⟩
  | _, _ => no⟩
@[go_sem] def sgToI (xs : List Int) (i : Nat) : Sg := ⟨[(0, .one (.isl .int xs)), (3, .one (.osl .int 0 0 xs.length)), (4, vi i)], [some (.arr .int (mix xs (List.replicate xs.length ET.int.dflt) i))], []⟩
theorem s_toI_e : EnterOk Tryz.prog 50 := ⟨_, Tryz.func50, rfl, by decide⟩
@[go_sem] def s_toI_lv : List (List Nat) := [[0], [0, 3], [0, 3, 4], [0, 3, 4, 11], [0, 3, 4], [0, 3, 4], [2]]
@[go_sem] noncomputable def s_toI_K : Known := Known.nil
set_option maxHeartbeats 8000000 in
theorem s_toI : Sound Tryz.prog 50 ctToI := by
  have ke := s_toI_K.env []
  have kl : Lives s_toI_lv := trivial
  refine sound_intro (E := ⟨ti, s_toI_K.Γ, []⟩) ke Tryz.func50 Tryz.ntmps50 rfl (rs := [.tmp 2]) rfl ?_
  intro args os hp
  unfold ctToI at hp ⊢
  dsimp only at hp ⊢
  split at hp
  · rename_i xs
    refine ⟨by simp, fun φ0 w0 => ?_⟩
    have hlen : xs.length ≤ 4000000 := hp
    clear hp
    refine goh trivial ?_
    refine W_le (σ' := sgToI xs 0) [some 0] (by
      simp only [go_sem, mix_zero, inj_r, ↓reduceIte, reduceCtorEq, Nat.reduceAdd, Nat.reduceLT, Nat.reduceLeDiff, Nat.reduceEqDiff, Int.reduceEq]
      all_goals (repeat' refine And.intro ?_ ?_) <;> try exact shut7
      ) ?_
    refine W_loop (fun n σ => ∃ i : Nat, i ≤ xs.length ∧ n = xs.length - i ∧ σ = sgToI xs i) xs.length ⟨0, by omega, by omega, rfl⟩ ?_
    rintro n σ ⟨i, hi, rfl, rfl⟩
    unfold sgToI
    have hm := mix_len xs (List.replicate xs.length ET.int.dflt) i (by simp)
    rw [List.length_replicate] at hm
    refine goh hm ?_
    refine W_cnd ?_ ?_ <;> (try simp only [cnd_r]) <;> intro hlt
    · have hs := mix_set xs (List.replicate xs.length ET.int.dflt) i ET.int.dflt (by simp) (by simp; omega) rfl
      refine goh hm ?_
      refine ⟨xs.length - (i + 1), [some 0], sgToI xs (i + 1), by omega, ?_, i + 1, by omega, rfl, rfl⟩
      exact leh (And.intro hs hm)
    · have hs := mix_all xs (List.replicate xs.length ET.int.dflt) i (by simp) (by simp; omega)
      refine goh hm ?_
      exact finh [some 0] hs
  · simp [no] at hp
@[go_sem] def ctMarkI : Ct := ⟨true, [], fun args os => match args, os with
  | [.one (.osl .int 0 0 n), .one (.val (.int .i64 k))], [.arr .int xs] => ⟨n = xs.length ∧ xs.length ≤ 4000000 ∧ 0 ≤ k ∧ k ≤ 1000000000, vi (k + xs.length), [(0, some (.arr .int (markI xs.length k)))], []⟩
  | _, _ => no⟩
@[go_sem] def sgMarkI (xs : List Int) (k : Int) (i : Nat) : Sg := ⟨[(0, .one (.osl .int 0 0 xs.length)), (1, vi (k + i)), (5, vi i)], [some (.arr .int (mix (markI xs.length k) xs i))], [0]⟩
theorem s_markI_e : EnterOk Tryz.prog 53 := ⟨_, Tryz.func53, rfl, by decide⟩
@[go_sem] def s_markI_lv : List (List Nat) := [[0, 1], [0, 1, 5], [0, 1, 5, 9], [0, 1, 5], [0, 1, 5], [0, 1, 5], [4]]
@[go_sem] noncomputable def s_markI_K : Known := Known.nil
set_option maxHeartbeats 8000000 in
theorem s_markI : Sound Tryz.prog 53 ctMarkI := by
  have ke := s_markI_K.env []
  have kl : Lives s_markI_lv := trivial
  refine sound_intro (E := ⟨ti, s_markI_K.Γ, []⟩) ke Tryz.func53 Tryz.ntmps53 rfl (rs := [.tmp 4]) rfl ?_
  intro args os hp
  unfold ctMarkI at hp ⊢
  dsimp only at hp ⊢
  split at hp
  · rename_i n k xs
    refine ⟨by simp, fun φ0 w0 => ?_⟩
    obtain ⟨rfl, h1, h2, h3⟩ : n = xs.length ∧ xs.length ≤ 4000000 ∧ 0 ≤ k ∧ k ≤ 1000000000 := hp
    have hml := markI_len xs.length k
    refine goh trivial ?_
    refine W_le (σ' := sgMarkI xs k 0) [some 0] (by
      simp only [go_sem, mix_zero, inj_r, ↓reduceIte, reduceCtorEq, Nat.reduceAdd, Nat.reduceLT, Nat.reduceLeDiff, Nat.reduceEqDiff, Int.reduceEq]
      all_goals (repeat' refine And.intro ?_ ?_) <;> try exact shut7
      ) ?_
    refine W_loop (fun q σ => ∃ i : Nat, i ≤ xs.length ∧ q = xs.length - i ∧ σ = sgMarkI xs k i) xs.length ⟨0, by omega, by omega, rfl⟩ ?_
    rintro q σ ⟨i, hi, rfl, rfl⟩
    unfold sgMarkI
    have hm := mix_len (markI xs.length k) xs i hml
    refine goh hm ?_
    refine W_cnd ?_ ?_ <;> (try simp only [cnd_r]) <;> intro hlt
    · have hs := mix_set (markI xs.length k) xs i ET.int.dflt hml (by omega) (x := k + i) (markI_get (by omega) _).symm
      refine goh hm ?_
      refine ⟨xs.length - (i + 1), [some 0], sgMarkI xs k (i + 1), by omega, ?_, i + 1, by omega, rfl, rfl⟩
      exact leh (And.intro hs hm)
    · obtain rfl : i = xs.length := by omega
      have hs := mix_all (markI xs.length k) xs xs.length hml rfl
      refine goh hm ?_
      exact finh [some 0] hs
  · simp [no] at hp
@[go_sem] def ctHeldI : Ct := ⟨false, [[some .int]], fun args os => match args, os with
  | [.one (.isl .int xs), .one (.val (.int .i64 k))], [] => ifp (xs = markI xs.length k ∧ xs.length ≤ 4000000 ∧ 0 ≤ k ∧ k ≤ 1000000000) (vi (k + xs.length))
  | _, _ => no⟩
@[go_sem] def sgHeldI (xs : List Int) (k : Int) (i : Nat) : Sg := ⟨[(0, .one (.isl .int xs)), (1, vi (k + i)), (5, vi i)], [], []⟩
theorem s_heldI_e : EnterOk Tryz.prog 197 := ⟨_, Tryz.func197, rfl, by decide⟩
@[go_sem] def s_heldI_lv : List (List Nat) := [[0, 1], [0, 1, 5], [0, 1, 5, 9], [0, 1, 5], [0, 1, 5, 17], [4], [0, 1, 5], [4]]
@[go_sem] noncomputable def s_heldI_K : Known := Known.nil
set_option maxHeartbeats 8000000 in
theorem s_heldI : Sound Tryz.prog 197 ctHeldI := by
  have ke := s_heldI_K.env []
  have kl : Lives s_heldI_lv := trivial
  refine sound_intro (E := ⟨ti, s_heldI_K.Γ, []⟩) ke Tryz.func197 Tryz.ntmps197 rfl (rs := [.tmp 4]) rfl ?_
  intro args os hp
  unfold ctHeldI at hp ⊢
  dsimp only at hp ⊢
  split at hp
  · rename_i xs k
    refine ⟨by simp, fun φ0 w0 => ?_⟩
    obtain ⟨h0, h1, h2, h3⟩ : xs = markI xs.length k ∧ xs.length ≤ 4000000 ∧ 0 ≤ k ∧ k ≤ 1000000000 := hp
    have hget : ∀ i, i < xs.length → xs.getD i ET.int.dflt = k + i := fun i hi => by
      conv => lhs; rw [h0]
      exact markI_get hi _
    clear h0
    refine goh trivial ?_
    refine W_le (σ' := sgHeldI xs k 0) [] (by
      simp only [go_sem, inj_r, ↓reduceIte, reduceCtorEq, Nat.reduceAdd, Nat.reduceLT, Nat.reduceLeDiff, Nat.reduceEqDiff, Int.reduceEq]
      all_goals (repeat' refine And.intro ?_ ?_) <;> try exact shut7
      ) ?_
    refine W_loop (fun q σ => ∃ i : Nat, i ≤ xs.length ∧ q = xs.length - i ∧ σ = sgHeldI xs k i) xs.length ⟨0, by omega, by omega, rfl⟩ ?_
    rintro q σ ⟨i, hi, rfl, rfl⟩
    unfold sgHeldI
    refine goh trivial ?_
    refine W_cnd ?_ ?_ <;> (try simp only [cnd_r]) <;> intro hlt
    · have hg := hget i (by omega)
      refine goh hg ?_
      refine W_cnd ?_ ?_ <;> intro hlit <;> try (cases hlit; done)
      refine goh trivial ?_
      refine ⟨xs.length - (i + 1), [], sgHeldI xs k (i + 1), by omega, ?_, i + 1, by omega, rfl, rfl⟩
      exact leh trivial
    · obtain rfl : i = xs.length := by omega
      refine goh trivial ?_
      exact finh [] trivial
  · simp [no, ifp] at hp
@[go_sem] def ctToPtr : Ct := ⟨false, [], fun args os => match args, os with
  | [.agg [.val (.int .i64 x), .val (.int .i64 y), .val (.int .i64 z)]], [] => is (.agg [.val (.int .i64 x), .val (.int .i64 y), .val (.int .i64 z)])
  | _, _ => no⟩
theorem s_toPtr_e : EnterOk Tryz.prog 217 := ⟨_, Tryz.func217, rfl, by decide⟩
@[go_sem] def s_toPtr_lv : List (List Nat) := [[1, 2], [1, 2, 3], [1, 2, 3], [1, 2, 3], [2, 3], [2]]
@[go_sem] noncomputable def s_toPtr_K : Known := Known.nil
set_option maxHeartbeats 8000000 in
theorem s_toPtr : Sound Tryz.prog 217 ctToPtr := by
  have ke := s_toPtr_K.env []
  have kl : Lives s_toPtr_lv := trivial
  refine sound_intro (E := ⟨ti, s_toPtr_K.Γ, []⟩) ke Tryz.func217 Tryz.ntmps217 rfl (rs := [.cell 2 55]) rfl ?_
  intro args os hp
  unfold ctToPtr at hp ⊢
  dsimp only at hp ⊢
  split at hp
  · rename_i x y z
    refine ⟨by simp, fun φ0 w0 => ?_⟩
    refine goh trivial ?_
    exact finh [] trivial
  · simp [no, is] at hp
end Go.Proofs.YtjedcphhajlnoaaGreatDoor
/- Functions: the reference's disks. -/
namespace Go.Proofs.YtjedcphhajlnoaaGreatDoor
open Go.RowKit

/-- What fits a sector. -/
def fits (n : Nat) (side at_ : Int) (t : ByteArray) : Bool := (decide (0 ≤ side) && decide (side ≤ 1)) && (decide (0 ≤ at_) && decide (at_ < (n : Int))) && decide (t.size ≤ 420)
@[go_sem] def ctThere : Ct := ⟨false, [[some .str, some .str, some .late]], fun args os => match args, os with
  | [.agg [.isl .str a, .isl .str b, .isl .late l], .one (.val (.int .i64 s)), .one (.val (.int .i64 k)), .one (.val (.string t))], [] => is (vb (fits a.length s k t))
  | _, _ => no⟩
theorem s_there_e : EnterOk Tryz.prog 93 := ⟨_, Tryz.func93, rfl, by decide⟩
@[go_sem] def s_there_lv : List (List Nat) := [[1, 2, 3, 4], [8]]
@[go_sem] noncomputable def s_there_K : Known := Known.nil
set_option maxHeartbeats 8000000 in
theorem s_there : Sound Tryz.prog 93 ctThere := by
  have ke := s_there_K.env []
  have kl : Lives s_there_lv := trivial
  refine sound_intro (E := ⟨ti, s_there_K.Γ, []⟩) ke Tryz.func93 Tryz.ntmps93 rfl (rs := [.tmp 8]) rfl ?_
  intro args os hp
  unfold ctThere at hp ⊢
  dsimp only at hp ⊢
  split at hp
  · rename_i a b l s k t
    refine ⟨by simp, fun φ0 w0 => ?_⟩
    clear hp
    refine goh trivial ?_
    refine ⟨by (simp only [go_sem, ↓reduceIte, reduceCtorEq, Nat.reduceAdd, Nat.reduceLT, Nat.reduceLeDiff, Nat.reduceEqDiff]) <;> trivial, [], ?_⟩
    all_goals try simp only [go_sem, inj_r, ↓reduceIte, reduceCtorEq, Nat.reduceAdd, Nat.reduceLT, Nat.reduceLeDiff, Nat.reduceEqDiff, Int.reduceEq]
    all_goals (repeat' refine And.intro ?_ ?_) <;> try exact shut7
    unfold fits
    by_cases e1 : 0 ≤ s <;> by_cases e2 : s ≤ 1 <;> by_cases e3 : 0 ≤ k <;> by_cases e4 : k < (a.length : Int) <;> simp [e1, e2, e3, e4]
    all_goals omega
  · simp [no, ifp] at hp

theorem s_copy_e : EnterOk Tryz.prog 85 := ⟨_, Tryz.func85, rfl, by decide⟩
@[go_sem] def s_copy_lv : List (List Nat) := [[1, 2], [2]]
@[go_sem] noncomputable def s_copy_K : Known := Known.nil
set_option maxHeartbeats 8000000 in
theorem s_copy : Sound Tryz.prog 85 ctOwn := by
  have ke := s_copy_K.env []
  have kl : Lives s_copy_lv := trivial
  refine sound_intro (E := ⟨ti, s_copy_K.Γ, []⟩) ke Tryz.func85 Tryz.ntmps85 rfl (rs := [.cell 2 39]) rfl ?_
  intro args os hp
  unfold ctOwn at hp ⊢
  dsimp only at hp ⊢
  split at hp
  · rename_i a b l
    refine ⟨by simp, fun φ0 w0 => ?_⟩
    obtain ⟨h1, h2, h3⟩ : a.length ≤ 4000000 ∧ b.length ≤ 4000000 ∧ l.length ≤ 4000000 := hp
    refine goh trivial ?_
    exact finh [some 3, some 5, some 7] trivial
  · simp [no] at hp

theorem any_false {α : Type} {p : α → Bool} {xs : List α} (d : α) : xs.any p = false ↔ ∀ j, j < xs.length → p (xs.getD j d) = false := by
  rw [List.any_eq_false]
  constructor
  · intro h j hj
    simpa [List.getD_eq_getElem?_getD, List.getElem?_eq_getElem hj] using h _ (List.getElem_mem hj)
  · intro h x hx
    obtain ⟨j, hj, rfl⟩ := List.getElem_of_mem hx
    simpa [List.getD_eq_getElem?_getD, List.getElem?_eq_getElem hj] using h j hj
theorem Dk.ok_iff (d : Dk) : d.ok = true ↔ 1 ≤ d.a.length ∧ d.a.length ≤ 120 ∧ d.b.length = d.a.length ∧ d.l.length ≤ 600 ∧ (∀ j, j < d.a.length → long (d.a.getD j ET.str.dflt) = false) ∧ (∀ j, j < d.b.length → long (d.b.getD j ET.str.dflt) = false) ∧ (∀ j, j < d.l.length → badLate d.a.length (d.l.getD j ET.late.dflt) = false) := by
  unfold Dk.ok
  simp only [Bool.and_eq_true, decide_eq_true_eq, Bool.not_eq_true', any_false ET.str.dflt, any_false (α := Late) ET.late.dflt]
  constructor
  · rintro ⟨⟨⟨⟨⟨⟨h1, h2⟩, h3⟩, h4⟩, h5⟩, h6⟩, h7⟩
    exact ⟨by omega, by omega, h3, h6, h4, h5, h7⟩
  · rintro ⟨h1, h2, h3, h6, h4, h5, h7⟩
    exact ⟨⟨⟨⟨⟨⟨by omega, by omega⟩, h3⟩, h4⟩, h5⟩, h6⟩, h7⟩
theorem Dk.notOk {d : Dk} (h : d.ok = true → False) : d.ok = false := by
  cases hd : d.ok with
  | true => exact (h hd).elim
  | false => rfl
theorem fits_bad (n : Nat) (w : Late) : fits n w.side w.at_ w.text = !(badLate n w) := by
  unfold fits badLate sector long
  by_cases e1 : 0 ≤ w.side <;> by_cases e2 : w.side ≤ 1 <;> by_cases e3 : 0 ≤ w.at_ <;> simp [e1, e2, e3]
  by_cases e4 : w.at_ < (n : Int)
  · have : w.at_ ≤ (n : Int) - 1 := by omega
    by_cases e5 : w.text.size ≤ 420
    · have : ¬ 420 < w.text.size := by omega
      simp [*]
    · have : 420 < w.text.size := by omega
      simp [*]
  · have : ¬ w.at_ ≤ (n : Int) - 1 := by omega
    simp [e4, this]
@[go_sem] def sgOk1 (a b : List ByteArray) (l : List Late) (i : Nat) : Sg := ⟨[(1, .one (.ptr 0 0)), (3, vi a.length), (4, vi i)], [some (.cells [.isl .str a, .isl .str b, .isl .late l])], []⟩
@[go_sem] def sgOk2 (a b : List ByteArray) (l : List Late) (i : Nat) : Sg := ⟨[(1, .one (.ptr 0 0)), (5, vi i)], [some (.cells [.isl .str a, .isl .str b, .isl .late l])], []⟩
theorem s_specDiskOk_e : EnterOk Tryz.prog 28 := ⟨_, Tryz.func28, rfl, by decide⟩
@[go_sem] def s_specDiskOk_lv : List (List Nat) := [[1], [1, 3], [1, 3, 29], [2], [1, 3, 4], [1, 3, 4, 32], [1, 3, 4], [1, 3, 4, 52], [2], [1, 5], [1, 5, 57], [1, 5], [1, 5, 80], [2], [2]]
@[go_sem] noncomputable def s_specDiskOk_K : Known := (Known.nil).cons 93 ctThere s_there s_there_e
set_option maxHeartbeats 8000000 in
theorem s_specDiskOk : Sound Tryz.prog 28 ctDiskOk := by
  have ke := s_specDiskOk_K.env []
  have kl : Lives s_specDiskOk_lv := trivial
  refine sound_intro (E := ⟨ti, s_specDiskOk_K.Γ, []⟩) ke Tryz.func28 Tryz.ntmps28 rfl (rs := [.tmp 2]) rfl ?_
  intro args os hp
  unfold ctDiskOk at hp ⊢
  dsimp only at hp ⊢
  split at hp
  · rename_i a b l
    refine ⟨by simp, fun φ0 w0 => ?_⟩
    obtain ⟨h1, h2, h3⟩ : a.length ≤ 4000000 ∧ b.length ≤ 4000000 ∧ l.length ≤ 4000000 := hp
    refine goh trivial ?_
    refine W_cond _ (by exact rfl) (by exact trivial) ?_ ?_ <;> intro hc
    · refine goh trivial ?_
      refine ⟨by (simp only [go_sem, ↓reduceIte, reduceCtorEq, Nat.reduceAdd, Nat.reduceLT, Nat.reduceLeDiff, Nat.reduceEqDiff]) <;> trivial, [], ?_⟩
      all_goals try simp only [go_sem, inj_r, ↓reduceIte, reduceCtorEq, Nat.reduceAdd, Nat.reduceLT, Nat.reduceLeDiff, Nat.reduceEqDiff, Int.reduceEq]
      all_goals (repeat' refine And.intro ?_ ?_) <;> try exact shut7
      refine (Dk.notOk fun hok => ?_).symm
      obtain ⟨q1, q2, q3, q4, -⟩ := (Dk.ok_iff _).1 hok
      simp only at q1 q2 q3 q4
      have e1 : ¬ (a.length : Int) < 1 := by omega
      have e2 : ¬ (a.length : Int) > 120 := by omega
      have e3 : ((b.length : Int) != (a.length : Int)) = false := by simp; omega
      have e4 : ¬ (l.length : Int) > 600 := by omega
      simp [e1, e2, e3, e4] at hc
    · obtain ⟨g1, g2, g3, g4⟩ : 1 ≤ a.length ∧ a.length ≤ 120 ∧ b.length = a.length ∧ l.length ≤ 600 := by
        by_cases e1 : (a.length : Int) < 1
        · simp [e1] at hc
        · by_cases e2 : (a.length : Int) > 120
          · simp [e1, e2] at hc
          · by_cases e3 : b.length = a.length
            · by_cases e4 : (l.length : Int) > 600
              · simp [e1, e2, e3, e4] at hc
              · exact ⟨by omega, by omega, e3, by omega⟩
            · have e3' : ((b.length : Int) != (a.length : Int)) = true := by simp; omega
              simp [e1, e2, e3'] at hc
      clear hc
      refine goh trivial ?_
      refine W_le (σ' := sgOk1 a b l 0) [some 0] (by
        simp only [go_sem, inj_r, ↓reduceIte, reduceCtorEq, Nat.reduceAdd, Nat.reduceLT, Nat.reduceLeDiff, Nat.reduceEqDiff, Int.reduceEq]
        all_goals (repeat' refine And.intro ?_ ?_) <;> try exact shut7
        ) ?_
      refine W_loop (fun n σ => ∃ i : Nat, i ≤ a.length ∧ n = a.length - i ∧ (∀ j, j < i → long (a.getD j ET.str.dflt) = false ∧ long (b.getD j ET.str.dflt) = false) ∧ σ = sgOk1 a b l i) a.length ⟨0, by omega, by omega, by omega, rfl⟩ ?_
      rintro n σ ⟨i, hi, rfl, hbef, rfl⟩
      unfold sgOk1
      refine goh trivial ?_
      refine W_cnd ?_ ?_ <;> (try simp only [cnd_r]) <;> intro hlt
      · refine goh trivial ?_
        refine W_cond _ (by exact rfl) (by exact trivial) ?_ ?_ <;> intro hc
        · refine goh trivial ?_
          refine ⟨by (simp only [go_sem, ↓reduceIte, reduceCtorEq, Nat.reduceAdd, Nat.reduceLT, Nat.reduceLeDiff, Nat.reduceEqDiff]) <;> trivial, [], ?_⟩
          all_goals try simp only [go_sem, inj_r, ↓reduceIte, reduceCtorEq, Nat.reduceAdd, Nat.reduceLT, Nat.reduceLeDiff, Nat.reduceEqDiff, Int.reduceEq]
          all_goals (repeat' refine And.intro ?_ ?_) <;> try exact shut7
          refine (Dk.notOk fun hok => ?_).symm
          obtain ⟨-, -, -, -, q5, q6, -⟩ := (Dk.ok_iff _).1 hok
          have q5 := q5 i (show i < a.length by omega)
          have q6 := q6 i (show i < b.length by omega)
          simp only [long, decide_eq_false_iff_not] at q5 q6
          split at hc
          · omega
          · simp only [decide_eq_true_eq] at hc; omega
        · obtain ⟨q5, q6⟩ : long (a.getD i ET.str.dflt) = false ∧ long (b.getD i ET.str.dflt) = false := by
            simp only [long, decide_eq_false_iff_not]
            split at hc
            · cases hc
            · simp only [decide_eq_false_iff_not] at hc; exact ⟨by omega, by omega⟩
          clear hc
          refine goh trivial ?_
          refine ⟨a.length - (i + 1), [some 0], sgOk1 a b l (i + 1), by omega, ?_, i + 1, by omega, rfl, fun j hj => ?_, rfl⟩
          · exact leh trivial
          · rcases Nat.lt_succ_iff_lt_or_eq.1 hj with h | rfl
            · exact hbef j h
            · exact ⟨q5, q6⟩
      · refine goh trivial ?_
        have hi' : i = a.length := by omega
        subst hi'
        refine W_le (σ' := sgOk2 a b l 0) [some 0] (by
          simp only [go_sem, inj_r, ↓reduceIte, reduceCtorEq, Nat.reduceAdd, Nat.reduceLT, Nat.reduceLeDiff, Nat.reduceEqDiff, Int.reduceEq]
          all_goals (repeat' refine And.intro ?_ ?_) <;> try exact shut7
          ) ?_
        refine W_loop (fun n σ => ∃ i : Nat, i ≤ l.length ∧ n = l.length - i ∧ (∀ j, j < i → badLate a.length (l.getD j ET.late.dflt) = false) ∧ σ = sgOk2 a b l i) l.length ⟨0, by omega, by omega, by omega, rfl⟩ ?_
        rintro n σ ⟨i, hi, rfl, hbef2, rfl⟩
        unfold sgOk2
        refine goh trivial ?_
        refine W_cnd ?_ ?_ <;> (try simp only [cnd_r]) <;> intro hlt2
        · refine goh trivial ?_
          refine W_cond _ (by exact rfl) (by exact trivial) ?_ ?_ <;> intro hc <;> rw [fits_bad] at hc
          · refine goh trivial ?_
            refine ⟨by (simp only [go_sem, ↓reduceIte, reduceCtorEq, Nat.reduceAdd, Nat.reduceLT, Nat.reduceLeDiff, Nat.reduceEqDiff]) <;> trivial, [], ?_⟩
            all_goals try simp only [go_sem, inj_r, ↓reduceIte, reduceCtorEq, Nat.reduceAdd, Nat.reduceLT, Nat.reduceLeDiff, Nat.reduceEqDiff, Int.reduceEq]
            all_goals (repeat' refine And.intro ?_ ?_) <;> try exact shut7
            refine (Dk.notOk fun hok => ?_).symm
            obtain ⟨-, -, -, -, -, -, q7⟩ := (Dk.ok_iff _).1 hok
            have q7 := q7 i (show i < l.length by omega)
            simp only at q7
            rw [q7] at hc; cases hc
          · refine goh trivial ?_
            refine ⟨l.length - (i + 1), [some 0], sgOk2 a b l (i + 1), by omega, ?_, i + 1, by omega, rfl, fun j hj => ?_, rfl⟩
            · exact leh trivial
            · rcases Nat.lt_succ_iff_lt_or_eq.1 hj with h | rfl
              · exact hbef2 j h
              · simpa using hc
        · refine goh trivial ?_
          refine ⟨by (simp only [go_sem, ↓reduceIte, reduceCtorEq, Nat.reduceAdd, Nat.reduceLT, Nat.reduceLeDiff, Nat.reduceEqDiff]) <;> trivial, [], ?_⟩
          all_goals try simp only [go_sem, inj_r, ↓reduceIte, reduceCtorEq, Nat.reduceAdd, Nat.reduceLT, Nat.reduceLeDiff, Nat.reduceEqDiff, Int.reduceEq]
          all_goals (repeat' refine And.intro ?_ ?_) <;> try exact shut7
          exact ((Dk.ok_iff _).2 ⟨g1, g2, g3, g4, fun j hj => (hbef j hj).1, fun j hj => (hbef j (by simp only at hj; omega)).2, fun j hj => hbef2 j (by simp only at hj; omega)⟩).symm
  · simp [no, ifp] at hp
end Go.Proofs.YtjedcphhajlnoaaGreatDoor
/- Functions: writes, flushes. -/
namespace Go.Proofs.YtjedcphhajlnoaaGreatDoor
open Go.RowKit

def Dk.nil : Dk := ⟨[], [], []⟩
/-- May a write be appended? -/
def Dk.may (d : Dk) (s k : Int) (t : ByteArray) : Bool := fits d.a.length s k t && decide (d.l.length < 600)
def Dk.add (d : Dk) (s k : Int) (t : ByteArray) : Dk := ⟨d.a, d.b, d.l ++ [⟨s, k, t⟩]⟩
/-- A write to a disk. -/
def dkWrite (d : Dk) (s k : Int) (t : ByteArray) : Dk := if d.ok then if d.may s k t then d.add s k t else d else .nil
def dkWrites (d : Dk) (s k : Int) (t : ByteArray) : Bool := d.ok && d.may s k t
theorem Dk.ok_small {d : Dk} (h : d.ok = true) : d.a.length ≤ 120 ∧ d.b.length ≤ 120 ∧ d.l.length ≤ 600 := by
  obtain ⟨h1, h2, h3, h4, -⟩ := (Dk.ok_iff d).1 h
  omega
@[go_sem] def ctDiskWrite : Ct := ⟨false, [[some .str, some .str, some .late]], fun args os => match args, os with
  | [.agg [.isl .str a, .isl .str b, .isl .late l], .one (.val (.int .i64 s)), .one (.val (.int .i64 k)), .one (.val (.string t))], [] => ⟨(Dk.mk a b l).small, .tup [(dkWrite ⟨a, b, l⟩ s k t).v 0, vb (dkWrites ⟨a, b, l⟩ s k t)], [], (dkWrite ⟨a, b, l⟩ s k t).objs⟩
  | _, _ => no⟩
theorem s_specWrite_e : EnterOk Tryz.prog 86 := ⟨_, Tryz.func86, rfl, by decide⟩
@[go_sem] def s_specWrite_lv : List (List Nat) := [[1, 2, 3, 4, 8], [1, 2, 3, 4, 8, 13], [8, 9], [1, 2, 3, 4, 8, 10], [1, 2, 3, 8, 10, 28], [8, 9], [8, 10], [8, 9]]
@[go_sem] noncomputable def s_specWrite_K : Known := (((Known.nil).cons 28 ctDiskOk s_specDiskOk s_specDiskOk_e).cons 85 ctOwn s_copy s_copy_e).cons 93 ctThere s_there s_there_e
set_option maxHeartbeats 8000000 in
theorem s_specWrite : Sound Tryz.prog 86 ctDiskWrite := by
  have ke := s_specWrite_K.env []
  have kl : Lives s_specWrite_lv := trivial
  refine sound_intro (E := ⟨ti, s_specWrite_K.Γ, []⟩) ke Tryz.func86 Tryz.ntmps86 rfl (rs := [.cell 8 39, .tmp 9]) rfl ?_
  intro args os hp
  unfold ctDiskWrite at hp ⊢
  dsimp only at hp ⊢
  split at hp
  · rename_i a b l s k t
    refine ⟨by simp, fun φ0 w0 => ?_⟩
    obtain ⟨h1, h2, h3⟩ : a.length ≤ 4000000 ∧ b.length ≤ 4000000 ∧ l.length ≤ 4000000 := hp
    refine goh trivial ?_
    refine W_cnd ?_ ?_ <;> (try simp only [cnd_r]) <;> intro hok
    · have e1 : dkWrite ⟨a, b, l⟩ s k t = .nil := by unfold dkWrite; rw [hok]; rfl
      have e2 : dkWrites ⟨a, b, l⟩ s k t = false := by unfold dkWrites; rw [hok]; rfl
      refine goh trivial ?_
      refine ⟨by (simp only [go_sem, e1, e2, Dk.nil, ↓reduceIte, reduceCtorEq, Nat.reduceAdd, Nat.reduceLT, Nat.reduceLeDiff, Nat.reduceEqDiff]) <;> trivial, [none, none, none], ?_⟩
      all_goals try simp only [go_sem, e1, e2, Dk.nil, inj_r, ↓reduceIte, reduceCtorEq, Nat.reduceAdd, Nat.reduceLT, Nat.reduceLeDiff, Nat.reduceEqDiff, Int.reduceEq]
      all_goals (repeat' refine And.intro ?_ ?_) <;> try exact shut7
    · have e3 : a.length ≤ 120 ∧ b.length ≤ 120 ∧ l.length ≤ 600 := Dk.ok_small hok
      have e1 : dkWrite ⟨a, b, l⟩ s k t = if (Dk.mk a b l).may s k t then (Dk.mk a b l).add s k t else ⟨a, b, l⟩ := by unfold dkWrite; rw [hok]; rfl
      have e2 : dkWrites ⟨a, b, l⟩ s k t = (Dk.mk a b l).may s k t := by unfold dkWrites; rw [hok]; rfl
      refine goh trivial ?_
      refine W_cond _ (by exact rfl) (by exact trivial) ?_ ?_ <;> intro hc
      · have hm : (Dk.mk a b l).may s k t = false := by
          unfold Dk.may
          cases hf : fits a.length s k t with
          | false => rfl
          | true => rw [hf] at hc; simp at hc; simp; omega
        refine goh trivial ?_
        exact finh [some 2, some 3, some 4] (And.intro e1 (And.intro e2 hm))
      · have hm : (Dk.mk a b l).may s k t = true := by
          unfold Dk.may
          cases hf : fits a.length s k t with
          | false => rw [hf] at hc; simp at hc
          | true => rw [hf] at hc; simp at hc; simp; omega
        refine goh trivial ?_
        refine ⟨by (simp only [go_sem, e1, e2, hm, Dk.add, ↓reduceIte, reduceCtorEq, Nat.reduceAdd, Nat.reduceLT, Nat.reduceLeDiff, Nat.reduceEqDiff]) <;> trivial, [some 2, some 3, some 7], ?_⟩
        all_goals try simp only [go_sem, e1, e2, hm, Dk.add, inj_r, ↓reduceIte, reduceCtorEq, Nat.reduceAdd, Nat.reduceLT, Nat.reduceLeDiff, Nat.reduceEqDiff, Int.reduceEq]
        all_goals (repeat' refine And.intro ?_ ?_) <;> try exact shut7
  · simp [no] at hp
/-- The two sides, a write performed. -/
def putW (x : List ByteArray × List ByteArray) (w : Late) : List ByteArray × List ByteArray := if w.side = 0 then (x.1.set w.at_.toNat w.text, x.2) else (x.1, x.2.set w.at_.toNat w.text)
theorem putW_len (x : List ByteArray × List ByteArray) (w : Late) : (putW x w).1.length = x.1.length ∧ (putW x w).2.length = x.2.length := by
  unfold putW; split <;> simp
def Dk.done (d : Dk) (n : Nat) : List ByteArray × List ByteArray := (d.l.take n).foldl putW (d.a, d.b)
theorem Dk.done_zero (d : Dk) : d.done 0 = (d.a, d.b) := by simp [Dk.done]
theorem take_succ_getD {α : Type} (l : List α) (n : Nat) (d : α) (h : n < l.length) : l.take (n + 1) = l.take n ++ [l.getD n d] := by
  rw [List.take_succ_eq_append_getElem h, List.getD_eq_getElem?_getD, List.getElem?_eq_getElem h]; rfl
theorem Dk.done_succ (d : Dk) (n : Nat) (h : n < d.l.length) : d.done (n + 1) = putW (d.done n) (d.l.getD n ET.late.dflt) := by
  unfold Dk.done
  rw [take_succ_getD _ _ ET.late.dflt h, List.foldl_append]; rfl
theorem Dk.done_len (d : Dk) : ∀ n, (d.done n).1.length = d.a.length ∧ (d.done n).2.length = d.b.length := by
  intro n
  unfold Dk.done
  generalize d.l.take n = l
  have : ∀ (l : List Late) (x : List ByteArray × List ByteArray), (l.foldl putW x).1.length = x.1.length ∧ (l.foldl putW x).2.length = x.2.length := by
    intro l
    induction l with
    | nil => intro x; exact ⟨rfl, rfl⟩
    | cons w l ih => intro x; rw [List.foldl_cons, (ih _).1, (ih _).2]; exact putW_len x w
  exact this l (d.a, d.b)
/-- All writes performed. -/
def Dk.flushed (d : Dk) : Dk := ⟨(d.done d.l.length).1, (d.done d.l.length).2, []⟩
def dkFlush (d : Dk) : Dk := if d.ok then d.flushed else .nil
@[go_sem] def ctDiskFlush : Ct := ⟨false, [[some .str, some .str, some .late]], fun args os => match args, os with
  | [.agg [.isl .str a, .isl .str b, .isl .late l]], [] => ⟨(Dk.mk a b l).small, (dkFlush ⟨a, b, l⟩).v 0, [], (dkFlush ⟨a, b, l⟩).objs⟩
  | _, _ => no⟩
theorem Dk.ok_late {d : Dk} (h : d.ok = true) (i : Nat) (hi : i < d.l.length) : ((d.l.getD i ET.late.dflt).side = 0 ∨ (d.l.getD i ET.late.dflt).side = 1) ∧ 0 ≤ (d.l.getD i ET.late.dflt).at_ ∧ (d.l.getD i ET.late.dflt).at_ < d.a.length ∧ (d.l.getD i ET.late.dflt).text.size ≤ 420 := by
  obtain ⟨-, -, -, -, -, -, h7⟩ := (Dk.ok_iff d).1 h
  have := h7 i hi
  unfold badLate sector long at this
  simp only [Bool.or_eq_false_iff, Bool.not_eq_false', Bool.and_eq_true, decide_eq_true_eq, decide_eq_false_iff_not] at this
  omega
@[go_sem] def sgFlush (a b : List ByteArray) (l : List Late) (x : List ByteArray × List ByteArray) (i : Nat) : Sg := ⟨[(1, .one (.ptr 0 0)), (2, .one (.ptr 1 0)), (3, .one (.ptr 5 0)), (4, vi i)],
  [some (.cells [.isl .str a, .isl .str b, .isl .late l]), some (.cells [.val (.slice none 0 0), .val (.slice none 0 0), .val (.slice none 0 0)]), some (.arr .str x.1), some (.arr .str x.2), some (.arr .late l), some (.cells [.osl .str 2 0 x.1.length, .osl .str 3 0 x.2.length, .osl .late 4 0 l.length])], []⟩
theorem s_specFlush_e : EnterOk Tryz.prog 118 := ⟨_, Tryz.func118, rfl, by decide⟩
@[go_sem] def s_specFlush_lv : List (List Nat) := [[1, 2], [1, 2, 7], [2], [1, 2, 3], [1, 2, 3, 4], [1, 2, 3, 4, 15], [1, 2, 3, 4], [1, 2, 3, 4], [2, 3], [2]]
@[go_sem] noncomputable def s_specFlush_K : Known := ((Known.nil).cons 28 ctDiskOk s_specDiskOk s_specDiskOk_e).cons 85 ctOwn s_copy s_copy_e
set_option maxHeartbeats 8000000 in
theorem s_specFlush : Sound Tryz.prog 118 ctDiskFlush := by
  have ke := s_specFlush_K.env []
  have kl : Lives s_specFlush_lv := trivial
  refine sound_intro (E := ⟨ti, s_specFlush_K.Γ, []⟩) ke Tryz.func118 Tryz.ntmps118 rfl (rs := [.cell 2 39]) rfl ?_
  intro args os hp
  unfold ctDiskFlush at hp ⊢
  dsimp only at hp ⊢
  split at hp
  · rename_i a b l
    refine ⟨by simp, fun φ0 w0 => ?_⟩
    obtain ⟨h1, h2, h3⟩ : a.length ≤ 4000000 ∧ b.length ≤ 4000000 ∧ l.length ≤ 4000000 := hp
    refine goh trivial ?_
    refine W_cnd ?_ ?_ <;> (try simp only [cnd_r]) <;> intro hok
    · have e1 : dkFlush ⟨a, b, l⟩ = .nil := by unfold dkFlush; rw [hok]; rfl
      refine goh trivial ?_
      refine ⟨by (simp only [go_sem, e1, Dk.nil, ↓reduceIte, reduceCtorEq, Nat.reduceAdd, Nat.reduceLT, Nat.reduceLeDiff, Nat.reduceEqDiff]) <;> trivial, [none, none, none], ?_⟩
      all_goals try simp only [go_sem, e1, Dk.nil, inj_r, ↓reduceIte, reduceCtorEq, Nat.reduceAdd, Nat.reduceLT, Nat.reduceLeDiff, Nat.reduceEqDiff, Int.reduceEq]
      all_goals (repeat' refine And.intro ?_ ?_) <;> try exact shut7
    · have e1 : dkFlush ⟨a, b, l⟩ = (Dk.mk a b l).flushed := by unfold dkFlush; rw [hok]; rfl
      refine goh trivial ?_
      refine W_le (σ' := sgFlush a b l ((Dk.mk a b l).done 0) 0) [some 0, some 1, some 2, some 3, some 4, some 5] (by
        simp only [go_sem, Dk.done_zero, inj_r, ↓reduceIte, reduceCtorEq, Nat.reduceAdd, Nat.reduceLT, Nat.reduceLeDiff, Nat.reduceEqDiff, Int.reduceEq]
        all_goals (repeat' refine And.intro ?_ ?_) <;> try exact shut7
        ) ?_
      refine W_loop (fun n σ => ∃ i : Nat, i ≤ l.length ∧ n = l.length - i ∧ σ = sgFlush a b l ((Dk.mk a b l).done i) i) l.length ⟨0, by omega, by omega, rfl⟩ ?_
      rintro n σ ⟨i, hi, rfl, rfl⟩
      obtain ⟨hl1, hl2⟩ := (Dk.mk a b l).done_len i
      simp only at hl1 hl2
      unfold sgFlush
      refine goh trivial ?_
      refine W_cnd ?_ ?_ <;> (try simp only [cnd_r]) <;> intro hlt
      · have hi' : i < l.length := by omega
        obtain ⟨ws, w1, w2, w3⟩ := Dk.ok_late hok i hi'
        have hd := (Dk.mk a b l).done_succ i hi'
        obtain ⟨-, -, hab, -⟩ := (Dk.ok_iff _).1 hok
        simp only at ws w1 w2 w3 hd hab
        generalize hx : (Dk.mk a b l).done i = x at *
        generalize hw : l.getD i ET.late.dflt = w at *
        obtain ⟨s, k, t⟩ := w
        simp only at ws w1 w2 w3
        rcases ws with rfl | rfl
        all_goals
          refine goh hw ?_
          refine ⟨l.length - (i + 1), [some 0, some 1, some 2, some 3, some 4, some 5], sgFlush a b l ((Dk.mk a b l).done (i + 1)) (i + 1), by omega, ?_, i + 1, by omega, rfl, rfl⟩
          rw [hd]
          simp only [go_sem, putW, List.length_set, inj_r, ↓reduceIte, reduceCtorEq, Nat.reduceAdd, Nat.reduceLT, Nat.reduceLeDiff, Nat.reduceEqDiff, Int.reduceEq]
          all_goals (repeat' refine And.intro ?_ ?_) <;> try exact shut7
      · refine goh trivial ?_
        have : i = l.length := by omega
        subst this
        refine ⟨by (simp only [go_sem, e1, Dk.flushed, ↓reduceIte, reduceCtorEq, Nat.reduceAdd, Nat.reduceLT, Nat.reduceLeDiff, Nat.reduceEqDiff]) <;> trivial, [some 2, some 3, none], ?_⟩
        all_goals try simp only [go_sem, e1, Dk.flushed, inj_r, ↓reduceIte, reduceCtorEq, Nat.reduceAdd, Nat.reduceLT, Nat.reduceLeDiff, Nat.reduceEqDiff, Int.reduceEq]
        all_goals (repeat' refine And.intro ?_ ?_) <;> try exact shut7
  · simp [no] at hp
end Go.Proofs.YtjedcphhajlnoaaGreatDoor
/- Functions: the reader of codes. -/
namespace Go.Proofs.YtjedcphhajlnoaaGreatDoor
open Go.RowKit

def sumAt (s : ByteArray) : Nat → Nat
  | 0 => 1 + s.size % 997
  | i + 1 => (257 * sumAt s i + (s.data.getD i 0).toNat + 1) % 65521
theorem sumAt_lt (s : ByteArray) : ∀ i, sumAt s i < 65521
  | 0 => by unfold sumAt; omega
  | i + 1 => by unfold sumAt; omega
def sumOf (s : ByteArray) : Nat := sumAt s s.size
@[go_sem] def ctSumOf : Ct := ⟨false, [], fun args os => match args, os with
  | [.one (.val (.string s))], [] => ifp (s.size ≤ 1000000000) (vi (sumOf s))
  | _, _ => no⟩
@[go_sem] def sgSum (s : ByteArray) (i : Nat) : Sg := ⟨[(0, .one (.val (.string s))), (3, vi (sumAt s i)), (10, vi s.size), (11, vi i)], [], []⟩
theorem sum_step (s : ByteArray) (i : Nat) (hi : i < s.size) : (IntKind.i64.wrap (IntKind.i64.wrap (IntKind.i64.wrap (257 * (sumAt s i : Int)) + IntKind.i64.wrap ((s.data.getD i 0).toNat : Int)) + 1)).tmod 65521 = (sumAt s (i + 1) : Nat) := by
  have h := sumAt_lt s i
  have hb : (s.data.getD i 0).toNat < 256 := (s.data.getD i 0).toNat_lt
  rw [wrap_id (257 * (sumAt s i : Int)) (by omega) (by omega), wrap_id ((s.data.getD i 0).toNat : Int) (by omega) (by omega), wrap_id (257 * (sumAt s i : Int) + ((s.data.getD i 0).toNat : Int)) (by omega) (by omega), wrap_id (257 * (sumAt s i : Int) + ((s.data.getD i 0).toNat : Int) + 1) (by omega) (by omega)]
  rw [show (257 * (sumAt s i : Int) + ((s.data.getD i 0).toNat : Int) + 1) = ((257 * sumAt s i + (s.data.getD i 0).toNat + 1 : Nat) : Int) by omega]
  show _ = (((257 * sumAt s i + (s.data.getD i 0).toNat + 1) % 65521 : Nat) : Int)
  exact (Int.ofNat_tmod _ _).symm
theorem sum_first (s : ByteArray) (h : s.size ≤ 1000000000) : IntKind.i64.wrap (1 + ((s.size : Int)).tmod 997) = (sumAt s 0 : Nat) := by
  have : ((s.size : Int)).tmod 997 = ((s.size % 997 : Nat) : Int) := (Int.ofNat_tmod _ _).symm
  rw [this, wrap_id _ (by omega) (by omega)]
  unfold sumAt
  omega
theorem s_sumOf_e : EnterOk Tryz.prog 168 := ⟨_, Tryz.func168, rfl, by decide⟩
@[go_sem] def s_sumOf_lv : List (List Nat) := [[0], [0, 3], [0, 3, 10, 11], [0, 3, 10, 11, 12], [0, 3, 4, 10, 11], [0, 3, 10, 11], [0, 3, 10, 11], [2]]
@[go_sem] noncomputable def s_sumOf_K : Known := Known.nil
set_option maxHeartbeats 8000000 in
theorem s_sumOf : Sound Tryz.prog 168 ctSumOf := by
  have ke := s_sumOf_K.env []
  have kl : Lives s_sumOf_lv := trivial
  refine sound_intro (E := ⟨ti, s_sumOf_K.Γ, []⟩) ke Tryz.func168 Tryz.ntmps168 rfl (rs := [.tmp 2]) rfl ?_
  intro args os hp
  unfold ctSumOf at hp ⊢
  dsimp only at hp ⊢
  split at hp
  · rename_i s
    refine ⟨by simp, fun φ0 w0 => ?_⟩
    have hlen : s.size ≤ 1000000000 := hp
    clear hp
    refine goh trivial ?_
    refine W_le (σ' := sgSum s 0) [] (by
      simp only [go_sem, ↓reduceIte, reduceCtorEq, Nat.reduceAdd, Nat.reduceLT, Nat.reduceLeDiff, Nat.reduceEqDiff, TC.val.injEq, Value.int.injEq, TV.one.injEq, sum_first s hlen]
      all_goals ((repeat' apply And.intro) <;> first | rfl | trivial)) ?_
    refine W_loop (fun n σ => ∃ i : Nat, i ≤ s.size ∧ n = s.size - i ∧ σ = sgSum s i) s.size ⟨0, by omega, by omega, rfl⟩ ?_
    rintro n σ ⟨i, hi, rfl, rfl⟩
    unfold sgSum
    refine goh trivial ?_
    refine W_cnd ?_ ?_ <;> (try simp only [cnd_r]) <;> intro hlt
    · refine goh trivial ?_
      refine ⟨s.size - (i + 1), [], sgSum s (i + 1), by omega, ?_, i + 1, by omega, rfl, rfl⟩
      have hst := sum_step s i (by omega)
      simp only [go_sem, ↓reduceIte, reduceCtorEq, Nat.reduceAdd, Nat.reduceLT, Nat.reduceLeDiff, Nat.reduceEqDiff, TC.val.injEq, Value.int.injEq, TV.one.injEq]
      (repeat' apply And.intro) <;> try first | rfl | trivial | exact hst | (rw [wrap_id] <;> omega)
    · refine goh trivial ?_
      have hi' : i = s.size := by omega
      subst hi'
      exact finh [] trivial
  · simp [no, ifp] at hp

/-- An open disk. -/
def dkOpen (n : Int) : Dk := if 1 ≤ n ∧ n ≤ 120 then ⟨List.replicate n.toNat ⟨#[]⟩, List.replicate n.toNat ⟨#[]⟩, []⟩ else ⟨[], [], []⟩
@[go_sem] def ctSpecOpen : Ct := ⟨false, [], fun args os => match args, os with
  | [.one (.val (.int .i64 n))], [] => ⟨True, (dkOpen n).v 0, [], (dkOpen n).objs⟩
  | _, _ => no⟩
theorem s_specOpen_e : EnterOk Tryz.prog 172 := ⟨_, Tryz.func172, rfl, by decide⟩
@[go_sem] def s_specOpen_lv : List (List Nat) := [[0, 2], [0, 2, 8], [2], [2]]
@[go_sem] noncomputable def s_specOpen_K : Known := Known.nil
set_option maxHeartbeats 8000000 in
theorem s_specOpen : Sound Tryz.prog 172 ctSpecOpen := by
  have ke := s_specOpen_K.env []
  have kl : Lives s_specOpen_lv := trivial
  refine sound_intro (E := ⟨ti, s_specOpen_K.Γ, []⟩) ke Tryz.func172 Tryz.ntmps172 rfl (rs := [.cell 2 39]) rfl ?_
  intro args os hp
  unfold ctSpecOpen at hp ⊢
  dsimp only at hp ⊢
  split at hp
  · rename_i n
    refine ⟨by simp, fun φ0 w0 => ?_⟩
    clear hp
    refine goh trivial ?_
    refine W_cond _ (by exact rfl) (by exact trivial) ?_ ?_ <;> intro hc
    · refine goh trivial ?_
      have hd : dkOpen n = ⟨[], [], []⟩ := by
        unfold dkOpen
        rw [if_neg]
        split at hc
        · omega
        · simp only [decide_eq_true_eq] at hc; omega
      rw [hd]
      exact finh [none, none, none] trivial
    · obtain ⟨n1, n2⟩ : 1 ≤ n ∧ n ≤ 120 := by
        split at hc
        · cases hc
        · simp only [decide_eq_false_iff_not] at hc; exact ⟨by omega, by omega⟩
      have hd : dkOpen n = ⟨List.replicate n.toNat ⟨#[]⟩, List.replicate n.toNat ⟨#[]⟩, []⟩ := by
        unfold dkOpen
        rw [if_pos ⟨n1, n2⟩]
      clear hc
      refine goh trivial ?_
      rw [hd]
      refine ⟨by (simp only [go_sem, ↓reduceIte, reduceCtorEq, Nat.reduceAdd, Nat.reduceLT, Nat.reduceLeDiff, Nat.reduceEqDiff]) <;> trivial, [some 1, some 2, none], ?_⟩
      all_goals try simp only [go_sem, inj_r, ↓reduceIte, reduceCtorEq, Nat.reduceAdd, Nat.reduceLT, Nat.reduceLeDiff, Nat.reduceEqDiff, Int.reduceEq]
      all_goals (repeat' refine And.intro ?_ ?_) <;> try exact shut7
      all_goals simp only [List.length_replicate]
  · simp [no] at hp

/-- A text of which half is written over another one. -/
def torn (old now : ByteArray) : ByteArray := if now.size / 2 < old.size then now.extract 0 (now.size / 2) ++ old.extract (now.size / 2) old.size else now.extract 0 (now.size / 2)
@[go_sem] def ctTorn : Ct := ⟨false, [], fun args os => match args, os with
  | [.one (.val (.string old)), .one (.val (.string now))], [] => ifp (old.size ≤ 1000000000 ∧ now.size ≤ 1000000000) (vs (torn old now))
  | _, _ => no⟩
theorem s_torn_e : EnterOk Tryz.prog 198 := ⟨_, Tryz.func198, rfl, by decide⟩
@[go_sem] def s_torn_lv : List (List Nat) := [[0, 1], [0, 1, 5], [0, 1, 5, 12], [4], [4]]
@[go_sem] noncomputable def s_torn_K : Known := Known.nil
set_option maxHeartbeats 8000000 in
theorem s_torn : Sound Tryz.prog 198 ctTorn := by
  have ke := s_torn_K.env []
  have kl : Lives s_torn_lv := trivial
  refine sound_intro (E := ⟨ti, s_torn_K.Γ, []⟩) ke Tryz.func198 Tryz.ntmps198 rfl (rs := [.tmp 4]) rfl ?_
  intro args os hp
  unfold ctTorn at hp ⊢
  dsimp only at hp ⊢
  split at hp
  · rename_i old now
    refine ⟨by simp, fun φ0 w0 => ?_⟩
    obtain ⟨h1, h2⟩ : old.size ≤ 1000000000 ∧ now.size ≤ 1000000000 := hp
    have hq : IntKind.i64.wrap ((now.size : Int).tdiv 2) = ((now.size / 2 : Nat) : Int) := by
      have : (now.size : Int).tdiv 2 = ((now.size / 2 : Nat) : Int) := (Int.ofNat_tdiv _ _).symm
      rw [this]
      exact wrap_id _ (by omega) (by omega)
    refine goh trivial ?_
    simp only [hq]
    refine W_cnd ?_ ?_ <;> (try simp only [cnd_r]) <;> intro hc
    · repeat' first
        | with_reducible refine red ?_
        | refine W_seq ?_
        | (refine W_reg (s_torn_K.env []) s_torn_lv fun K' hK' => ?_
           simp only [go_sem, ↓reduceIte, ↓reduceDIte, reduceCtorEq, Nat.reduceAdd, Nat.reduceMul, Nat.reduceSub, Nat.reduceDiv, Nat.reduceMod, Nat.reduceLT, Nat.reduceLeDiff, Nat.reduceEqDiff, Nat.reduceBEq, Int.reduceToNat, Int.reduceLE, Int.reduceLT, Int.reduceEq, Int.reduceNe, Int.reduceNeg]
           (repeat' refine And.intro ?_ ?_) <;> try first | with_reducible refine hK' ?_ | exact shut6)
        | with_reducible refine blockG_o (by decide) ?_
      · simp only [ByteArray.size_extract]; omega
      · skip
        refine ⟨by (simp only [go_sem, ↓reduceIte, reduceCtorEq, Nat.reduceAdd, Nat.reduceLT, Nat.reduceLeDiff, Nat.reduceEqDiff]) <;> trivial, [], ?_⟩
        all_goals try simp only [go_sem, inj_r, ↓reduceIte, reduceCtorEq, Nat.reduceAdd, Nat.reduceLT, Nat.reduceLeDiff, Nat.reduceEqDiff, Int.reduceEq]
        all_goals (repeat' refine And.intro ?_ ?_) <;> try exact shut7
        have : now.size / 2 < old.size := by omega
        unfold torn
        rw [if_pos this]
    · refine goh trivial ?_
      refine ⟨by (simp only [go_sem, ↓reduceIte, reduceCtorEq, Nat.reduceAdd, Nat.reduceLT, Nat.reduceLeDiff, Nat.reduceEqDiff]) <;> trivial, [], ?_⟩
      all_goals try simp only [go_sem, inj_r, ↓reduceIte, reduceCtorEq, Nat.reduceAdd, Nat.reduceLT, Nat.reduceLeDiff, Nat.reduceEqDiff, Int.reduceEq]
      all_goals (repeat' refine And.intro ?_ ?_) <;> try exact shut7
      have : ¬ now.size / 2 < old.size := by omega
      unfold torn
      rw [if_neg this]
  · simp [no, ifp] at hp
end Go.Proofs.YtjedcphhajlnoaaGreatDoor
/- Functions: falls. -/
namespace Go.Proofs.YtjedcphhajlnoaaGreatDoor
open Go.RowKit

theorem at_set {α : Type} (xs : List α) (i j : Nat) (v d : α) : (xs.set i v).getD j d = if i = j ∧ j < xs.length then v else xs.getD j d := by
  simp only [List.getD_eq_getElem?_getD, List.getElem?_set]
  by_cases h : i = j
  · subst h
    by_cases h2 : i < xs.length
    · simp [h2]
    · simp [h2]
  · simp [h]
abbrev Two := List ByteArray × List ByteArray
/-- A sector. -/
def sec (x : Two) (s k : Int) : ByteArray := if s = 0 then ET.str.at x.1 k.toNat else ET.str.at x.2 k.toNat
def Sm (x : Two) : Prop := ∀ j : Nat, (x.1.getD j ET.str.dflt).size ≤ 420 ∧ (x.2.getD j ET.str.dflt).size ≤ 420
theorem Sm.sec {x : Two} (h : Sm x) (s k : Int) : (sec x s k).size ≤ 420 := by
  unfold Go.Proofs.YtjedcphhajlnoaaGreatDoor.sec; split
  · exact (h _).1
  · exact (h _).2
theorem Sm.put {x : Two} (h : Sm x) (w : Late) (hw : w.text.size ≤ 420) : Sm (putW x w) := by
  intro j
  unfold putW
  split
  · refine ⟨?_, (h j).2⟩
    simp only [at_set]
    split
    · exact hw
    · exact (h j).1
  · refine ⟨(h j).1, ?_⟩
    simp only [at_set]
    split
    · exact hw
    · exact (h j).2
theorem torn_size (old now : ByteArray) (h1 : old.size ≤ 420) (h2 : now.size ≤ 420) : (torn old now).size ≤ 420 := by
  unfold torn
  split
  · rw [ByteArray.size_append, ByteArray.size_extract, ByteArray.size_extract]; omega
  · rw [ByteArray.size_extract]; omega
/-- What becomes of a write. -/
def fell (f : Int) (x : Two) (w : Late) : Two := if f = 1 then putW x w else if f = 2 then putW x ⟨w.side, w.at_, torn (sec x w.side w.at_) w.text⟩ else x
theorem fell_len (f : Int) (x : Two) (w : Late) : (fell f x w).1.length = x.1.length ∧ (fell f x w).2.length = x.2.length := by
  unfold fell; split
  · exact putW_len x w
  · split
    · exact putW_len x _
    · exact ⟨rfl, rfl⟩
theorem Sm.fell {x : Two} (h : Sm x) (f : Int) (w : Late) (hw : w.text.size ≤ 420) : Sm (fell f x w) := by
  unfold Go.Proofs.YtjedcphhajlnoaaGreatDoor.fell; split
  · exact h.put w hw
  · split
    · exact h.put _ (torn_size _ _ (h.sec _ _) hw)
    · exact h
def Dk.fallN (d : Dk) (fate : List Int) : Nat → Two
  | 0 => (d.a, d.b)
  | n + 1 => fell (ET.int.at fate n) (d.fallN fate n) (ET.late.at d.l n)
theorem Dk.fallN_len (d : Dk) (fate : List Int) : ∀ n, (d.fallN fate n).1.length = d.a.length ∧ (d.fallN fate n).2.length = d.b.length
  | 0 => ⟨rfl, rfl⟩
  | n + 1 => by
    have h := fell_len (ET.int.at fate n) (d.fallN fate n) (ET.late.at d.l n)
    have h' := d.fallN_len fate n
    unfold Dk.fallN; rw [h.1, h.2]; exact h'
theorem Dk.ok_sm {d : Dk} (h : d.ok = true) : Sm (d.a, d.b) := by
  obtain ⟨-, -, -, -, h5, h6, -⟩ := (Dk.ok_iff d).1 h
  intro j
  have e : ∀ xs : List ByteArray, (∀ j, j < xs.length → long (xs.getD j ET.str.dflt) = false) → (xs.getD j ET.str.dflt).size ≤ 420 := by
    intro xs hx
    rcases Nat.lt_or_ge j xs.length with hj | hj
    · have := hx j hj; unfold long at this; simp only [decide_eq_false_iff_not] at this; omega
    · rw [List.getD_eq_getElem?_getD, List.getElem?_eq_none hj]; exact Nat.zero_le _
  exact ⟨e d.a h5, e d.b h6⟩
theorem Dk.fallN_sm {d : Dk} (h : d.ok = true) (fate : List Int) : ∀ n, n ≤ d.l.length → Sm (d.fallN fate n)
  | 0, _ => d.ok_sm h
  | n + 1, hn => (d.fallN_sm h fate n (by omega)).fell _ _ (Dk.ok_late h n (by omega)).2.2.2
def Dk.fallen (d : Dk) (fate : List Int) : Dk := ⟨(d.fallN fate (min d.l.length fate.length)).1, (d.fallN fate (min d.l.length fate.length)).2, []⟩
def dkFall (d : Dk) (fate : List Int) : Dk := if d.ok then d.fallen fate else .nil
@[go_sem] def ctDiskFall : Ct := ⟨false, [[some .str, some .str, some .late], [some .int]], fun args os => match args, os with
  | [.agg [.isl .str a, .isl .str b, .isl .late l], .one (.isl .int fate)], [] => ⟨(Dk.mk a b l).small ∧ fate.length ≤ 4000000, (dkFall ⟨a, b, l⟩ fate).v 0, [], (dkFall ⟨a, b, l⟩ fate).objs⟩
  | _, _ => no⟩
theorem extr_id (s : ByteArray) : s.extract 0 s.size = s := ByteArray.extract_zero_size
@[go_sem] def sgFall (a b : List ByteArray) (l : List Late) (fate : List Int) (x : Two) (i : Nat) : Sg := ⟨[(1, .one (.isl .int fate)), (2, .one (.ptr 0 0)), (4, .one (.ptr 1 0)), (5, .one (.ptr 5 0)), (6, vi i)],
  [some (.cells [.isl .str a, .isl .str b, .isl .late l]), some (.cells [.val (.slice none 0 0), .val (.slice none 0 0), .val (.slice none 0 0)]), some (.arr .str x.1), some (.arr .str x.2), some (.arr .late l), some (.cells [.osl .str 2 0 x.1.length, .osl .str 3 0 x.2.length, .osl .late 4 0 l.length])], []⟩
theorem s_specFall_e : EnterOk Tryz.prog 123 := ⟨_, Tryz.func123, rfl, by decide⟩
@[go_sem] def s_specFall_lv : List (List Nat) := [[1, 2, 4], [1, 2, 4, 10], [4], [1, 2, 4, 5], [1, 2, 4, 5, 6], [1, 2, 4, 5, 6, 24], [1, 2, 4, 5, 6], [1, 2, 4, 5, 6, 7], [1, 2, 4, 5, 6, 7, 35], [1, 2, 4, 5, 6, 7, 35, 36], [1, 2, 4, 5, 6], [1, 2, 4, 5, 6, 7, 48], [1, 2, 4, 5, 6], [4, 5], [4]]
@[go_sem] noncomputable def s_specFall_K : Known := (((Known.nil).cons 28 ctDiskOk s_specDiskOk s_specDiskOk_e).cons 85 ctOwn s_copy s_copy_e).cons 198 ctTorn s_torn s_torn_e
set_option maxHeartbeats 8000000 in
theorem s_specFall : Sound Tryz.prog 123 ctDiskFall := by
  have ke := s_specFall_K.env []
  have kl : Lives s_specFall_lv := trivial
  refine sound_intro (E := ⟨ti, s_specFall_K.Γ, []⟩) ke Tryz.func123 Tryz.ntmps123 rfl (rs := [.cell 4 39]) rfl ?_
  intro args os hp
  unfold ctDiskFall at hp ⊢
  dsimp only at hp ⊢
  split at hp
  · rename_i a b l fate
    refine ⟨by simp, fun φ0 w0 => ?_⟩
    obtain ⟨⟨h1, h2, h3⟩, h4⟩ : (a.length ≤ 4000000 ∧ b.length ≤ 4000000 ∧ l.length ≤ 4000000) ∧ fate.length ≤ 4000000 := hp
    refine goh trivial ?_
    refine W_cnd ?_ ?_ <;> (try simp only [cnd_r]) <;> intro hok
    · have e1 : dkFall ⟨a, b, l⟩ fate = .nil := by unfold dkFall; rw [hok]; rfl
      refine goh trivial ?_
      refine ⟨by (simp only [go_sem, e1, Dk.nil, ↓reduceIte, reduceCtorEq, Nat.reduceAdd, Nat.reduceLT, Nat.reduceLeDiff, Nat.reduceEqDiff]) <;> trivial, [none, none, none], ?_⟩
      all_goals try simp only [go_sem, e1, Dk.nil, inj_r, ↓reduceIte, reduceCtorEq, Nat.reduceAdd, Nat.reduceLT, Nat.reduceLeDiff, Nat.reduceEqDiff, Int.reduceEq]
      all_goals (repeat' refine And.intro ?_ ?_) <;> try exact shut7
    · have e1 : dkFall ⟨a, b, l⟩ fate = (Dk.mk a b l).fallen fate := by unfold dkFall; rw [hok]; rfl
      refine goh trivial ?_
      refine W_le (σ' := sgFall a b l fate ((Dk.mk a b l).fallN fate 0) 0) [some 0, some 1, some 2, some 3, some 4, some 5] (by
        simp only [go_sem, Dk.fallN, inj_r, ↓reduceIte, reduceCtorEq, Nat.reduceAdd, Nat.reduceLT, Nat.reduceLeDiff, Nat.reduceEqDiff, Int.reduceEq]
        all_goals (repeat' refine And.intro ?_ ?_) <;> try exact shut7
        ) ?_
      refine W_loop (fun n σ => ∃ i : Nat, i ≤ min l.length fate.length ∧ n = l.length - i ∧ σ = sgFall a b l fate ((Dk.mk a b l).fallN fate i) i) l.length ⟨0, by omega, by omega, rfl⟩ ?_
      rintro n σ ⟨i, hi, rfl, rfl⟩
      obtain ⟨hl1, hl2⟩ := (Dk.mk a b l).fallN_len fate i
      simp only at hl1 hl2
      unfold sgFall
      refine goh trivial ?_
      refine W_cond _ (by exact rfl) (by exact trivial) ?_ ?_ <;> intro hc
      · obtain ⟨hi1, hi2⟩ : i < l.length ∧ i < fate.length := by
          split at hc
          · simp only [decide_eq_true_eq] at hc; omega
          · cases hc
        clear hc
        obtain ⟨ws, w1, w2, w3⟩ := Dk.ok_late hok i hi1
        have hsm := Dk.fallN_sm hok fate i (show i ≤ l.length by omega)
        have hd : (Dk.mk a b l).fallN fate (i + 1) = fell (fate.getD i ET.int.dflt) ((Dk.mk a b l).fallN fate i) (l.getD i ET.late.dflt) := rfl
        obtain ⟨-, -, hab, -⟩ := (Dk.ok_iff _).1 hok
        simp only at ws w1 w2 w3 hd hab
        generalize hx : (Dk.mk a b l).fallN fate i = x at *
        generalize hw : l.getD i ET.late.dflt = w at *
        generalize hf : fate.getD i ET.int.dflt = f at *
        obtain ⟨s, k, t⟩ := w
        have hz := hsm.sec s k
        unfold sec at hz
        simp only at ws w1 w2 w3
        refine goh (And.intro hw hf) ?_
        refine W_cond _ (by exact rfl) (by exact trivial) ?_ ?_ <;> intro hc
        · obtain rfl : f = 1 := by simpa using hc
          rcases ws with rfl | rfl
          all_goals
            refine goh (And.intro hw hf) ?_
            refine ⟨l.length - (i + 1), [some 0, some 1, some 2, some 3, some 4, some 5], sgFall a b l fate ((Dk.mk a b l).fallN fate (i + 1)) (i + 1), by omega, ?_, i + 1, by omega, rfl, rfl⟩
            rw [hd]
            simp only [go_sem, fell, putW, List.length_set, inj_r, ↓reduceIte, reduceCtorEq, Nat.reduceAdd, Nat.reduceLT, Nat.reduceLeDiff, Nat.reduceEqDiff, Int.reduceEq]
            all_goals (repeat' refine And.intro ?_ ?_) <;> try exact shut7
        · have hf1 : ¬ f = 1 := by simpa using hc
          refine goh (And.intro hw hf) ?_
          refine W_cond _ (by exact rfl) (by exact trivial) ?_ ?_ <;> intro hc2
          · obtain rfl : f = 2 := by simpa using hc2
            rcases ws with rfl | rfl
            all_goals
              simp only [↓reduceIte, Int.reduceEq, ET.at] at hz
              refine goh (And.intro hw hf) ?_
              refine ⟨l.length - (i + 1), [some 0, some 1, some 2, some 3, some 4, some 5], sgFall a b l fate ((Dk.mk a b l).fallN fate (i + 1)) (i + 1), by omega, ?_, i + 1, by omega, rfl, rfl⟩
              rw [hd]
              simp only [go_sem, fell, putW, sec, List.length_set, inj_r, ↓reduceIte, reduceCtorEq, Nat.reduceAdd, Nat.reduceLT, Nat.reduceLeDiff, Nat.reduceEqDiff, Int.reduceEq]
              all_goals (repeat' refine And.intro ?_ ?_) <;> try exact shut7
          · have hf2 : ¬ f = 2 := by simpa using hc2
            refine goh (And.intro hw hf) ?_
            refine ⟨l.length - (i + 1), [some 0, some 1, some 2, some 3, some 4, some 5], sgFall a b l fate ((Dk.mk a b l).fallN fate (i + 1)) (i + 1), by omega, ?_, i + 1, by omega, rfl, rfl⟩
            rw [hd]
            simp only [go_sem, fell, hf1, hf2, inj_r, ↓reduceIte, reduceCtorEq, Nat.reduceAdd, Nat.reduceLT, Nat.reduceLeDiff, Nat.reduceEqDiff, Int.reduceEq]
            all_goals (repeat' refine And.intro ?_ ?_) <;> try exact shut7
      · have : i = min l.length fate.length := by
          split at hc
          · simp only [decide_eq_false_iff_not] at hc; omega
          · omega
        subst this
        refine goh trivial ?_
        refine ⟨by (simp only [go_sem, e1, Dk.fallen, ↓reduceIte, reduceCtorEq, Nat.reduceAdd, Nat.reduceLT, Nat.reduceLeDiff, Nat.reduceEqDiff]) <;> trivial, [some 2, some 3, none], ?_⟩
        all_goals try simp only [go_sem, e1, Dk.fallen, inj_r, ↓reduceIte, reduceCtorEq, Nat.reduceAdd, Nat.reduceLT, Nat.reduceLeDiff, Nat.reduceEqDiff, Int.reduceEq]
        all_goals (repeat' refine And.intro ?_ ?_) <;> try exact shut7
  · simp [no] at hp
end Go.Proofs.YtjedcphhajlnoaaGreatDoor
/- Plain facts: what a fall leaves. -/
namespace Go.Proofs.YtjedcphhajlnoaaGreatDoor
open Go.RowKit

/-- Is one of the first n late writes one of this sector? -/
def lateB (l : List Late) (s a : Int) : Nat → Bool
  | 0 => false
  | n + 1 => lateB l s a n || (((ET.late.at l n).side == s) && ((ET.late.at l n).at_ == a))
theorem putW_at (x : Two) (w : Late) (hs : w.side = 0 ∨ w.side = 1) (ha : 0 ≤ w.at_) (a : Nat) :
    (¬ (w.side = 0 ∧ w.at_ = a) → (putW x w).1.getD a ET.str.dflt = x.1.getD a ET.str.dflt) ∧ (¬ (w.side = 1 ∧ w.at_ = a) → (putW x w).2.getD a ET.str.dflt = x.2.getD a ET.str.dflt) := by
  unfold putW
  constructor
  · intro h
    split
    · rename_i h0
      simp only [at_set]
      rw [if_neg]
      rintro ⟨h1, -⟩
      exact h ⟨h0, by omega⟩
    · rfl
  · intro h
    split
    · rfl
    · rename_i h0
      simp only [at_set]
      rw [if_neg]
      rintro ⟨h1, -⟩
      exact h ⟨by omega, by omega⟩
theorem fell_at (f : Int) (x : Two) (w : Late) (hs : w.side = 0 ∨ w.side = 1) (ha : 0 ≤ w.at_) (a : Nat) :
    (¬ (w.side = 0 ∧ w.at_ = a) → (fell f x w).1.getD a ET.str.dflt = x.1.getD a ET.str.dflt) ∧ (¬ (w.side = 1 ∧ w.at_ = a) → (fell f x w).2.getD a ET.str.dflt = x.2.getD a ET.str.dflt) := by
  unfold fell
  split
  · exact putW_at x w hs ha a
  · split
    · exact putW_at x ⟨w.side, w.at_, torn (sec x w.side w.at_) w.text⟩ hs ha a
    · exact ⟨fun _ => rfl, fun _ => rfl⟩
theorem fallN_keep {d : Dk} (h : d.ok = true) (fate : List Int) (a : Nat) : ∀ n, n ≤ d.l.length →
    (lateB d.l 0 a n = false → (d.fallN fate n).1.getD a ET.str.dflt = d.a.getD a ET.str.dflt) ∧ (lateB d.l 1 a n = false → (d.fallN fate n).2.getD a ET.str.dflt = d.b.getD a ET.str.dflt)
  | 0, _ => ⟨fun _ => rfl, fun _ => rfl⟩
  | n + 1, hn => by
    obtain ⟨i1, i2⟩ := fallN_keep h fate a n (by omega)
    obtain ⟨ws, w1, -⟩ := Dk.ok_late h n (by omega)
    obtain ⟨f1, f2⟩ := fell_at (ET.int.at fate n) (d.fallN fate n) (ET.late.at d.l n) ws w1 a
    constructor
    · intro hl
      unfold lateB at hl
      simp only [Bool.or_eq_false_iff, Bool.and_eq_false_iff, beq_eq_false_iff_ne] at hl
      show (fell _ _ _).1.getD a ET.str.dflt = _
      rw [f1 (fun hh => hl.2.elim (fun h => h hh.1) (fun h => h hh.2)), i1 hl.1]
    · intro hl
      unfold lateB at hl
      simp only [Bool.or_eq_false_iff, Bool.and_eq_false_iff, beq_eq_false_iff_ne] at hl
      show (fell _ _ _).2.getD a ET.str.dflt = _
      rw [f2 (fun hh => hl.2.elim (fun h => h hh.1) (fun h => h hh.2)), i2 hl.1]
theorem lateB_mono (l : List Late) (s a : Int) : ∀ m n, m ≤ n → lateB l s a n = false → lateB l s a m = false
  | m, 0, h, _ => by obtain rfl : m = 0 := by omega
                     rfl
  | m, n + 1, h, hl => by
    rcases Nat.lt_succ_iff_lt_or_eq.1 (Nat.lt_succ_of_le h) with h' | rfl
    · refine lateB_mono l s a m n (by omega) ?_
      unfold lateB at hl
      simp only [Bool.or_eq_false_iff] at hl
      exact hl.1
    · exact hl
theorem dkFall_keep {d : Dk} (h : d.ok = true) (fate : List Int) (a : Nat) :
    (lateB d.l 0 a d.l.length = false → (dkFall d fate).a.getD a ET.str.dflt = d.a.getD a ET.str.dflt) ∧ (lateB d.l 1 a d.l.length = false → (dkFall d fate).b.getD a ET.str.dflt = d.b.getD a ET.str.dflt) := by
  have e : dkFall d fate = d.fallen fate := by unfold dkFall; rw [if_pos h]
  rw [e]
  obtain ⟨i1, i2⟩ := fallN_keep h fate a (min d.l.length fate.length) (by omega)
  exact ⟨fun hl => i1 (lateB_mono _ _ _ _ _ (by omega) hl), fun hl => i2 (lateB_mono _ _ _ _ _ (by omega) hl)⟩
theorem dkFall_nil {d : Dk} (h : d.ok = true) : dkFall d [] = ⟨d.a, d.b, []⟩ := by
  unfold dkFall Dk.fallen
  rw [if_pos h]
  simp only [List.length_nil, Nat.min_zero]
  rfl
theorem fallN_all (d : Dk) (m : Nat) : ∀ n, n ≤ d.l.length → n ≤ m → d.fallN (List.replicate m 1) n = d.done n
  | 0, _, _ => by rw [Dk.done_zero]; rfl
  | n + 1, h, hm => by
    rw [Dk.done_succ d n h]
    unfold Dk.fallN
    rw [fallN_all d m n (by omega) (by omega)]
    have : ET.int.at (List.replicate m 1) n = 1 := by
      unfold ET.at
      rw [List.getD_eq_getElem?_getD, List.getElem?_replicate, if_pos (by omega)]; rfl
    rw [this]
    rfl
theorem dkFall_all (d : Dk) : dkFall d (List.replicate d.l.length 1) = dkFlush d := by
  unfold dkFall dkFlush Dk.fallen Dk.flushed
  rw [List.length_replicate, Nat.min_self, fallN_all d d.l.length d.l.length (Nat.le_refl _) (Nat.le_refl _)]
theorem dkFall_small (d : Dk) (fate : List Int) : (dkFall d fate).a.length ≤ d.a.length ∧ (dkFall d fate).b.length ≤ d.b.length ∧ (dkFall d fate).l = [] := by
  unfold dkFall
  split
  · have := d.fallN_len fate (min d.l.length fate.length)
    exact ⟨by show (d.fallN _ _).1.length ≤ _; omega, by show (d.fallN _ _).2.length ≤ _; omega, rfl⟩
  · exact ⟨Nat.zero_le _, Nat.zero_le _, rfl⟩
theorem dkFall_len {d : Dk} (h : d.ok = true) (fate : List Int) : (dkFall d fate).a.length = d.a.length ∧ (dkFall d fate).b.length = d.b.length := by
  have e : dkFall d fate = d.fallen fate := by unfold dkFall; rw [if_pos h]
  rw [e]; exact d.fallN_len fate _
end Go.Proofs.YtjedcphhajlnoaaGreatDoor
/- Functions: decay. -/
namespace Go.Proofs.YtjedcphhajlnoaaGreatDoor
open Go.RowKit

/-- A byte, some of its bits turned. -/
def turn (x : UInt8) (mask : Int) : UInt8 := UInt8.ofNat (IntKind.u8.wrap ((BitVec.ofInt 8 (x.toNat : Int) ^^^ BitVec.ofInt 8 (IntKind.u8.wrap mask)).toNat : Int)).toNat
def rotB (s : ByteArray) (k mask : Int) : ByteArray := ⟨(s.data.toList.set k.toNat (turn (s.data.toList.getD k.toNat ET.byte.dflt) mask)).toArray⟩
def Dk.mayRot (d : Dk) (s at_ k mask : Int) : Bool := sector d.a.length s at_ && decide (0 ≤ k) && decide (k < (sec (d.a, d.b) s at_).size) && decide (1 ≤ mask) && decide (mask ≤ 255)
def Dk.rot (d : Dk) (s at_ k mask : Int) : Dk := ⟨(putW (d.a, d.b) ⟨s, at_, rotB (sec (d.a, d.b) s at_) k mask⟩).1, (putW (d.a, d.b) ⟨s, at_, rotB (sec (d.a, d.b) s at_) k mask⟩).2, d.l⟩
def dkRot (d : Dk) (s at_ k mask : Int) : Dk := if d.ok then if d.mayRot s at_ k mask then d.rot s at_ k mask else d else .nil
@[go_sem] def ctDiskRot : Ct := ⟨false, [[some .str, some .str, some .late]], fun args os => match args, os with
  | [.agg [.isl .str a, .isl .str b, .isl .late l], .one (.val (.int .i64 s)), .one (.val (.int .i64 i)), .one (.val (.int .i64 k)), .one (.val (.int .i64 mask))], [] => ⟨(Dk.mk a b l).small, (dkRot ⟨a, b, l⟩ s i k mask).v 0, [], (dkRot ⟨a, b, l⟩ s i k mask).objs⟩
  | _, _ => no⟩
theorem fits_sector (n : Nat) (s k : Int) : fits n s k ⟨#[]⟩ = sector n s k := by
  have : (⟨#[]⟩ : ByteArray).size = 0 := rfl
  unfold fits sector
  rw [Bool.eq_iff_iff]
  simp only [Bool.and_eq_true, decide_eq_true_eq, this]
  omega
theorem sector_iff (n : Nat) (s k : Int) : sector n s k = true ↔ (s = 0 ∨ s = 1) ∧ 0 ≤ k ∧ k < n := by
  unfold sector
  simp only [Bool.and_eq_true, decide_eq_true_eq]
  omega
theorem s_specRot_e : EnterOk Tryz.prog 124 := ⟨_, Tryz.func124, rfl, by decide⟩
@[go_sem] def s_specRot_lv : List (List Nat) := [[1, 2, 3, 4, 5, 10], [1, 2, 3, 4, 5, 10, 15], [10], [1, 2, 3, 4, 5, 10, 11], [1, 2, 3, 4, 10, 11, 47], [10], [1, 2, 3, 4, 10, 11, 12], [1, 2, 10, 11, 12], [10, 11], [10]]
@[go_sem] noncomputable def s_specRot_K : Known := (((Known.nil).cons 28 ctDiskOk s_specDiskOk s_specDiskOk_e).cons 85 ctOwn s_copy s_copy_e).cons 93 ctThere s_there s_there_e
set_option maxHeartbeats 8000000 in
theorem s_specRot : Sound Tryz.prog 124 ctDiskRot := by
  have ke := s_specRot_K.env []
  have kl : Lives s_specRot_lv := trivial
  refine sound_intro (E := ⟨ti, s_specRot_K.Γ, []⟩) ke Tryz.func124 Tryz.ntmps124 rfl (rs := [.cell 10 39]) rfl ?_
  intro args os hp
  unfold ctDiskRot at hp ⊢
  dsimp only at hp ⊢
  split at hp
  · rename_i a b l s i k mask
    refine ⟨by simp, fun φ0 w0 => ?_⟩
    obtain ⟨h1, h2, h3⟩ : a.length ≤ 4000000 ∧ b.length ≤ 4000000 ∧ l.length ≤ 4000000 := hp
    refine goh trivial ?_
    refine W_cnd ?_ ?_ <;> (try simp only [cnd_r]) <;> intro hok
    · have e1 : dkRot ⟨a, b, l⟩ s i k mask = .nil := by unfold dkRot; rw [hok]; rfl
      refine goh trivial ?_
      refine ⟨by (simp only [go_sem, e1, Dk.nil, ↓reduceIte, reduceCtorEq, Nat.reduceAdd, Nat.reduceLT, Nat.reduceLeDiff, Nat.reduceEqDiff]) <;> trivial, [none, none, none], ?_⟩
      all_goals try simp only [go_sem, e1, Dk.nil, inj_r, ↓reduceIte, reduceCtorEq, Nat.reduceAdd, Nat.reduceLT, Nat.reduceLeDiff, Nat.reduceEqDiff, Int.reduceEq]
      all_goals (repeat' refine And.intro ?_ ?_) <;> try exact shut7
    · have e1 : dkRot ⟨a, b, l⟩ s i k mask = if (Dk.mk a b l).mayRot s i k mask then (Dk.mk a b l).rot s i k mask else ⟨a, b, l⟩ := by unfold dkRot; rw [hok]; rfl
      have hm : (Dk.mk a b l).mayRot s i k mask = (sector a.length s i && decide (0 ≤ k) && decide (k < (sec (a, b) s i).size) && decide (1 ≤ mask) && decide (mask ≤ 255)) := rfl
      obtain ⟨-, -, hab, -⟩ := (Dk.ok_iff _).1 hok
      simp only at hab
      have hsm := (Dk.ok_sm hok).sec s i
      rw [show (Dk.mk a b l).a = a from rfl, show (Dk.mk a b l).b = b from rfl] at hsm
      generalize (Dk.mk a b l).mayRot s i k mask = mr at e1 hm
      by_cases hs : sector a.length s i = true
      · obtain ⟨ws, w1, w2⟩ := (sector_iff _ _ _).1 hs
        rw [hs, Bool.true_and] at hm
        have hf := (fits_sector a.length s i).trans hs
        obtain ⟨tx, htx⟩ : ∃ tx, tx = sec (a, b) s i := ⟨_, rfl⟩
        rw [← htx] at hsm hm
        have hdl : tx.data.toList.length = tx.size := Array.length_toList
        rcases ws with rfl | rfl
        all_goals
          simp only [sec, ↓reduceIte, Int.reduceEq, ET.at] at htx
          repeat' first
            | with_reducible refine red ?_
            | refine W_seq ?_
            | (refine W_reg (s_specRot_K.env []) s_specRot_lv fun K' hK' => ?_
               simp only [go_sem, Dk.small, hf, ← htx, ↓reduceIte, ↓reduceDIte, reduceCtorEq, Nat.reduceAdd, Nat.reduceMul, Nat.reduceSub, Nat.reduceDiv, Nat.reduceMod, Nat.reduceLT, Nat.reduceLeDiff, Nat.reduceEqDiff, Nat.reduceBEq, Int.reduceToNat, Int.reduceLE, Int.reduceLT, Int.reduceEq, Int.reduceNe, Int.reduceNeg]
               (repeat' refine And.intro ?_ ?_) <;> try first | with_reducible refine hK' ?_ | exact shut6)
            | with_reducible refine blockG_o (by decide) ?_
          refine W_cnd ?_ ?_ <;> (try simp only [cnd_r]) <;> intro hc
          · have hm0 : mr = false := by
              rw [hm, Bool.eq_false_iff]
              simp only [ne_eq, Bool.and_eq_true, decide_eq_true_eq]
              omega
            refine goh trivial ?_
            exact finh [some 2, some 3, some 4] (And.intro e1 hm0)
          · have hm0 : mr = true := by
              rw [hm]
              simp only [Bool.and_eq_true, decide_eq_true_eq]
              omega
            clear hm hs hf
            repeat' first
              | with_reducible refine red ?_
              | refine W_seq ?_
              | (refine W_reg (s_specRot_K.env []) s_specRot_lv fun K' hK' => ?_
                 simp only [go_sem, ← htx, hdl, ↓reduceIte, ↓reduceDIte, reduceCtorEq, Nat.reduceAdd, Nat.reduceMul, Nat.reduceSub, Nat.reduceDiv, Nat.reduceMod, Nat.reduceLT, Nat.reduceLeDiff, Nat.reduceEqDiff, Nat.reduceBEq, Int.reduceToNat, Int.reduceLE, Int.reduceLT, Int.reduceEq, Int.reduceNe, Int.reduceNeg]
                 (repeat' refine And.intro ?_ ?_) <;> try first | with_reducible refine hK' ?_ | exact shut6)
              | with_reducible refine blockG_o (by decide) ?_
            refine ⟨by (simp only [go_sem, e1, hm0, Dk.rot, putW, sec, ← htx, rotB, turn, List.length_set, ↓reduceIte, reduceCtorEq, Nat.reduceAdd, Nat.reduceLT, Nat.reduceLeDiff, Nat.reduceEqDiff]) <;> trivial, [some 2, some 3, some 4], ?_⟩
            all_goals try simp only [go_sem, e1, hm0, Dk.rot, putW, sec, ← htx, rotB, turn, List.length_set, inj_r, ↓reduceIte, reduceCtorEq, Nat.reduceAdd, Nat.reduceLT, Nat.reduceLeDiff, Nat.reduceEqDiff, Int.reduceEq]
            all_goals (repeat' refine And.intro ?_ ?_) <;> try exact shut7
      · have hs' : sector a.length s i = false := by simpa using hs
        have hf := (fits_sector a.length s i).trans hs'
        rw [hs'] at hm
        simp only [Bool.false_and] at hm
        repeat' first
          | with_reducible refine red ?_
          | refine W_seq ?_
          | (refine W_reg (s_specRot_K.env [25, 26, 29, 30, 31, 32, 33, 34, 35, 36, 37, 38, 41, 42, 45, 46]) s_specRot_lv fun K' hK' => ?_
             simp only [go_sem, Dk.small, hf, ↓reduceIte, ↓reduceDIte, reduceCtorEq, Nat.reduceAdd, Nat.reduceMul, Nat.reduceSub, Nat.reduceDiv, Nat.reduceMod, Nat.reduceLT, Nat.reduceLeDiff, Nat.reduceEqDiff, Nat.reduceBEq, Int.reduceToNat, Int.reduceLE, Int.reduceLT, Int.reduceEq, Int.reduceNe, Int.reduceNeg]
             (repeat' refine And.intro ?_ ?_) <;> try first | with_reducible refine hK' ?_ | exact shut6)
          | with_reducible refine blockG_o (by decide) ?_
        refine W_cnd ?_ ?_ <;> intro hlit <;> try (cases hlit; done)
        refine goh trivial ?_
        exact finh [some 2, some 3, some 4] (And.intro e1 hm)
  · simp [no] at hp
end Go.Proofs.YtjedcphhajlnoaaGreatDoor
