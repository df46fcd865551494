import Derived.Test.YtjedcphhajlnoaaGreatDoorM5
import Derived.Test.YtjedcphhajlnoaaGreatDoorM13
set_option linter.unusedSimpArgs false
set_option linter.unusedVariables false
set_option linter.unusedSectionVars false
/- Functions of the exact laws: slices of pointers, entries, sets. -/
namespace Go.Proofs.YtjedcphhajlnoaaGreatDoor
open Go.RowKit

@[go_sem] def ctToPs : Ct := ⟨false, [[some .ptr]], fun args os => match args, os with
  | [.one (.isl .ptr xs)], [] => ⟨xs.length ≤ 4000000, .one (.osl .ptr 0 0 xs.length), [], [.arr .ptr xs]⟩
  | _, _ => no⟩
@[go_sem] def sgToPs (xs : List Ptr) (i : Nat) : Sg := ⟨[(0, .one (.isl .ptr xs)), (3, .one (.osl .ptr 0 0 xs.length)), (4, vi i)], [some (.arr .ptr (mix xs (List.replicate xs.length ET.ptr.dflt) i))], []⟩
theorem s_toPs_e : EnterOk Tryz.prog 156 := ⟨_, Tryz.func156, rfl, by decide⟩
@[go_sem] def s_toPs_lv : List (List Nat) := [[0], [0, 3], [0, 3, 4], [0, 3, 4, 11], [0, 3, 4], [0, 3, 4], [2]]
@[go_sem] noncomputable def s_toPs_K : Known := (Known.nil).cons 217 ctToPtr s_toPtr s_toPtr_e
set_option maxHeartbeats 8000000 in
theorem s_toPs : Sound Tryz.prog 156 ctToPs := by
  have ke := s_toPs_K.env []
  have kl : Lives s_toPs_lv := trivial
  refine sound_intro (E := ⟨ti, s_toPs_K.Γ, []⟩) ke Tryz.func156 Tryz.ntmps156 rfl (rs := [.tmp 2]) rfl ?_
  intro args os hp
  unfold ctToPs at hp ⊢
  dsimp only at hp ⊢
  split at hp
  · rename_i xs
    refine ⟨by simp, fun φ0 w0 => ?_⟩
    have hlen : xs.length ≤ 4000000 := hp
    clear hp
    refine goh trivial ?_
    refine W_le (σ' := sgToPs xs 0) [some 0] (by
      simp only [go_sem, mix_zero, inj_r, ↓reduceIte, reduceCtorEq, Nat.reduceAdd, Nat.reduceLT, Nat.reduceLeDiff, Nat.reduceEqDiff, Int.reduceEq]
      all_goals (repeat' refine And.intro ?_ ?_) <;> try exact shut7
      ) ?_
    refine W_loop (fun n σ => ∃ i : Nat, i ≤ xs.length ∧ n = xs.length - i ∧ σ = sgToPs xs i) xs.length ⟨0, by omega, by omega, rfl⟩ ?_
    rintro n σ ⟨i, hi, rfl, rfl⟩
    unfold sgToPs
    have hm := mix_len xs (List.replicate xs.length ET.ptr.dflt) i (by simp)
    rw [List.length_replicate] at hm
    refine goh hm ?_
    refine W_cnd ?_ ?_ <;> (try simp only [cnd_r]) <;> intro hlt
    · have hs := mix_set xs (List.replicate xs.length ET.ptr.dflt) i ET.ptr.dflt (by simp) (by simp; omega) rfl
      refine goh hm ?_
      refine ⟨xs.length - (i + 1), [some 0], sgToPs xs (i + 1), by omega, ?_, i + 1, by omega, rfl, rfl⟩
      exact leh (And.intro hs hm)
    · have hs := mix_all xs (List.replicate xs.length ET.ptr.dflt) i (by simp) (by simp; omega)
      refine goh hm ?_
      exact finh [some 0] hs
  · simp [no] at hp
@[go_sem] def ctEqPs : Ct := ⟨false, [[some .ptr], [some .ptr]], fun args os => match args, os with
  | [.one (.isl .ptr xs), .one (.isl .ptr ys)], [] => ifp (xs = ys ∧ xs.length ≤ 4000000) (vb true)
  | _, _ => no⟩
@[go_sem] def sgEqPs (xs : List Ptr) (i : Nat) : Sg := ⟨[(0, .one (.isl .ptr xs)), (1, .one (.isl .ptr xs)), (5, vi i)], [], []⟩
theorem s_eqPs_e : EnterOk Tryz.prog 160 := ⟨_, Tryz.func160, rfl, by decide⟩
@[go_sem] def s_eqPs_lv : List (List Nat) := [[0, 1], [0, 1, 10], [4], [0, 1, 5], [0, 1, 5, 14], [0, 1, 5], [0, 1, 5, 26], [4], [4]]
@[go_sem] noncomputable def s_eqPs_K : Known := (Known.nil).cons 43 ctEqPtr s_eqPtr s_eqPtr_e
set_option maxHeartbeats 8000000 in
theorem s_eqPs : Sound Tryz.prog 160 ctEqPs := by
  have ke := s_eqPs_K.env []
  have kl : Lives s_eqPs_lv := trivial
  refine sound_intro (E := ⟨ti, s_eqPs_K.Γ, []⟩) ke Tryz.func160 Tryz.ntmps160 rfl (rs := [.tmp 4]) rfl ?_
  intro args os hp
  unfold ctEqPs at hp ⊢
  dsimp only at hp ⊢
  split at hp
  · rename_i xs ys
    refine ⟨by simp, fun φ0 w0 => ?_⟩
    obtain ⟨rfl, hlen⟩ : xs = ys ∧ xs.length ≤ 4000000 := hp
    refine goh trivial ?_
    refine W_cnd ?_ ?_ <;> intro hlit <;> try (cases hlit; done)
    refine goh trivial ?_
    refine W_le (σ' := sgEqPs xs 0) [] (by
      simp only [go_sem, inj_r, ↓reduceIte, reduceCtorEq, Nat.reduceAdd, Nat.reduceLT, Nat.reduceLeDiff, Nat.reduceEqDiff, Int.reduceEq]
      all_goals (repeat' refine And.intro ?_ ?_) <;> try exact shut7
      ) ?_
    refine W_loop (fun n σ => ∃ i : Nat, i ≤ xs.length ∧ n = xs.length - i ∧ σ = sgEqPs xs i) xs.length ⟨0, by omega, by omega, rfl⟩ ?_
    rintro n σ ⟨i, hi, rfl, rfl⟩
    unfold sgEqPs
    refine goh trivial ?_
    refine W_cnd ?_ ?_ <;> (try simp only [cnd_r]) <;> intro hlt
    · refine goh trivial ?_
      refine W_cnd ?_ ?_ <;> intro hlit <;> try (cases hlit; done)
      refine goh trivial ?_
      refine ⟨xs.length - (i + 1), [], sgEqPs xs (i + 1), by omega, ?_, i + 1, by omega, rfl, rfl⟩
      exact leh trivial
    · refine goh trivial ?_
      exact finh [] trivial
  · simp [no, ifp] at hp
@[go_sem] def ctToEs : Ct := ⟨false, [[some .ent]], fun args os => match args, os with
  | [.one (.isl .ent xs)], [] => ⟨xs.length ≤ 4000000, .one (.osl .ent 0 0 xs.length), [], [.arr .ent xs]⟩
  | _, _ => no⟩
@[go_sem] def sgToEs (xs : List Ent) (i : Nat) : Sg := ⟨[(0, .one (.isl .ent xs)), (3, .one (.osl .ent 0 0 xs.length)), (4, vi i)], [some (.arr .ent (mix xs (List.replicate xs.length ET.ent.dflt) i))], []⟩
theorem s_toEs_e : EnterOk Tryz.prog 155 := ⟨_, Tryz.func155, rfl, by decide⟩
@[go_sem] def s_toEs_lv : List (List Nat) := [[0], [0, 3], [0, 3, 4], [0, 3, 4, 11], [0, 3, 4], [0, 3, 4], [2]]
@[go_sem] noncomputable def s_toEs_K : Known := (Known.nil).cons 216 ctToPtr s_toEnt s_toEnt_e
set_option maxHeartbeats 8000000 in
theorem s_toEs : Sound Tryz.prog 155 ctToEs := by
  have ke := s_toEs_K.env []
  have kl : Lives s_toEs_lv := trivial
  refine sound_intro (E := ⟨ti, s_toEs_K.Γ, []⟩) ke Tryz.func155 Tryz.ntmps155 rfl (rs := [.tmp 2]) rfl ?_
  intro args os hp
  unfold ctToEs at hp ⊢
  dsimp only at hp ⊢
  split at hp
  · rename_i xs
    refine ⟨by simp, fun φ0 w0 => ?_⟩
    have hlen : xs.length ≤ 4000000 := hp
    clear hp
    refine goh trivial ?_
    refine W_le (σ' := sgToEs xs 0) [some 0] (by
      simp only [go_sem, mix_zero, inj_r, ↓reduceIte, reduceCtorEq, Nat.reduceAdd, Nat.reduceLT, Nat.reduceLeDiff, Nat.reduceEqDiff, Int.reduceEq]
      all_goals (repeat' refine And.intro ?_ ?_) <;> try exact shut7
      ) ?_
    refine W_loop (fun n σ => ∃ i : Nat, i ≤ xs.length ∧ n = xs.length - i ∧ σ = sgToEs xs i) xs.length ⟨0, by omega, by omega, rfl⟩ ?_
    rintro n σ ⟨i, hi, rfl, rfl⟩
    unfold sgToEs
    have hm := mix_len xs (List.replicate xs.length ET.ent.dflt) i (by simp)
    rw [List.length_replicate] at hm
    refine goh hm ?_
    refine W_cnd ?_ ?_ <;> (try simp only [cnd_r]) <;> intro hlt
    · have hs := mix_set xs (List.replicate xs.length ET.ent.dflt) i ET.ent.dflt (by simp) (by simp; omega) rfl
      refine goh hm ?_
      refine ⟨xs.length - (i + 1), [some 0], sgToEs xs (i + 1), by omega, ?_, i + 1, by omega, rfl, rfl⟩
      exact leh (And.intro hs hm)
    · have hs := mix_all xs (List.replicate xs.length ET.ent.dflt) i (by simp) (by simp; omega)
      refine goh hm ?_
      exact finh [some 0] hs
  · simp [no] at hp
@[go_sem] def ctEqEs : Ct := ⟨false, [[some .ent], [some .ent]], fun args os => match args, os with
  | [.one (.isl .ent xs), .one (.isl .ent ys)], [] => ifp (xs = ys ∧ xs.length ≤ 4000000) (vb true)
  | _, _ => no⟩
@[go_sem] def sgEqEs (xs : List Ent) (i : Nat) : Sg := ⟨[(0, .one (.isl .ent xs)), (1, .one (.isl .ent xs)), (5, vi i)], [], []⟩
theorem s_eqEs_e : EnterOk Tryz.prog 159 := ⟨_, Tryz.func159, rfl, by decide⟩
@[go_sem] def s_eqEs_lv : List (List Nat) := [[0, 1], [0, 1, 10], [4], [0, 1, 5], [0, 1, 5, 14], [0, 1, 5], [0, 1, 5, 26], [4], [4]]
@[go_sem] noncomputable def s_eqEs_K : Known := (Known.nil).cons 228 ctEqPtr s_eqEnt s_eqEnt_e
set_option maxHeartbeats 8000000 in
theorem s_eqEs : Sound Tryz.prog 159 ctEqEs := by
  have ke := s_eqEs_K.env []
  have kl : Lives s_eqEs_lv := trivial
  refine sound_intro (E := ⟨ti, s_eqEs_K.Γ, []⟩) ke Tryz.func159 Tryz.ntmps159 rfl (rs := [.tmp 4]) rfl ?_
  intro args os hp
  unfold ctEqEs at hp ⊢
  dsimp only at hp ⊢
  split at hp
  · rename_i xs ys
    refine ⟨by simp, fun φ0 w0 => ?_⟩
    obtain ⟨rfl, hlen⟩ : xs = ys ∧ xs.length ≤ 4000000 := hp
    refine goh trivial ?_
    refine W_cnd ?_ ?_ <;> intro hlit <;> try (cases hlit; done)
    refine goh trivial ?_
    refine W_le (σ' := sgEqEs xs 0) [] (by
      simp only [go_sem, inj_r, ↓reduceIte, reduceCtorEq, Nat.reduceAdd, Nat.reduceLT, Nat.reduceLeDiff, Nat.reduceEqDiff, Int.reduceEq]
      all_goals (repeat' refine And.intro ?_ ?_) <;> try exact shut7
      ) ?_
    refine W_loop (fun n σ => ∃ i : Nat, i ≤ xs.length ∧ n = xs.length - i ∧ σ = sgEqEs xs i) xs.length ⟨0, by omega, by omega, rfl⟩ ?_
    rintro n σ ⟨i, hi, rfl, rfl⟩
    unfold sgEqEs
    refine goh trivial ?_
    refine W_cnd ?_ ?_ <;> (try simp only [cnd_r]) <;> intro hlt
    · refine goh trivial ?_
      refine W_cnd ?_ ?_ <;> intro hlit <;> try (cases hlit; done)
      refine goh trivial ?_
      refine ⟨xs.length - (i + 1), [], sgEqEs xs (i + 1), by omega, ?_, i + 1, by omega, rfl, rfl⟩
      exact leh trivial
    · refine goh trivial ?_
      exact finh [] trivial
  · simp [no, ifp] at hp
@[go_sem] def ctToCs : Ct := ⟨false, [[some .cset]], fun args os => match args, os with
  | [.one (.isl .cset xs)], [] => ⟨xs.length ≤ 4000000, .one (.osl .cset 0 0 xs.length), [], [.arr .cset xs]⟩
  | _, _ => no⟩
@[go_sem] def sgToCs (xs : List CSet) (i : Nat) : Sg := ⟨[(0, .one (.isl .cset xs)), (3, .one (.osl .cset 0 0 xs.length)), (4, vi i)], [some (.arr .cset (mix xs (List.replicate xs.length ET.cset.dflt) i))], []⟩
theorem s_toCs_e : EnterOk Tryz.prog 154 := ⟨_, Tryz.func154, rfl, by decide⟩
@[go_sem] def s_toCs_lv : List (List Nat) := [[0], [0, 3], [0, 3, 4], [0, 3, 4, 11], [0, 3, 4], [0, 3, 4], [2]]
@[go_sem] noncomputable def s_toCs_K : Known := (Known.nil).cons 215 ctToCset s_toCset s_toCset_e
set_option maxHeartbeats 8000000 in
theorem s_toCs : Sound Tryz.prog 154 ctToCs := by
  have ke := s_toCs_K.env []
  have kl : Lives s_toCs_lv := trivial
  refine sound_intro (E := ⟨ti, s_toCs_K.Γ, []⟩) ke Tryz.func154 Tryz.ntmps154 rfl (rs := [.tmp 2]) rfl ?_
  intro args os hp
  unfold ctToCs at hp ⊢
  dsimp only at hp ⊢
  split at hp
  · rename_i xs
    refine ⟨by simp, fun φ0 w0 => ?_⟩
    have hlen : xs.length ≤ 4000000 := hp
    clear hp
    refine goh trivial ?_
    refine W_le (σ' := sgToCs xs 0) [some 0] (by
      simp only [go_sem, mix_zero, inj_r, ↓reduceIte, reduceCtorEq, Nat.reduceAdd, Nat.reduceLT, Nat.reduceLeDiff, Nat.reduceEqDiff, Int.reduceEq]
      all_goals (repeat' refine And.intro ?_ ?_) <;> try exact shut7
      ) ?_
    refine W_loop (fun n σ => ∃ i : Nat, i ≤ xs.length ∧ n = xs.length - i ∧ σ = sgToCs xs i) xs.length ⟨0, by omega, by omega, rfl⟩ ?_
    rintro n σ ⟨i, hi, rfl, rfl⟩
    unfold sgToCs
    have hm := mix_len xs (List.replicate xs.length ET.cset.dflt) i (by simp)
    rw [List.length_replicate] at hm
    refine goh hm ?_
    refine W_cnd ?_ ?_ <;> (try simp only [cnd_r]) <;> intro hlt
    · have hs := mix_set xs (List.replicate xs.length ET.cset.dflt) i ET.cset.dflt (by simp) (by simp; omega) rfl
      refine goh hm ?_
      refine ⟨xs.length - (i + 1), [some 0], sgToCs xs (i + 1), by omega, ?_, i + 1, by omega, rfl, rfl⟩
      exact leh (And.intro hs hm)
    · have hs := mix_all xs (List.replicate xs.length ET.cset.dflt) i (by simp) (by simp; omega)
      refine goh hm ?_
      exact finh [some 0] hs
  · simp [no] at hp
@[go_sem] def ctEqCs : Ct := ⟨false, [[some .cset], [some .cset]], fun args os => match args, os with
  | [.one (.isl .cset xs), .one (.isl .cset ys)], [] => ifp (xs = ys ∧ xs.length ≤ 4000000) (vb true)
  | _, _ => no⟩
@[go_sem] def sgEqCs (xs : List CSet) (i : Nat) : Sg := ⟨[(0, .one (.isl .cset xs)), (1, .one (.isl .cset xs)), (5, vi i)], [], []⟩
theorem s_eqCs_e : EnterOk Tryz.prog 158 := ⟨_, Tryz.func158, rfl, by decide⟩
@[go_sem] def s_eqCs_lv : List (List Nat) := [[0, 1], [0, 1, 10], [4], [0, 1, 5], [0, 1, 5, 14], [0, 1, 5], [0, 1, 5, 26], [4], [4]]
@[go_sem] noncomputable def s_eqCs_K : Known := (Known.nil).cons 227 ctEqCset s_eqCset s_eqCset_e
set_option maxHeartbeats 8000000 in
theorem s_eqCs : Sound Tryz.prog 158 ctEqCs := by
  have ke := s_eqCs_K.env []
  have kl : Lives s_eqCs_lv := trivial
  refine sound_intro (E := ⟨ti, s_eqCs_K.Γ, []⟩) ke Tryz.func158 Tryz.ntmps158 rfl (rs := [.tmp 4]) rfl ?_
  intro args os hp
  unfold ctEqCs at hp ⊢
  dsimp only at hp ⊢
  split at hp
  · rename_i xs ys
    refine ⟨by simp, fun φ0 w0 => ?_⟩
    obtain ⟨rfl, hlen⟩ : xs = ys ∧ xs.length ≤ 4000000 := hp
    refine goh trivial ?_
    refine W_cnd ?_ ?_ <;> intro hlit <;> try (cases hlit; done)
    refine goh trivial ?_
    refine W_le (σ' := sgEqCs xs 0) [] (by
      simp only [go_sem, inj_r, ↓reduceIte, reduceCtorEq, Nat.reduceAdd, Nat.reduceLT, Nat.reduceLeDiff, Nat.reduceEqDiff, Int.reduceEq]
      all_goals (repeat' refine And.intro ?_ ?_) <;> try exact shut7
      ) ?_
    refine W_loop (fun n σ => ∃ i : Nat, i ≤ xs.length ∧ n = xs.length - i ∧ σ = sgEqCs xs i) xs.length ⟨0, by omega, by omega, rfl⟩ ?_
    rintro n σ ⟨i, hi, rfl, rfl⟩
    unfold sgEqCs
    refine goh trivial ?_
    refine W_cnd ?_ ?_ <;> (try simp only [cnd_r]) <;> intro hlt
    · refine goh trivial ?_
      refine W_cnd ?_ ?_ <;> intro hlit <;> try (cases hlit; done)
      refine goh trivial ?_
      refine ⟨xs.length - (i + 1), [], sgEqCs xs (i + 1), by omega, ?_, i + 1, by omega, rfl, rfl⟩
      exact leh trivial
    · refine goh trivial ?_
      exact finh [] trivial
  · simp [no, ifp] at hp
@[go_sem] def ctSzPs : Ct := ⟨false, [[some .ptr]], fun args os => match args, os with
  | [.one (.isl .ptr xs), .one (.val (.int .i64 n))], [] => ifp (xs.length ≤ 9223372036854775807 ∧ 0 ≤ n ∧ n ≤ 1048576) (vi (szW [xs.length] n))
  | _, _ => no⟩
theorem s_szPs_e : EnterOk Tryz.prog 146 := ⟨_, Tryz.func146, rfl, by decide⟩
@[go_sem] def s_szPs_lv : List (List Nat) := [[0, 1], [1], [1, 10], [4], [4]]
@[go_sem] noncomputable def s_szPs_K : Known := Known.nil
set_option maxHeartbeats 8000000 in
theorem s_szPs : Sound Tryz.prog 146 ctSzPs := by
  have ke := s_szPs_K.env []
  have kl : Lives s_szPs_lv := trivial
  refine sound_intro (E := ⟨ti, s_szPs_K.Γ, []⟩) ke Tryz.func146 Tryz.ntmps146 rfl (rs := [.tmp 4]) rfl ?_
  intro args os hp
  unfold ctSzPs at hp ⊢
  dsimp only at hp ⊢
  split at hp
  · rename_i xs n
    refine ⟨by simp, fun φ0 w0 => ?_⟩
    obtain ⟨h1, h3, h4⟩ : xs.length ≤ 9223372036854775807 ∧ 0 ≤ n ∧ n ≤ 1048576 := hp
    have e1 : IntKind.i64.wrap (n - xs.length) = n - xs.length := wrap_id _ (by omega) (by omega)
    have f1 : szW [xs.length] n = if n - xs.length < 0 then -1 else n - xs.length := rfl
    refine goh e1 ?_
    refine W_cnd ?_ ?_ <;> (try simp only [cnd_r]) <;> intro hc
    · rw [if_pos hc] at f1
      refine goh trivial ?_
      exact finh [] f1
    · rw [if_neg hc] at f1
      refine goh trivial ?_
      exact finh [] f1
  · simp [no, ifp] at hp
@[go_sem] def ctSzEs : Ct := ⟨false, [[some .ent]], fun args os => match args, os with
  | [.one (.isl .ent xs), .one (.val (.int .i64 n))], [] => ifp (xs.length ≤ 9223372036854775807 ∧ 0 ≤ n ∧ n ≤ 1048576) (vi (szW [xs.length] n))
  | _, _ => no⟩
theorem s_szEs_e : EnterOk Tryz.prog 145 := ⟨_, Tryz.func145, rfl, by decide⟩
@[go_sem] def s_szEs_lv : List (List Nat) := [[0, 1], [1], [1, 10], [4], [4]]
@[go_sem] noncomputable def s_szEs_K : Known := Known.nil
set_option maxHeartbeats 8000000 in
theorem s_szEs : Sound Tryz.prog 145 ctSzEs := by
  have ke := s_szEs_K.env []
  have kl : Lives s_szEs_lv := trivial
  refine sound_intro (E := ⟨ti, s_szEs_K.Γ, []⟩) ke Tryz.func145 Tryz.ntmps145 rfl (rs := [.tmp 4]) rfl ?_
  intro args os hp
  unfold ctSzEs at hp ⊢
  dsimp only at hp ⊢
  split at hp
  · rename_i xs n
    refine ⟨by simp, fun φ0 w0 => ?_⟩
    obtain ⟨h1, h3, h4⟩ : xs.length ≤ 9223372036854775807 ∧ 0 ≤ n ∧ n ≤ 1048576 := hp
    have e1 : IntKind.i64.wrap (n - xs.length) = n - xs.length := wrap_id _ (by omega) (by omega)
    have f1 : szW [xs.length] n = if n - xs.length < 0 then -1 else n - xs.length := rfl
    refine goh e1 ?_
    refine W_cnd ?_ ?_ <;> (try simp only [cnd_r]) <;> intro hc
    · rw [if_pos hc] at f1
      refine goh trivial ?_
      exact finh [] f1
    · rw [if_neg hc] at f1
      refine goh trivial ?_
      exact finh [] f1
  · simp [no, ifp] at hp
@[go_sem] def ctSzI : Ct := ⟨false, [[some .int]], fun args os => match args, os with
  | [.one (.isl .int xs), .one (.val (.int .i64 n))], [] => ifp (xs.length ≤ 9223372036854775807 ∧ 0 ≤ n ∧ n ≤ 1048576) (vi (szW [xs.length] n))
  | _, _ => no⟩
theorem s_szI_e : EnterOk Tryz.prog 147 := ⟨_, Tryz.func147, rfl, by decide⟩
@[go_sem] def s_szI_lv : List (List Nat) := [[0, 1], [1], [1, 10], [4], [4]]
@[go_sem] noncomputable def s_szI_K : Known := Known.nil
set_option maxHeartbeats 8000000 in
theorem s_szI : Sound Tryz.prog 147 ctSzI := by
  have ke := s_szI_K.env []
  have kl : Lives s_szI_lv := trivial
  refine sound_intro (E := ⟨ti, s_szI_K.Γ, []⟩) ke Tryz.func147 Tryz.ntmps147 rfl (rs := [.tmp 4]) rfl ?_
  intro args os hp
  unfold ctSzI at hp ⊢
  dsimp only at hp ⊢
  split at hp
  · rename_i xs n
    refine ⟨by simp, fun φ0 w0 => ?_⟩
    obtain ⟨h1, h3, h4⟩ : xs.length ≤ 9223372036854775807 ∧ 0 ≤ n ∧ n ≤ 1048576 := hp
    have e1 : IntKind.i64.wrap (n - xs.length) = n - xs.length := wrap_id _ (by omega) (by omega)
    have f1 : szW [xs.length] n = if n - xs.length < 0 then -1 else n - xs.length := rfl
    refine goh e1 ?_
    refine W_cnd ?_ ?_ <;> (try simp only [cnd_r]) <;> intro hc
    · rw [if_pos hc] at f1
      refine goh trivial ?_
      exact finh [] f1
    · rw [if_neg hc] at f1
      refine goh trivial ?_
      exact finh [] f1
  · simp [no, ifp] at hp
structure inC (xs : List CSet) : Prop where
  len : xs.length ≤ 9223372036854775807
  all : ∀ i : Nat, (xs.getD i ET.cset.dflt).name.size ≤ 9223372036854775807 ∧ (xs.getD i ET.cset.dflt).from_.size ≤ 9223372036854775807
def wC (xs : List CSet) : List Nat := xs.length :: xs.flatMap wC1
theorem drop_flat {α : Type} (f : α → List Nat) (xs : List α) (i : Nat) (d : α) (h : i < xs.length) : (xs.drop i).flatMap f = f (xs.getD i d) ++ (xs.drop (i + 1)).flatMap f := by
  rw [List.drop_eq_getElem_cons h, List.flatMap_cons]
  simp [h]
@[go_sem] def ctSzCs : Ct := ⟨false, [[some .cset]], fun args os => match args, os with
  | [.one (.isl .cset xs), .one (.val (.int .i64 n))], [] => ifp (inC xs ∧ 0 ≤ n ∧ n ≤ 1048576) (vi (szW (wC xs) n))
  | _, _ => no⟩
@[go_sem] def sgSzCs (xs : List CSet) (n : Int) (i : Nat) : Sg := ⟨[(0, .one (.isl .cset xs)), (1, vi n), (5, vi i)], [], []⟩
theorem s_szCs_e : EnterOk Tryz.prog 144 := ⟨_, Tryz.func144, rfl, by decide⟩
@[go_sem] def s_szCs_lv : List (List Nat) := [[0, 1], [0, 1], [0, 1, 11], [4], [0, 1, 5], [0, 1, 5, 15], [0, 1, 5], [0, 1, 5], [0, 1, 5, 25], [4], [4]]
@[go_sem] noncomputable def s_szCs_K : Known := (Known.nil).cons 210 ctSzCset s_szCset s_szCset_e
set_option maxHeartbeats 8000000 in
theorem s_szCs : Sound Tryz.prog 144 ctSzCs := by
  have ke := s_szCs_K.env []
  have kl : Lives s_szCs_lv := trivial
  refine sound_intro (E := ⟨ti, s_szCs_K.Γ, []⟩) ke Tryz.func144 Tryz.ntmps144 rfl (rs := [.tmp 4]) rfl ?_
  intro args os hp
  unfold ctSzCs at hp ⊢
  dsimp only at hp ⊢
  split at hp
  · rename_i xs n
    refine ⟨by simp, fun φ0 w0 => ?_⟩
    obtain ⟨⟨h1, h2⟩, h3, h4⟩ : inC xs ∧ 0 ≤ n ∧ n ≤ 1048576 := hp
    have e1 : IntKind.i64.wrap (n - xs.length) = n - xs.length := wrap_id _ (by omega) (by omega)
    refine goh e1 ?_
    refine W_cnd ?_ ?_ <;> (try simp only [cnd_r]) <;> intro hc
    · have e2 : szW (wC xs) n = -1 := by unfold wC szW; rw [if_pos hc]
      refine goh trivial ?_
      exact finh [] e2
    · obtain ⟨R, hR⟩ : ∃ R, szW (wC xs) n = R := ⟨_, rfl⟩
      have e2 : szW ((xs.drop 0).flatMap wC1) (n - xs.length) = R := by rw [← hR]; show _ = szW (xs.length :: _) n; conv => rhs; unfold szW
                                                                        rw [if_neg hc]; rfl
      refine goh trivial ?_
      refine W_le (σ' := sgSzCs xs (n - xs.length) 0) [] (by
        simp only [go_sem, inj_r, ↓reduceIte, reduceCtorEq, Nat.reduceAdd, Nat.reduceLT, Nat.reduceLeDiff, Nat.reduceEqDiff, Int.reduceEq]
        all_goals (repeat' refine And.intro ?_ ?_) <;> try exact shut7
        ) ?_
      refine W_loop (fun q σ => ∃ (i : Nat) (m : Int), i ≤ xs.length ∧ q = xs.length - i ∧ 0 ≤ m ∧ m ≤ 1048576 ∧ szW ((xs.drop i).flatMap wC1) m = R ∧ σ = sgSzCs xs m i) xs.length ⟨0, _, by omega, by omega, by omega, by omega, e2, rfl⟩ ?_
      rintro q σ ⟨i, m, hi, rfl, hm1, hm2, hs, rfl⟩
      unfold sgSzCs
      refine goh trivial ?_
      refine W_cnd ?_ ?_ <;> (try simp only [cnd_r]) <;> intro hlt
      · have hli : i < xs.length := by omega
        obtain ⟨h5, h6⟩ := h2 i
        rw [drop_flat _ _ _ ET.cset.dflt hli] at hs
        have e3 := szW_app (wC1 (xs.getD i ET.cset.dflt)) ((xs.drop (i + 1)).flatMap wC1) m hm1
        rw [hs] at e3
        have hin := szW_in (wC1 (xs.getD i ET.cset.dflt)) m hm1
        refine goh trivial ?_
        refine W_cnd ?_ ?_ <;> (try simp only [cnd_r]) <;> intro hn
        · rw [if_pos hn] at e3
          refine goh trivial ?_
          exact finh [] (And.intro hR e3)
        · rw [if_neg hn] at e3
          refine goh trivial ?_
          refine ⟨xs.length - (i + 1), [], sgSzCs xs (szW (wC1 (xs.getD i ET.cset.dflt)) m) (i + 1), by omega, ?_, i + 1, _, by omega, rfl, by omega, by omega, e3.symm, rfl⟩
          exact leh trivial
      · rw [List.drop_of_length_le (by omega)] at hs
        refine goh trivial ?_
        exact finh [] (And.intro hR hs)
  · simp [no, ifp] at hp
end Go.Proofs.YtjedcphhajlnoaaGreatDoor
/- Functions: slices that are the same; the same pool. -/
namespace Go.Proofs.YtjedcphhajlnoaaGreatDoor
open Go.RowKit

@[go_sem] theorem valsEq_cset (xn xf yn yf : ByteArray) (xk yk : Int) (x0 x1 x2 x3 x4 x5 x6 x7 x8 x9 x10 x11 x12 x13 x14 x15 x16 x17 x18 x19 x20 x21 x22 x23 x24 x25 x26 : Int) (y0 y1 y2 y3 y4 y5 y6 y7 y8 y9 y10 y11 y12 y13 y14 y15 y16 y17 y18 y19 y20 y21 y22 y23 y24 y25 y26 : Int) (xd yd : Bool) : valsEq [.string xn, .int .i64 xk, .string xf, .int .i64 x0, .int .i64 x1, .int .i64 x2, .int .i64 x3, .int .i64 x4, .int .i64 x5, .int .i64 x6, .int .i64 x7, .int .i64 x8, .int .i64 x9, .int .i64 x10, .int .i64 x11, .int .i64 x12, .int .i64 x13, .int .i64 x14, .int .i64 x15, .int .i64 x16, .int .i64 x17, .int .i64 x18, .int .i64 x19, .int .i64 x20, .int .i64 x21, .int .i64 x22, .int .i64 x23, .int .i64 x24, .int .i64 x25, .int .i64 x26, .bool xd] [.string yn, .int .i64 yk, .string yf, .int .i64 y0, .int .i64 y1, .int .i64 y2, .int .i64 y3, .int .i64 y4, .int .i64 y5, .int .i64 y6, .int .i64 y7, .int .i64 y8, .int .i64 y9, .int .i64 y10, .int .i64 y11, .int .i64 y12, .int .i64 y13, .int .i64 y14, .int .i64 y15, .int .i64 y16, .int .i64 y17, .int .i64 y18, .int .i64 y19, .int .i64 y20, .int .i64 y21, .int .i64 y22, .int .i64 y23, .int .i64 y24, .int .i64 y25, .int .i64 y26, .bool yd] = same (CSet.mk xn xk xf ⟨⟨x0, x1, x2⟩, ⟨x3, x4, x5⟩, ⟨x6, x7, x8⟩, ⟨x9, x10, x11⟩, ⟨x12, x13, x14⟩, ⟨x15, x16, x17⟩, ⟨x18, x19, x20⟩, ⟨x21, x22, x23⟩⟩ ⟨x24, x25, x26⟩ xd) (CSet.mk yn yk yf ⟨⟨y0, y1, y2⟩, ⟨y3, y4, y5⟩, ⟨y6, y7, y8⟩, ⟨y9, y10, y11⟩, ⟨y12, y13, y14⟩, ⟨y15, y16, y17⟩, ⟨y18, y19, y20⟩, ⟨y21, y22, y23⟩⟩ ⟨y24, y25, y26⟩ yd) := by
  rw [Bool.eq_iff_iff, same_true]
  simp only [valsEq, toList_same, Bool.and_eq_true, beq_iff_eq, same_true, CSet.mk.injEq, Eight.mk.injEq, Ptr.mk.injEq, and_assoc, and_true]
theorem ent_eq {x y : Ent} (h : Ptr.mk x.sum x.at_ x.count = Ptr.mk y.sum y.at_ y.count) : x = y := by
  simp only [Ptr.mk.injEq] at h
  obtain ⟨a, b, c⟩ := h
  cases x; cases y; simp_all
@[go_sem] noncomputable def ctEqualCset : Ct := ⟨false, [[some .cset], [some .cset]], fun args os => match args, os with
  | [.one (.isl .cset xs), .one (.isl .cset ys)], [] => ifp (xs.length ≤ 4000000) (vb (same xs ys))
  | _, _ => no⟩
@[go_sem] def sgEqualCset (xs ys : List CSet) (i : Nat) : Sg := ⟨[(13, vi i), (12, vi xs.length), (0, .one (.isl .cset xs)), (1, .one (.isl .cset ys))], [], []⟩
@[go_sem] noncomputable def ctEqualPtr : Ct := ⟨false, [[some .ptr], [some .ptr]], fun args os => match args, os with
  | [.one (.isl .ptr xs), .one (.isl .ptr ys)], [] => ifp (xs.length ≤ 4000000) (vb (same xs ys))
  | _, _ => no⟩
@[go_sem] def sgEqualPtr (xs ys : List Ptr) (i : Nat) : Sg := ⟨[(13, vi i), (12, vi xs.length), (0, .one (.isl .ptr xs)), (1, .one (.isl .ptr ys))], [], []⟩
@[go_sem] noncomputable def ctEqualEnt : Ct := ⟨false, [[some .ent], [some .ent]], fun args os => match args, os with
  | [.one (.isl .ent xs), .one (.isl .ent ys)], [] => ifp (xs.length ≤ 4000000) (vb (same xs ys))
  | _, _ => no⟩
@[go_sem] def sgEqualEnt (xs ys : List Ent) (i : Nat) : Sg := ⟨[(13, vi i), (12, vi xs.length), (0, .one (.isl .ent xs)), (1, .one (.isl .ent ys))], [], []⟩
@[go_sem] noncomputable def ctEqualInt : Ct := ⟨false, [[some .int], [some .int]], fun args os => match args, os with
  | [.one (.isl .int xs), .one (.isl .int ys)], [] => ifp (xs.length ≤ 4000000) (vb (same xs ys))
  | _, _ => no⟩
@[go_sem] def sgEqualInt (xs ys : List Int) (i : Nat) : Sg := ⟨[(13, vi i), (12, vi xs.length), (0, .one (.isl .int xs)), (1, .one (.isl .int ys))], [], []⟩
end Go.Proofs.YtjedcphhajlnoaaGreatDoor
/- What is known in memory, and a store. -/
namespace Go.Proofs.YtjedcphhajlnoaaGreatDoor
open Go.RowKit

/-- What is known in memory, and a store. -/
structure Co where
  txg : Int
  sets : List CSet
  ddt : List Ent
  parts : List Ptr
  dirty : Bool
  safe : List Int
  logn : Int
structure Pl where
  disk : Dk
  core : Co
  up : Bool
@[go_sem] def Co.small (c : Co) : Prop := c.sets.length ≤ 4000000 ∧ c.ddt.length ≤ 4000000 ∧ c.parts.length ≤ 4000000 ∧ c.safe.length ≤ 4000000
end Go.Proofs.YtjedcphhajlnoaaGreatDoor
/- Functions of the exact laws: cores and pools. -/
namespace Go.Proofs.YtjedcphhajlnoaaGreatDoor
open Go.RowKit

structure Co.inn (c : Co) : Prop where
  sets : inC c.sets
  ddt : c.ddt.length ≤ 9223372036854775807
  parts : c.parts.length ≤ 9223372036854775807
  safe : c.safe.length ≤ 9223372036854775807
def Co.wt (c : Co) : List Nat := wC c.sets ++ ([c.ddt.length] ++ ([c.parts.length] ++ [c.safe.length]))
@[go_sem] def Co.v (c : Co) (n : Nat) : TV := .agg [.val (.int .i64 c.txg), .osl .cset n 0 c.sets.length, .osl .ent (n + 1) 0 c.ddt.length, .osl .ptr (n + 2) 0 c.parts.length, .val (.bool c.dirty), .osl .int (n + 3) 0 c.safe.length, .val (.int .i64 c.logn)]
@[go_sem] def Co.objs (c : Co) : List Obj := [.arr .cset c.sets, .arr .ent c.ddt, .arr .ptr c.parts, .arr .int c.safe]
@[go_sem] def ctSzCore : Ct := ⟨false, [[none, some .cset, some .ent, some .ptr, none, some .int, none]], fun args os => match args, os with
  | [.agg [.val (.int .i64 x), .isl .cset cs, .isl .ent es, .isl .ptr ps, .val (.bool y), .isl .int zs, .val (.int .i64 u)], .one (.val (.int .i64 n))], [] => ifp ((Co.mk x cs es ps y zs u).inn ∧ 0 ≤ n ∧ n ≤ 1048576) (vi (szW (Co.mk x cs es ps y zs u).wt n))
  | _, _ => no⟩
theorem s_szCore_e : EnterOk Tryz.prog 68 := ⟨_, Tryz.func68, rfl, by decide⟩
@[go_sem] def s_szCore_lv : List (List Nat) := [[1, 2], [1, 2], [1, 2, 10], [4], [1, 2], [1, 2, 16], [4], [1, 2], [1, 2, 22], [4], [1], [1, 28], [4], [4]]
@[go_sem] noncomputable def s_szCore_K : Known := ((((Known.nil).cons 144 ctSzCs s_szCs s_szCs_e).cons 145 ctSzEs s_szEs s_szEs_e).cons 146 ctSzPs s_szPs s_szPs_e).cons 147 ctSzI s_szI s_szI_e
set_option maxHeartbeats 8000000 in
theorem s_szCore : Sound Tryz.prog 68 ctSzCore := by
  have ke := s_szCore_K.env []
  have kl : Lives s_szCore_lv := trivial
  refine sound_intro (E := ⟨ti, s_szCore_K.Γ, []⟩) ke Tryz.func68 Tryz.ntmps68 rfl (rs := [.tmp 4]) rfl ?_
  intro args os hp
  unfold ctSzCore at hp ⊢
  dsimp only at hp ⊢
  split at hp
  · rename_i x cs es ps y zs u n
    refine ⟨by simp, fun φ0 w0 => ?_⟩
    obtain ⟨⟨h1, h2, h3, h4⟩, h5, h6⟩ : (Co.mk x cs es ps y zs u).inn ∧ 0 ≤ n ∧ n ≤ 1048576 := hp
    simp only at h1 h2 h3 h4
    have e0 : szW (Co.mk x cs es ps y zs u).wt n = szW (wC cs ++ ([es.length] ++ ([ps.length] ++ [zs.length]))) n := rfl
    have e1 := szW_app (wC cs) ([es.length] ++ ([ps.length] ++ [zs.length])) n h5
    have i1 := szW_in (wC cs) n h5
    refine goh trivial ?_
    refine W_cnd ?_ ?_ <;> (try simp only [cnd_r]) <;> intro hc1
    · rw [if_pos hc1] at e1
      refine goh trivial ?_
      have ez := (e0.trans e1)
      exact finh [] ez
    · rw [if_neg hc1] at e1
      obtain ⟨m1, hm1⟩ : ∃ m, szW (wC cs) n = m := ⟨_, rfl⟩
      rw [hm1] at e1 i1 hc1
      have e2 := szW_app [es.length] ([ps.length] ++ [zs.length]) m1 (by omega)
      have i2 := szW_in [es.length] m1 (by omega)
      refine goh hm1 ?_
      refine W_cnd ?_ ?_ <;> (try simp only [cnd_r]) <;> intro hc2
      · rw [if_pos hc2] at e2
        refine goh trivial ?_
        have ez := ((e0.trans e1).trans e2)
        exact finh [] ez
      · rw [if_neg hc2] at e2
        obtain ⟨m2, hm2⟩ : ∃ m, szW [es.length] m1 = m := ⟨_, rfl⟩
        rw [hm2] at e2 i2 hc2
        have e3 := szW_app [ps.length] [zs.length] m2 (by omega)
        have i3 := szW_in [ps.length] m2 (by omega)
        refine goh hm2 ?_
        refine W_cnd ?_ ?_ <;> (try simp only [cnd_r]) <;> intro hc3
        · rw [if_pos hc3] at e3
          refine goh trivial ?_
          have ez := (((e0.trans e1).trans e2).trans e3)
          exact finh [] ez
        · rw [if_neg hc3] at e3
          obtain ⟨m3, hm3⟩ : ∃ m, szW [ps.length] m2 = m := ⟨_, rfl⟩
          rw [hm3] at e3 i3 hc3
          have i4 := szW_in [zs.length] m3 (by omega)
          refine goh hm3 ?_
          refine W_cnd ?_ ?_ <;> (try simp only [cnd_r]) <;> intro hc4
          · have e4 : szW [zs.length] m3 = -1 := by omega
            refine goh trivial ?_
            have ez := ((((e0.trans e1).trans e2).trans e3).trans e4)
            exact finh [] ez
          · refine goh trivial ?_
            have ez := (((e0.trans e1).trans e2).trans e3)
            exact finh [] ez
  · simp [no, ifp] at hp
def Pl.wt (p : Pl) : List Nat := p.disk.wt ++ p.core.wt
structure Pl.inn (p : Pl) : Prop where
  disk : p.disk.inn
  core : p.core.inn
@[go_sem] def ctSzPool : Ct := ⟨false, [[some .str, some .str, some .late, none, some .cset, some .ent, some .ptr, none, some .int, none, none]], fun args os => match args, os with
  | [.agg [.isl .str a, .isl .str b, .isl .late l, .val (.int .i64 x), .isl .cset cs, .isl .ent es, .isl .ptr ps, .val (.bool y), .isl .int zs, .val (.int .i64 u), .val (.bool o)], .one (.val (.int .i64 n))], [] => ifp ((Pl.mk ⟨a, b, l⟩ ⟨x, cs, es, ps, y, zs, u⟩ o).inn ∧ 0 ≤ n ∧ n ≤ 1048576) (vi (szW (Pl.mk ⟨a, b, l⟩ ⟨x, cs, es, ps, y, zs, u⟩ o).wt n))
  | _, _ => no⟩
theorem s_szPool_e : EnterOk Tryz.prog 13 := ⟨_, Tryz.func13, rfl, by decide⟩
@[go_sem] def s_szPool_lv : List (List Nat) := [[1, 2], [1, 2], [1, 2, 10], [4], [1], [1, 16], [4], [4]]
@[go_sem] noncomputable def s_szPool_K : Known := ((Known.nil).cons 39 ctSzDisk s_szDisk s_szDisk_e).cons 68 ctSzCore s_szCore s_szCore_e
set_option maxHeartbeats 8000000 in
theorem s_szPool : Sound Tryz.prog 13 ctSzPool := by
  have ke := s_szPool_K.env []
  have kl : Lives s_szPool_lv := trivial
  refine sound_intro (E := ⟨ti, s_szPool_K.Γ, []⟩) ke Tryz.func13 Tryz.ntmps13 rfl (rs := [.tmp 4]) rfl ?_
  intro args os hp
  unfold ctSzPool at hp ⊢
  dsimp only at hp ⊢
  split at hp
  · rename_i a b l x cs es ps y zs u o n
    refine ⟨by simp, fun φ0 w0 => ?_⟩
    obtain ⟨⟨h1, h2⟩, h5, h6⟩ : (Pl.mk ⟨a, b, l⟩ ⟨x, cs, es, ps, y, zs, u⟩ o).inn ∧ 0 ≤ n ∧ n ≤ 1048576 := hp
    simp only at h1 h2
    have e0 : szW (Pl.mk ⟨a, b, l⟩ ⟨x, cs, es, ps, y, zs, u⟩ o).wt n = szW ((Dk.mk a b l).wt ++ (Co.mk x cs es ps y zs u).wt) n := rfl
    have e1 := szW_app (Dk.mk a b l).wt (Co.mk x cs es ps y zs u).wt n h5
    have i1 := szW_in (Dk.mk a b l).wt n h5
    refine goh trivial ?_
    refine W_cnd ?_ ?_ <;> (try simp only [cnd_r]) <;> intro hc1
    · rw [if_pos hc1] at e1
      refine goh trivial ?_
      have ez := (e0.trans e1)
      exact finh [] ez
    · rw [if_neg hc1] at e1
      obtain ⟨m1, hm1⟩ : ∃ m, szW (Dk.mk a b l).wt n = m := ⟨_, rfl⟩
      rw [hm1] at e1 i1 hc1
      have i2 := szW_in (Co.mk x cs es ps y zs u).wt m1 (by omega)
      refine goh hm1 ?_
      refine W_cnd ?_ ?_ <;> (try simp only [cnd_r]) <;> intro hc2
      · have e2 : szW (Co.mk x cs es ps y zs u).wt m1 = -1 := by omega
        refine goh trivial ?_
        have ez := ((e0.trans e1).trans e2)
        exact finh [] ez
      · refine goh trivial ?_
        have ez := (e0.trans e1)
        exact finh [] ez
  · simp [no, ifp] at hp
theorem pool_small {p : Pl} {n : Int} (h : 0 ≤ szW p.wt n) : (p.disk.a.length ≤ n ∧ p.disk.b.length ≤ n ∧ p.disk.l.length ≤ n) ∧ p.core.sets.length ≤ n ∧ p.core.ddt.length ≤ n ∧ p.core.parts.length ≤ n ∧ p.core.safe.length ≤ n :=
  ⟨⟨szW_mem h (by simp [Pl.wt, Dk.wt, wS]), szW_mem h (by simp [Pl.wt, Dk.wt, wS]), szW_mem h (by simp [Pl.wt, Dk.wt, wL])⟩, szW_mem h (by simp [Pl.wt, Co.wt, wC]), szW_mem h (by simp [Pl.wt, Co.wt]), szW_mem h (by simp [Pl.wt, Co.wt]), szW_mem h (by simp [Pl.wt, Co.wt])⟩
@[go_sem] def ctToCore : Ct := ⟨false, [[none, some .cset, some .ent, some .ptr, none, some .int, none]], fun args os => match args, os with
  | [.agg [.val (.int .i64 x), .isl .cset cs, .isl .ent es, .isl .ptr ps, .val (.bool y), .isl .int zs, .val (.int .i64 u)]], [] => ⟨(Co.mk x cs es ps y zs u).small, (Co.mk x cs es ps y zs u).v 0, [], (Co.mk x cs es ps y zs u).objs⟩
  | _, _ => no⟩
theorem s_toCore_e : EnterOk Tryz.prog 70 := ⟨_, Tryz.func70, rfl, by decide⟩
@[go_sem] def s_toCore_lv : List (List Nat) := [[1, 2], [1, 2, 3], [1, 2, 3], [1, 2, 3], [1, 2, 3], [1, 2, 3], [1, 2, 3], [1, 2, 3], [2, 3], [2]]
@[go_sem] noncomputable def s_toCore_K : Known := ((((Known.nil).cons 154 ctToCs s_toCs s_toCs_e).cons 155 ctToEs s_toEs s_toEs_e).cons 156 ctToPs s_toPs s_toPs_e).cons 50 ctToI s_toI s_toI_e
set_option maxHeartbeats 8000000 in
theorem s_toCore : Sound Tryz.prog 70 ctToCore := by
  have ke := s_toCore_K.env []
  have kl : Lives s_toCore_lv := trivial
  refine sound_intro (E := ⟨ti, s_toCore_K.Γ, []⟩) ke Tryz.func70 Tryz.ntmps70 rfl (rs := [.cell 2 44]) rfl ?_
  intro args os hp
  unfold ctToCore at hp ⊢
  dsimp only at hp ⊢
  split at hp
  · rename_i x cs es ps y zs u
    refine ⟨by simp, fun φ0 w0 => ?_⟩
    obtain ⟨h1, h2, h3, h4⟩ : (Co.mk x cs es ps y zs u).small := hp
    simp only at h1 h2 h3 h4
    refine goh trivial ?_
    exact finh [some 3, some 4, some 5, some 6] trivial
  · simp [no] at hp
@[go_sem] def Pl.v (p : Pl) : TV := .agg [.osl .str 0 0 p.disk.a.length, .osl .str 1 0 p.disk.b.length, .osl .late 2 0 p.disk.l.length, .val (.int .i64 p.core.txg), .osl .cset 3 0 p.core.sets.length, .osl .ent 4 0 p.core.ddt.length, .osl .ptr 5 0 p.core.parts.length, .val (.bool p.core.dirty), .osl .int 6 0 p.core.safe.length, .val (.int .i64 p.core.logn), .val (.bool p.up)]
@[go_sem] def Pl.objs (p : Pl) : List Obj := [.arr .str p.disk.a, .arr .str p.disk.b, .arr .late p.disk.l, .arr .cset p.core.sets, .arr .ent p.core.ddt, .arr .ptr p.core.parts, .arr .int p.core.safe]
def Pl.small (p : Pl) : Prop := p.disk.small ∧ p.core.small
@[go_sem] def ctToPool : Ct := ⟨false, [[some .str, some .str, some .late, none, some .cset, some .ent, some .ptr, none, some .int, none, none]], fun args os => match args, os with
  | [.agg [.isl .str a, .isl .str b, .isl .late l, .val (.int .i64 x), .isl .cset cs, .isl .ent es, .isl .ptr ps, .val (.bool y), .isl .int zs, .val (.int .i64 u), .val (.bool o)]], [] => ⟨(Pl.mk ⟨a, b, l⟩ ⟨x, cs, es, ps, y, zs, u⟩ o).small, (Pl.mk ⟨a, b, l⟩ ⟨x, cs, es, ps, y, zs, u⟩ o).v, [], (Pl.mk ⟨a, b, l⟩ ⟨x, cs, es, ps, y, zs, u⟩ o).objs⟩
  | _, _ => no⟩
theorem s_toPool_e : EnterOk Tryz.prog 15 := ⟨_, Tryz.func15, rfl, by decide⟩
@[go_sem] def s_toPool_lv : List (List Nat) := [[1, 2], [1, 2, 3], [1, 2, 3], [1, 2, 3], [2, 3], [2]]
@[go_sem] noncomputable def s_toPool_K : Known := ((Known.nil).cons 41 ctToDisk s_toDisk s_toDisk_e).cons 70 ctToCore s_toCore s_toCore_e
set_option maxHeartbeats 8000000 in
theorem s_toPool : Sound Tryz.prog 15 ctToPool := by
  have ke := s_toPool_K.env []
  have kl : Lives s_toPool_lv := trivial
  refine sound_intro (E := ⟨ti, s_toPool_K.Γ, []⟩) ke Tryz.func15 Tryz.ntmps15 rfl (rs := [.cell 2 46]) rfl ?_
  intro args os hp
  unfold ctToPool at hp ⊢
  dsimp only at hp ⊢
  split at hp
  · rename_i a b l x cs es ps y zs u o
    refine ⟨by simp, fun φ0 w0 => ?_⟩
    obtain ⟨⟨g1, g2, g3⟩, ⟨h1, h2, h3, h4⟩⟩ : (Pl.mk ⟨a, b, l⟩ ⟨x, cs, es, ps, y, zs, u⟩ o).small := hp
    simp only at g1 g2 g3 h1 h2 h3 h4
    refine goh trivial ?_
    exact finh [some 3, some 4, some 5, some 6, some 7, some 8, some 9] trivial
  · simp [no] at hp
@[go_sem] def ctEqCore : Ct := ⟨false, [[none, some .cset, some .ent, some .ptr, none, some .int, none], [none, some .cset, some .ent, some .ptr, none, some .int, none]], fun args os => match args, os with
  | [.agg [.val (.int .i64 x), .isl .cset cs, .isl .ent es, .isl .ptr ps, .val (.bool y), .isl .int zs, .val (.int .i64 u)], .agg [.val (.int .i64 x'), .isl .cset cs', .isl .ent es', .isl .ptr ps', .val (.bool y'), .isl .int zs', .val (.int .i64 u')]], [] => ifp ((x = x' ∧ cs = cs' ∧ es = es' ∧ ps = ps' ∧ y = y' ∧ zs = zs' ∧ u = u') ∧ (Co.mk x cs es ps y zs u).small) (vb true)
  | _, _ => no⟩
theorem s_eqCore_e : EnterOk Tryz.prog 72 := ⟨_, Tryz.func72, rfl, by decide⟩
@[go_sem] def s_eqCore_lv : List (List Nat) := [[2, 3], [2, 3, 9], [4], [2, 3, 15], [4], [2, 3, 21], [4], [2, 3, 27], [4], [2, 3, 32], [4], [2, 3, 38], [4], [43], [4], [4]]
@[go_sem] noncomputable def s_eqCore_K : Known := ((((Known.nil).cons 158 ctEqCs s_eqCs s_eqCs_e).cons 159 ctEqEs s_eqEs s_eqEs_e).cons 160 ctEqPs s_eqPs s_eqPs_e).cons 52 ctEqI s_eqI s_eqI_e
set_option maxHeartbeats 8000000 in
theorem s_eqCore : Sound Tryz.prog 72 ctEqCore := by
  have ke := s_eqCore_K.env []
  have kl : Lives s_eqCore_lv := trivial
  refine sound_intro (E := ⟨ti, s_eqCore_K.Γ, []⟩) ke Tryz.func72 Tryz.ntmps72 rfl (rs := [.tmp 4]) rfl ?_
  intro args os hp
  unfold ctEqCore at hp ⊢
  dsimp only at hp ⊢
  split at hp
  · rename_i x cs es ps y zs u x' cs' es' ps' y' zs' u'
    refine ⟨by simp, fun φ0 w0 => ?_⟩
    obtain ⟨⟨rfl, rfl, rfl, rfl, rfl, rfl, rfl⟩, h1, h2, h3, h4⟩ : (x = x' ∧ cs = cs' ∧ es = es' ∧ ps = ps' ∧ y = y' ∧ zs = zs' ∧ u = u') ∧ (Co.mk x cs es ps y zs u).small := hp
    simp only at h1 h2 h3 h4
    refine goh trivial ?_
    refine W_cnd ?_ ?_ <;> intro hlit <;> try (cases hlit; done)
    refine goh trivial ?_
    refine W_cnd ?_ ?_ <;> intro hlit <;> try (cases hlit; done)
    refine goh trivial ?_
    refine W_cnd ?_ ?_ <;> intro hlit <;> try (cases hlit; done)
    refine goh trivial ?_
    refine W_cnd ?_ ?_ <;> intro hlit <;> try (cases hlit; done)
    refine goh trivial ?_
    refine W_cnd ?_ ?_ <;> intro hlit <;> try (cases hlit; done)
    refine goh trivial ?_
    refine W_cnd ?_ ?_ <;> intro hlit <;> try (cases hlit; done)
    refine goh trivial ?_
    refine W_cnd ?_ ?_ <;> intro hlit <;> try (cases hlit; done)
    refine goh trivial ?_
    exact finh [] trivial
  · simp [no, ifp] at hp
@[go_sem] def ctEqPool : Ct := ⟨false, [[some .str, some .str, some .late, none, some .cset, some .ent, some .ptr, none, some .int, none, none], [some .str, some .str, some .late, none, some .cset, some .ent, some .ptr, none, some .int, none, none]], fun args os => match args, os with
  | [.agg [.isl .str a, .isl .str b, .isl .late l, .val (.int .i64 x), .isl .cset cs, .isl .ent es, .isl .ptr ps, .val (.bool y), .isl .int zs, .val (.int .i64 u), .val (.bool o)], .agg [.isl .str a', .isl .str b', .isl .late l', .val (.int .i64 x'), .isl .cset cs', .isl .ent es', .isl .ptr ps', .val (.bool y'), .isl .int zs', .val (.int .i64 u'), .val (.bool o')]], [] =>
    ifp (((a = a' ∧ b = b' ∧ l = l') ∧ (x = x' ∧ cs = cs' ∧ es = es' ∧ ps = ps' ∧ y = y' ∧ zs = zs' ∧ u = u') ∧ o = o') ∧ (Pl.mk ⟨a, b, l⟩ ⟨x, cs, es, ps, y, zs, u⟩ o).small) (vb true)
  | _, _ => no⟩
theorem s_eqPool_e : EnterOk Tryz.prog 17 := ⟨_, Tryz.func17, rfl, by decide⟩
@[go_sem] def s_eqPool_lv : List (List Nat) := [[2, 3], [2, 3, 10], [4], [2, 3, 16], [4], [21], [4], [4]]
@[go_sem] noncomputable def s_eqPool_K : Known := ((Known.nil).cons 44 ctEqDisk s_eqDisk s_eqDisk_e).cons 72 ctEqCore s_eqCore s_eqCore_e
set_option maxHeartbeats 8000000 in
theorem s_eqPool : Sound Tryz.prog 17 ctEqPool := by
  have ke := s_eqPool_K.env []
  have kl : Lives s_eqPool_lv := trivial
  refine sound_intro (E := ⟨ti, s_eqPool_K.Γ, []⟩) ke Tryz.func17 Tryz.ntmps17 rfl (rs := [.tmp 4]) rfl ?_
  intro args os hp
  unfold ctEqPool at hp ⊢
  dsimp only at hp ⊢
  split at hp
  · rename_i a b l x cs es ps y zs u o a' b' l' x' cs' es' ps' y' zs' u' o'
    refine ⟨by simp, fun φ0 w0 => ?_⟩
    obtain ⟨⟨⟨rfl, rfl, rfl⟩, ⟨rfl, rfl, rfl, rfl, rfl, rfl, rfl⟩, rfl⟩, ⟨g1, g2, g3⟩, ⟨h1, h2, h3, h4⟩⟩ : ((a = a' ∧ b = b' ∧ l = l') ∧ (x = x' ∧ cs = cs' ∧ es = es' ∧ ps = ps' ∧ y = y' ∧ zs = zs' ∧ u = u') ∧ o = o') ∧ (Pl.mk ⟨a, b, l⟩ ⟨x, cs, es, ps, y, zs, u⟩ o).small := hp
    simp only at g1 g2 g3 h1 h2 h3 h4
    refine goh trivial ?_
    refine W_cnd ?_ ?_ <;> intro hlit <;> try (cases hlit; done)
    refine goh trivial ?_
    refine W_cnd ?_ ?_ <;> intro hlit <;> try (cases hlit; done)
    refine goh trivial ?_
    refine W_cnd ?_ ?_ <;> intro hlit <;> try (cases hlit; done)
    refine goh trivial ?_
    exact finh [] trivial
  · simp [no, ifp] at hp
end Go.Proofs.YtjedcphhajlnoaaGreatDoor
