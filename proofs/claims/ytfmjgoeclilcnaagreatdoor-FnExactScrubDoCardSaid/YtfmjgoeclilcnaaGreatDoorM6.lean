import Derived.Ground.NamesProg
import Derived.Shelf.Strings.SlTrimAscii
import Derived.Test.YtfmjgoeclilcnaaGreatDoorProg
import Derived.WalkKit
import Derived.Test.YtfmjgoeclilcnaaGreatDoorM5
set_option linter.unusedSimpArgs false
set_option linter.unusedVariables false
set_option linter.unusedSectionVars false
namespace Go.Proofs.YtfmjgoeclilcnaaGreatDoor
open Go.RowKit
@[go_sem] def ctEqS : Ct := ⟨false, [[some .str], [some .str]], fun args os => match args, os with
  | [.one (.isl .str xs), .one (.isl .str ys)], [] => ifp (xs = ys ∧ xs.length ≤ 4000000) (vb true)
  | _, _ => no⟩
@[go_sem] def sgEqS (xs : List ByteArray) (i : Nat) : Sg := ⟨[(0, .one (.isl .str xs)), (1, .one (.isl .str xs)), (5, vi i)], [], []⟩
theorem s_eqS_e : EnterOk Tryz.prog 154 := ⟨_, Tryz.func154, rfl, by decide⟩
@[go_sem] def s_eqS_lv : List (List Nat) := [[0, 1], [0, 1, 10], [4], [0, 1, 5], [0, 1, 5, 14], [0, 1, 5], [0, 1, 5, 25], [4], [4]]
@[go_sem] noncomputable def s_eqS_K : Known := Known.nil
set_option maxHeartbeats 8000000 in
theorem s_eqS : Sound Tryz.prog 154 ctEqS := by
 have ke := s_eqS_K.env []
 have kl : Lives s_eqS_lv := trivial
 refine sound_intro (E := ⟨ti, s_eqS_K.Γ, []⟩) ke Tryz.func154 Tryz.ntmps154 rfl (rs := [.tmp 4]) rfl ?_
 intro args os hp
 unfold ctEqS at hp ⊢
 dsimp only at hp ⊢
 split at hp
 ·rename_i xs ys
  refine ⟨by simp, fun φ0 w0 => ?_⟩
  obtain ⟨rfl, hlen⟩ : xs = ys ∧ xs.length ≤ 4000000 := hp
  refine goh trivial ?_
  refine W_cnd ?_ ?_ <;> intro hlit <;> try (cases hlit; done)
  refine goh trivial ?_
  refine W_le (σ' := sgEqS xs 0) [] (by
   simp only [go_sem, inj_r, ↓reduceIte, reduceCtorEq, Nat.reduceAdd, Nat.reduceLT, Nat.reduceLeDiff, Nat.reduceEqDiff, Int.reduceEq]
   all_goals (repeat' refine And.intro ?_ ?_) <;> try exact shut7
   ) ?_
  refine W_loop (fun n σ => ∃ i : Nat, i ≤ xs.length ∧ n = xs.length - i ∧ σ = sgEqS xs i) xs.length ⟨0, by omega, by omega, rfl⟩ ?_
  rintro n σ ⟨i, hi, rfl, rfl⟩
  unfold sgEqS
  refine goh trivial ?_
  refine W_cnd ?_ ?_ <;> (try simp only [cnd_r]) <;> intro hlt
  ·refine goh trivial ?_
   refine W_cnd ?_ ?_ <;> intro hlit <;> try (cases hlit; done)
   refine goh trivial ?_
   refine ⟨xs.length - (i + 1), [], sgEqS xs (i + 1), by omega, ?_, i + 1, by omega, rfl, rfl⟩
   exact leh trivial
  ·refine goh trivial ?_
   exact finh [] trivial
 ·simp [no, ifp] at hp
@[go_sem] def ctEqS2 : Ct := ⟨false, [[some .str, some .str], [some .str, some .str]], fun args os => match args, os with
  | [.agg [.isl .str a, .isl .str b], .agg [.isl .str c, .isl .str d]], [] => ifp ((a = c ∧ b = d) ∧ a.length ≤ 4000000 ∧ b.length ≤ 4000000) (vb true)
  | _, _ => no⟩
@[go_sem] def sgEqS2 (a b : List ByteArray) (i : Int) : Sg := ⟨[(2, .one (.ptr 0 0)), (3, .one (.ptr 1 0)), (5, vi i)], [some (.cells [.isl .str a, .isl .str b]), some (.cells [.isl .str a, .isl .str b])], []⟩
theorem s_eqS2_e : EnterOk Tryz.prog 67 := ⟨_, Tryz.func67, rfl, by decide⟩
@[go_sem] def s_eqS2_lv : List (List Nat) := [[2, 3], [2, 3, 5], [2, 3, 5, 7], [2, 3, 5], [2, 3, 5, 17], [4], [4]]
@[go_sem] noncomputable def s_eqS2_K : Known := (Known.nil).cons 154 ctEqS s_eqS s_eqS_e
set_option maxHeartbeats 8000000 in
theorem s_eqS2 : Sound Tryz.prog 67 ctEqS2 := by
 have ke := s_eqS2_K.env []
 have kl : Lives s_eqS2_lv := trivial
 refine sound_intro (E := ⟨ti, s_eqS2_K.Γ, []⟩) ke Tryz.func67 Tryz.ntmps67 rfl (rs := [.tmp 4]) rfl ?_
 intro args os hp
 unfold ctEqS2 at hp ⊢
 dsimp only at hp ⊢
 split at hp
 ·rename_i a b c d
  refine ⟨by simp, fun φ0 w0 => ?_⟩
  obtain ⟨⟨rfl, rfl⟩, h1, h2⟩ : (a = c ∧ b = d) ∧ a.length ≤ 4000000 ∧ b.length ≤ 4000000 := hp
  refine goh trivial ?_
  refine W_le (σ' := sgEqS2 a b 0) [some 0, some 1] (by
   simp only [go_sem, inj_r, ↓reduceIte, reduceCtorEq, Nat.reduceAdd, Nat.reduceLT, Nat.reduceLeDiff, Nat.reduceEqDiff, Int.reduceEq]
   all_goals (repeat' refine And.intro ?_ ?_) <;> try exact shut7
   ) ?_
  refine W_loop (fun q σ => ∃ (i : Int), ((i = 0 ∧ q = 2) ∨ (i = 1 ∧ q = 1) ∨ (i = 2 ∧ q = 0)) ∧ σ = sgEqS2 a b i) 2 ⟨0, .inl ⟨rfl, rfl⟩, rfl⟩ ?_
  rintro q σ ⟨i, ⟨rfl, rfl⟩ | ⟨rfl, rfl⟩ | ⟨rfl, rfl⟩, rfl⟩
  ·unfold sgEqS2
   refine goh trivial ?_
   refine W_cnd ?_ ?_ <;> intro hlit <;> try (cases hlit; done)
   refine goh trivial ?_
   refine W_cnd ?_ ?_ <;> intro hlit <;> try (cases hlit; done)
   refine goh trivial ?_
   refine ⟨1, [some 0, some 1], sgEqS2 a b 1, by omega, ?_, 1, .inr (.inl ⟨rfl, rfl⟩), rfl⟩
   exact leh trivial
  ·unfold sgEqS2
   refine goh trivial ?_
   refine W_cnd ?_ ?_ <;> intro hlit <;> try (cases hlit; done)
   refine goh trivial ?_
   refine W_cnd ?_ ?_ <;> intro hlit <;> try (cases hlit; done)
   refine goh trivial ?_
   refine ⟨0, [some 0, some 1], sgEqS2 a b 2, by omega, ?_, 2, .inr (.inr ⟨rfl, rfl⟩), rfl⟩
   exact leh trivial
  ·unfold sgEqS2
   refine goh trivial ?_
   refine W_cnd ?_ ?_ <;> intro hlit <;> try (cases hlit; done)
   refine goh trivial ?_
   exact finh [] trivial
 ·simp [no, ifp] at hp
@[go_sem] def ctEqLate : Ct := ⟨false, [], fun args os => match args, os with
  | [.agg [.val (.int .i64 x), .val (.int .i64 y), .val (.string t)], .agg [.val (.int .i64 x'), .val (.int .i64 y'), .val (.string t')]], [] => ifp (x = x' ∧ y = y' ∧ t = t') (vb true)
  | _, _ => no⟩
theorem s_eqLate_e : EnterOk Tryz.prog 155 := ⟨_, Tryz.func155, rfl, by decide⟩
@[go_sem] def s_eqLate_lv : List (List Nat) := [[2, 3], [2, 3, 9], [4], [2, 3, 14], [4], [19], [4], [4]]
@[go_sem] noncomputable def s_eqLate_K : Known := Known.nil
set_option maxHeartbeats 8000000 in
theorem s_eqLate : Sound Tryz.prog 155 ctEqLate := by
 have ke := s_eqLate_K.env []
 have kl : Lives s_eqLate_lv := trivial
 refine sound_intro (E := ⟨ti, s_eqLate_K.Γ, []⟩) ke Tryz.func155 Tryz.ntmps155 rfl (rs := [.tmp 4]) rfl ?_
 intro args os hp
 unfold ctEqLate at hp ⊢
 dsimp only at hp ⊢
 split at hp
 ·rename_i x y t x' y' t'
  refine ⟨by simp, fun φ0 w0 => ?_⟩
  obtain ⟨rfl, rfl, rfl⟩ : x = x' ∧ y = y' ∧ t = t' := hp
  refine goh trivial ?_
  refine W_cnd ?_ ?_ <;> intro hlit <;> try (cases hlit; done)
  refine goh trivial ?_
  refine W_cnd ?_ ?_ <;> intro hlit <;> try (cases hlit; done)
  refine goh trivial ?_
  refine W_cnd ?_ ?_ <;> intro hlit <;> try (cases hlit; done)
  refine goh trivial ?_
  exact finh [] trivial
 ·simp [no, ifp] at hp
@[go_sem] def ctEqL : Ct := ⟨false, [[some .late], [some .late]], fun args os => match args, os with
  | [.one (.isl .late xs), .one (.isl .late ys)], [] => ifp (xs = ys ∧ xs.length ≤ 4000000) (vb true)
  | _, _ => no⟩
@[go_sem] def sgEqL (xs : List Late) (i : Nat) : Sg := ⟨[(0, .one (.isl .late xs)), (1, .one (.isl .late xs)), (5, vi i)], [], []⟩
theorem s_eqL_e : EnterOk Tryz.prog 68 := ⟨_, Tryz.func68, rfl, by decide⟩
@[go_sem] def s_eqL_lv : List (List Nat) := [[0, 1], [0, 1, 10], [4], [0, 1, 5], [0, 1, 5, 14], [0, 1, 5], [0, 1, 5, 26], [4], [4]]
@[go_sem] noncomputable def s_eqL_K : Known := (Known.nil).cons 155 ctEqLate s_eqLate s_eqLate_e
set_option maxHeartbeats 8000000 in
theorem s_eqL : Sound Tryz.prog 68 ctEqL := by
 have ke := s_eqL_K.env []
 have kl : Lives s_eqL_lv := trivial
 refine sound_intro (E := ⟨ti, s_eqL_K.Γ, []⟩) ke Tryz.func68 Tryz.ntmps68 rfl (rs := [.tmp 4]) rfl ?_
 intro args os hp
 unfold ctEqL at hp ⊢
 dsimp only at hp ⊢
 split at hp
 ·rename_i xs ys
  refine ⟨by simp, fun φ0 w0 => ?_⟩
  obtain ⟨rfl, hlen⟩ : xs = ys ∧ xs.length ≤ 4000000 := hp
  refine goh trivial ?_
  refine W_cnd ?_ ?_ <;> intro hlit <;> try (cases hlit; done)
  refine goh trivial ?_
  refine W_le (σ' := sgEqL xs 0) [] (by
   simp only [go_sem, inj_r, ↓reduceIte, reduceCtorEq, Nat.reduceAdd, Nat.reduceLT, Nat.reduceLeDiff, Nat.reduceEqDiff, Int.reduceEq]
   all_goals (repeat' refine And.intro ?_ ?_) <;> try exact shut7
   ) ?_
  refine W_loop (fun n σ => ∃ i : Nat, i ≤ xs.length ∧ n = xs.length - i ∧ σ = sgEqL xs i) xs.length ⟨0, by omega, by omega, rfl⟩ ?_
  rintro n σ ⟨i, hi, rfl, rfl⟩
  unfold sgEqL
  refine goh trivial ?_
  refine W_cnd ?_ ?_ <;> (try simp only [cnd_r]) <;> intro hlt
  ·refine goh trivial ?_
   refine W_cnd ?_ ?_ <;> intro hlit <;> try (cases hlit; done)
   refine goh trivial ?_
   refine ⟨xs.length - (i + 1), [], sgEqL xs (i + 1), by omega, ?_, i + 1, by omega, rfl, rfl⟩
   exact leh trivial
  ·refine goh trivial ?_
   exact finh [] trivial
 ·simp [no, ifp] at hp
@[go_sem] def ctEqDisk : Ct := ⟨false, [[some .str, some .str, some .late], [some .str, some .str, some .late]], fun args os => match args, os with
  | [.agg [.isl .str a, .isl .str b, .isl .late l], .agg [.isl .str c, .isl .str d, .isl .late m]], [] => ifp ((a = c ∧ b = d ∧ l = m) ∧ (Dk.mk a b l).small) (vb true)
  | _, _ => no⟩
theorem s_eqDisk_e : EnterOk Tryz.prog 19 := ⟨_, Tryz.func19, rfl, by decide⟩
@[go_sem] def s_eqDisk_lv : List (List Nat) := [[2, 3], [2, 3, 10], [4], [16], [4], [4]]
@[go_sem] noncomputable def s_eqDisk_K : Known := ((Known.nil).cons 67 ctEqS2 s_eqS2 s_eqS2_e).cons 68 ctEqL s_eqL s_eqL_e
set_option maxHeartbeats 8000000 in
theorem s_eqDisk : Sound Tryz.prog 19 ctEqDisk := by
 have ke := s_eqDisk_K.env []
 have kl : Lives s_eqDisk_lv := trivial
 refine sound_intro (E := ⟨ti, s_eqDisk_K.Γ, []⟩) ke Tryz.func19 Tryz.ntmps19 rfl (rs := [.tmp 4]) rfl ?_
 intro args os hp
 unfold ctEqDisk at hp ⊢
 dsimp only at hp ⊢
 split at hp
 ·rename_i a b l c d m
  refine ⟨by simp, fun φ0 w0 => ?_⟩
  obtain ⟨⟨rfl, rfl, rfl⟩, h1, h2, h3⟩ : (a = c ∧ b = d ∧ l = m) ∧ (Dk.mk a b l).small := hp
  simp only at h1 h2 h3
  refine goh trivial ?_
  refine W_cnd ?_ ?_ <;> intro hlit <;> try (cases hlit; done)
  refine goh trivial ?_
  refine W_cnd ?_ ?_ <;> intro hlit <;> try (cases hlit; done)
  refine goh trivial ?_
  exact finh [] trivial
 ·simp [no, ifp] at hp
@[go_sem] def ctToS : Ct := ⟨false, [[some .str]], fun args os => match args, os with
  | [.one (.isl .str xs)], [] => ⟨xs.length ≤ 4000000, .one (.osl .str 0 0 xs.length), [], [.arr .str xs]⟩
  | _, _ => no⟩
@[go_sem] def sgToS (xs : List ByteArray) (i : Nat) : Sg := ⟨[(0, .one (.isl .str xs)), (3, .one (.osl .str 0 0 xs.length)), (4, vi i)], [some (.arr .str (mix xs (List.replicate xs.length ET.str.dflt) i))], []⟩
theorem s_toS_e : EnterOk Tryz.prog 119 := ⟨_, Tryz.func119, rfl, by decide⟩
@[go_sem] def s_toS_lv : List (List Nat) := [[0], [0, 3], [0, 3, 4], [0, 3, 4, 11], [0, 3, 4], [0, 3, 4], [2]]
@[go_sem] noncomputable def s_toS_K : Known := Known.nil
set_option maxHeartbeats 8000000 in
theorem s_toS : Sound Tryz.prog 119 ctToS := by
 have ke := s_toS_K.env []
 have kl : Lives s_toS_lv := trivial
 refine sound_intro (E := ⟨ti, s_toS_K.Γ, []⟩) ke Tryz.func119 Tryz.ntmps119 rfl (rs := [.tmp 2]) rfl ?_
 intro args os hp
 unfold ctToS at hp ⊢
 dsimp only at hp ⊢
 split at hp
 ·rename_i xs
  refine ⟨by simp, fun φ0 w0 => ?_⟩
  have hlen : xs.length ≤ 4000000 := hp
  clear hp
  refine goh trivial ?_
  refine W_le (σ' := sgToS xs 0) [some 0] (by
   simp only [go_sem, mix_zero, inj_r, ↓reduceIte, reduceCtorEq, Nat.reduceAdd, Nat.reduceLT, Nat.reduceLeDiff, Nat.reduceEqDiff, Int.reduceEq]
   all_goals (repeat' refine And.intro ?_ ?_) <;> try exact shut7
   ) ?_
  refine W_loop (fun n σ => ∃ i : Nat, i ≤ xs.length ∧ n = xs.length - i ∧ σ = sgToS xs i) xs.length ⟨0, by omega, by omega, rfl⟩ ?_
  rintro n σ ⟨i, hi, rfl, rfl⟩
  unfold sgToS
  have hm := mix_len xs (List.replicate xs.length ET.str.dflt) i (by simp)
  rw [List.length_replicate] at hm
  refine goh hm ?_
  refine W_cnd ?_ ?_ <;> (try simp only [cnd_r]) <;> intro hlt
  ·have hs := mix_set xs (List.replicate xs.length ET.str.dflt) i ET.str.dflt (by simp) (by simp; omega) rfl
   refine goh hm ?_
   refine ⟨xs.length - (i + 1), [some 0], sgToS xs (i + 1), by omega, ?_, i + 1, by omega, rfl, rfl⟩
   exact leh (And.intro hs hm)
  ·have hs := mix_all xs (List.replicate xs.length ET.str.dflt) i (by simp) (by simp; omega)
   refine goh hm ?_
   exact finh [some 0] hs
 ·simp [no] at hp
end Go.Proofs.YtfmjgoeclilcnaaGreatDoor
namespace Go.Proofs.YtfmjgoeclilcnaaGreatDoor
open Go.RowKit
@[go_sem] def ctToS2 : Ct := ⟨false, [[some .str, some .str]], fun args os => match args, os with
  | [.agg [.isl .str a, .isl .str b]], [] => ⟨a.length ≤ 4000000 ∧ b.length ≤ 4000000, .agg [.osl .str 0 0 a.length, .osl .str 1 0 b.length], [], [.arr .str a, .arr .str b]⟩
  | _, _ => no⟩
@[go_sem] def sgTo0 (a b : List ByteArray) : Sg := ⟨[(1, .one (.ptr 0 0)), (2, .one (.ptr 1 0)), (3, .one (.ptr 2 0)), (4, vi 0)], [some (.cells [.isl .str a, .isl .str b]), some (.cells [.val (.slice none 0 0), .val (.slice none 0 0)]), some (.cells [.val (.slice none 0 0), .val (.slice none 0 0)])], []⟩
@[go_sem] def sgTo1 (a b : List ByteArray) : Sg := ⟨[(1, .one (.ptr 0 0)), (2, .one (.ptr 1 0)), (3, .one (.ptr 2 0)), (4, vi 1)], [some (.cells [.isl .str a, .isl .str b]), some (.cells [.val (.slice none 0 0), .val (.slice none 0 0)]), some (.cells [.osl .str 3 0 a.length, .val (.slice none 0 0)]), some (.arr .str a)], []⟩
@[go_sem] def sgTo2 (a b : List ByteArray) : Sg := ⟨[(1, .one (.ptr 0 0)), (2, .one (.ptr 1 0)), (3, .one (.ptr 2 0)), (4, vi 2)], [some (.cells [.isl .str a, .isl .str b]), some (.cells [.val (.slice none 0 0), .val (.slice none 0 0)]), some (.cells [.osl .str 3 0 a.length, .osl .str 4 0 b.length]), some (.arr .str a), some (.arr .str b)], []⟩
theorem s_toS2_e : EnterOk Tryz.prog 53 := ⟨_, Tryz.func53, rfl, by decide⟩
@[go_sem] def s_toS2_lv : List (List Nat) := [[1, 2], [1, 2, 3], [1, 2, 3, 4], [1, 2, 3, 4, 6], [1, 2, 3, 4], [1, 2, 3, 4], [2]]
@[go_sem] noncomputable def s_toS2_K : Known := (Known.nil).cons 119 ctToS s_toS s_toS_e
set_option maxHeartbeats 8000000 in
theorem s_toS2 : Sound Tryz.prog 53 ctToS2 := by
 have ke := s_toS2_K.env []
 have kl : Lives s_toS2_lv := trivial
 refine sound_intro (E := ⟨ti, s_toS2_K.Γ, []⟩) ke Tryz.func53 Tryz.ntmps53 rfl (rs := [.cell 2 23]) rfl ?_
 intro args os hp
 unfold ctToS2 at hp ⊢
 dsimp only at hp ⊢
 split at hp
 ·rename_i a b
  refine ⟨by simp, fun φ0 w0 => ?_⟩
  obtain ⟨h1, h2⟩ : a.length ≤ 4000000 ∧ b.length ≤ 4000000 := hp
  refine goh trivial ?_
  refine W_le (σ' := sgTo0 a b) [some 0, some 1, some 2] (by
   simp only [go_sem, inj_r, ↓reduceIte, reduceCtorEq, Nat.reduceAdd, Nat.reduceLT, Nat.reduceLeDiff, Nat.reduceEqDiff, Int.reduceEq]
   all_goals (repeat' refine And.intro ?_ ?_) <;> try exact shut7
   ) ?_
  refine W_loop (fun q σ => (q = 2 ∧ σ = sgTo0 a b) ∨ (q = 1 ∧ σ = sgTo1 a b) ∨ (q = 0 ∧ σ = sgTo2 a b)) 2 (.inl ⟨rfl, rfl⟩) ?_
  rintro q σ (⟨rfl, rfl⟩ | ⟨rfl, rfl⟩ | ⟨rfl, rfl⟩)
  ·unfold sgTo0
   refine goh trivial ?_
   refine W_cnd ?_ ?_ <;> intro hlit <;> try (cases hlit; done)
   refine goh trivial ?_
   refine ⟨1, [some 0, some 1, some 2, some 3], sgTo1 a b, by omega, ?_, .inr (.inl ⟨rfl, rfl⟩)⟩
   exact leh trivial
  ·unfold sgTo1
   refine goh trivial ?_
   refine W_cnd ?_ ?_ <;> intro hlit <;> try (cases hlit; done)
   refine goh trivial ?_
   refine ⟨0, [some 0, some 1, some 2, some 3, some 4], sgTo2 a b, by omega, ?_, .inr (.inr ⟨rfl, rfl⟩)⟩
   exact leh trivial
  ·unfold sgTo2
   refine goh trivial ?_
   refine W_cnd ?_ ?_ <;> intro hlit <;> try (cases hlit; done)
   refine goh trivial ?_
   exact finh [some 3, some 4] trivial
 ·simp [no] at hp
@[go_sem] def ctToLate : Ct := ⟨false, [], fun args os => match args, os with
  | [.agg [.val (.int .i64 x), .val (.int .i64 y), .val (.string t)]], [] => is (.agg [.val (.int .i64 x), .val (.int .i64 y), .val (.string t)])
  | _, _ => no⟩
theorem s_toLate_e : EnterOk Tryz.prog 120 := ⟨_, Tryz.func120, rfl, by decide⟩
@[go_sem] def s_toLate_lv : List (List Nat) := [[1, 2], [1, 2, 3], [1, 2, 3], [1, 2, 3], [2, 3], [2]]
@[go_sem] noncomputable def s_toLate_K : Known := Known.nil
set_option maxHeartbeats 8000000 in
theorem s_toLate : Sound Tryz.prog 120 ctToLate := by
 have ke := s_toLate_K.env []
 have kl : Lives s_toLate_lv := trivial
 refine sound_intro (E := ⟨ti, s_toLate_K.Γ, []⟩) ke Tryz.func120 Tryz.ntmps120 rfl (rs := [.cell 2 122]) rfl ?_
 intro args os hp
 unfold ctToLate at hp ⊢
 dsimp only at hp ⊢
 split at hp
 ·rename_i x y t
  refine ⟨by simp, fun φ0 w0 => ?_⟩
  refine goh trivial ?_
  exact finh [] trivial
 ·simp [no, is] at hp
@[go_sem] def ctToL : Ct := ⟨false, [[some .late]], fun args os => match args, os with
  | [.one (.isl .late xs)], [] => ⟨xs.length ≤ 4000000, .one (.osl .late 0 0 xs.length), [], [.arr .late xs]⟩
  | _, _ => no⟩
@[go_sem] def sgToL (xs : List Late) (i : Nat) : Sg := ⟨[(0, .one (.isl .late xs)), (3, .one (.osl .late 0 0 xs.length)), (4, vi i)], [some (.arr .late (mix xs (List.replicate xs.length ET.late.dflt) i))], []⟩
theorem s_toL_e : EnterOk Tryz.prog 54 := ⟨_, Tryz.func54, rfl, by decide⟩
@[go_sem] def s_toL_lv : List (List Nat) := [[0], [0, 3], [0, 3, 4], [0, 3, 4, 11], [0, 3, 4], [0, 3, 4], [2]]
@[go_sem] noncomputable def s_toL_K : Known := (Known.nil).cons 120 ctToLate s_toLate s_toLate_e
set_option maxHeartbeats 8000000 in
theorem s_toL : Sound Tryz.prog 54 ctToL := by
 have ke := s_toL_K.env []
 have kl : Lives s_toL_lv := trivial
 refine sound_intro (E := ⟨ti, s_toL_K.Γ, []⟩) ke Tryz.func54 Tryz.ntmps54 rfl (rs := [.tmp 2]) rfl ?_
 intro args os hp
 unfold ctToL at hp ⊢
 dsimp only at hp ⊢
 split at hp
 ·rename_i xs
  refine ⟨by simp, fun φ0 w0 => ?_⟩
  have hlen : xs.length ≤ 4000000 := hp
  clear hp
  refine goh trivial ?_
  refine W_le (σ' := sgToL xs 0) [some 0] (by
   simp only [go_sem, mix_zero, inj_r, ↓reduceIte, reduceCtorEq, Nat.reduceAdd, Nat.reduceLT, Nat.reduceLeDiff, Nat.reduceEqDiff, Int.reduceEq]
   all_goals (repeat' refine And.intro ?_ ?_) <;> try exact shut7
   ) ?_
  refine W_loop (fun n σ => ∃ i : Nat, i ≤ xs.length ∧ n = xs.length - i ∧ σ = sgToL xs i) xs.length ⟨0, by omega, by omega, rfl⟩ ?_
  rintro n σ ⟨i, hi, rfl, rfl⟩
  unfold sgToL
  have hm := mix_len xs (List.replicate xs.length ET.late.dflt) i (by simp)
  rw [List.length_replicate] at hm
  refine goh hm ?_
  refine W_cnd ?_ ?_ <;> (try simp only [cnd_r]) <;> intro hlt
  ·have hs := mix_set xs (List.replicate xs.length ET.late.dflt) i ET.late.dflt (by simp) (by simp; omega) rfl
   refine goh hm ?_
   refine ⟨xs.length - (i + 1), [some 0], sgToL xs (i + 1), by omega, ?_, i + 1, by omega, rfl, rfl⟩
   exact leh (And.intro hs hm)
  ·have hs := mix_all xs (List.replicate xs.length ET.late.dflt) i (by simp) (by simp; omega)
   refine goh hm ?_
   exact finh [some 0] hs
 ·simp [no] at hp
@[go_sem] def ctToDisk : Ct := ⟨false, [[some .str, some .str, some .late]], fun args os => match args, os with
  | [.agg [.isl .str a, .isl .str b, .isl .late l]], [] => ⟨(Dk.mk a b l).small, (Dk.mk a b l).v 0, [], (Dk.mk a b l).objs⟩
  | _, _ => no⟩
theorem s_toDisk_e : EnterOk Tryz.prog 16 := ⟨_, Tryz.func16, rfl, by decide⟩
@[go_sem] def s_toDisk_lv : List (List Nat) := [[1, 2], [1, 2, 3], [1, 2, 3], [2, 3], [2]]
@[go_sem] noncomputable def s_toDisk_K : Known := ((Known.nil).cons 53 ctToS2 s_toS2 s_toS2_e).cons 54 ctToL s_toL s_toL_e
set_option maxHeartbeats 8000000 in
theorem s_toDisk : Sound Tryz.prog 16 ctToDisk := by
 have ke := s_toDisk_K.env []
 have kl : Lives s_toDisk_lv := trivial
 refine sound_intro (E := ⟨ti, s_toDisk_K.Γ, []⟩) ke Tryz.func16 Tryz.ntmps16 rfl (rs := [.cell 2 38]) rfl ?_
 intro args os hp
 unfold ctToDisk at hp ⊢
 dsimp only at hp ⊢
 split at hp
 ·rename_i a b l
  refine ⟨by simp, fun φ0 w0 => ?_⟩
  obtain ⟨h1, h2, h3⟩ : (Dk.mk a b l).small := hp
  simp only at h1 h2 h3
  refine goh trivial ?_
  exact finh [some 3, some 4, some 5] trivial
 ·simp [no] at hp
end Go.Proofs.YtfmjgoeclilcnaaGreatDoor
namespace Go.Proofs
open Go.Shelf
def Tryz.lays160_ren : Go.Shelf.Ren := ⟨fun | 160 => 217 | 232 => 246 | 231 => 245 | 227 => 247 | 234 => 249 | 233 => 248 | 236 => 251 | 235 => 250 | 228 => 270 | 271 => 272 | 151 => 271 | 197 => 242 | 120 => 285 | 152 => 284 | 260 => 265 | 137 => 292 | 119 => 293 | 224 => 268 | 225 => 267 | 217 => 266 | 266 => 282 | n => n, fun | 9 => 9 | 4 => 4 | 3 => 3 | 5 => 5 | 117 => 261 | 116 => 260 | 0 => 0 | 124 => 264 | 21 => 21 | 105 => 256 | 46 => 223 | 119 => 296 | 139 => 299 | 138 => 298 | n => n, fun | 3 => 3 | 4 => 4 | n => n⟩
theorem Tryz.lays160 : Go.Proofs.Lays.n160 Tryz.prog Tryz.lays160_ren := {
 mixed := by kernel_rfl
 f119 := Tryz.func293.trans (congrArg some (by kernel_rfl))
 f120 := Tryz.func285.trans (congrArg some (by kernel_rfl))
 f137 := Tryz.func292.trans (congrArg some (by kernel_rfl))
 f151 := Tryz.func271.trans (congrArg some (by kernel_rfl))
 f152 := Tryz.func284.trans (congrArg some (by kernel_rfl))
 f160 := Tryz.func217.trans (congrArg some (by kernel_rfl))
 f197 := Tryz.func242.trans (congrArg some (by kernel_rfl))
 f217 := Tryz.func266.trans (congrArg some (by kernel_rfl))
 f224 := Tryz.func268.trans (congrArg some (by kernel_rfl))
 f225 := Tryz.func267.trans (congrArg some (by kernel_rfl))
 f227 := Tryz.func247.trans (congrArg some (by kernel_rfl))
 f228 := Tryz.func270.trans (congrArg some (by kernel_rfl))
 f231 := Tryz.func245.trans (congrArg some (by kernel_rfl))
 f232 := Tryz.func246.trans (congrArg some (by kernel_rfl))
 f233 := Tryz.func248.trans (congrArg some (by kernel_rfl))
 f234 := Tryz.func249.trans (congrArg some (by kernel_rfl))
 f235 := Tryz.func250.trans (congrArg some (by kernel_rfl))
 f236 := Tryz.func251.trans (congrArg some (by kernel_rfl))
 f260 := Tryz.func265.trans (congrArg some (by kernel_rfl))
 f266 := Tryz.func282.trans (congrArg some (by kernel_rfl))
 f271 := Tryz.func272.trans (congrArg some (by kernel_rfl))
 t0 := Tryz.underlying0
 a0 := Tryz.isAgg0
 z0 := Tryz.sizeOf0
 v0 := Tryz.zeroValue0
 t3 := Tryz.underlying3
 a3 := Tryz.isAgg3
 z3 := Tryz.sizeOf3
 v3 := Tryz.zeroValue3
 t4 := Tryz.underlying4
 a4 := Tryz.isAgg4
 z4 := Tryz.sizeOf4
 v4 := Tryz.zeroValue4
 t5 := Tryz.underlying5
 a5 := Tryz.isAgg5
 z5 := Tryz.sizeOf5
 v5 := Tryz.zeroValue5
 t9 := Tryz.underlying9
 a9 := Tryz.isAgg9
 z9 := Tryz.sizeOf9
 v9 := Tryz.zeroValue9
 t21 := Tryz.underlying21
 a21 := Tryz.isAgg21
 z21 := Tryz.sizeOf21
 v21 := Tryz.zeroValue21
 t46 := Tryz.underlying223
 a46 := Tryz.isAgg223
 z46 := Tryz.sizeOf223
 v46 := Tryz.zeroValue223
 t105 := Tryz.underlying256
 a105 := Tryz.isAgg256
 z105 := Tryz.sizeOf256
 v105 := Tryz.zeroValue256
 t116 := Tryz.underlying260
 a116 := Tryz.isAgg260
 z116 := Tryz.sizeOf260
 t117 := Tryz.underlying261
 a117 := Tryz.isAgg261
 z117 := Tryz.sizeOf261
 v117 := Tryz.zeroValue261
 t119 := Tryz.underlying296
 a119 := Tryz.isAgg296
 z119 := Tryz.sizeOf296
 t124 := Tryz.underlying264
 a124 := Tryz.isAgg264
 z124 := Tryz.sizeOf264
 v124 := Tryz.zeroValue264
 t138 := Tryz.underlying298
 a138 := Tryz.isAgg298
 z138 := Tryz.sizeOf298
 v138 := Tryz.zeroValue298
 t139 := Tryz.underlying299
 a139 := Tryz.isAgg299
 z139 := Tryz.sizeOf299
 v139 := Tryz.zeroValue299
 g3 := by kernel_rfl
 g4 := by kernel_rfl }
end Go.Proofs
namespace Go.Proofs.YtfmjgoeclilcnaaGreatDoor
open Go.RowKit
def small : ByteArray := ⟨#[97, 98, 99, 100, 101, 102, 103, 104, 105, 106, 107, 108, 109, 110, 111, 112, 113, 114, 115, 116, 117, 118, 119, 120, 121, 122]⟩
def trimmed (s : ByteArray) : ByteArray := ⟨(Lib.trimS s.data.toList small.data.toList).toArray⟩
@[go_sem] def ctTrim : Ct := ⟨false, [], fun args os => match args, os with
  | [.one (.val (.string s)), .one (.val (.string c))], [] => ifp (s.size ≤ 9223372036854775807 ∧ c = small) (vs (trimmed s))
  | _, _ => no⟩
theorem s_trim_e : EnterOk Tryz.prog 217 := ⟨_, Tryz.func217, rfl, by decide⟩
theorem s_trim : Sound Tryz.prog 217 ctTrim := by
 refine sound_plain fun args os hp => ?_
 unfold ctTrim at hp ⊢
 dsimp only at hp ⊢
 split at hp
 ·rename_i s c
  obtain ⟨hs, rfl⟩ : s.size ≤ 9223372036854775807 ∧ c = small := hp
  refine ⟨rfl, [.string s, .string small], .string (trimmed s), rfl, rfl, fun w _ => ?_⟩
  exact Any.strings_Trim_laid Tryz.lays160 (by kernel_rfl) s small w hs (by decide) (ascii_of_all (by decide))
 ·exact hp.elim
end Go.Proofs.YtfmjgoeclilcnaaGreatDoor
namespace Go.Proofs.YtfmjgoeclilcnaaGreatDoor
open Go.RowKit
def isLow (b : UInt8) : Bool := decide (97 ≤ b.toNat) && decide (b.toNat ≤ 122)
def nameB (s : ByteArray) : Bool := (decide (1 ≤ s.size) && decide (s.size ≤ 6)) && s.data.toList.all isLow
theorem small_low : ∀ n : Fin 256, small.data.toList.contains (UInt8.ofNat n.val) = isLow (UInt8.ofNat n.val) := by decide +kernel
theorem small_low' (b : UInt8) : small.data.toList.contains b = isLow b := by
 have h := small_low ⟨b.toNat, b.toNat_lt⟩
 simpa using h
theorem dropWhile_nil {α : Type} (p : α → Bool) : ∀ l : List α, l.dropWhile p = [] ↔ l.all p = true
 | [] => by simp
 | a :: l => by
   rw [List.dropWhile_cons, List.all_cons]
   cases h : p a
   ·simp
   ·simpa using dropWhile_nil p l
theorem trimmed_nil (s : ByteArray) : trimmed s = ⟨#[]⟩ ↔ s.data.toList.all isLow = true := by
 have hp : (fun b => small.data.toList.contains b) = isLow := funext small_low'
 have hsub : ∀ l : List UInt8, (l.reverse.dropWhile isLow).reverse.all isLow = true → l.all isLow = true := by
  intro l h
  rw [List.all_reverse] at h
  have h2 : l.reverse.all isLow = true := by
   rw [← List.takeWhile_append_dropWhile (p := isLow) (l := l.reverse), List.all_append, h, Bool.and_true]
   exact List.all_takeWhile
  rwa [List.all_reverse] at h2
 have hback : ∀ l : List UInt8, l.all isLow = true → l.reverse.dropWhile isLow = [] := fun l h => (dropWhile_nil _ _).2 (by rwa [List.all_reverse])
 unfold trimmed Lib.trimS Lib.trimLeftS Lib.trimRightS
 rw [hp]
 constructor
 ·intro h
  have h1 : ((s.data.toList.reverse.dropWhile isLow).reverse.dropWhile isLow) = [] := by
   have h2 := congrArg (fun x : ByteArray => x.data.toList) h
   simpa using h2
  exact hsub _ ((dropWhile_nil _ _).1 h1)
 ·intro h
  rw [hback _ h]
  rfl
theorem all_low (s : ByteArray) : s.data.toList.all isLow = true ↔ ∀ j, j < s.size → isLow (s.data.getD j 0) = true := by
 rw [List.all_eq_true]
 constructor
 ·intro h j hj
  have hj2 : j < s.data.size := hj
  have : s.data.getD j 0 = s.data[j] := dif_pos hj2
  rw [this]
  exact h _ (by simp)
 ·intro h b hb
  obtain ⟨j, hj, rfl⟩ := List.getElem_of_mem hb
  have hj2 : j < s.data.size := by simpa using hj
  have h3 := h j hj2
  rw [show s.data.getD j 0 = s.data[j] from dif_pos hj2] at h3
  simpa using h3
theorem nameB_same (s : ByteArray) : nameB s = (if 1 ≤ (s.size : Int) ∧ (s.size : Int) ≤ 6 then same (trimmed s) ⟨#[]⟩ else false) := by
 have e : same (trimmed s) ⟨#[]⟩ = s.data.toList.all isLow := by
  rw [Bool.eq_iff_iff, same_true, trimmed_nil]
 unfold nameB
 rw [e]
 by_cases h : 1 ≤ (s.size : Int) ∧ (s.size : Int) ≤ 6
 ·rw [if_pos h, decide_eq_true (show 1 ≤ s.size by omega), decide_eq_true (show s.size ≤ 6 by omega)]; rfl
 ·rw [if_neg h, Bool.and_eq_false_iff]
  left
  rw [Bool.and_eq_false_iff, decide_eq_false_iff_not, decide_eq_false_iff_not]
  omega
theorem nameB_false {s : ByteArray} {i : Nat} (hi : i < s.size) (h : isLow (s.data.getD i 0) = false) : nameB s = false := by
 unfold nameB
 have : s.data.toList.all isLow = false := by
  rw [← Bool.not_eq_true, all_low]
  intro h2
  rw [h2 i hi] at h; cases h
 rw [this, Bool.and_false]
theorem nameB_low {s : ByteArray} (h : ∀ j, j < s.size → isLow (s.data.getD j 0) = true) : nameB s = (if (s.size : Int) > 0 then decide ((s.size : Int) ≤ 6) else false) := by
 unfold nameB
 rw [(all_low s).2 h, Bool.and_true]
 by_cases h1 : (s.size : Int) > 0
 ·rw [if_pos h1, decide_eq_true (show 1 ≤ s.size by omega), Bool.true_and, decide_eq_decide]; omega
 ·rw [if_neg h1, decide_eq_false (show ¬ 1 ≤ s.size by omega)]; rfl
end Go.Proofs.YtfmjgoeclilcnaaGreatDoor
namespace Go.Proofs.YtfmjgoeclilcnaaGreatDoor
open Go.RowKit
@[go_sem] def ctName : Ct := ⟨false, [], fun args os => match args, os with
  | [.one (.val (.string s))], [] => ifp (s.size ≤ 9223372036854775807) (vb (nameB s))
  | _, _ => no⟩
theorem s_bookName_e : EnterOk Tryz.prog 189 := ⟨_, Tryz.func189, rfl, by decide⟩
@[go_sem] def s_bookName_lv : List (List Nat) := [[0], [2]]
@[go_sem] noncomputable def s_bookName_K : Known := ((Known.nil).cons 123 ctWithin s_within s_within_e).cons 217 ctTrim s_trim s_trim_e
set_option maxHeartbeats 8000000 in
theorem s_bookName : Sound Tryz.prog 189 ctName := by
 have ke := s_bookName_K.env []
 have kl : Lives s_bookName_lv := trivial
 refine sound_intro (E := ⟨ti, s_bookName_K.Γ, []⟩) ke Tryz.func189 Tryz.ntmps189 rfl (rs := [.tmp 2]) rfl ?_
 intro args os hp
 unfold ctName at hp ⊢
 dsimp only at hp ⊢
 split at hp
 ·rename_i s
  refine ⟨by simp, fun φ0 w0 => ?_⟩
  have hs : s.size ≤ 9223372036854775807 := hp
  clear hp
  repeat' first
   | with_reducible refine red ?_
   | refine W_seq ?_
   | (refine W_reg (s_bookName_K.env []) s_bookName_lv fun K' hK' => ?_
      simp only [go_sem, small, ↓reduceIte, ↓reduceDIte, reduceCtorEq, Nat.reduceAdd, Nat.reduceMul, Nat.reduceSub, Nat.reduceDiv, Nat.reduceMod, Nat.reduceLT, Nat.reduceLeDiff, Nat.reduceEqDiff, Nat.reduceBEq, Int.reduceToNat, Int.reduceLE, Int.reduceLT, Int.reduceEq, Int.reduceNe, Int.reduceNeg]
      (repeat' refine And.intro ?_ ?_) <;> try first | with_reducible refine hK' ?_ | exact shut6)
   | with_reducible refine blockG_o (by decide) ?_
  refine ⟨by (simp only [go_sem, ↓reduceIte, reduceCtorEq, Nat.reduceAdd, Nat.reduceLT, Nat.reduceLeDiff, Nat.reduceEqDiff]) <;> trivial, [], ?_⟩
  all_goals try simp only [go_sem, inj_r, ↓reduceIte, reduceCtorEq, Nat.reduceAdd, Nat.reduceLT, Nat.reduceLeDiff, Nat.reduceEqDiff, Int.reduceEq]
  all_goals (repeat' refine And.intro ?_ ?_) <;> try exact shut7
  exact (nameB_same s).symm
 ·simp [no, ifp] at hp
@[go_sem] def sgName (s : ByteArray) (i : Nat) : Sg := ⟨[(0, vs s), (3, vi i)], [], []⟩
theorem s_specName_e : EnterOk Tryz.prog 175 := ⟨_, Tryz.func175, rfl, by decide⟩
@[go_sem] def s_specName_lv : List (List Nat) := [[0], [0, 3], [0, 3, 7], [0, 3], [0, 3, 19], [2], [2]]
@[go_sem] noncomputable def s_specName_K : Known := Known.nil
set_option maxHeartbeats 8000000 in
theorem s_specName : Sound Tryz.prog 175 ctName := by
 have ke := s_specName_K.env []
 have kl : Lives s_specName_lv := trivial
 refine sound_intro (E := ⟨ti, s_specName_K.Γ, []⟩) ke Tryz.func175 Tryz.ntmps175 rfl (rs := [.tmp 2]) rfl ?_
 intro args os hp
 unfold ctName at hp ⊢
 dsimp only at hp ⊢
 split at hp
 ·rename_i s
  refine ⟨by simp, fun φ0 w0 => ?_⟩
  have hs : s.size ≤ 9223372036854775807 := hp
  clear hp
  refine goh trivial ?_
  refine W_le (σ' := sgName s 0) [] (by
   simp only [go_sem, inj_r, ↓reduceIte, reduceCtorEq, Nat.reduceAdd, Nat.reduceLT, Nat.reduceLeDiff, Nat.reduceEqDiff, Int.reduceEq]
   all_goals (repeat' refine And.intro ?_ ?_) <;> try exact shut7
   ) ?_
  refine W_loop (fun q σ => ∃ i : Nat, i ≤ s.size ∧ q = s.size - i ∧ (∀ j, j < i → isLow (s.data.getD j 0) = true) ∧ σ = sgName s i) s.size ⟨0, by omega, by omega, by omega, rfl⟩ ?_
  rintro q σ ⟨i, hi, rfl, hbef, rfl⟩
  unfold sgName
  refine goh trivial ?_
  refine W_cnd ?_ ?_ <;> (try simp only [cnd_r]) <;> intro hlt
  ·refine goh trivial ?_
   refine W_cnd ?_ ?_ <;> (try simp only [cnd_r]) <;> intro hc
   ·have hl : isLow (s.data.getD i 0) = false := by
     unfold isLow
     rw [Bool.and_eq_false_iff, decide_eq_false_iff_not, decide_eq_false_iff_not]; omega
    have e := nameB_false (by omega) hl
    refine goh trivial ?_
    exact finh [] e
   ·have hl : isLow (s.data.getD i 0) = true := by
     unfold isLow
     rw [Bool.and_eq_true, decide_eq_true_eq, decide_eq_true_eq]; omega
    refine goh trivial ?_
    refine ⟨s.size - (i + 1), [], sgName s (i + 1), by omega, ?_, i + 1, by omega, rfl, fun j hj => ?_, rfl⟩
    ·exact leh trivial
    ·rcases Nat.lt_succ_iff_lt_or_eq.1 hj with h | rfl
     ·exact hbef j h
     ·exact hl
  ·have e := nameB_low (s := s) fun j hj => hbef j (by omega)
   refine goh trivial ?_
   exact finh [] e
 ·simp [no, ifp] at hp
end Go.Proofs.YtfmjgoeclilcnaaGreatDoor
namespace Go.Proofs.YtfmjgoeclilcnaaGreatDoor
open Go.RowKit
@[go_sem] def ctMarkT : Ct := ⟨false, [], fun args os => match args, os with
  | [.one (.val (.int .i64 k))], [] => ifp (0 ≤ k ∧ k ≤ 1152921504606846976) (vs (markT k))
  | _, _ => no⟩
@[go_sem] def sgMark (k : Int) (out : ByteArray) : Sg := ⟨[(0, vi k), (3, vs out)], [], []⟩
theorem s_markT_e : EnterOk Tryz.prog 157 := ⟨_, Tryz.func157, rfl, by decide⟩
@[go_sem] def s_markT_lv : List (List Nat) := [[0], [0, 5], [2], [0, 3], [0, 3, 7], [0, 3], [0, 3], [2]]
@[go_sem] noncomputable def s_markT_K : Known := Known.nil
set_option maxHeartbeats 8000000 in
theorem s_markT : Sound Tryz.prog 157 ctMarkT := by
 have ke := s_markT_K.env []
 have kl : Lives s_markT_lv := trivial
 refine sound_intro (E := ⟨ti, s_markT_K.Γ, []⟩) ke Tryz.func157 Tryz.ntmps157 rfl (rs := [.tmp 2]) rfl ?_
 intro args os hp
 unfold ctMarkT at hp ⊢
 dsimp only at hp ⊢
 split at hp
 ·rename_i k
  refine ⟨by simp, fun φ0 w0 => ?_⟩
  obtain ⟨h1, h2⟩ : 0 ≤ k ∧ k ≤ 1152921504606846976 := hp
  refine goh trivial ?_
  refine W_cnd ?_ ?_ <;> (try simp only [cnd_r]) <;> intro hk
  ·have e : markT k = ⟨#[109, 48]⟩ := by unfold markT; rw [if_pos (by omega)]
   refine goh trivial ?_
   exact finh [] e
  ·have e : markT k = ⟨#[109]⟩ ++ digs 64 k ⟨#[]⟩ := by unfold markT; rw [if_neg (by omega)]
   obtain ⟨R, hR⟩ : ∃ R, digs 64 k ⟨#[]⟩ = R := ⟨_, rfl⟩
   refine goh trivial ?_
   refine W_le (σ' := sgMark k ⟨#[]⟩) [] (by
    simp only [go_sem, inj_r, ↓reduceIte, reduceCtorEq, Nat.reduceAdd, Nat.reduceLT, Nat.reduceLeDiff, Nat.reduceEqDiff, Int.reduceEq]
    all_goals (repeat' refine And.intro ?_ ?_) <;> try exact shut7
    ) ?_
   refine W_loop (fun n σ => ∃ (j : Int) (out : ByteArray), 0 ≤ j ∧ j ≤ 1152921504606846976 ∧ j.toNat < 2 ^ n ∧ out.size + n ≤ 64 ∧ digs n j out = R ∧ σ = sgMark j out) 64 ⟨k, ⟨#[]⟩, h1, h2, by omega, by decide, hR, rfl⟩ ?_
   rintro n σ ⟨j, out, hj1, hj2, hn, ho, hd, rfl⟩
   unfold sgMark
   refine goh trivial ?_
   refine W_cnd ?_ ?_ <;> (try simp only [cnd_r]) <;> intro hjp
   ·refine goh trivial ?_
    obtain ⟨m, rfl⟩ : ∃ m, n = m + 1 := ⟨n - 1, by rcases n with _ | n; · simp at hn; omega
                                                   ·omega⟩
    have hd2 := hd
    unfold digs at hd2
    rw [if_pos hjp] at hd2
    have hq : j.tdiv 10 = j / 10 := Int.tdiv_eq_ediv_of_nonneg hj1
    have hw : IntKind.i64.wrap (j.tdiv 10) = j.tdiv 10 := wrap_id _ (by omega) (by omega)
    rw [Nat.pow_succ] at hn
    refine ⟨m, [], sgMark (j.tdiv 10) (⟨#[UInt8.ofNat (IntKind.u8.wrap (IntKind.i64.wrap (48 + j.tmod 10))).toNat]⟩ ++ out), by omega, ?_, _, _, by omega, by omega, by omega, ?_, hd2, rfl⟩
    ·exact leh hw
    ·rw [ByteArray.size_append]
     show 1 + out.size + m ≤ 64
     omega
   ·refine goh trivial ?_
    have hj0 : ¬ j > 0 := by omega
    have e2 : digs n j out = out := by
     cases n with
     | zero => rfl
     | succ m => unfold digs; rw [if_neg hj0]
    rw [← hd, e2] at hR
    exact finh [] (And.intro e hR)
 ·simp [no, ifp] at hp
@[go_sem] def ctMarkS : Ct := ⟨true, [], fun args os => match args, os with
  | [.one (.osl .str 0 0 n), .one (.val (.int .i64 k))], [.arr .str xs] => ⟨n = xs.length ∧ xs.length ≤ 4000000 ∧ 0 ≤ k ∧ k ≤ 1000000000, vi (k + xs.length), [(0, some (.arr .str (markS xs.length k)))], []⟩
  | _, _ => no⟩
@[go_sem] def sgMarkS (xs : List ByteArray) (k : Int) (i : Nat) : Sg := ⟨[(0, .one (.osl .str 0 0 xs.length)), (1, vi (k + i)), (5, vi i)], [some (.arr .str (mix (markS xs.length k) xs i))], [0]⟩
theorem s_markS_e : EnterOk Tryz.prog 156 := ⟨_, Tryz.func156, rfl, by decide⟩
@[go_sem] def s_markS_lv : List (List Nat) := [[0, 1], [0, 1, 5], [0, 1, 5, 9], [0, 1, 5], [0, 1, 5], [0, 1, 5], [4]]
@[go_sem] noncomputable def s_markS_K : Known := (Known.nil).cons 157 ctMarkT s_markT s_markT_e
set_option maxHeartbeats 8000000 in
theorem s_markS : Sound Tryz.prog 156 ctMarkS := by
 have ke := s_markS_K.env []
 have kl : Lives s_markS_lv := trivial
 refine sound_intro (E := ⟨ti, s_markS_K.Γ, []⟩) ke Tryz.func156 Tryz.ntmps156 rfl (rs := [.tmp 4]) rfl ?_
 intro args os hp
 unfold ctMarkS at hp ⊢
 dsimp only at hp ⊢
 split at hp
 ·rename_i n k xs
  refine ⟨by simp, fun φ0 w0 => ?_⟩
  obtain ⟨rfl, h1, h2, h3⟩ : n = xs.length ∧ xs.length ≤ 4000000 ∧ 0 ≤ k ∧ k ≤ 1000000000 := hp
  have hml := markS_len xs.length k
  refine goh trivial ?_
  refine W_le (σ' := sgMarkS xs k 0) [some 0] (by
   simp only [go_sem, mix_zero, inj_r, ↓reduceIte, reduceCtorEq, Nat.reduceAdd, Nat.reduceLT, Nat.reduceLeDiff, Nat.reduceEqDiff, Int.reduceEq]
   all_goals (repeat' refine And.intro ?_ ?_) <;> try exact shut7
   ) ?_
  refine W_loop (fun q σ => ∃ i : Nat, i ≤ xs.length ∧ q = xs.length - i ∧ σ = sgMarkS xs k i) xs.length ⟨0, by omega, by omega, rfl⟩ ?_
  rintro q σ ⟨i, hi, rfl, rfl⟩
  unfold sgMarkS
  have hm := mix_len (markS xs.length k) xs i hml
  refine goh hm ?_
  refine W_cnd ?_ ?_ <;> (try simp only [cnd_r]) <;> intro hlt
  ·have hs := mix_set (markS xs.length k) xs i ET.str.dflt hml (by omega) (x := markT (k + i)) (markS_get (by omega) _).symm
   refine goh hm ?_
   refine ⟨xs.length - (i + 1), [some 0], sgMarkS xs k (i + 1), by omega, ?_, i + 1, by omega, rfl, rfl⟩
   exact leh (And.intro hs hm)
  ·obtain rfl : i = xs.length := by omega
   have hs := mix_all (markS xs.length k) xs xs.length hml rfl
   refine goh hm ?_
   exact finh [some 0] hs
 ·simp [no] at hp
@[go_sem] def ctMarkL : Ct := ⟨true, [], fun args os => match args, os with
  | [.one (.osl .late 0 0 n), .one (.val (.int .i64 k))], [.arr .late xs] => ⟨n = xs.length ∧ xs.length ≤ 4000000 ∧ 0 ≤ k ∧ k ≤ 1000000000, vi (k + 3 * xs.length), [(0, some (.arr .late (markL xs.length k)))], []⟩
  | _, _ => no⟩
@[go_sem] def sgMarkL (xs : List Late) (k : Int) (i : Nat) : Sg := ⟨[(0, .one (.osl .late 0 0 xs.length)), (1, vi (k + 3 * i)), (5, vi i)], [some (.arr .late (mix (markL xs.length k) xs i))], [0]⟩
theorem s_markL_e : EnterOk Tryz.prog 70 := ⟨_, Tryz.func70, rfl, by decide⟩
@[go_sem] def s_markL_lv : List (List Nat) := [[0, 1], [0, 1, 5], [0, 1, 5, 9], [0, 1, 5], [0, 1, 5], [0, 1, 5], [0, 1, 5], [0, 1, 5], [0, 1, 5], [0, 1, 5], [4]]
@[go_sem] noncomputable def s_markL_K : Known := (Known.nil).cons 157 ctMarkT s_markT s_markT_e
set_option maxHeartbeats 8000000 in
theorem s_markL : Sound Tryz.prog 70 ctMarkL := by
 have ke := s_markL_K.env []
 have kl : Lives s_markL_lv := trivial
 refine sound_intro (E := ⟨ti, s_markL_K.Γ, []⟩) ke Tryz.func70 Tryz.ntmps70 rfl (rs := [.tmp 4]) rfl ?_
 intro args os hp
 unfold ctMarkL at hp ⊢
 dsimp only at hp ⊢
 split at hp
 ·rename_i n k xs
  refine ⟨by simp, fun φ0 w0 => ?_⟩
  obtain ⟨rfl, h1, h2, h3⟩ : n = xs.length ∧ xs.length ≤ 4000000 ∧ 0 ≤ k ∧ k ≤ 1000000000 := hp
  have hml := markL_len xs.length k
  refine goh trivial ?_
  refine W_le (σ' := sgMarkL xs k 0) [some 0] (by
   simp only [go_sem, mix_zero, inj_r, ↓reduceIte, reduceCtorEq, Nat.reduceAdd, Nat.reduceLT, Nat.reduceLeDiff, Nat.reduceEqDiff, Int.reduceEq]
   all_goals (repeat' refine And.intro ?_ ?_) <;> try exact shut7
   ) ?_
  refine W_loop (fun q σ => ∃ i : Nat, i ≤ xs.length ∧ q = xs.length - i ∧ σ = sgMarkL xs k i) xs.length ⟨0, by omega, by omega, rfl⟩ ?_
  rintro q σ ⟨i, hi, rfl, rfl⟩
  unfold sgMarkL
  have hm := mix_len (markL xs.length k) xs i hml
  refine goh hm ?_
  refine W_cnd ?_ ?_ <;> (try simp only [cnd_r]) <;> intro hlt
  ·have hli : i < xs.length := by omega
   have w1 : IntKind.i64.wrap (k + 3 * i + 1) = k + 3 * i + 1 := wrap_id _ (by omega) (by omega)
   have w2 : IntKind.i64.wrap (k + 3 * i + 1 + 1) = k + 3 * i + 2 := by rw [wrap_id _ (by omega) (by omega)]; omega
   have w3 : IntKind.i64.wrap (k + 3 * i + 2 + 1) = k + 3 * (i + 1) := by rw [wrap_id _ (by omega) (by omega)]; omega
   have w4 : IntKind.i64.wrap (k + 3 * i) = k + 3 * i := wrap_id _ (by omega) (by omega)
   have w5 : IntKind.i64.wrap (k + 3 * i + 2) = k + 3 * i + 2 := wrap_id _ (by omega) (by omega)
   have hg : ∀ x : Late, ((mix (markL xs.length k) xs i).set i x).getD i ET.late.dflt = x := fun x => by
    rw [List.getD_eq_getElem?_getD, List.getElem?_set, if_pos rfl, if_pos (by omega)]; rfl
   have hs := mix_set (markL xs.length k) xs i ET.late.dflt hml (by omega) (x := ⟨k + 3 * i, k + 3 * i + 1, markT (k + 3 * i + 2)⟩) (markL_get (by omega) _).symm
   repeat' first
    | with_reducible refine red ?_
    | refine W_seq ?_
    | (refine W_reg (s_markL_K.env []) s_markL_lv fun K' hK' => ?_
       simp only [go_sem, hm, w1, w2, w3, w4, w5, List.length_set, hg, List.set_set, ↓reduceIte, ↓reduceDIte, reduceCtorEq, Nat.reduceAdd, Nat.reduceMul, Nat.reduceSub, Nat.reduceDiv, Nat.reduceMod, Nat.reduceLT, Nat.reduceLeDiff, Nat.reduceEqDiff, Nat.reduceBEq, Int.reduceToNat, Int.reduceLE, Int.reduceLT, Int.reduceEq, Int.reduceNe, Int.reduceNeg]
       (repeat' refine And.intro ?_ ?_) <;> try first | with_reducible refine hK' ?_ | exact shut6)
    | with_reducible refine blockG_o (by decide) ?_
   refine ⟨xs.length - (i + 1), [some 0], sgMarkL xs k (i + 1), by omega, ?_, i + 1, by omega, rfl, rfl⟩
   exact leh (And.intro hs hm)
  ·obtain rfl : i = xs.length := by omega
   have hs := mix_all (markL xs.length k) xs xs.length hml rfl
   refine goh hm ?_
   exact finh [some 0] hs
 ·simp [no] at hp
@[go_sem] def ctMarkS2 : Ct := ⟨true, [], fun args os => match args, os with
  | [.agg [.osl .str 0 0 n, .osl .str 1 0 m], .one (.val (.int .i64 k))], [.arr .str a, .arr .str b] => ⟨(n = a.length ∧ m = b.length) ∧ a.length ≤ 4000000 ∧ b.length ≤ 4000000 ∧ 0 ≤ k ∧ k ≤ 900000000, vi (k + a.length + b.length), [(0, some (.arr .str (markS a.length k))), (1, some (.arr .str (markS b.length (k + a.length))))], []⟩
  | _, _ => no⟩
@[go_sem] def sgMarkS2 (a b : List ByteArray) (n m : Nat) (k i : Int) : Sg := ⟨[(1, vi k), (2, .one (.ptr 2 0)), (5, vi i)], [some (.arr .str a), some (.arr .str b), some (.cells [.osl .str 0 0 n, .osl .str 1 0 m])], [0, 1]⟩
theorem s_markS2_e : EnterOk Tryz.prog 69 := ⟨_, Tryz.func69, rfl, by decide⟩
@[go_sem] def s_markS2_lv : List (List Nat) := [[1, 2], [1, 2, 5], [1, 2, 5, 7], [1, 2, 5], [1, 2, 5], [4]]
@[go_sem] noncomputable def s_markS2_K : Known := (Known.nil).cons 156 ctMarkS s_markS s_markS_e
set_option maxHeartbeats 8000000 in
theorem s_markS2 : Sound Tryz.prog 69 ctMarkS2 := by
 have ke := s_markS2_K.env []
 have kl : Lives s_markS2_lv := trivial
 refine sound_intro (E := ⟨ti, s_markS2_K.Γ, []⟩) ke Tryz.func69 Tryz.ntmps69 rfl (rs := [.tmp 4]) rfl ?_
 intro args os hp
 unfold ctMarkS2 at hp ⊢
 dsimp only at hp ⊢
 split at hp
 ·rename_i n m k a b
  refine ⟨by simp, fun φ0 w0 => ?_⟩
  obtain ⟨⟨rfl, rfl⟩, h1, h2, h3, h4⟩ : (n = a.length ∧ m = b.length) ∧ a.length ≤ 4000000 ∧ b.length ≤ 4000000 ∧ 0 ≤ k ∧ k ≤ 900000000 := hp
  refine goh trivial ?_
  refine W_le (σ' := sgMarkS2 a b a.length b.length k 0) [some 0, some 1, some 2] (by
   simp only [go_sem, inj_r, ↓reduceIte, reduceCtorEq, Nat.reduceAdd, Nat.reduceLT, Nat.reduceLeDiff, Nat.reduceEqDiff, Int.reduceEq]
   all_goals (repeat' refine And.intro ?_ ?_) <;> try exact shut7
   ) ?_
  refine W_loop (fun q σ => (q = 2 ∧ σ = sgMarkS2 a b a.length b.length k 0) ∨ (q = 1 ∧ σ = sgMarkS2 (markS a.length k) b a.length b.length (k + a.length) 1) ∨ (q = 0 ∧ σ = sgMarkS2 (markS a.length k) (markS b.length (k + a.length)) a.length b.length (k + a.length + b.length) 2)) 2 (.inl ⟨rfl, rfl⟩) ?_
  rintro q σ (⟨rfl, rfl⟩ | ⟨rfl, rfl⟩ | ⟨rfl, rfl⟩)
  ·unfold sgMarkS2
   refine goh trivial ?_
   refine W_cnd ?_ ?_ <;> intro hlit <;> try (cases hlit; done)
   refine goh trivial ?_
   refine ⟨1, [some 0, some 1, some 2], sgMarkS2 (markS a.length k) b a.length b.length (k + a.length) 1, by omega, ?_, .inr (.inl ⟨rfl, rfl⟩)⟩
   exact leh trivial
  ·unfold sgMarkS2
   refine goh trivial ?_
   refine W_cnd ?_ ?_ <;> intro hlit <;> try (cases hlit; done)
   refine goh trivial ?_
   refine ⟨0, [some 0, some 1, some 2], sgMarkS2 (markS a.length k) (markS b.length (k + a.length)) a.length b.length (k + a.length + b.length) 2, by omega, ?_, .inr (.inr ⟨rfl, rfl⟩)⟩
   exact leh trivial
  ·unfold sgMarkS2
   refine goh trivial ?_
   refine W_cnd ?_ ?_ <;> intro hlit <;> try (cases hlit; done)
   refine goh trivial ?_
   exact finh [some 0, some 1] trivial
 ·simp [no] at hp
@[go_sem] def ctMarkDisk : Ct := ⟨true, [], fun args os => match args, os with
  | [.agg [.osl .str 0 0 n, .osl .str 1 0 m, .osl .late 2 0 q], .one (.val (.int .i64 k))], [.arr .str a, .arr .str b, .arr .late l] => ⟨(n = a.length ∧ m = b.length ∧ q = l.length) ∧ (a.length ≤ 4000000 ∧ b.length ≤ 4000000 ∧ l.length ≤ 4000000) ∧ 0 ≤ k ∧ k ≤ 800000000, vi (k + a.length + b.length + 3 * l.length),
    [(0, some (.arr .str (markS a.length k))), (1, some (.arr .str (markS b.length (k + a.length)))), (2, some (.arr .late (markL l.length (k + a.length + b.length))))], []⟩
  | _, _ => no⟩
theorem s_markDisk_e : EnterOk Tryz.prog 20 := ⟨_, Tryz.func20, rfl, by decide⟩
@[go_sem] def s_markDisk_lv : List (List Nat) := [[1, 2], [1, 2], [1], [4]]
@[go_sem] noncomputable def s_markDisk_K : Known := ((Known.nil).cons 69 ctMarkS2 s_markS2 s_markS2_e).cons 70 ctMarkL s_markL s_markL_e
set_option maxHeartbeats 8000000 in
theorem s_markDisk : Sound Tryz.prog 20 ctMarkDisk := by
 have ke := s_markDisk_K.env []
 have kl : Lives s_markDisk_lv := trivial
 refine sound_intro (E := ⟨ti, s_markDisk_K.Γ, []⟩) ke Tryz.func20 Tryz.ntmps20 rfl (rs := [.tmp 4]) rfl ?_
 intro args os hp
 unfold ctMarkDisk at hp ⊢
 dsimp only at hp ⊢
 split at hp
 ·rename_i n m q k a b l
  refine ⟨by simp, fun φ0 w0 => ?_⟩
  obtain ⟨⟨rfl, rfl, rfl⟩, ⟨h1, h2, h3⟩, h4, h5⟩ : (n = a.length ∧ m = b.length ∧ q = l.length) ∧ (a.length ≤ 4000000 ∧ b.length ≤ 4000000 ∧ l.length ≤ 4000000) ∧ 0 ≤ k ∧ k ≤ 800000000 := hp
  refine goh trivial ?_
  exact finh [some 0, some 1, some 2] trivial
 ·simp [no] at hp
@[go_sem] def ctHeldS : Ct := ⟨false, [[some .str]], fun args os => match args, os with
  | [.one (.isl .str xs), .one (.val (.int .i64 k))], [] => ifp (xs = markS xs.length k ∧ xs.length ≤ 4000000 ∧ 0 ≤ k ∧ k ≤ 1000000000) (vi (k + xs.length))
  | _, _ => no⟩
@[go_sem] def sgHeldS (xs : List ByteArray) (k : Int) (i : Nat) : Sg := ⟨[(0, .one (.isl .str xs)), (1, vi (k + i)), (5, vi i)], [], []⟩
theorem s_heldS_e : EnterOk Tryz.prog 167 := ⟨_, Tryz.func167, rfl, by decide⟩
@[go_sem] def s_heldS_lv : List (List Nat) := [[0, 1], [0, 1, 5], [0, 1, 5, 9], [0, 1, 5], [0, 1, 5, 18], [4], [0, 1, 5], [4]]
@[go_sem] noncomputable def s_heldS_K : Known := (Known.nil).cons 157 ctMarkT s_markT s_markT_e
set_option maxHeartbeats 8000000 in
theorem s_heldS : Sound Tryz.prog 167 ctHeldS := by
 have ke := s_heldS_K.env []
 have kl : Lives s_heldS_lv := trivial
 refine sound_intro (E := ⟨ti, s_heldS_K.Γ, []⟩) ke Tryz.func167 Tryz.ntmps167 rfl (rs := [.tmp 4]) rfl ?_
 intro args os hp
 unfold ctHeldS at hp ⊢
 dsimp only at hp ⊢
 split at hp
 ·rename_i xs k
  refine ⟨by simp, fun φ0 w0 => ?_⟩
  obtain ⟨h0, h1, h2, h3⟩ : xs = markS xs.length k ∧ xs.length ≤ 4000000 ∧ 0 ≤ k ∧ k ≤ 1000000000 := hp
  have hget : ∀ i, i < xs.length → xs.getD i ET.str.dflt = markT (k + i) := fun i hi => by
   conv => lhs; rw [h0]
   exact markS_get hi _
  clear h0
  refine goh trivial ?_
  refine W_le (σ' := sgHeldS xs k 0) [] (by
   simp only [go_sem, inj_r, ↓reduceIte, reduceCtorEq, Nat.reduceAdd, Nat.reduceLT, Nat.reduceLeDiff, Nat.reduceEqDiff, Int.reduceEq]
   all_goals (repeat' refine And.intro ?_ ?_) <;> try exact shut7
   ) ?_
  refine W_loop (fun q σ => ∃ i : Nat, i ≤ xs.length ∧ q = xs.length - i ∧ σ = sgHeldS xs k i) xs.length ⟨0, by omega, by omega, rfl⟩ ?_
  rintro q σ ⟨i, hi, rfl, rfl⟩
  unfold sgHeldS
  refine goh trivial ?_
  refine W_cnd ?_ ?_ <;> (try simp only [cnd_r]) <;> intro hlt
  ·have hg := hget i (by omega)
   refine goh hg ?_
   refine W_cnd ?_ ?_ <;> intro hlit <;> try (cases hlit; done)
   refine goh trivial ?_
   refine ⟨xs.length - (i + 1), [], sgHeldS xs k (i + 1), by omega, ?_, i + 1, by omega, rfl, rfl⟩
   exact leh trivial
  ·obtain rfl : i = xs.length := by omega
   refine goh trivial ?_
   exact finh [] trivial
 ·simp [no, ifp] at hp
@[go_sem] def ctHeldS2 : Ct := ⟨false, [[some .str, some .str]], fun args os => match args, os with
  | [.agg [.isl .str a, .isl .str b], .one (.val (.int .i64 k))], [] => ifp ((a = markS a.length k ∧ b = markS b.length (k + a.length)) ∧ (a.length ≤ 4000000 ∧ b.length ≤ 4000000) ∧ 0 ≤ k ∧ k ≤ 900000000) (vi (k + a.length + b.length))
  | _, _ => no⟩
@[go_sem] def sgHeldS2 (a b : List ByteArray) (k i : Int) : Sg := ⟨[(1, vi k), (2, .one (.ptr 0 0)), (5, vi i)], [some (.cells [.isl .str a, .isl .str b])], []⟩
theorem s_heldS2_e : EnterOk Tryz.prog 99 := ⟨_, Tryz.func99, rfl, by decide⟩
@[go_sem] def s_heldS2_lv : List (List Nat) := [[1, 2], [1, 2, 5], [1, 2, 5, 7], [1, 2, 5], [1, 2, 5], [1, 2, 5, 16], [4], [4]]
@[go_sem] noncomputable def s_heldS2_K : Known := (Known.nil).cons 167 ctHeldS s_heldS s_heldS_e
set_option maxHeartbeats 8000000 in
theorem s_heldS2 : Sound Tryz.prog 99 ctHeldS2 := by
 have ke := s_heldS2_K.env []
 have kl : Lives s_heldS2_lv := trivial
 refine sound_intro (E := ⟨ti, s_heldS2_K.Γ, []⟩) ke Tryz.func99 Tryz.ntmps99 rfl (rs := [.tmp 4]) rfl ?_
 intro args os hp
 unfold ctHeldS2 at hp ⊢
 dsimp only at hp ⊢
 split at hp
 ·rename_i a b k
  refine ⟨by simp, fun φ0 w0 => ?_⟩
  obtain ⟨⟨e1, e2⟩, ⟨h1, h2⟩, h3, h4⟩ : (a = markS a.length k ∧ b = markS b.length (k + a.length)) ∧ (a.length ≤ 4000000 ∧ b.length ≤ 4000000) ∧ 0 ≤ k ∧ k ≤ 900000000 := hp
  have c1 : decide (k + a.length < 0) = false := by simp; omega
  have c2 : decide (k + a.length + b.length < 0) = false := by simp; omega
  refine goh trivial ?_
  refine W_le (σ' := sgHeldS2 a b k 0) [some 0] (by
   simp only [go_sem, inj_r, ↓reduceIte, reduceCtorEq, Nat.reduceAdd, Nat.reduceLT, Nat.reduceLeDiff, Nat.reduceEqDiff, Int.reduceEq]
   all_goals (repeat' refine And.intro ?_ ?_) <;> try exact shut7
   ) ?_
  refine W_loop (fun q σ => (q = 2 ∧ σ = sgHeldS2 a b k 0) ∨ (q = 1 ∧ σ = sgHeldS2 a b (k + a.length) 1) ∨ (q = 0 ∧ σ = sgHeldS2 a b (k + a.length + b.length) 2)) 2 (.inl ⟨rfl, rfl⟩) ?_
  rintro q σ (⟨rfl, rfl⟩ | ⟨rfl, rfl⟩ | ⟨rfl, rfl⟩)
  ·unfold sgHeldS2
   refine goh trivial ?_
   refine W_cnd ?_ ?_ <;> intro hlit <;> try (cases hlit; done)
   refine goh c1 ?_
   refine W_cnd ?_ ?_ <;> intro hlit <;> try (cases hlit; done)
   refine goh trivial ?_
   refine ⟨1, [some 0], sgHeldS2 a b (k + a.length) 1, by omega, ?_, .inr (.inl ⟨rfl, rfl⟩)⟩
   exact leh trivial
  ·unfold sgHeldS2
   refine goh trivial ?_
   refine W_cnd ?_ ?_ <;> intro hlit <;> try (cases hlit; done)
   refine goh c2 ?_
   refine W_cnd ?_ ?_ <;> intro hlit <;> try (cases hlit; done)
   refine goh trivial ?_
   refine ⟨0, [some 0], sgHeldS2 a b (k + a.length + b.length) 2, by omega, ?_, .inr (.inr ⟨rfl, rfl⟩)⟩
   exact leh trivial
  ·unfold sgHeldS2
   refine goh trivial ?_
   refine W_cnd ?_ ?_ <;> intro hlit <;> try (cases hlit; done)
   refine goh trivial ?_
   exact finh [] trivial
 ·simp [no, ifp] at hp
@[go_sem] def ctHeldL : Ct := ⟨false, [[some .late]], fun args os => match args, os with
  | [.one (.isl .late xs), .one (.val (.int .i64 k))], [] => ifp (xs = markL xs.length k ∧ xs.length ≤ 4000000 ∧ 0 ≤ k ∧ k ≤ 1000000000) (vi (k + 3 * xs.length))
  | _, _ => no⟩
@[go_sem] def sgHeldL (xs : List Late) (k : Int) (i : Nat) : Sg := ⟨[(0, .one (.isl .late xs)), (1, vi (k + 3 * i)), (5, vi i)], [], []⟩
theorem s_heldL_e : EnterOk Tryz.prog 100 := ⟨_, Tryz.func100, rfl, by decide⟩
@[go_sem] def s_heldL_lv : List (List Nat) := [[0, 1], [0, 1, 5], [0, 1, 5, 9], [0, 1, 5], [0, 1, 5, 18], [4], [0, 1, 5], [0, 1, 5, 27], [4], [0, 1, 5], [0, 1, 5, 37], [4], [0, 1, 5], [4]]
@[go_sem] noncomputable def s_heldL_K : Known := (Known.nil).cons 157 ctMarkT s_markT s_markT_e
set_option maxHeartbeats 8000000 in
theorem s_heldL : Sound Tryz.prog 100 ctHeldL := by
 have ke := s_heldL_K.env []
 have kl : Lives s_heldL_lv := trivial
 refine sound_intro (E := ⟨ti, s_heldL_K.Γ, []⟩) ke Tryz.func100 Tryz.ntmps100 rfl (rs := [.tmp 4]) rfl ?_
 intro args os hp
 unfold ctHeldL at hp ⊢
 dsimp only at hp ⊢
 split at hp
 ·rename_i xs k
  refine ⟨by simp, fun φ0 w0 => ?_⟩
  obtain ⟨h0, h1, h2, h3⟩ : xs = markL xs.length k ∧ xs.length ≤ 4000000 ∧ 0 ≤ k ∧ k ≤ 1000000000 := hp
  have hget : ∀ i, i < xs.length → xs.getD i ET.late.dflt = ⟨k + 3 * i, k + 3 * i + 1, markT (k + 3 * i + 2)⟩ := fun i hi => by
   conv => lhs; rw [h0]
   exact markL_get hi _
  clear h0
  refine goh trivial ?_
  refine W_le (σ' := sgHeldL xs k 0) [] (by
   simp only [go_sem, inj_r, ↓reduceIte, reduceCtorEq, Nat.reduceAdd, Nat.reduceLT, Nat.reduceLeDiff, Nat.reduceEqDiff, Int.reduceEq]
   all_goals (repeat' refine And.intro ?_ ?_) <;> try exact shut7
   ) ?_
  refine W_loop (fun q σ => ∃ i : Nat, i ≤ xs.length ∧ q = xs.length - i ∧ σ = sgHeldL xs k i) xs.length ⟨0, by omega, by omega, rfl⟩ ?_
  rintro q σ ⟨i, hi, rfl, rfl⟩
  unfold sgHeldL
  refine goh trivial ?_
  refine W_cnd ?_ ?_ <;> (try simp only [cnd_r]) <;> intro hlt
  ·have hg := hget i (by omega)
   have w1 : IntKind.i64.wrap (k + 3 * i + 1) = k + 3 * i + 1 := wrap_id _ (by omega) (by omega)
   have w2 : IntKind.i64.wrap (k + 3 * i + 1 + 1) = k + 3 * i + 2 := by rw [wrap_id _ (by omega) (by omega)]; omega
   have w3 : IntKind.i64.wrap (k + 3 * i + 2 + 1) = k + 3 * (i + 1) := by rw [wrap_id _ (by omega) (by omega)]; omega
   have w4 : IntKind.i64.wrap (k + 3 * i) = k + 3 * i := wrap_id _ (by omega) (by omega)
   have w5 : IntKind.i64.wrap (k + 3 * i + 2) = k + 3 * i + 2 := wrap_id _ (by omega) (by omega)
   refine goh (And.intro hg (And.intro w1 (And.intro w2 (And.intro w3 (And.intro w4 w5))))) ?_
   refine W_cnd ?_ ?_ <;> intro hlit <;> try (cases hlit; done)
   refine goh (And.intro hg (And.intro w1 (And.intro w2 (And.intro w3 (And.intro w4 w5))))) ?_
   refine W_cnd ?_ ?_ <;> intro hlit <;> try (cases hlit; done)
   refine goh (And.intro hg (And.intro w1 (And.intro w2 (And.intro w3 (And.intro w4 w5))))) ?_
   refine W_cnd ?_ ?_ <;> intro hlit <;> try (cases hlit; done)
   refine goh (And.intro hg (And.intro w1 (And.intro w2 (And.intro w3 (And.intro w4 w5))))) ?_
   refine ⟨xs.length - (i + 1), [], sgHeldL xs k (i + 1), by omega, ?_, i + 1, by omega, rfl, rfl⟩
   exact leh trivial
  ·obtain rfl : i = xs.length := by omega
   refine goh trivial ?_
   exact finh [] trivial
 ·simp [no, ifp] at hp
def Dk.held (d : Dk) (k : Int) : Prop := d.a = markS d.a.length k ∧ d.b = markS d.b.length (k + d.a.length) ∧ d.l = markL d.l.length (k + d.a.length + d.b.length)
@[go_sem] def ctHeldDisk : Ct := ⟨false, [[some .str, some .str, some .late]], fun args os => match args, os with
  | [.agg [.isl .str a, .isl .str b, .isl .late l], .one (.val (.int .i64 k))], [] => ifp ((a = markS a.length k ∧ b = markS b.length (k + a.length) ∧ l = markL l.length (k + a.length + b.length)) ∧ (a.length ≤ 4000000 ∧ b.length ≤ 4000000 ∧ l.length ≤ 4000000) ∧ 0 ≤ k ∧ k ≤ 800000000) (vi (k + a.length + b.length + 3 * l.length))
  | _, _ => no⟩
theorem s_heldDisk_e : EnterOk Tryz.prog 42 := ⟨_, Tryz.func42, rfl, by decide⟩
@[go_sem] def s_heldDisk_lv : List (List Nat) := [[1, 2], [1, 2], [1, 2, 10], [4], [1], [1, 16], [4], [4]]
@[go_sem] noncomputable def s_heldDisk_K : Known := ((Known.nil).cons 99 ctHeldS2 s_heldS2 s_heldS2_e).cons 100 ctHeldL s_heldL s_heldL_e
set_option maxHeartbeats 8000000 in
theorem s_heldDisk : Sound Tryz.prog 42 ctHeldDisk := by
 have ke := s_heldDisk_K.env []
 have kl : Lives s_heldDisk_lv := trivial
 refine sound_intro (E := ⟨ti, s_heldDisk_K.Γ, []⟩) ke Tryz.func42 Tryz.ntmps42 rfl (rs := [.tmp 4]) rfl ?_
 intro args os hp
 unfold ctHeldDisk at hp ⊢
 dsimp only at hp ⊢
 split at hp
 ·rename_i a b l k
  refine ⟨by simp, fun φ0 w0 => ?_⟩
  obtain ⟨⟨e1, e2, e3⟩, ⟨h1, h2, h3⟩, h4, h5⟩ : (a = markS a.length k ∧ b = markS b.length (k + a.length) ∧ l = markL l.length (k + a.length + b.length)) ∧ (a.length ≤ 4000000 ∧ b.length ≤ 4000000 ∧ l.length ≤ 4000000) ∧ 0 ≤ k ∧ k ≤ 800000000 := hp
  have c1 : decide (k + a.length + b.length < 0) = false := by simp; omega
  have c2 : decide (k + a.length + b.length + 3 * l.length < 0) = false := by simp; omega
  refine goh c1 ?_
  refine W_cnd ?_ ?_ <;> intro hlit <;> try (cases hlit; done)
  refine goh c2 ?_
  refine W_cnd ?_ ?_ <;> intro hlit <;> try (cases hlit; done)
  refine goh trivial ?_
  exact finh [] trivial
 ·simp [no, ifp] at hp
end Go.Proofs.YtfmjgoeclilcnaaGreatDoor
namespace Go.Proofs.YtfmjgoeclilcnaaGreatDoor
open Go.RowKit
@[go_sem] def ctEqI : Ct := ⟨false, [[some .int], [some .int]], fun args os => match args, os with
  | [.one (.isl .int xs), .one (.isl .int ys)], [] => ifp (xs = ys ∧ xs.length ≤ 4000000) (vb true)
  | _, _ => no⟩
@[go_sem] def sgEqI (xs : List Int) (i : Nat) : Sg := ⟨[(0, .one (.isl .int xs)), (1, .one (.isl .int xs)), (5, vi i)], [], []⟩
theorem s_eqI_e : EnterOk Tryz.prog 66 := ⟨_, Tryz.func66, rfl, by decide⟩
@[go_sem] def s_eqI_lv : List (List Nat) := [[0, 1], [0, 1, 10], [4], [0, 1, 5], [0, 1, 5, 14], [0, 1, 5], [0, 1, 5, 25], [4], [4]]
@[go_sem] noncomputable def s_eqI_K : Known := Known.nil
set_option maxHeartbeats 8000000 in
theorem s_eqI : Sound Tryz.prog 66 ctEqI := by
 have ke := s_eqI_K.env []
 have kl : Lives s_eqI_lv := trivial
 refine sound_intro (E := ⟨ti, s_eqI_K.Γ, []⟩) ke Tryz.func66 Tryz.ntmps66 rfl (rs := [.tmp 4]) rfl ?_
 intro args os hp
 unfold ctEqI at hp ⊢
 dsimp only at hp ⊢
 split at hp
 ·rename_i xs ys
  refine ⟨by simp, fun φ0 w0 => ?_⟩
  obtain ⟨rfl, hlen⟩ : xs = ys ∧ xs.length ≤ 4000000 := hp
  refine goh trivial ?_
  refine W_cnd ?_ ?_ <;> intro hlit <;> try (cases hlit; done)
  refine goh trivial ?_
  refine W_le (σ' := sgEqI xs 0) [] (by
   simp only [go_sem, inj_r, ↓reduceIte, reduceCtorEq, Nat.reduceAdd, Nat.reduceLT, Nat.reduceLeDiff, Nat.reduceEqDiff, Int.reduceEq]
   all_goals (repeat' refine And.intro ?_ ?_) <;> try exact shut7
   ) ?_
  refine W_loop (fun n σ => ∃ i : Nat, i ≤ xs.length ∧ n = xs.length - i ∧ σ = sgEqI xs i) xs.length ⟨0, by omega, by omega, rfl⟩ ?_
  rintro n σ ⟨i, hi, rfl, rfl⟩
  unfold sgEqI
  refine goh trivial ?_
  refine W_cnd ?_ ?_ <;> (try simp only [cnd_r]) <;> intro hlt
  ·refine goh trivial ?_
   refine W_cnd ?_ ?_ <;> intro hlit <;> try (cases hlit; done)
   refine goh trivial ?_
   refine ⟨xs.length - (i + 1), [], sgEqI xs (i + 1), by omega, ?_, i + 1, by omega, rfl, rfl⟩
   exact leh trivial
  ·refine goh trivial ?_
   exact finh [] trivial
 ·simp [no, ifp] at hp
@[go_sem] def ctToI : Ct := ⟨false, [[some .int]], fun args os => match args, os with
  | [.one (.isl .int xs)], [] => ⟨xs.length ≤ 4000000, .one (.osl .int 0 0 xs.length), [], [.arr .int xs]⟩
  | _, _ => no⟩
@[go_sem] def sgToI (xs : List Int) (i : Nat) : Sg := ⟨[(0, .one (.isl .int xs)), (3, .one (.osl .int 0 0 xs.length)), (4, vi i)], [some (.arr .int (mix xs (List.replicate xs.length ET.int.dflt) i))], []⟩
theorem s_toI_e : EnterOk Tryz.prog 93 := ⟨_, Tryz.func93, rfl, by decide⟩
@[go_sem] def s_toI_lv : List (List Nat) := [[0], [0, 3], [0, 3, 4], [0, 3, 4, 11], [0, 3, 4], [0, 3, 4], [2]]
@[go_sem] noncomputable def s_toI_K : Known := Known.nil
set_option maxHeartbeats 8000000 in
theorem s_toI : Sound Tryz.prog 93 ctToI := by
 have ke := s_toI_K.env []
 have kl : Lives s_toI_lv := trivial
 refine sound_intro (E := ⟨ti, s_toI_K.Γ, []⟩) ke Tryz.func93 Tryz.ntmps93 rfl (rs := [.tmp 2]) rfl ?_
 intro args os hp
 unfold ctToI at hp ⊢
 dsimp only at hp ⊢
 split at hp
 ·rename_i xs
  refine ⟨by simp, fun φ0 w0 => ?_⟩
  have hlen : xs.length ≤ 4000000 := hp
  clear hp
  refine goh trivial ?_
  refine W_le (σ' := sgToI xs 0) [some 0] (by
   simp only [go_sem, mix_zero, inj_r, ↓reduceIte, reduceCtorEq, Nat.reduceAdd, Nat.reduceLT, Nat.reduceLeDiff, Nat.reduceEqDiff, Int.reduceEq]
   all_goals (repeat' refine And.intro ?_ ?_) <;> try exact shut7
   ) ?_
  refine W_loop (fun n σ => ∃ i : Nat, i ≤ xs.length ∧ n = xs.length - i ∧ σ = sgToI xs i) xs.length ⟨0, by omega, by omega, rfl⟩ ?_
  rintro n σ ⟨i, hi, rfl, rfl⟩
  unfold sgToI
  have hm := mix_len xs (List.replicate xs.length ET.int.dflt) i (by simp)
  rw [List.length_replicate] at hm
  refine goh hm ?_
  refine W_cnd ?_ ?_ <;> (try simp only [cnd_r]) <;> intro hlt
  ·have hs := mix_set xs (List.replicate xs.length ET.int.dflt) i ET.int.dflt (by simp) (by simp; omega) rfl
   refine goh hm ?_
   refine ⟨xs.length - (i + 1), [some 0], sgToI xs (i + 1), by omega, ?_, i + 1, by omega, rfl, rfl⟩
   exact leh (And.intro hs hm)
  ·have hs := mix_all xs (List.replicate xs.length ET.int.dflt) i (by simp) (by simp; omega)
   refine goh hm ?_
   exact finh [some 0] hs
 ·simp [no] at hp
@[go_sem] def ctMarkI : Ct := ⟨true, [], fun args os => match args, os with
  | [.one (.osl .int 0 0 n), .one (.val (.int .i64 k))], [.arr .int xs] => ⟨n = xs.length ∧ xs.length ≤ 4000000 ∧ 0 ≤ k ∧ k ≤ 1000000000, vi (k + xs.length), [(0, some (.arr .int (markI xs.length k)))], []⟩
  | _, _ => no⟩
@[go_sem] def sgMarkI (xs : List Int) (k : Int) (i : Nat) : Sg := ⟨[(0, .one (.osl .int 0 0 xs.length)), (1, vi (k + i)), (5, vi i)], [some (.arr .int (mix (markI xs.length k) xs i))], [0]⟩
theorem s_markI_e : EnterOk Tryz.prog 73 := ⟨_, Tryz.func73, rfl, by decide⟩
@[go_sem] def s_markI_lv : List (List Nat) := [[0, 1], [0, 1, 5], [0, 1, 5, 9], [0, 1, 5], [0, 1, 5], [0, 1, 5], [4]]
@[go_sem] noncomputable def s_markI_K : Known := Known.nil
set_option maxHeartbeats 8000000 in
theorem s_markI : Sound Tryz.prog 73 ctMarkI := by
 have ke := s_markI_K.env []
 have kl : Lives s_markI_lv := trivial
 refine sound_intro (E := ⟨ti, s_markI_K.Γ, []⟩) ke Tryz.func73 Tryz.ntmps73 rfl (rs := [.tmp 4]) rfl ?_
 intro args os hp
 unfold ctMarkI at hp ⊢
 dsimp only at hp ⊢
 split at hp
 ·rename_i n k xs
  refine ⟨by simp, fun φ0 w0 => ?_⟩
  obtain ⟨rfl, h1, h2, h3⟩ : n = xs.length ∧ xs.length ≤ 4000000 ∧ 0 ≤ k ∧ k ≤ 1000000000 := hp
  have hml := markI_len xs.length k
  refine goh trivial ?_
  refine W_le (σ' := sgMarkI xs k 0) [some 0] (by
   simp only [go_sem, mix_zero, inj_r, ↓reduceIte, reduceCtorEq, Nat.reduceAdd, Nat.reduceLT, Nat.reduceLeDiff, Nat.reduceEqDiff, Int.reduceEq]
   all_goals (repeat' refine And.intro ?_ ?_) <;> try exact shut7
   ) ?_
  refine W_loop (fun q σ => ∃ i : Nat, i ≤ xs.length ∧ q = xs.length - i ∧ σ = sgMarkI xs k i) xs.length ⟨0, by omega, by omega, rfl⟩ ?_
  rintro q σ ⟨i, hi, rfl, rfl⟩
  unfold sgMarkI
  have hm := mix_len (markI xs.length k) xs i hml
  refine goh hm ?_
  refine W_cnd ?_ ?_ <;> (try simp only [cnd_r]) <;> intro hlt
  ·have hs := mix_set (markI xs.length k) xs i ET.int.dflt hml (by omega) (x := k + i) (markI_get (by omega) _).symm
   refine goh hm ?_
   refine ⟨xs.length - (i + 1), [some 0], sgMarkI xs k (i + 1), by omega, ?_, i + 1, by omega, rfl, rfl⟩
   exact leh (And.intro hs hm)
  ·obtain rfl : i = xs.length := by omega
   have hs := mix_all (markI xs.length k) xs xs.length hml rfl
   refine goh hm ?_
   exact finh [some 0] hs
 ·simp [no] at hp
@[go_sem] def ctHeldI : Ct := ⟨false, [[some .int]], fun args os => match args, os with
  | [.one (.isl .int xs), .one (.val (.int .i64 k))], [] => ifp (xs = markI xs.length k ∧ xs.length ≤ 4000000 ∧ 0 ≤ k ∧ k ≤ 1000000000) (vi (k + xs.length))
  | _, _ => no⟩
@[go_sem] def sgHeldI (xs : List Int) (k : Int) (i : Nat) : Sg := ⟨[(0, .one (.isl .int xs)), (1, vi (k + i)), (5, vi i)], [], []⟩
theorem s_heldI_e : EnterOk Tryz.prog 76 := ⟨_, Tryz.func76, rfl, by decide⟩
@[go_sem] def s_heldI_lv : List (List Nat) := [[0, 1], [0, 1, 5], [0, 1, 5, 9], [0, 1, 5], [0, 1, 5, 17], [4], [0, 1, 5], [4]]
@[go_sem] noncomputable def s_heldI_K : Known := Known.nil
set_option maxHeartbeats 8000000 in
theorem s_heldI : Sound Tryz.prog 76 ctHeldI := by
 have ke := s_heldI_K.env []
 have kl : Lives s_heldI_lv := trivial
 refine sound_intro (E := ⟨ti, s_heldI_K.Γ, []⟩) ke Tryz.func76 Tryz.ntmps76 rfl (rs := [.tmp 4]) rfl ?_
 intro args os hp
 unfold ctHeldI at hp ⊢
 dsimp only at hp ⊢
 split at hp
 ·rename_i xs k
  refine ⟨by simp, fun φ0 w0 => ?_⟩
  obtain ⟨h0, h1, h2, h3⟩ : xs = markI xs.length k ∧ xs.length ≤ 4000000 ∧ 0 ≤ k ∧ k ≤ 1000000000 := hp
  have hget : ∀ i, i < xs.length → xs.getD i ET.int.dflt = k + i := fun i hi => by
   conv => lhs; rw [h0]
   exact markI_get hi _
  clear h0
  refine goh trivial ?_
  refine W_le (σ' := sgHeldI xs k 0) [] (by
   simp only [go_sem, inj_r, ↓reduceIte, reduceCtorEq, Nat.reduceAdd, Nat.reduceLT, Nat.reduceLeDiff, Nat.reduceEqDiff, Int.reduceEq]
   all_goals (repeat' refine And.intro ?_ ?_) <;> try exact shut7
   ) ?_
  refine W_loop (fun q σ => ∃ i : Nat, i ≤ xs.length ∧ q = xs.length - i ∧ σ = sgHeldI xs k i) xs.length ⟨0, by omega, by omega, rfl⟩ ?_
  rintro q σ ⟨i, hi, rfl, rfl⟩
  unfold sgHeldI
  refine goh trivial ?_
  refine W_cnd ?_ ?_ <;> (try simp only [cnd_r]) <;> intro hlt
  ·have hg := hget i (by omega)
   refine goh hg ?_
   refine W_cnd ?_ ?_ <;> intro hlit <;> try (cases hlit; done)
   refine goh trivial ?_
   refine ⟨xs.length - (i + 1), [], sgHeldI xs k (i + 1), by omega, ?_, i + 1, by omega, rfl, rfl⟩
   exact leh trivial
  ·obtain rfl : i = xs.length := by omega
   refine goh trivial ?_
   exact finh [] trivial
 ·simp [no, ifp] at hp
@[go_sem] def ctToPtr : Ct := ⟨false, [], fun args os => match args, os with
  | [.agg [.val (.int .i64 x), .val (.int .i64 y), .val (.int .i64 z)]], [] => is (.agg [.val (.int .i64 x), .val (.int .i64 y), .val (.int .i64 z)])
  | _, _ => no⟩
theorem s_toPtr_e : EnterOk Tryz.prog 162 := ⟨_, Tryz.func162, rfl, by decide⟩
@[go_sem] def s_toPtr_lv : List (List Nat) := [[1, 2], [1, 2, 3], [1, 2, 3], [1, 2, 3], [2, 3], [2]]
@[go_sem] noncomputable def s_toPtr_K : Known := Known.nil
set_option maxHeartbeats 8000000 in
theorem s_toPtr : Sound Tryz.prog 162 ctToPtr := by
 have ke := s_toPtr_K.env []
 have kl : Lives s_toPtr_lv := trivial
 refine sound_intro (E := ⟨ti, s_toPtr_K.Γ, []⟩) ke Tryz.func162 Tryz.ntmps162 rfl (rs := [.cell 2 71]) rfl ?_
 intro args os hp
 unfold ctToPtr at hp ⊢
 dsimp only at hp ⊢
 split at hp
 ·rename_i x y z
  refine ⟨by simp, fun φ0 w0 => ?_⟩
  refine goh trivial ?_
  exact finh [] trivial
 ·simp [no, is] at hp
end Go.Proofs.YtfmjgoeclilcnaaGreatDoor
