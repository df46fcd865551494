import Derived.Test.YtmnbgppmfbnamaaGreatDoorM7
import Derived.Test.YtmnbgppmfbnamaaGreatDoorM11
import Derived.Test.YtmnbgppmfbnamaaGreatDoorM19
set_option linter.unusedSimpArgs false
set_option linter.unusedVariables false
set_option linter.unusedSectionVars false
/- Functions of the exact laws: operations of a book; the exact law of LogFind. -/
namespace Go.Proofs.YtmnbgppmfbnamaaGreatDoor
open Go.RowKit

def markO1 (b : Int) : BOp := ⟨b, markT (b + 1), markT (b + 2), b + 3, markT (b + 4)⟩
def markO (n : Nat) (k : Int) : List BOp := (List.range n).map fun i : Nat => markO1 (k + 5 * (i : Int))
@[go_sem] theorem markO_len (n : Nat) (k : Int) : (markO n k).length = n := by simp [markO]
@[go_sem] theorem markO_take (n : Nat) (k : Int) : (markO n k).take n = markO n k := List.take_of_length_le (by simp [markO])
theorem markO_get {n : Nat} {k : Int} {i : Nat} (h : i < n) (d : BOp) : (markO n k).getD i d = markO1 (k + 5 * i) := by simp [markO, h]
@[go_sem] def ctEqBop : Ct := ⟨false, [], fun args os => match args, os with
  | [.agg [.val (.int .i64 k), .val (.string a), .val (.string b), .val (.int .i64 i), .val (.string x)], .agg [.val (.int .i64 k'), .val (.string a'), .val (.string b'), .val (.int .i64 i'), .val (.string x')]], [] => ifp (k = k' ∧ a = a' ∧ b = b' ∧ i = i' ∧ x = x') (vb true)
  | _, _ => no⟩
theorem s_eqBop_e : EnterOk Tryz.prog 78 := ⟨_, Tryz.func78, rfl, by decide⟩
@[go_sem] def s_eqBop_lv : List (List Nat) := [[2, 3], [2, 3, 9], [4], [2, 3, 14], [4], [2, 3, 19], [4], [2, 3, 24], [4], [29], [4], [4]]
@[go_sem] noncomputable def s_eqBop_K : Known := Known.nil
set_option maxHeartbeats 8000000 in
theorem s_eqBop : Sound Tryz.prog 78 ctEqBop := by
  have ke := s_eqBop_K.env []
  have kl : Lives s_eqBop_lv := trivial
  refine sound_intro (E := ⟨ti, s_eqBop_K.Γ, []⟩) ke Tryz.func78 Tryz.ntmps78 rfl (rs := [.tmp 4]) rfl ?_
  intro args os hp
  unfold ctEqBop at hp ⊢
  dsimp only at hp ⊢
  split at hp
  · rename_i k a b i x k' a' b' i' x'
    refine ⟨by simp, fun φ0 w0 => ?_⟩
    obtain ⟨rfl, rfl, rfl, rfl, rfl⟩ : k = k' ∧ a = a' ∧ b = b' ∧ i = i' ∧ x = x' := hp
    refine goh trivial ?_
    refine W_cnd ?_ ?_ <;> intro hlit <;> try (cases hlit; done)
    refine goh trivial ?_
    refine W_cnd ?_ ?_ <;> intro hlit <;> try (cases hlit; done)
    refine goh trivial ?_
    refine W_cnd ?_ ?_ <;> intro hlit <;> try (cases hlit; done)
    refine goh trivial ?_
    refine W_cnd ?_ ?_ <;> intro hlit <;> try (cases hlit; done)
    refine goh trivial ?_
    refine W_cnd ?_ ?_ <;> intro hlit <;> try (cases hlit; done)
    refine goh trivial ?_
    exact finh [] trivial
  · simp [no, ifp] at hp
@[go_sem] def ctEqOs : Ct := ⟨false, [[some .bop], [some .bop]], fun args os => match args, os with
  | [.one (.isl .bop xs), .one (.isl .bop ys)], [] => ifp (xs = ys ∧ xs.length ≤ 4000000) (vb true)
  | _, _ => no⟩
@[go_sem] def sgEqOs (xs : List BOp) (i : Nat) : Sg := ⟨[(0, .one (.isl .bop xs)), (1, .one (.isl .bop xs)), (5, vi i)], [], []⟩
theorem s_eqOs_e : EnterOk Tryz.prog 22 := ⟨_, Tryz.func22, rfl, by decide⟩
@[go_sem] def s_eqOs_lv : List (List Nat) := [[0, 1], [0, 1, 10], [4], [0, 1, 5], [0, 1, 5, 14], [0, 1, 5], [0, 1, 5, 26], [4], [4]]
@[go_sem] noncomputable def s_eqOs_K : Known := (Known.nil).cons 78 ctEqBop s_eqBop s_eqBop_e
set_option maxHeartbeats 8000000 in
theorem s_eqOs : Sound Tryz.prog 22 ctEqOs := by
  have ke := s_eqOs_K.env []
  have kl : Lives s_eqOs_lv := trivial
  refine sound_intro (E := ⟨ti, s_eqOs_K.Γ, []⟩) ke Tryz.func22 Tryz.ntmps22 rfl (rs := [.tmp 4]) rfl ?_
  intro args os hp
  unfold ctEqOs at hp ⊢
  dsimp only at hp ⊢
  split at hp
  · rename_i xs ys
    refine ⟨by simp, fun φ0 w0 => ?_⟩
    obtain ⟨rfl, hlen⟩ : xs = ys ∧ xs.length ≤ 4000000 := hp
    refine goh trivial ?_
    refine W_cnd ?_ ?_ <;> intro hlit <;> try (cases hlit; done)
    refine goh trivial ?_
    refine W_le (σ' := sgEqOs xs 0) [] (by
      simp only [go_sem, inj_r, ↓reduceIte, reduceCtorEq, Nat.reduceAdd, Nat.reduceLT, Nat.reduceLeDiff, Nat.reduceEqDiff, Int.reduceEq]
      all_goals (repeat' refine And.intro ?_ ?_) <;> try exact shut7
      ) ?_
    refine W_loop (fun n σ => ∃ i : Nat, i ≤ xs.length ∧ n = xs.length - i ∧ σ = sgEqOs xs i) xs.length ⟨0, by omega, by omega, rfl⟩ ?_
    rintro n σ ⟨i, hi, rfl, rfl⟩
    unfold sgEqOs
    refine goh trivial ?_
    refine W_cnd ?_ ?_ <;> (try simp only [cnd_r]) <;> intro hlt
    · refine goh trivial ?_
      refine W_cnd ?_ ?_ <;> intro hlit <;> try (cases hlit; done)
      refine goh trivial ?_
      refine ⟨xs.length - (i + 1), [], sgEqOs xs (i + 1), by omega, ?_, i + 1, by omega, rfl, rfl⟩
      exact leh trivial
    · refine goh trivial ?_
      exact finh [] trivial
  · simp [no, ifp] at hp
@[go_sem] def ctMarkOs : Ct := ⟨true, [], fun args os => match args, os with
  | [.one (.osl .bop 0 0 n), .one (.val (.int .i64 k))], [.arr .bop xs] => ⟨n = xs.length ∧ xs.length ≤ 4000000 ∧ 0 ≤ k ∧ k ≤ 1000000000, vi (k + 5 * xs.length), [(0, some (.arr .bop (markO xs.length k)))], []⟩
  | _, _ => no⟩
@[go_sem] def sgMarkOs (xs : List BOp) (k : Int) (i : Nat) : Sg := ⟨[(0, .one (.osl .bop 0 0 xs.length)), (1, vi (k + 5 * i)), (5, vi i)], [some (.arr .bop (mix (markO xs.length k) xs i))], [0]⟩
theorem s_markOs_e : EnterOk Tryz.prog 25 := ⟨_, Tryz.func25, rfl, by decide⟩
@[go_sem] def s_markOs_lv : List (List Nat) := [[0, 1], [0, 1, 5], [0, 1, 5, 9], [0, 1, 5], [0, 1, 5], [0, 1, 5], [0, 1, 5], [0, 1, 5], [0, 1, 5], [0, 1, 5], [0, 1, 5], [0, 1, 5], [0, 1, 5], [0, 1, 5], [4]]
@[go_sem] noncomputable def s_markOs_K : Known := (Known.nil).cons 83 ctMarkT s_markT s_markT_e
set_option maxHeartbeats 8000000 in
theorem s_markOs : Sound Tryz.prog 25 ctMarkOs := by
  have ke := s_markOs_K.env []
  have kl : Lives s_markOs_lv := trivial
  refine sound_intro (E := ⟨ti, s_markOs_K.Γ, []⟩) ke Tryz.func25 Tryz.ntmps25 rfl (rs := [.tmp 4]) rfl ?_
  intro args os hp
  unfold ctMarkOs at hp ⊢
  dsimp only at hp ⊢
  split at hp
  · rename_i n k xs
    refine ⟨by simp, fun φ0 w0 => ?_⟩
    obtain ⟨rfl, h1, h2, h3⟩ : n = xs.length ∧ xs.length ≤ 4000000 ∧ 0 ≤ k ∧ k ≤ 1000000000 := hp
    have hml := markO_len xs.length k
    refine goh trivial ?_
    refine W_le (σ' := sgMarkOs xs k 0) [some 0] (by
      simp only [go_sem, mix_zero, inj_r, ↓reduceIte, reduceCtorEq, Nat.reduceAdd, Nat.reduceLT, Nat.reduceLeDiff, Nat.reduceEqDiff, Int.reduceEq]
      all_goals (repeat' refine And.intro ?_ ?_) <;> try exact shut7
      ) ?_
    refine W_loop (fun q σ => ∃ i : Nat, i ≤ xs.length ∧ q = xs.length - i ∧ σ = sgMarkOs xs k i) xs.length ⟨0, by omega, by omega, rfl⟩ ?_
    rintro q σ ⟨i, hi, rfl, rfl⟩
    unfold sgMarkOs
    have hm := mix_len (markO xs.length k) xs i hml
    refine goh hm ?_
    refine W_cnd ?_ ?_ <;> (try simp only [cnd_r]) <;> intro hlt
    · have hli : i < xs.length := by omega
      have w0 : IntKind.i64.wrap (k + 5 * i) = k + 5 * i := wrap_id _ (by omega) (by omega)
      have w2 : IntKind.i64.wrap (k + 5 * i + 1 + 1) = k + 5 * i + 2 := by rw [wrap_id _ (by omega) (by omega)]; omega
      have w3 : IntKind.i64.wrap (k + 5 * i + 2 + 1) = k + 5 * i + 3 := by rw [wrap_id _ (by omega) (by omega)]; omega
      have w4 : IntKind.i64.wrap (k + 5 * i + 3 + 1) = k + 5 * i + 4 := by rw [wrap_id _ (by omega) (by omega)]; omega
      have w5 : IntKind.i64.wrap (k + 5 * i + 4 + 1) = k + 5 * (i + 1) := by rw [wrap_id _ (by omega) (by omega)]; omega
      have w1 : IntKind.i64.wrap (k + 5 * i + 1) = k + 5 * i + 1 := wrap_id _ (by omega) (by omega)
      have u1 : IntKind.i64.wrap (k + 5 * i + 1) = k + 5 * i + 1 := wrap_id _ (by omega) (by omega)
      have u2 : IntKind.i64.wrap (k + 5 * i + 2) = k + 5 * i + 2 := wrap_id _ (by omega) (by omega)
      have u3 : IntKind.i64.wrap (k + 5 * i + 3) = k + 5 * i + 3 := wrap_id _ (by omega) (by omega)
      have u4 : IntKind.i64.wrap (k + 5 * i + 4) = k + 5 * i + 4 := wrap_id _ (by omega) (by omega)
      have hg : ∀ x : BOp, ((mix (markO xs.length k) xs i).set i x).getD i ET.bop.dflt = x := fun x => by
        rw [List.getD_eq_getElem?_getD, List.getElem?_set, if_pos rfl, if_pos (by omega)]; rfl
      have hs := mix_set (markO xs.length k) xs i ET.bop.dflt hml (by omega) (x := ⟨k + 5 * i, markT (k + 5 * i + 1), markT (k + 5 * i + 2), k + 5 * i + 3, markT (k + 5 * i + 4)⟩) (markO_get (by omega) _).symm
      repeat' first
        | with_reducible refine red ?_
        | refine W_seq ?_
        | (refine W_reg (s_markOs_K.env []) s_markOs_lv fun K' hK' => ?_
           simp only [go_sem, hm, w0, w1, w2, w3, w4, w5, u1, u2, u3, u4, List.length_set, hg, List.set_set, ↓reduceIte, ↓reduceDIte, reduceCtorEq, Nat.reduceAdd, Nat.reduceMul, Nat.reduceSub, Nat.reduceDiv, Nat.reduceMod, Nat.reduceLT, Nat.reduceLeDiff, Nat.reduceEqDiff, Nat.reduceBEq, Int.reduceToNat, Int.reduceLE, Int.reduceLT, Int.reduceEq, Int.reduceNe, Int.reduceNeg]
           (repeat' refine And.intro ?_ ?_) <;> try first | with_reducible refine hK' ?_ | exact shut6)
        | with_reducible refine blockG_o (by decide) ?_
      refine ⟨xs.length - (i + 1), [some 0], sgMarkOs xs k (i + 1), by omega, ?_, i + 1, by omega, rfl, rfl⟩
      exact leh (And.intro hs hm)
    · obtain rfl : i = xs.length := by omega
      have hs := mix_all (markO xs.length k) xs xs.length hml rfl
      refine goh hm ?_
      exact finh [some 0] hs
  · simp [no] at hp
@[go_sem] def ctHeldOs : Ct := ⟨false, [[some .bop]], fun args os => match args, os with
  | [.one (.isl .bop xs), .one (.val (.int .i64 k))], [] => ifp (xs = markO xs.length k ∧ xs.length ≤ 4000000 ∧ 0 ≤ k ∧ k ≤ 1000000000) (vi (k + 5 * xs.length))
  | _, _ => no⟩
@[go_sem] def sgHeldOs (xs : List BOp) (k : Int) (i : Nat) : Sg := ⟨[(0, .one (.isl .bop xs)), (1, vi (k + 5 * i)), (5, vi i)], [], []⟩
theorem s_heldOs_e : EnterOk Tryz.prog 26 := ⟨_, Tryz.func26, rfl, by decide⟩
@[go_sem] def s_heldOs_lv : List (List Nat) := [[0, 1], [0, 1, 5], [0, 1, 5, 9], [0, 1, 5], [0, 1, 5, 18], [4], [0, 1, 5], [0, 1, 5, 28], [4], [0, 1, 5], [0, 1, 5, 38], [4], [0, 1, 5], [0, 1, 5, 47], [4], [0, 1, 5], [0, 1, 5, 57], [4], [0, 1, 5], [4]]
@[go_sem] noncomputable def s_heldOs_K : Known := (Known.nil).cons 83 ctMarkT s_markT s_markT_e
set_option maxHeartbeats 8000000 in
theorem s_heldOs : Sound Tryz.prog 26 ctHeldOs := by
  have ke := s_heldOs_K.env []
  have kl : Lives s_heldOs_lv := trivial
  refine sound_intro (E := ⟨ti, s_heldOs_K.Γ, []⟩) ke Tryz.func26 Tryz.ntmps26 rfl (rs := [.tmp 4]) rfl ?_
  intro args os hp
  unfold ctHeldOs at hp ⊢
  dsimp only at hp ⊢
  split at hp
  · rename_i xs k
    refine ⟨by simp, fun φ0 w0 => ?_⟩
    obtain ⟨h0, h1, h2, h3⟩ : xs = markO xs.length k ∧ xs.length ≤ 4000000 ∧ 0 ≤ k ∧ k ≤ 1000000000 := hp
    have hget : ∀ i, i < xs.length → xs.getD i ET.bop.dflt = ⟨k + 5 * i, markT (k + 5 * i + 1), markT (k + 5 * i + 2), k + 5 * i + 3, markT (k + 5 * i + 4)⟩ := fun i hi => by
      conv => lhs; rw [h0]
      exact markO_get hi _
    clear h0
    refine goh trivial ?_
    refine W_le (σ' := sgHeldOs xs k 0) [] (by
      simp only [go_sem, inj_r, ↓reduceIte, reduceCtorEq, Nat.reduceAdd, Nat.reduceLT, Nat.reduceLeDiff, Nat.reduceEqDiff, Int.reduceEq]
      all_goals (repeat' refine And.intro ?_ ?_) <;> try exact shut7
      ) ?_
    refine W_loop (fun q σ => ∃ i : Nat, i ≤ xs.length ∧ q = xs.length - i ∧ σ = sgHeldOs xs k i) xs.length ⟨0, by omega, by omega, rfl⟩ ?_
    rintro q σ ⟨i, hi, rfl, rfl⟩
    unfold sgHeldOs
    refine goh trivial ?_
    refine W_cnd ?_ ?_ <;> (try simp only [cnd_r]) <;> intro hlt
    · have hg := hget i (by omega)
      have w0 : IntKind.i64.wrap (k + 5 * i) = k + 5 * i := wrap_id _ (by omega) (by omega)
      have w2 : IntKind.i64.wrap (k + 5 * i + 1 + 1) = k + 5 * i + 2 := by rw [wrap_id _ (by omega) (by omega)]; omega
      have w3 : IntKind.i64.wrap (k + 5 * i + 2 + 1) = k + 5 * i + 3 := by rw [wrap_id _ (by omega) (by omega)]; omega
      have w4 : IntKind.i64.wrap (k + 5 * i + 3 + 1) = k + 5 * i + 4 := by rw [wrap_id _ (by omega) (by omega)]; omega
      have w5 : IntKind.i64.wrap (k + 5 * i + 4 + 1) = k + 5 * (i + 1) := by rw [wrap_id _ (by omega) (by omega)]; omega
      have w1 : IntKind.i64.wrap (k + 5 * i + 1) = k + 5 * i + 1 := wrap_id _ (by omega) (by omega)
      have u1 : IntKind.i64.wrap (k + 5 * i + 1) = k + 5 * i + 1 := wrap_id _ (by omega) (by omega)
      have u2 : IntKind.i64.wrap (k + 5 * i + 2) = k + 5 * i + 2 := wrap_id _ (by omega) (by omega)
      have u3 : IntKind.i64.wrap (k + 5 * i + 3) = k + 5 * i + 3 := wrap_id _ (by omega) (by omega)
      have u4 : IntKind.i64.wrap (k + 5 * i + 4) = k + 5 * i + 4 := wrap_id _ (by omega) (by omega)
      refine goh (And.intro hg (And.intro w0 (And.intro w1 (And.intro w2 (And.intro w3 (And.intro w4 (And.intro w5 (And.intro u1 (And.intro u2 (And.intro u3 u4)))))))))) ?_
      refine W_cnd ?_ ?_ <;> intro hlit <;> try (cases hlit; done)
      refine goh (And.intro hg (And.intro w0 (And.intro w1 (And.intro w2 (And.intro w3 (And.intro w4 (And.intro w5 (And.intro u1 (And.intro u2 (And.intro u3 u4)))))))))) ?_
      refine W_cnd ?_ ?_ <;> intro hlit <;> try (cases hlit; done)
      refine goh (And.intro hg (And.intro w0 (And.intro w1 (And.intro w2 (And.intro w3 (And.intro w4 (And.intro w5 (And.intro u1 (And.intro u2 (And.intro u3 u4)))))))))) ?_
      refine W_cnd ?_ ?_ <;> intro hlit <;> try (cases hlit; done)
      refine goh (And.intro hg (And.intro w0 (And.intro w1 (And.intro w2 (And.intro w3 (And.intro w4 (And.intro w5 (And.intro u1 (And.intro u2 (And.intro u3 u4)))))))))) ?_
      refine W_cnd ?_ ?_ <;> intro hlit <;> try (cases hlit; done)
      refine goh (And.intro hg (And.intro w0 (And.intro w1 (And.intro w2 (And.intro w3 (And.intro w4 (And.intro w5 (And.intro u1 (And.intro u2 (And.intro u3 u4)))))))))) ?_
      refine W_cnd ?_ ?_ <;> intro hlit <;> try (cases hlit; done)
      refine goh (And.intro hg (And.intro w0 (And.intro w1 (And.intro w2 (And.intro w3 (And.intro w4 (And.intro w5 (And.intro u1 (And.intro u2 (And.intro u3 u4)))))))))) ?_
      refine ⟨xs.length - (i + 1), [], sgHeldOs xs k (i + 1), by omega, ?_, i + 1, by omega, rfl, rfl⟩
      exact leh trivial
    · obtain rfl : i = xs.length := by omega
      refine goh trivial ?_
      exact finh [] trivial
  · simp [no, ifp] at hp
@[go_sem] def ctXLogFind : Ct := ⟨false, [[some .str, some .str, some .late]], fun args os => match args, os with
  | [.agg [.isl .str a, .isl .str b, .isl .late l], .one (.val (.int .i64 t))], [] => ifp ((Dk.mk a b l).inn) (vb true)
  | _, _ => no⟩
theorem s_xLogFind_e : EnterOk Tryz.prog 4 := ⟨_, Tryz.func4, rfl, by decide⟩
@[go_sem] def s_xLogFind_lv : List (List Nat) := [[1, 2], [1, 2, 5], [1, 2, 5], [1, 2, 17], [4], [1, 2, 6], [1, 2, 6, 7], [1, 2, 6, 7, 8], [1, 2, 6, 7, 8, 30], [4], [1, 2, 6, 7, 8, 35], [4], [1, 2, 6, 7, 8, 9], [1, 2, 6, 8, 9], [1, 2, 6, 8, 46], [4], [1, 2, 6, 8, 10], [1, 2, 6, 8, 10], [1, 2, 6, 8, 10, 11], [1, 2, 6, 8, 10, 11], [1, 2, 6, 8, 10, 11, 54], [4], [1, 2, 6, 8, 10, 57], [4], [6, 8, 10, 12], [8, 10, 65], [4], [8, 10, 11], [10, 11], [10, 11, 70], [4], [73], [4], [4]]
@[go_sem] noncomputable def s_xLogFind_K : Known := (((((((((Known.nil).cons 18 ctSzDisk s_szDisk s_szDisk_e).cons 20 ctToDisk s_toDisk s_toDisk_e).cons 19 ctLogFind s_specLogFind s_specLogFind_e).cons 21 ctLogFind s_logFind s_logFind_e).cons 22 ctEqOs s_eqOs s_eqOs_e).cons 23 ctEqDisk s_eqDisk s_eqDisk_e).cons 24 ctMarkDisk s_markDisk s_markDisk_e).cons 25 ctMarkOs s_markOs s_markOs_e).cons 26 ctHeldOs s_heldOs s_heldOs_e
set_option maxHeartbeats 8000000 in
theorem s_xLogFind : Sound Tryz.prog 4 ctXLogFind := by
  have ke := s_xLogFind_K.env []
  have kl : Lives s_xLogFind_lv := trivial
  refine sound_intro (E := ⟨ti, s_xLogFind_K.Γ, []⟩) ke Tryz.func4 Tryz.ntmps4 rfl (rs := [.tmp 4]) rfl ?_
  intro args os hp
  unfold ctXLogFind at hp ⊢
  dsimp only at hp ⊢
  split at hp
  · rename_i a b l t
    refine ⟨by simp, fun φ0 w0 => ?_⟩
    obtain hin : (Dk.mk a b l).inn := hp
    refine goh trivial ?_
    refine W_cnd ?_ ?_ <;> (try simp only [cnd_r]) <;> intro hc
    · refine goh trivial ?_
      exact finh [] trivial
    · have hz := wt_small (n := 1048576) (d := ⟨a, b, l⟩) (by omega)
      simp only at hz
      obtain ⟨z1, z2, z3⟩ := hz
      have nt : (!true) = false := rfl
      have hl := logFind_len ⟨a, b, l⟩ t
      obtain ⟨ys, hys⟩ : ∃ y, logFind ⟨a, b, l⟩ t = y := ⟨_, rfl⟩
      rw [hys] at hl
      have c0 : decide (1 + (a.length : Int) + b.length + 3 * l.length < 0) = false := by simp; omega
      have c1 : decide (1 + 5 * (ys.length : Int) < 0) = false := by simp; omega
      clear hc
      refine goh (And.intro hys nt) ?_
      refine W_cnd ?_ ?_ <;> intro hlit <;> try (cases hlit; done)
      refine goh (And.intro hys nt) ?_
      refine W_cnd ?_ ?_ <;> intro hlit <;> try (cases hlit; done)
      refine goh (And.intro hys (And.intro nt c0)) ?_
      refine W_cnd ?_ ?_ <;> intro hlit <;> try (cases hlit; done)
      refine goh (And.intro c1 hys) ?_
      refine W_cnd ?_ ?_ <;> intro hlit <;> try (cases hlit; done)
      refine goh trivial ?_
      refine W_cnd ?_ ?_ <;> intro hlit <;> try (cases hlit; done)
      refine goh (And.intro hys nt) ?_
      refine W_cnd ?_ ?_ <;> intro hlit <;> try (cases hlit; done)
      refine goh c1 ?_
      refine W_cnd ?_ ?_ <;> intro hlit <;> try (cases hlit; done)
      refine goh trivial ?_
      refine W_cnd ?_ ?_ <;> intro hlit <;> try (cases hlit; done)
      refine goh trivial ?_
      exact finh [] trivial
  · simp [no, ifp] at hp
end Go.Proofs.YtmnbgppmfbnamaaGreatDoor
