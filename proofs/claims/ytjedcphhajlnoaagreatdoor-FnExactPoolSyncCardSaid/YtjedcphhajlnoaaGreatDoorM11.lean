import Derived.Test.YtjedcphhajlnoaaGreatDoorProg
import Derived.WalkKit
import Derived.Ground.NamesProg
import Derived.Shelf.Strings.SlTrimAscii
import Derived.Sort.Walk0
import Derived.Test.YtjedcphhajlnoaaGreatDoorM5
import Derived.Test.YtjedcphhajlnoaaGreatDoorM7
import Derived.Test.YtjedcphhajlnoaaGreatDoorM10
set_option linter.unusedSimpArgs false
set_option linter.unusedVariables false
set_option linter.unusedSectionVars false
/- Functions of the exact laws: cores and stores marked, and the marks found again. -/
namespace Go.Proofs.YtjedcphhajlnoaaGreatDoor
open Go.RowKit

def markE (n : Nat) (k : Int) : List Ent := (List.range n).map fun i : Nat => ⟨k + 3 * (i : Int), k + 3 * (i : Int) + 1, k + 3 * (i : Int) + 2⟩
def markP (n : Nat) (k : Int) : List Ptr := (List.range n).map fun i : Nat => ⟨k + 3 * (i : Int), k + 3 * (i : Int) + 1, k + 3 * (i : Int) + 2⟩
def markC1 (s : CSet) (k : Int) : CSet := ⟨markT k, k + 1, markT (k + 2), s.map, ⟨k + 3, k + 4, k + 5⟩, (k + 6).tmod 3 == 0⟩
def markC (xs : List CSet) (k : Int) : List CSet := (List.range xs.length).map fun i : Nat => markC1 (xs.getD i ET.cset.dflt) (k + 7 * (i : Int))
@[go_sem] theorem markE_len (n : Nat) (k : Int) : (markE n k).length = n := by simp [markE]
@[go_sem] theorem markP_len (n : Nat) (k : Int) : (markP n k).length = n := by simp [markP]
@[go_sem] theorem markC_len (xs : List CSet) (k : Int) : (markC xs k).length = xs.length := by simp [markC]
@[go_sem] theorem markE_take (n : Nat) (k : Int) : (markE n k).take n = markE n k := List.take_of_length_le (by simp [markE])
@[go_sem] theorem markP_take (n : Nat) (k : Int) : (markP n k).take n = markP n k := List.take_of_length_le (by simp [markP])
@[go_sem] theorem markC_take (xs : List CSet) (k : Int) : (markC xs k).take xs.length = markC xs k := List.take_of_length_le (by simp [markC])
theorem markE_get {n : Nat} {k : Int} {i : Nat} (h : i < n) (d : Ent) : (markE n k).getD i d = ⟨k + 3 * i, k + 3 * i + 1, k + 3 * i + 2⟩ := by simp [markE, h]
theorem markP_get {n : Nat} {k : Int} {i : Nat} (h : i < n) (d : Ptr) : (markP n k).getD i d = ⟨k + 3 * i, k + 3 * i + 1, k + 3 * i + 2⟩ := by simp [markP, h]
theorem markC_get {xs : List CSet} {k : Int} {i : Nat} (h : i < xs.length) (d : CSet) : (markC xs k).getD i d = markC1 (xs.getD i ET.cset.dflt) (k + 7 * i) := by simp [markC, h]
theorem mix_here {α : Type} {ms xs : List α} {i : Nat} {d : α} (hl : ms.length = xs.length) (hi : i < xs.length) : (mix ms xs i).getD i d = xs.getD i d := by
  unfold mix
  simp [List.getElem?_append_right, hl, show i ≤ xs.length by omega, List.length_take, Nat.min_eq_left, hi]
@[go_sem] def ctMarkE : Ct := ⟨true, [], fun args os => match args, os with
  | [.one (.osl .ent 0 0 n), .one (.val (.int .i64 k))], [.arr .ent xs] => ⟨n = xs.length ∧ xs.length ≤ 4000000 ∧ 0 ≤ k ∧ k ≤ 1000000000, vi (k + 3 * xs.length), [(0, some (.arr .ent (markE xs.length k)))], []⟩
  | _, _ => no⟩
theorem s_markE_e : EnterOk Tryz.prog 190 := ⟨_, Tryz.func190, rfl, by decide⟩
@[go_sem] def s_markE_lv : List (List Nat) := [[0, 1], [0, 1, 5], [0, 1, 5, 9], [0, 1, 5], [0, 1, 5], [0, 1, 5], [0, 1, 5], [0, 1, 5], [0, 1, 5], [0, 1, 5], [4]]
@[go_sem] noncomputable def s_markE_K : Known := Known.nil
set_option maxHeartbeats 8000000 in
theorem s_markE : Sound Tryz.prog 190 ctMarkE := by
  have ke := s_markE_K.env []
  have kl : Lives s_markE_lv := trivial
  refine sound_intro (E := ⟨ti, s_markE_K.Γ, []⟩) ke Tryz.func190 Tryz.ntmps190 rfl (rs := [.tmp 4]) rfl ?_
  intro args os hp
  unfold ctMarkE at hp ⊢
  dsimp only at hp ⊢
  split at hp
  · rename_i n k xs
    refine ⟨by simp, fun φ0 w0 => ?_⟩
    obtain ⟨rfl, h1, h2, h3⟩ : n = xs.length ∧ xs.length ≤ 4000000 ∧ 0 ≤ k ∧ k ≤ 1000000000 := hp
    have hml := markE_len xs.length k
    have hz := mix_zero (markE xs.length k) xs
    refine goh trivial ?_
    refine W_for xs.length (fun i => True) (fun i => ⟨[(0, .one (.osl .ent 0 0 xs.length)), (1, vi (k + 3 * i)), (5, vi i)], [some (.arr .ent (mix (markE xs.length k) xs i))], [0]⟩) [some 0] (leh hz) trivial fun i hi _ => ?_
    have hm := mix_len (markE xs.length k) xs i hml
    refine goh hm ?_
    refine W_cnd ?_ ?_ <;> (try simp only [cnd_r]) <;> intro hlt
    · have hli : i < xs.length := by omega
      have w1 : IntKind.i64.wrap (k + 3 * i + 1) = k + 3 * i + 1 := wrap_id _ (by omega) (by omega)
      have w2 : IntKind.i64.wrap (k + 3 * i + 1 + 1) = k + 3 * i + 2 := by rw [wrap_id _ (by omega) (by omega)]; omega
      have w3 : IntKind.i64.wrap (k + 3 * i + 2 + 1) = k + 3 * (i + 1) := by rw [wrap_id _ (by omega) (by omega)]; omega
      have w4 : IntKind.i64.wrap (k + 3 * i) = k + 3 * i := wrap_id _ (by omega) (by omega)
      have w5 : IntKind.i64.wrap (k + 3 * i + 2) = k + 3 * i + 2 := wrap_id _ (by omega) (by omega)
      have hg : ∀ x : Ent, ((mix (markE xs.length k) xs i).set i x).getD i ET.ent.dflt = x := fun x => by
        rw [List.getD_eq_getElem?_getD, List.getElem?_set, if_pos rfl, if_pos (by omega)]; rfl
      have hs := mix_set (markE xs.length k) xs i ET.ent.dflt hml (by omega) (x := ⟨k + 3 * i, k + 3 * i + 1, k + 3 * i + 2⟩) (markE_get (by omega) _).symm
      repeat' first
        | with_reducible refine red ?_
        | refine W_seq ?_
        | (refine W_reg (s_markE_K.env []) s_markE_lv fun K' hK' => ?_
           simp only [go_sem, hm, w1, w2, w3, w4, w5, List.length_set, hg, List.set_set, ↓reduceIte, ↓reduceDIte, reduceCtorEq, Nat.reduceAdd, Nat.reduceMul, Nat.reduceSub, Nat.reduceDiv, Nat.reduceMod, Nat.reduceLT, Nat.reduceLeDiff, Nat.reduceEqDiff, Nat.reduceBEq, Int.reduceToNat, Int.reduceLE, Int.reduceLT, Int.reduceEq, Int.reduceNe, Int.reduceNeg]
           (repeat' refine And.intro ?_ ?_) <;> try first | with_reducible refine hK' ?_ | exact shut6)
        | with_reducible refine blockG_o (by decide) ?_
      exact ⟨[some 0], by omega, leh (And.intro hs hm), trivial⟩
    · obtain rfl : i = xs.length := by omega
      have hs := mix_all (markE xs.length k) xs xs.length hml rfl
      refine goh hm ?_
      exact finh [some 0] hs
  · simp [no] at hp
@[go_sem] def ctMarkP : Ct := ⟨true, [], fun args os => match args, os with
  | [.one (.osl .ptr 0 0 n), .one (.val (.int .i64 k))], [.arr .ptr xs] => ⟨n = xs.length ∧ xs.length ≤ 4000000 ∧ 0 ≤ k ∧ k ≤ 1000000000, vi (k + 3 * xs.length), [(0, some (.arr .ptr (markP xs.length k)))], []⟩
  | _, _ => no⟩
theorem s_markP_e : EnterOk Tryz.prog 191 := ⟨_, Tryz.func191, rfl, by decide⟩
@[go_sem] def s_markP_lv : List (List Nat) := [[0, 1], [0, 1, 5], [0, 1, 5, 9], [0, 1, 5], [0, 1, 5], [0, 1, 5], [0, 1, 5], [0, 1, 5], [0, 1, 5], [0, 1, 5], [4]]
@[go_sem] noncomputable def s_markP_K : Known := Known.nil
set_option maxHeartbeats 8000000 in
theorem s_markP : Sound Tryz.prog 191 ctMarkP := by
  have ke := s_markP_K.env []
  have kl : Lives s_markP_lv := trivial
  refine sound_intro (E := ⟨ti, s_markP_K.Γ, []⟩) ke Tryz.func191 Tryz.ntmps191 rfl (rs := [.tmp 4]) rfl ?_
  intro args os hp
  unfold ctMarkP at hp ⊢
  dsimp only at hp ⊢
  split at hp
  · rename_i n k xs
    refine ⟨by simp, fun φ0 w0 => ?_⟩
    obtain ⟨rfl, h1, h2, h3⟩ : n = xs.length ∧ xs.length ≤ 4000000 ∧ 0 ≤ k ∧ k ≤ 1000000000 := hp
    have hml := markP_len xs.length k
    have hz := mix_zero (markP xs.length k) xs
    refine goh trivial ?_
    refine W_for xs.length (fun i => True) (fun i => ⟨[(0, .one (.osl .ptr 0 0 xs.length)), (1, vi (k + 3 * i)), (5, vi i)], [some (.arr .ptr (mix (markP xs.length k) xs i))], [0]⟩) [some 0] (leh hz) trivial fun i hi _ => ?_
    have hm := mix_len (markP xs.length k) xs i hml
    refine goh hm ?_
    refine W_cnd ?_ ?_ <;> (try simp only [cnd_r]) <;> intro hlt
    · have hli : i < xs.length := by omega
      have w1 : IntKind.i64.wrap (k + 3 * i + 1) = k + 3 * i + 1 := wrap_id _ (by omega) (by omega)
      have w2 : IntKind.i64.wrap (k + 3 * i + 1 + 1) = k + 3 * i + 2 := by rw [wrap_id _ (by omega) (by omega)]; omega
      have w3 : IntKind.i64.wrap (k + 3 * i + 2 + 1) = k + 3 * (i + 1) := by rw [wrap_id _ (by omega) (by omega)]; omega
      have w4 : IntKind.i64.wrap (k + 3 * i) = k + 3 * i := wrap_id _ (by omega) (by omega)
      have w5 : IntKind.i64.wrap (k + 3 * i + 2) = k + 3 * i + 2 := wrap_id _ (by omega) (by omega)
      have hg : ∀ x : Ptr, ((mix (markP xs.length k) xs i).set i x).getD i ET.ptr.dflt = x := fun x => by
        rw [List.getD_eq_getElem?_getD, List.getElem?_set, if_pos rfl, if_pos (by omega)]; rfl
      have hs := mix_set (markP xs.length k) xs i ET.ptr.dflt hml (by omega) (x := ⟨k + 3 * i, k + 3 * i + 1, k + 3 * i + 2⟩) (markP_get (by omega) _).symm
      repeat' first
        | with_reducible refine red ?_
        | refine W_seq ?_
        | (refine W_reg (s_markP_K.env []) s_markP_lv fun K' hK' => ?_
           simp only [go_sem, hm, w1, w2, w3, w4, w5, List.length_set, hg, List.set_set, ↓reduceIte, ↓reduceDIte, reduceCtorEq, Nat.reduceAdd, Nat.reduceMul, Nat.reduceSub, Nat.reduceDiv, Nat.reduceMod, Nat.reduceLT, Nat.reduceLeDiff, Nat.reduceEqDiff, Nat.reduceBEq, Int.reduceToNat, Int.reduceLE, Int.reduceLT, Int.reduceEq, Int.reduceNe, Int.reduceNeg]
           (repeat' refine And.intro ?_ ?_) <;> try first | with_reducible refine hK' ?_ | exact shut6)
        | with_reducible refine blockG_o (by decide) ?_
      exact ⟨[some 0], by omega, leh (And.intro hs hm), trivial⟩
    · obtain rfl : i = xs.length := by omega
      have hs := mix_all (markP xs.length k) xs xs.length hml rfl
      refine goh hm ?_
      exact finh [some 0] hs
  · simp [no] at hp
@[go_sem] def ctMarkC : Ct := ⟨true, [], fun args os => match args, os with
  | [.one (.osl .cset 0 0 n), .one (.val (.int .i64 k))], [.arr .cset xs] => ⟨n = xs.length ∧ xs.length ≤ 4000000 ∧ 0 ≤ k ∧ k ≤ 1000000000, vi (k + 7 * xs.length), [(0, some (.arr .cset (markC xs k)))], []⟩
  | _, _ => no⟩
theorem s_markC_e : EnterOk Tryz.prog 189 := ⟨_, Tryz.func189, rfl, by decide⟩
@[go_sem] def s_markC_lv : List (List Nat) := [[0, 1], [0, 1, 5], [0, 1, 5, 9], [0, 1, 5], [0, 1, 5], [0, 1, 5], [0, 1, 5], [0, 1, 5], [0, 1, 5], [0, 1, 5], [0, 1, 5], [0, 1, 5], [0, 1, 5], [0, 1, 5], [0, 1, 5], [0, 1, 5], [0, 1, 5], [0, 1, 5], [4]]
@[go_sem] noncomputable def s_markC_K : Known := (Known.nil).cons 143 ctMarkT s_markT s_markT_e
set_option maxHeartbeats 8000000 in
theorem s_markC : Sound Tryz.prog 189 ctMarkC := by
  have ke := s_markC_K.env []
  have kl : Lives s_markC_lv := trivial
  refine sound_intro (E := ⟨ti, s_markC_K.Γ, []⟩) ke Tryz.func189 Tryz.ntmps189 rfl (rs := [.tmp 4]) rfl ?_
  intro args os hp
  unfold ctMarkC at hp ⊢
  dsimp only at hp ⊢
  split at hp
  · rename_i n k xs
    refine ⟨by simp, fun φ0 w0 => ?_⟩
    obtain ⟨rfl, h1, h2, h3⟩ : n = xs.length ∧ xs.length ≤ 4000000 ∧ 0 ≤ k ∧ k ≤ 1000000000 := hp
    have hml := markC_len xs k
    have hz := mix_zero (markC xs k) xs
    refine goh trivial ?_
    refine W_for xs.length (fun i => True) (fun i => ⟨[(0, .one (.osl .cset 0 0 xs.length)), (1, vi (k + 7 * i)), (5, vi i)], [some (.arr .cset (mix (markC xs k) xs i))], [0]⟩) [some 0] (leh hz) trivial fun i hi _ => ?_
    have hm := mix_len (markC xs k) xs i hml
    refine goh hm ?_
    refine W_cnd ?_ ?_ <;> (try simp only [cnd_r]) <;> intro hlt
    · have hli : i < xs.length := by omega
      obtain ⟨q, hq⟩ : ∃ q : Int, q = k + 7 * i := ⟨_, rfl⟩
      have w0 : IntKind.i64.wrap q = q := wrap_id _ (by omega) (by omega)
      have w1 : IntKind.i64.wrap (q + 1) = q + 1 := wrap_id _ (by omega) (by omega)
      have w2 : IntKind.i64.wrap (q + 1 + 1) = q + 2 := by rw [wrap_id _ (by omega) (by omega)]; omega
      have w3 : IntKind.i64.wrap (q + 2 + 1) = q + 3 := by rw [wrap_id _ (by omega) (by omega)]; omega
      have w4 : IntKind.i64.wrap (q + 3 + 1) = q + 4 := by rw [wrap_id _ (by omega) (by omega)]; omega
      have w5 : IntKind.i64.wrap (q + 4 + 1) = q + 5 := by rw [wrap_id _ (by omega) (by omega)]; omega
      have w6 : IntKind.i64.wrap (q + 5 + 1) = q + 6 := by rw [wrap_id _ (by omega) (by omega)]; omega
      have w7 : IntKind.i64.wrap (q + 6 + 1) = k + 7 * ((i : Int) + 1) := by rw [wrap_id _ (by omega) (by omega)]; omega
      have v3 : IntKind.i64.wrap (q + 3) = q + 3 := wrap_id _ (by omega) (by omega)
      have v4 : IntKind.i64.wrap (q + 4) = q + 4 := wrap_id _ (by omega) (by omega)
      have v5 : IntKind.i64.wrap (q + 5) = q + 5 := wrap_id _ (by omega) (by omega)
      have hg : ∀ x : CSet, ((mix (markC xs k) xs i).set i x).getD i ET.cset.dflt = x := fun x => by
        rw [List.getD_eq_getElem?_getD, List.getElem?_set, if_pos rfl, if_pos (by omega)]; rfl
      have hh : (mix (markC xs k) xs i).getD i ET.cset.dflt = xs.getD i ET.cset.dflt := mix_here hml hli
      have hs := mix_set (markC xs k) xs i ET.cset.dflt hml (by omega) (x := markC1 (xs.getD i ET.cset.dflt) q) (by rw [hq]; exact (markC_get hli _).symm)
      unfold markC1 at hs
      rw [← hq]
      repeat' first
        | with_reducible refine red ?_
        | refine W_seq ?_
        | (refine W_reg (s_markC_K.env []) s_markC_lv fun K' hK' => ?_
           simp only [go_sem, hm, w0, w1, w2, w3, w4, w5, w6, w7, v3, v4, v5, List.length_set, hg, hh, List.set_set, ↓reduceIte, ↓reduceDIte, reduceCtorEq, Nat.reduceAdd, Nat.reduceMul, Nat.reduceSub, Nat.reduceDiv, Nat.reduceMod, Nat.reduceLT, Nat.reduceLeDiff, Nat.reduceEqDiff, Nat.reduceBEq, Int.reduceToNat, Int.reduceLE, Int.reduceLT, Int.reduceEq, Int.reduceNe, Int.reduceNeg]
           (repeat' refine And.intro ?_ ?_) <;> try first | with_reducible refine hK' ?_ | exact shut6)
        | with_reducible refine blockG_o (by decide) ?_
      exact ⟨[some 0], by omega, leh (And.intro hs hm), trivial⟩
    · obtain rfl : i = xs.length := by omega
      have hs := mix_all (markC xs k) xs xs.length hml rfl
      refine goh hm ?_
      exact finh [some 0] hs
  · simp [no] at hp
@[go_sem] def ctHeldE : Ct := ⟨false, [[some .ent]], fun args os => match args, os with
  | [.one (.isl .ent xs), .one (.val (.int .i64 k))], [] => ifp (xs = markE xs.length k ∧ xs.length ≤ 4000000 ∧ 0 ≤ k ∧ k ≤ 1000000000) (vi (k + 3 * xs.length))
  | _, _ => no⟩
theorem s_heldE_e : EnterOk Tryz.prog 195 := ⟨_, Tryz.func195, rfl, by decide⟩
@[go_sem] def s_heldE_lv : List (List Nat) := [[0, 1], [0, 1, 5], [0, 1, 5, 9], [0, 1, 5], [0, 1, 5, 18], [4], [0, 1, 5], [0, 1, 5, 27], [4], [0, 1, 5], [0, 1, 5, 36], [4], [0, 1, 5], [4]]
@[go_sem] noncomputable def s_heldE_K : Known := Known.nil
set_option maxHeartbeats 8000000 in
theorem s_heldE : Sound Tryz.prog 195 ctHeldE := by
  have ke := s_heldE_K.env []
  have kl : Lives s_heldE_lv := trivial
  refine sound_intro (E := ⟨ti, s_heldE_K.Γ, []⟩) ke Tryz.func195 Tryz.ntmps195 rfl (rs := [.tmp 4]) rfl ?_
  intro args os hp
  unfold ctHeldE at hp ⊢
  dsimp only at hp ⊢
  split at hp
  · rename_i xs k
    refine ⟨by simp, fun φ0 w0 => ?_⟩
    obtain ⟨h0, h1, h2, h3⟩ : xs = markE xs.length k ∧ xs.length ≤ 4000000 ∧ 0 ≤ k ∧ k ≤ 1000000000 := hp
    have hget : ∀ i, i < xs.length → xs.getD i ET.ent.dflt = ⟨k + 3 * i, k + 3 * i + 1, k + 3 * i + 2⟩ := fun i hi => by
      conv => lhs; rw [h0]
      exact markE_get hi _
    clear h0
    refine goh trivial ?_
    refine W_for xs.length (fun i => True) (fun i => ⟨[(0, .one (.isl .ent xs)), (1, vi (k + 3 * i)), (5, vi i)], [], []⟩) [] (leh trivial) trivial fun i hi _ => ?_
    refine goh trivial ?_
    refine W_cnd ?_ ?_ <;> (try simp only [cnd_r]) <;> intro hlt
    · have hg := hget i (by omega)
      have w1 : IntKind.i64.wrap (k + 3 * i + 1) = k + 3 * i + 1 := wrap_id _ (by omega) (by omega)
      have w2 : IntKind.i64.wrap (k + 3 * i + 1 + 1) = k + 3 * i + 2 := by rw [wrap_id _ (by omega) (by omega)]; omega
      have w3 : IntKind.i64.wrap (k + 3 * i + 2 + 1) = k + 3 * (i + 1) := by rw [wrap_id _ (by omega) (by omega)]; omega
      have w4 : IntKind.i64.wrap (k + 3 * i) = k + 3 * i := wrap_id _ (by omega) (by omega)
      have w5 : IntKind.i64.wrap (k + 3 * i + 2) = k + 3 * i + 2 := wrap_id _ (by omega) (by omega)
      refine goh (And.intro hg (And.intro w1 (And.intro w2 (And.intro w3 (And.intro w4 w5))))) ?_
      refine W_cnd ?_ ?_ <;> intro hlit <;> try (cases hlit; done)
      refine goh (And.intro hg (And.intro w1 (And.intro w2 (And.intro w3 (And.intro w4 w5))))) ?_
      refine W_cnd ?_ ?_ <;> intro hlit <;> try (cases hlit; done)
      refine goh (And.intro hg (And.intro w1 (And.intro w2 (And.intro w3 (And.intro w4 w5))))) ?_
      refine W_cnd ?_ ?_ <;> intro hlit <;> try (cases hlit; done)
      refine goh (And.intro hg (And.intro w1 (And.intro w2 (And.intro w3 (And.intro w4 w5))))) ?_
      exact ⟨[], by omega, leh trivial, trivial⟩
    · obtain rfl : i = xs.length := by omega
      refine goh trivial ?_
      exact finh [] trivial
  · simp [no, ifp] at hp
@[go_sem] def ctHeldP : Ct := ⟨false, [[some .ptr]], fun args os => match args, os with
  | [.one (.isl .ptr xs), .one (.val (.int .i64 k))], [] => ifp (xs = markP xs.length k ∧ xs.length ≤ 4000000 ∧ 0 ≤ k ∧ k ≤ 1000000000) (vi (k + 3 * xs.length))
  | _, _ => no⟩
theorem s_heldP_e : EnterOk Tryz.prog 196 := ⟨_, Tryz.func196, rfl, by decide⟩
@[go_sem] def s_heldP_lv : List (List Nat) := [[0, 1], [0, 1, 5], [0, 1, 5, 9], [0, 1, 5], [0, 1, 5, 18], [4], [0, 1, 5], [0, 1, 5, 27], [4], [0, 1, 5], [0, 1, 5, 36], [4], [0, 1, 5], [4]]
@[go_sem] noncomputable def s_heldP_K : Known := Known.nil
set_option maxHeartbeats 8000000 in
theorem s_heldP : Sound Tryz.prog 196 ctHeldP := by
  have ke := s_heldP_K.env []
  have kl : Lives s_heldP_lv := trivial
  refine sound_intro (E := ⟨ti, s_heldP_K.Γ, []⟩) ke Tryz.func196 Tryz.ntmps196 rfl (rs := [.tmp 4]) rfl ?_
  intro args os hp
  unfold ctHeldP at hp ⊢
  dsimp only at hp ⊢
  split at hp
  · rename_i xs k
    refine ⟨by simp, fun φ0 w0 => ?_⟩
    obtain ⟨h0, h1, h2, h3⟩ : xs = markP xs.length k ∧ xs.length ≤ 4000000 ∧ 0 ≤ k ∧ k ≤ 1000000000 := hp
    have hget : ∀ i, i < xs.length → xs.getD i ET.ptr.dflt = ⟨k + 3 * i, k + 3 * i + 1, k + 3 * i + 2⟩ := fun i hi => by
      conv => lhs; rw [h0]
      exact markP_get hi _
    clear h0
    refine goh trivial ?_
    refine W_for xs.length (fun i => True) (fun i => ⟨[(0, .one (.isl .ptr xs)), (1, vi (k + 3 * i)), (5, vi i)], [], []⟩) [] (leh trivial) trivial fun i hi _ => ?_
    refine goh trivial ?_
    refine W_cnd ?_ ?_ <;> (try simp only [cnd_r]) <;> intro hlt
    · have hg := hget i (by omega)
      have w1 : IntKind.i64.wrap (k + 3 * i + 1) = k + 3 * i + 1 := wrap_id _ (by omega) (by omega)
      have w2 : IntKind.i64.wrap (k + 3 * i + 1 + 1) = k + 3 * i + 2 := by rw [wrap_id _ (by omega) (by omega)]; omega
      have w3 : IntKind.i64.wrap (k + 3 * i + 2 + 1) = k + 3 * (i + 1) := by rw [wrap_id _ (by omega) (by omega)]; omega
      have w4 : IntKind.i64.wrap (k + 3 * i) = k + 3 * i := wrap_id _ (by omega) (by omega)
      have w5 : IntKind.i64.wrap (k + 3 * i + 2) = k + 3 * i + 2 := wrap_id _ (by omega) (by omega)
      refine goh (And.intro hg (And.intro w1 (And.intro w2 (And.intro w3 (And.intro w4 w5))))) ?_
      refine W_cnd ?_ ?_ <;> intro hlit <;> try (cases hlit; done)
      refine goh (And.intro hg (And.intro w1 (And.intro w2 (And.intro w3 (And.intro w4 w5))))) ?_
      refine W_cnd ?_ ?_ <;> intro hlit <;> try (cases hlit; done)
      refine goh (And.intro hg (And.intro w1 (And.intro w2 (And.intro w3 (And.intro w4 w5))))) ?_
      refine W_cnd ?_ ?_ <;> intro hlit <;> try (cases hlit; done)
      refine goh (And.intro hg (And.intro w1 (And.intro w2 (And.intro w3 (And.intro w4 w5))))) ?_
      exact ⟨[], by omega, leh trivial, trivial⟩
    · obtain rfl : i = xs.length := by omega
      refine goh trivial ?_
      exact finh [] trivial
  · simp [no, ifp] at hp
end Go.Proofs.YtjedcphhajlnoaaGreatDoor
/- Functions of the exact laws: marked cores found again. -/
namespace Go.Proofs.YtjedcphhajlnoaaGreatDoor
open Go.RowKit

theorem markC_idem (xs : List CSet) (k : Int) : markC (markC xs k) k = markC xs k := by
  apply List.ext_getElem (by rw [markC_len, markC_len])
  intro i h1 h2
  rw [markC_len] at h2
  have e1 := markC_get (xs := markC xs k) (k := k) (i := i) (by rw [markC_len]; exact h2) ET.cset.dflt
  have e2 := markC_get (xs := xs) (k := k) (i := i) h2 ET.cset.dflt
  rw [e2] at e1
  rw [List.getD_eq_getElem?_getD, List.getElem?_eq_getElem h1, Option.getD_some] at e1
  rw [List.getD_eq_getElem?_getD, List.getElem?_eq_getElem (by rw [markC_len]; exact h2), Option.getD_some] at e2
  rw [e1, e2]; rfl
@[go_sem] def ctHeldC : Ct := ⟨false, [[some .cset]], fun args os => match args, os with
  | [.one (.isl .cset xs), .one (.val (.int .i64 k))], [] => ifp (xs = markC xs k ∧ xs.length ≤ 4000000 ∧ 0 ≤ k ∧ k ≤ 1000000000) (vi (k + 7 * xs.length))
  | _, _ => no⟩
theorem s_heldC_e : EnterOk Tryz.prog 194 := ⟨_, Tryz.func194, rfl, by decide⟩
@[go_sem] def s_heldC_lv : List (List Nat) := [[0, 1], [0, 1, 5], [0, 1, 5, 9], [0, 1, 5], [0, 1, 5, 19], [4], [0, 1, 5], [0, 1, 5, 28], [4], [0, 1, 5], [0, 1, 5, 38], [4], [0, 1, 5], [0, 1, 5, 48], [4], [0, 1, 5], [0, 1, 5, 58], [4], [0, 1, 5], [0, 1, 5, 68], [4], [0, 1, 5], [0, 1, 5, 79], [4], [0, 1, 5], [4]]
@[go_sem] noncomputable def s_heldC_K : Known := (Known.nil).cons 143 ctMarkT s_markT s_markT_e
set_option maxHeartbeats 8000000 in
theorem s_heldC : Sound Tryz.prog 194 ctHeldC := by
  have ke := s_heldC_K.env []
  have kl : Lives s_heldC_lv := trivial
  refine sound_intro (E := ⟨ti, s_heldC_K.Γ, []⟩) ke Tryz.func194 Tryz.ntmps194 rfl (rs := [.tmp 4]) rfl ?_
  intro args os hp
  unfold ctHeldC at hp ⊢
  dsimp only at hp ⊢
  split at hp
  · rename_i xs k
    refine ⟨by simp, fun φ0 w0 => ?_⟩
    obtain ⟨h0, h1, h2, h3⟩ : xs = markC xs k ∧ xs.length ≤ 4000000 ∧ 0 ≤ k ∧ k ≤ 1000000000 := hp
    have hget : ∀ i, i < xs.length → xs.getD i ET.cset.dflt = markC1 (xs.getD i ET.cset.dflt) (k + 7 * i) := fun i hi => by
      conv => lhs; rw [h0]
      exact markC_get hi _
    clear h0
    refine goh trivial ?_
    refine W_for xs.length (fun i => True) (fun i => ⟨[(0, .one (.isl .cset xs)), (1, vi (k + 7 * i)), (5, vi i)], [], []⟩) [] (leh trivial) trivial fun i hi _ => ?_
    refine goh trivial ?_
    refine W_cnd ?_ ?_ <;> (try simp only [cnd_r]) <;> intro hlt
    · have hli : i < xs.length := by omega
      obtain ⟨q, hq⟩ : ∃ q : Int, q = k + 7 * i := ⟨_, rfl⟩
      have w0 : IntKind.i64.wrap q = q := wrap_id _ (by omega) (by omega)
      have w1 : IntKind.i64.wrap (q + 1) = q + 1 := wrap_id _ (by omega) (by omega)
      have w2 : IntKind.i64.wrap (q + 1 + 1) = q + 2 := by rw [wrap_id _ (by omega) (by omega)]; omega
      have w3 : IntKind.i64.wrap (q + 2 + 1) = q + 3 := by rw [wrap_id _ (by omega) (by omega)]; omega
      have w4 : IntKind.i64.wrap (q + 3 + 1) = q + 4 := by rw [wrap_id _ (by omega) (by omega)]; omega
      have w5 : IntKind.i64.wrap (q + 4 + 1) = q + 5 := by rw [wrap_id _ (by omega) (by omega)]; omega
      have w6 : IntKind.i64.wrap (q + 5 + 1) = q + 6 := by rw [wrap_id _ (by omega) (by omega)]; omega
      have w7 : IntKind.i64.wrap (q + 6 + 1) = k + 7 * ((i : Int) + 1) := by rw [wrap_id _ (by omega) (by omega)]; omega
      have v3 : IntKind.i64.wrap (q + 3) = q + 3 := wrap_id _ (by omega) (by omega)
      have v4 : IntKind.i64.wrap (q + 4) = q + 4 := wrap_id _ (by omega) (by omega)
      have v5 : IntKind.i64.wrap (q + 5) = q + 5 := wrap_id _ (by omega) (by omega)
      have hb0 : 0 ≤ q ∧ q ≤ 1100000000 := by omega
      have wi : IntKind.i64.wrap ((i : Int) + 1) = ((i + 1 : Nat) : Int) := by rw [wrap_id] <;> omega
      have hg := hget i hli
      rw [← hq] at hg ⊢
      clear hget hq h1 h2 h3 hi
      have g1 := congrArg CSet.name hg
      have g2 := congrArg CSet.kind hg
      have g3 := congrArg CSet.from_ hg
      have g4 := congrArg CSet.home hg
      have g5 := congrArg CSet.dirty hg
      obtain ⟨x, hx⟩ : ∃ x, xs.getD i ET.cset.dflt = x := ⟨_, rfl⟩
      rw [hx] at g1 g2 g3 g4 g5
      simp only [markC1] at g1 g2 g3 g4 g5
      have g6 := congrArg Ptr.at_ g4
      have g7 := congrArg Ptr.sum g4
      have g8 := congrArg Ptr.birth g4
      simp only at g6 g7 g8
      clear hg g4
      iterate 7
        refine goh (And.intro hx (And.intro g1 (And.intro g2 (And.intro g3 (And.intro g5 (And.intro g6 (And.intro g7 (And.intro g8 (And.intro w0 (And.intro w1 (And.intro w2 (And.intro w3 (And.intro w4 (And.intro w5 (And.intro w6 (And.intro w7 (And.intro v3 (And.intro v4 v5)))))))))))))))))) ?_
        refine W_cnd ?_ ?_ <;> intro hlit <;> try (cases hlit; done)
      refine goh (And.intro hx (And.intro g1 (And.intro g2 (And.intro g3 (And.intro g5 (And.intro g6 (And.intro g7 (And.intro g8 (And.intro w0 (And.intro w1 (And.intro w2 (And.intro w3 (And.intro w4 (And.intro w5 (And.intro w6 (And.intro w7 (And.intro v3 (And.intro v4 v5)))))))))))))))))) ?_
      exact ⟨[], hli, leh wi, trivial⟩
    · obtain rfl : i = xs.length := by omega
      refine goh trivial ?_
      exact finh [] trivial
  · simp [no, ifp] at hp
@[go_sem] def ctMarkCore : Ct := ⟨true, [], fun args os => match args, os with
  | [.agg [.val (.int .i64 x), .osl .cset 0 0 n1, .osl .ent 1 0 n2, .osl .ptr 2 0 n3, .val (.bool y), .osl .int 3 0 n4, .val (.int .i64 u)], .one (.val (.int .i64 k))], [.arr .cset cs, .arr .ent es, .arr .ptr ps, .arr .int zs] =>
    ⟨(n1 = cs.length ∧ n2 = es.length ∧ n3 = ps.length ∧ n4 = zs.length) ∧ (cs.length ≤ 4000000 ∧ es.length ≤ 4000000 ∧ ps.length ≤ 4000000 ∧ zs.length ≤ 4000000) ∧ 0 ≤ k ∧ k ≤ 700000000, vi (k + 7 * cs.length + 3 * es.length + 3 * ps.length + zs.length),
      [(0, some (.arr .cset (markC cs k))), (1, some (.arr .ent (markE es.length (k + 7 * cs.length)))), (2, some (.arr .ptr (markP ps.length (k + 7 * cs.length + 3 * es.length)))), (3, some (.arr .int (markI zs.length (k + 7 * cs.length + 3 * es.length + 3 * ps.length))))], []⟩
  | _, _ => no⟩
theorem s_markCore_e : EnterOk Tryz.prog 120 := ⟨_, Tryz.func120, rfl, by decide⟩
@[go_sem] def s_markCore_lv : List (List Nat) := [[1, 2], [1, 2], [1, 2], [1, 2], [1], [4]]
@[go_sem] noncomputable def s_markCore_K : Known := ((((Known.nil).cons 189 ctMarkC s_markC s_markC_e).cons 190 ctMarkE s_markE s_markE_e).cons 191 ctMarkP s_markP s_markP_e).cons 53 ctMarkI s_markI s_markI_e
set_option maxHeartbeats 8000000 in
theorem s_markCore : Sound Tryz.prog 120 ctMarkCore := by
  have ke := s_markCore_K.env []
  have kl : Lives s_markCore_lv := trivial
  refine sound_intro (E := ⟨ti, s_markCore_K.Γ, []⟩) ke Tryz.func120 Tryz.ntmps120 rfl (rs := [.tmp 4]) rfl ?_
  intro args os hp
  unfold ctMarkCore at hp ⊢
  dsimp only at hp ⊢
  split at hp
  · rename_i x n1 n2 n3 y n4 u k cs es ps zs
    refine ⟨by simp, fun φ0 w0 => ?_⟩
    obtain ⟨⟨rfl, rfl, rfl, rfl⟩, ⟨h1, h2, h3, h4⟩, h5, h6⟩ : (n1 = cs.length ∧ n2 = es.length ∧ n3 = ps.length ∧ n4 = zs.length) ∧ (cs.length ≤ 4000000 ∧ es.length ≤ 4000000 ∧ ps.length ≤ 4000000 ∧ zs.length ≤ 4000000) ∧ 0 ≤ k ∧ k ≤ 700000000 := hp
    refine goh trivial ?_
    exact finh [some 0, some 1, some 2, some 3] trivial
  · simp [no] at hp
@[go_sem] def ctMarkPool : Ct := ⟨true, [], fun args os => match args, os with
  | [.agg [.osl .str 0 0 m1, .osl .str 1 0 m2, .osl .late 2 0 m3, .val (.int .i64 x), .osl .cset 3 0 n1, .osl .ent 4 0 n2, .osl .ptr 5 0 n3, .val (.bool y), .osl .int 6 0 n4, .val (.int .i64 u), .val (.bool o)], .one (.val (.int .i64 k))], [.arr .str a, .arr .str b, .arr .late l, .arr .cset cs, .arr .ent es, .arr .ptr ps, .arr .int zs] =>
    ⟨((m1 = a.length ∧ m2 = b.length ∧ m3 = l.length) ∧ n1 = cs.length ∧ n2 = es.length ∧ n3 = ps.length ∧ n4 = zs.length) ∧ ((a.length ≤ 4000000 ∧ b.length ≤ 4000000 ∧ l.length ≤ 4000000) ∧ cs.length ≤ 4000000 ∧ es.length ≤ 4000000 ∧ ps.length ≤ 4000000 ∧ zs.length ≤ 4000000) ∧ 0 ≤ k ∧ k ≤ 600000000, vi (k + a.length + b.length + 3 * l.length + 7 * cs.length + 3 * es.length + 3 * ps.length + zs.length),
      [(0, some (.arr .str (markS a.length k))), (1, some (.arr .str (markS b.length (k + a.length)))), (2, some (.arr .late (markL l.length (k + a.length + b.length)))),
       (3, some (.arr .cset (markC cs (k + a.length + b.length + 3 * l.length)))), (4, some (.arr .ent (markE es.length (k + a.length + b.length + 3 * l.length + 7 * cs.length)))), (5, some (.arr .ptr (markP ps.length (k + a.length + b.length + 3 * l.length + 7 * cs.length + 3 * es.length)))), (6, some (.arr .int (markI zs.length (k + a.length + b.length + 3 * l.length + 7 * cs.length + 3 * es.length + 3 * ps.length))))], []⟩
  | _, _ => no⟩
theorem s_markPool_e : EnterOk Tryz.prog 47 := ⟨_, Tryz.func47, rfl, by decide⟩
@[go_sem] def s_markPool_lv : List (List Nat) := [[1, 2], [1, 2], [1], [4]]
@[go_sem] noncomputable def s_markPool_K : Known := ((Known.nil).cons 65 ctMarkDisk s_markDisk s_markDisk_e).cons 120 ctMarkCore s_markCore s_markCore_e
set_option maxHeartbeats 8000000 in
theorem s_markPool : Sound Tryz.prog 47 ctMarkPool := by
  have ke := s_markPool_K.env []
  have kl : Lives s_markPool_lv := trivial
  refine sound_intro (E := ⟨ti, s_markPool_K.Γ, []⟩) ke Tryz.func47 Tryz.ntmps47 rfl (rs := [.tmp 4]) rfl ?_
  intro args os hp
  unfold ctMarkPool at hp ⊢
  dsimp only at hp ⊢
  split at hp
  · rename_i m1 m2 m3 x n1 n2 n3 y n4 u o k a b l cs es ps zs
    refine ⟨by simp, fun φ0 w0 => ?_⟩
    obtain ⟨⟨⟨rfl, rfl, rfl⟩, rfl, rfl, rfl, rfl⟩, ⟨⟨g1, g2, g3⟩, h1, h2, h3, h4⟩, h5, h6⟩ : ((m1 = a.length ∧ m2 = b.length ∧ m3 = l.length) ∧ n1 = cs.length ∧ n2 = es.length ∧ n3 = ps.length ∧ n4 = zs.length) ∧ ((a.length ≤ 4000000 ∧ b.length ≤ 4000000 ∧ l.length ≤ 4000000) ∧ cs.length ≤ 4000000 ∧ es.length ≤ 4000000 ∧ ps.length ≤ 4000000 ∧ zs.length ≤ 4000000) ∧ 0 ≤ k ∧ k ≤ 600000000 := hp
    refine goh trivial ?_
    exact finh [some 0, some 1, some 2, some 3, some 4, some 5, some 6] trivial
  · simp [no] at hp
@[go_sem] def ctHeldCore : Ct := ⟨false, [[none, some .cset, some .ent, some .ptr, none, some .int, none]], fun args os => match args, os with
  | [.agg [.val (.int .i64 x), .isl .cset cs, .isl .ent es, .isl .ptr ps, .val (.bool y), .isl .int zs, .val (.int .i64 u)], .one (.val (.int .i64 k))], [] =>
    ifp ((cs = markC cs k ∧ es = markE es.length (k + 7 * cs.length) ∧ ps = markP ps.length (k + 7 * cs.length + 3 * es.length) ∧ zs = markI zs.length (k + 7 * cs.length + 3 * es.length + 3 * ps.length)) ∧ (cs.length ≤ 4000000 ∧ es.length ≤ 4000000 ∧ ps.length ≤ 4000000 ∧ zs.length ≤ 4000000) ∧ 0 ≤ k ∧ k ≤ 700000000) (vi (k + 7 * cs.length + 3 * es.length + 3 * ps.length + zs.length))
  | _, _ => no⟩
theorem s_heldCore_e : EnterOk Tryz.prog 122 := ⟨_, Tryz.func122, rfl, by decide⟩
@[go_sem] def s_heldCore_lv : List (List Nat) := [[1, 2], [1, 2], [1, 2, 10], [4], [1, 2], [1, 2, 16], [4], [1, 2], [1, 2, 22], [4], [1], [1, 28], [4], [4]]
@[go_sem] noncomputable def s_heldCore_K : Known := ((((Known.nil).cons 194 ctHeldC s_heldC s_heldC_e).cons 195 ctHeldE s_heldE s_heldE_e).cons 196 ctHeldP s_heldP s_heldP_e).cons 197 ctHeldI s_heldI s_heldI_e
set_option maxHeartbeats 8000000 in
theorem s_heldCore : Sound Tryz.prog 122 ctHeldCore := by
  have ke := s_heldCore_K.env []
  have kl : Lives s_heldCore_lv := trivial
  refine sound_intro (E := ⟨ti, s_heldCore_K.Γ, []⟩) ke Tryz.func122 Tryz.ntmps122 rfl (rs := [.tmp 4]) rfl ?_
  intro args os hp
  unfold ctHeldCore at hp ⊢
  dsimp only at hp ⊢
  split at hp
  · rename_i x cs es ps y zs u k
    refine ⟨by simp, fun φ0 w0 => ?_⟩
    obtain ⟨⟨e1, e2, e3, e4⟩, ⟨h1, h2, h3, h4⟩, h5, h6⟩ : (cs = markC cs k ∧ es = markE es.length (k + 7 * cs.length) ∧ ps = markP ps.length (k + 7 * cs.length + 3 * es.length) ∧ zs = markI zs.length (k + 7 * cs.length + 3 * es.length + 3 * ps.length)) ∧ (cs.length ≤ 4000000 ∧ es.length ≤ 4000000 ∧ ps.length ≤ 4000000 ∧ zs.length ≤ 4000000) ∧ 0 ≤ k ∧ k ≤ 700000000 := hp
    have c1 : decide (k + 7 * cs.length < 0) = false := by simp; omega
    have c2 : decide (k + 7 * cs.length + 3 * es.length < 0) = false := by simp; omega
    have c3 : decide (k + 7 * cs.length + 3 * es.length + 3 * ps.length < 0) = false := by simp; omega
    have c4 : decide (k + 7 * cs.length + 3 * es.length + 3 * ps.length + zs.length < 0) = false := by simp; omega
    iterate 4
      refine goh (And.intro c1 (And.intro c2 (And.intro c3 c4))) ?_
      refine W_cnd ?_ ?_ <;> intro hlit <;> try (cases hlit; done)
    refine goh trivial ?_
    exact finh [] trivial
  · simp [no, ifp] at hp
@[go_sem] def ctHeldPool : Ct := ⟨false, [[some .str, some .str, some .late, none, some .cset, some .ent, some .ptr, none, some .int, none, none]], fun args os => match args, os with
  | [.agg [.isl .str a, .isl .str b, .isl .late l, .val (.int .i64 x), .isl .cset cs, .isl .ent es, .isl .ptr ps, .val (.bool y), .isl .int zs, .val (.int .i64 u), .val (.bool o)], .one (.val (.int .i64 k))], [] =>
    ifp (((a = markS a.length k ∧ b = markS b.length (k + a.length) ∧ l = markL l.length (k + a.length + b.length)) ∧ (cs = markC cs (k + a.length + b.length + 3 * l.length) ∧ es = markE es.length (k + a.length + b.length + 3 * l.length + 7 * cs.length) ∧ ps = markP ps.length (k + a.length + b.length + 3 * l.length + 7 * cs.length + 3 * es.length) ∧ zs = markI zs.length (k + a.length + b.length + 3 * l.length + 7 * cs.length + 3 * es.length + 3 * ps.length)))
      ∧ ((a.length ≤ 4000000 ∧ b.length ≤ 4000000 ∧ l.length ≤ 4000000) ∧ cs.length ≤ 4000000 ∧ es.length ≤ 4000000 ∧ ps.length ≤ 4000000 ∧ zs.length ≤ 4000000) ∧ 0 ≤ k ∧ k ≤ 600000000) (vi (k + a.length + b.length + 3 * l.length + 7 * cs.length + 3 * es.length + 3 * ps.length + zs.length))
  | _, _ => no⟩
theorem s_heldPool_e : EnterOk Tryz.prog 48 := ⟨_, Tryz.func48, rfl, by decide⟩
@[go_sem] def s_heldPool_lv : List (List Nat) := [[1, 2], [1, 2], [1, 2, 10], [4], [1], [1, 16], [4], [4]]
@[go_sem] noncomputable def s_heldPool_K : Known := ((Known.nil).cons 121 ctHeldDisk s_heldDisk s_heldDisk_e).cons 122 ctHeldCore s_heldCore s_heldCore_e
set_option maxHeartbeats 8000000 in
theorem s_heldPool : Sound Tryz.prog 48 ctHeldPool := by
  have ke := s_heldPool_K.env []
  have kl : Lives s_heldPool_lv := trivial
  refine sound_intro (E := ⟨ti, s_heldPool_K.Γ, []⟩) ke Tryz.func48 Tryz.ntmps48 rfl (rs := [.tmp 4]) rfl ?_
  intro args os hp
  unfold ctHeldPool at hp ⊢
  dsimp only at hp ⊢
  split at hp
  · rename_i a b l x cs es ps y zs u o k
    refine ⟨by simp, fun φ0 w0 => ?_⟩
    obtain ⟨⟨⟨d1, d2, d3⟩, e1, e2, e3, e4⟩, ⟨⟨g1, g2, g3⟩, h1, h2, h3, h4⟩, h5, h6⟩ := (show ((a = markS a.length k ∧ b = markS b.length (k + a.length) ∧ l = markL l.length (k + a.length + b.length)) ∧ (cs = markC cs (k + a.length + b.length + 3 * l.length) ∧ es = markE es.length (k + a.length + b.length + 3 * l.length + 7 * cs.length) ∧ ps = markP ps.length (k + a.length + b.length + 3 * l.length + 7 * cs.length + 3 * es.length) ∧ zs = markI zs.length (k + a.length + b.length + 3 * l.length + 7 * cs.length + 3 * es.length + 3 * ps.length)))
      ∧ ((a.length ≤ 4000000 ∧ b.length ≤ 4000000 ∧ l.length ≤ 4000000) ∧ cs.length ≤ 4000000 ∧ es.length ≤ 4000000 ∧ ps.length ≤ 4000000 ∧ zs.length ≤ 4000000) ∧ 0 ≤ k ∧ k ≤ 600000000 from hp)
    have c1 : decide (k + a.length + b.length + 3 * l.length < 0) = false := by simp; omega
    have c2 : decide (k + a.length + b.length + 3 * l.length + 7 * cs.length + 3 * es.length + 3 * ps.length + zs.length < 0) = false := by simp; omega
    refine goh (And.intro c1 c2) ?_
    refine W_cnd ?_ ?_ <;> intro hlit <;> try (cases hlit; done)
    refine goh (And.intro c1 c2) ?_
    refine W_cnd ?_ ?_ <;> intro hlit <;> try (cases hlit; done)
    refine goh trivial ?_
    exact finh [] trivial
  · simp [no, ifp] at hp
end Go.Proofs.YtjedcphhajlnoaaGreatDoor
/-
  DERIVED: THE SHELF's CONTRACTS AT THIS DUMP, IN PLAIN WORDS (tools/lay-plain.mjs out of 'YtjedcphhajlnoaaGreatDoorTSh1Q.lean', which tools/lay-shelf.mjs wrote): THE SAME DECLARATIONS UNDER THE SAME NAMES: 'import', 'namespace', 'open', 'def', 'theorem' AND NOTHING ELSE: no command of the shelf's: FOR A HAND-IN. Each laying: the table of numbers ('.._ren') and one theorem, a field a fact of the dump's own or the kernel's comparison; each contract: ONE APPLICATION.
-/
namespace Go.Proofs
open Go.Shelf
def Tryz.lays160_ren : Go.Shelf.Ren := ⟨fun | 160 => 201 | 232 => 247 | 231 => 246 | 227 => 248 | 234 => 250 | 233 => 249 | 236 => 252 | 235 => 251 | 228 => 277 | 271 => 279 | 151 => 278 | 197 => 272 | 120 => 299 | 152 => 298 | 260 => 295 | 137 => 206 | 119 => 303 | 224 => 283 | 225 => 282 | 217 => 256 | 266 => 285 | n => n, fun | 9 => 9 | 4 => 4 | 3 => 3 | 5 => 5 | 117 => 266 | 116 => 265 | 0 => 0 | 124 => 269 | 21 => 21 | 105 => 282 | 46 => 221 | 119 => 310 | 139 => 313 | 138 => 312 | n => n, fun | 3 => 4 | 4 => 5 | n => n⟩
theorem Tryz.lays160 : Go.Proofs.Lays.n160 Tryz.prog Tryz.lays160_ren := {
  mixed := by kernel_rfl
  f119 := Tryz.func303.trans (congrArg some (by kernel_rfl))
  f120 := Tryz.func299.trans (congrArg some (by kernel_rfl))
  f137 := Tryz.func206.trans (congrArg some (by kernel_rfl))
  f151 := Tryz.func278.trans (congrArg some (by kernel_rfl))
  f152 := Tryz.func298.trans (congrArg some (by kernel_rfl))
  f160 := Tryz.func201.trans (congrArg some (by kernel_rfl))
  f197 := Tryz.func272.trans (congrArg some (by kernel_rfl))
  f217 := Tryz.func256.trans (congrArg some (by kernel_rfl))
  f224 := Tryz.func283.trans (congrArg some (by kernel_rfl))
  f225 := Tryz.func282.trans (congrArg some (by kernel_rfl))
  f227 := Tryz.func248.trans (congrArg some (by kernel_rfl))
  f228 := Tryz.func277.trans (congrArg some (by kernel_rfl))
  f231 := Tryz.func246.trans (congrArg some (by kernel_rfl))
  f232 := Tryz.func247.trans (congrArg some (by kernel_rfl))
  f233 := Tryz.func249.trans (congrArg some (by kernel_rfl))
  f234 := Tryz.func250.trans (congrArg some (by kernel_rfl))
  f235 := Tryz.func251.trans (congrArg some (by kernel_rfl))
  f236 := Tryz.func252.trans (congrArg some (by kernel_rfl))
  f260 := Tryz.func295.trans (congrArg some (by kernel_rfl))
  f266 := Tryz.func285.trans (congrArg some (by kernel_rfl))
  f271 := Tryz.func279.trans (congrArg some (by kernel_rfl))
  t0 := Tryz.underlying0
  a0 := Tryz.isAgg0
  z0 := Tryz.sizeOf0
  v0 := Tryz.zeroValue0
  t3 := Tryz.underlying3
  a3 := Tryz.isAgg3
  z3 := Tryz.sizeOf3
  v3 := Tryz.zeroValue3
  t4 := Tryz.underlying4
  a4 := Tryz.isAgg4
  z4 := Tryz.sizeOf4
  v4 := Tryz.zeroValue4
  t5 := Tryz.underlying5
  a5 := Tryz.isAgg5
  z5 := Tryz.sizeOf5
  v5 := Tryz.zeroValue5
  t9 := Tryz.underlying9
  a9 := Tryz.isAgg9
  z9 := Tryz.sizeOf9
  v9 := Tryz.zeroValue9
  t21 := Tryz.underlying21
  a21 := Tryz.isAgg21
  z21 := Tryz.sizeOf21
  v21 := Tryz.zeroValue21
  t46 := Tryz.underlying221
  a46 := Tryz.isAgg221
  z46 := Tryz.sizeOf221
  v46 := Tryz.zeroValue221
  t105 := Tryz.underlying282
  a105 := Tryz.isAgg282
  z105 := Tryz.sizeOf282
  v105 := Tryz.zeroValue282
  t116 := Tryz.underlying265
  a116 := Tryz.isAgg265
  z116 := Tryz.sizeOf265
  t117 := Tryz.underlying266
  a117 := Tryz.isAgg266
  z117 := Tryz.sizeOf266
  v117 := Tryz.zeroValue266
  t119 := Tryz.underlying310
  a119 := Tryz.isAgg310
  z119 := Tryz.sizeOf310
  t124 := Tryz.underlying269
  a124 := Tryz.isAgg269
  z124 := Tryz.sizeOf269
  v124 := Tryz.zeroValue269
  t138 := Tryz.underlying312
  a138 := Tryz.isAgg312
  z138 := Tryz.sizeOf312
  v138 := Tryz.zeroValue312
  t139 := Tryz.underlying313
  a139 := Tryz.isAgg313
  z139 := Tryz.sizeOf313
  v139 := Tryz.zeroValue313
  g3 := by kernel_rfl
  g4 := by kernel_rfl }
end Go.Proofs
/- strings.Trim at the small letters. -/
namespace Go.Proofs.YtjedcphhajlnoaaGreatDoor
open Go.RowKit

def small : ByteArray := ⟨#[97, 98, 99, 100, 101, 102, 103, 104, 105, 106, 107, 108, 109, 110, 111, 112, 113, 114, 115, 116, 117, 118, 119, 120, 121, 122]⟩
def trimmed (s : ByteArray) : ByteArray := ⟨(Lib.trimS s.data.toList small.data.toList).toArray⟩
@[go_sem] def ctTrim : Ct := ⟨false, [], fun args os => match args, os with
  | [.one (.val (.string s)), .one (.val (.string c))], [] => ifp (s.size ≤ 9223372036854775807 ∧ c = small) (vs (trimmed s))
  | _, _ => no⟩
theorem s_trim_e : EnterOk Tryz.prog 201 := ⟨_, Tryz.func201, rfl, by decide⟩
theorem s_trim : Sound Tryz.prog 201 ctTrim := by
  refine sound_plain fun args os hp => ?_
  unfold ctTrim at hp ⊢
  dsimp only at hp ⊢
  split at hp
  · rename_i s c
    obtain ⟨hs, rfl⟩ : s.size ≤ 9223372036854775807 ∧ c = small := hp
    refine ⟨rfl, [.string s, .string small], .string (trimmed s), rfl, rfl, fun w _ => ?_⟩
    exact Any.strings_Trim_laid Tryz.lays160 (by kernel_rfl) s small w hs (by decide) (ascii_of_all (by decide))
  · exact hp.elim
end Go.Proofs.YtjedcphhajlnoaaGreatDoor
/- Plain facts: names. -/
namespace Go.Proofs.YtjedcphhajlnoaaGreatDoor
open Go.RowKit

def isLow (b : UInt8) : Bool := decide (97 ≤ b.toNat) && decide (b.toNat ≤ 122)
/-- Is it a name: one to six small letters. -/
def nameB (s : ByteArray) : Bool := (decide (1 ≤ s.size) && decide (s.size ≤ 6)) && s.data.toList.all isLow
theorem small_low : ∀ n : Fin 256, small.data.toList.contains (UInt8.ofNat n.val) = isLow (UInt8.ofNat n.val) := by decide +kernel
theorem small_low' (b : UInt8) : small.data.toList.contains b = isLow b := by
  have h := small_low ⟨b.toNat, b.toNat_lt⟩
  simpa using h
theorem dropWhile_nil {α : Type} (p : α → Bool) : ∀ l : List α, l.dropWhile p = [] ↔ l.all p = true
  | [] => by simp
  | a :: l => by
    rw [List.dropWhile_cons, List.all_cons]
    cases h : p a
    · simp
    · simpa using dropWhile_nil p l
theorem trimmed_nil (s : ByteArray) : trimmed s = ⟨#[]⟩ ↔ s.data.toList.all isLow = true := by
  have hp : (fun b => small.data.toList.contains b) = isLow := funext small_low'
  have hsub : ∀ l : List UInt8, (l.reverse.dropWhile isLow).reverse.all isLow = true → l.all isLow = true := by
    intro l h
    rw [List.all_reverse] at h
    have h2 : l.reverse.all isLow = true := by
      rw [← List.takeWhile_append_dropWhile (p := isLow) (l := l.reverse), List.all_append, h, Bool.and_true]
      exact List.all_takeWhile
    rwa [List.all_reverse] at h2
  have hback : ∀ l : List UInt8, l.all isLow = true → l.reverse.dropWhile isLow = [] := fun l h => (dropWhile_nil _ _).2 (by rwa [List.all_reverse])
  unfold trimmed Lib.trimS Lib.trimLeftS Lib.trimRightS
  rw [hp]
  constructor
  · intro h
    have h1 : ((s.data.toList.reverse.dropWhile isLow).reverse.dropWhile isLow) = [] := by
      have h2 := congrArg (fun x : ByteArray => x.data.toList) h
      simpa using h2
    exact hsub _ ((dropWhile_nil _ _).1 h1)
  · intro h
    rw [hback _ h]
    rfl
theorem all_low (s : ByteArray) : s.data.toList.all isLow = true ↔ ∀ j, j < s.size → isLow (s.data.getD j 0) = true := by
  rw [List.all_eq_true]
  constructor
  · intro h j hj
    have hj2 : j < s.data.size := hj
    have : s.data.getD j 0 = s.data[j] := dif_pos hj2
    rw [this]
    exact h _ (by simp)
  · intro h b hb
    obtain ⟨j, hj, rfl⟩ := List.getElem_of_mem hb
    have hj2 : j < s.data.size := by simpa using hj
    have h3 := h j hj2
    rw [show s.data.getD j 0 = s.data[j] from dif_pos hj2] at h3
    simpa using h3
theorem nameB_same (s : ByteArray) : nameB s = (if 1 ≤ (s.size : Int) ∧ (s.size : Int) ≤ 6 then same (trimmed s) ⟨#[]⟩ else false) := by
  have e : same (trimmed s) ⟨#[]⟩ = s.data.toList.all isLow := by
    rw [Bool.eq_iff_iff, same_true, trimmed_nil]
  unfold nameB
  rw [e]
  by_cases h : 1 ≤ (s.size : Int) ∧ (s.size : Int) ≤ 6
  · rw [if_pos h, decide_eq_true (show 1 ≤ s.size by omega), decide_eq_true (show s.size ≤ 6 by omega)]; rfl
  · rw [if_neg h, Bool.and_eq_false_iff]
    left
    rw [Bool.and_eq_false_iff, decide_eq_false_iff_not, decide_eq_false_iff_not]
    omega
theorem nameB_false {s : ByteArray} {i : Nat} (hi : i < s.size) (h : isLow (s.data.getD i 0) = false) : nameB s = false := by
  unfold nameB
  have : s.data.toList.all isLow = false := by
    rw [← Bool.not_eq_true, all_low]
    intro h2
    rw [h2 i hi] at h; cases h
  rw [this, Bool.and_false]
theorem nameB_low {s : ByteArray} (h : ∀ j, j < s.size → isLow (s.data.getD j 0) = true) : nameB s = (if (s.size : Int) > 0 then decide ((s.size : Int) ≤ 6) else false) := by
  unfold nameB
  rw [(all_low s).2 h, Bool.and_true]
  by_cases h1 : (s.size : Int) > 0
  · rw [if_pos h1, decide_eq_true (show 1 ≤ s.size by omega), Bool.true_and, decide_eq_decide]; omega
  · rw [if_neg h1, decide_eq_false (show ¬ 1 ≤ s.size by omega)]; rfl
end Go.Proofs.YtjedcphhajlnoaaGreatDoor
/- Functions: names. -/
namespace Go.Proofs.YtjedcphhajlnoaaGreatDoor
open Go.RowKit

@[go_sem] def ctName : Ct := ⟨false, [], fun args os => match args, os with
  | [.one (.val (.string s))], [] => ifp (s.size ≤ 9223372036854775807) (vb (nameB s))
  | _, _ => no⟩
theorem s_bookName_e : EnterOk Tryz.prog 127 := ⟨_, Tryz.func127, rfl, by decide⟩
@[go_sem] def s_bookName_lv : List (List Nat) := [[0], [2]]
@[go_sem] noncomputable def s_bookName_K : Known := ((Known.nil).cons 89 ctWithin s_within s_within_e).cons 201 ctTrim s_trim s_trim_e
set_option maxHeartbeats 8000000 in
theorem s_bookName : Sound Tryz.prog 127 ctName := by
  have ke := s_bookName_K.env []
  have kl : Lives s_bookName_lv := trivial
  refine sound_intro (E := ⟨ti, s_bookName_K.Γ, []⟩) ke Tryz.func127 Tryz.ntmps127 rfl (rs := [.tmp 2]) rfl ?_
  intro args os hp
  unfold ctName at hp ⊢
  dsimp only at hp ⊢
  split at hp
  · rename_i s
    refine ⟨by simp, fun φ0 w0 => ?_⟩
    have hs : s.size ≤ 9223372036854775807 := hp
    clear hp
    repeat' first
      | with_reducible refine red ?_
      | refine W_seq ?_
      | (refine W_reg (s_bookName_K.env []) s_bookName_lv fun K' hK' => ?_
         simp only [go_sem, small, ↓reduceIte, ↓reduceDIte, reduceCtorEq, Nat.reduceAdd, Nat.reduceMul, Nat.reduceSub, Nat.reduceDiv, Nat.reduceMod, Nat.reduceLT, Nat.reduceLeDiff, Nat.reduceEqDiff, Nat.reduceBEq, Int.reduceToNat, Int.reduceLE, Int.reduceLT, Int.reduceEq, Int.reduceNe, Int.reduceNeg]
         (repeat' refine And.intro ?_ ?_) <;> try first | with_reducible refine hK' ?_ | exact shut6)
      | with_reducible refine blockG_o (by decide) ?_
    refine ⟨by (simp only [go_sem, ↓reduceIte, reduceCtorEq, Nat.reduceAdd, Nat.reduceLT, Nat.reduceLeDiff, Nat.reduceEqDiff]) <;> trivial, [], ?_⟩
    all_goals try simp only [go_sem, inj_r, ↓reduceIte, reduceCtorEq, Nat.reduceAdd, Nat.reduceLT, Nat.reduceLeDiff, Nat.reduceEqDiff, Int.reduceEq]
    all_goals (repeat' refine And.intro ?_ ?_) <;> try exact shut7
    exact (nameB_same s).symm
  · simp [no, ifp] at hp
@[go_sem] def sgName (s : ByteArray) (i : Nat) : Sg := ⟨[(0, vs s), (3, vi i)], [], []⟩
theorem s_specName_e : EnterOk Tryz.prog 132 := ⟨_, Tryz.func132, rfl, by decide⟩
@[go_sem] def s_specName_lv : List (List Nat) := [[0], [0, 3], [0, 3, 7], [0, 3], [0, 3, 19], [2], [2]]
@[go_sem] noncomputable def s_specName_K : Known := Known.nil
set_option maxHeartbeats 8000000 in
theorem s_specName : Sound Tryz.prog 132 ctName := by
  have ke := s_specName_K.env []
  have kl : Lives s_specName_lv := trivial
  refine sound_intro (E := ⟨ti, s_specName_K.Γ, []⟩) ke Tryz.func132 Tryz.ntmps132 rfl (rs := [.tmp 2]) rfl ?_
  intro args os hp
  unfold ctName at hp ⊢
  dsimp only at hp ⊢
  split at hp
  · rename_i s
    refine ⟨by simp, fun φ0 w0 => ?_⟩
    have hs : s.size ≤ 9223372036854775807 := hp
    clear hp
    refine goh trivial ?_
    refine W_le (σ' := sgName s 0) [] (by
      simp only [go_sem, inj_r, ↓reduceIte, reduceCtorEq, Nat.reduceAdd, Nat.reduceLT, Nat.reduceLeDiff, Nat.reduceEqDiff, Int.reduceEq]
      all_goals (repeat' refine And.intro ?_ ?_) <;> try exact shut7
      ) ?_
    refine W_loop (fun q σ => ∃ i : Nat, i ≤ s.size ∧ q = s.size - i ∧ (∀ j, j < i → isLow (s.data.getD j 0) = true) ∧ σ = sgName s i) s.size ⟨0, by omega, by omega, by omega, rfl⟩ ?_
    rintro q σ ⟨i, hi, rfl, hbef, rfl⟩
    unfold sgName
    refine goh trivial ?_
    refine W_cnd ?_ ?_ <;> (try simp only [cnd_r]) <;> intro hlt
    · refine goh trivial ?_
      refine W_cnd ?_ ?_ <;> (try simp only [cnd_r]) <;> intro hc
      · have hl : isLow (s.data.getD i 0) = false := by
          unfold isLow
          rw [Bool.and_eq_false_iff, decide_eq_false_iff_not, decide_eq_false_iff_not]; omega
        have e := nameB_false (by omega) hl
        refine goh trivial ?_
        exact finh [] e
      · have hl : isLow (s.data.getD i 0) = true := by
          unfold isLow
          rw [Bool.and_eq_true, decide_eq_true_eq, decide_eq_true_eq]; omega
        refine goh trivial ?_
        refine ⟨s.size - (i + 1), [], sgName s (i + 1), by omega, ?_, i + 1, by omega, rfl, fun j hj => ?_, rfl⟩
        · exact leh trivial
        · rcases Nat.lt_succ_iff_lt_or_eq.1 hj with h | rfl
          · exact hbef j h
          · exact hl
    · have e := nameB_low (s := s) fun j hj => hbef j (by omega)
      refine goh trivial ?_
      exact finh [] e
  · simp [no, ifp] at hp
end Go.Proofs.YtjedcphhajlnoaaGreatDoor
/- Plain facts: books. -/
namespace Go.Proofs.YtjedcphhajlnoaaGreatDoor
open Go.RowKit

def long24 (t : ByteArray) : Bool := decide ((t.size : Int) > 24)
noncomputable def atB (xs : List BSet) (name : ByteArray) : Int := firstAt (fun x => same x.name name) xs
/-- The set of that name, or none. -/
noncomputable def setOf (xs : List BSet) (name : ByteArray) : BSet := xs.getD (atB xs name).toNat ET.bset.dflt
/-- Does following From lead to a volume without one, in so many rounds? -/
noncomputable def leadsN (xs : List BSet) : Nat → BSet → Bool
  | 0, _ => false
  | n + 1, s => if same s.from_ ⟨#[]⟩ = true then s.kind == 1 else if atB xs s.from_ < 0 ∨ (setOf xs s.from_).kind = s.kind then false else leadsN xs n (setOf xs s.from_)
def big8 (x : BSet) : Bool := [x.blocks.x0, x.blocks.x1, x.blocks.x2, x.blocks.x3, x.blocks.x4, x.blocks.x5, x.blocks.x6, x.blocks.x7].any long24
def lessB (a b : ByteArray) : Bool := Op.bytesLess a.toList b.toList
/-- The set of place i is well formed. -/
structure SetOk (xs : List BSet) (i : Nat) : Prop where
  name : nameB (xs.getD i ET.bset.dflt).name = true
  less : 0 < i → lessB (xs.getD (i - 1) ET.bset.dflt).name (xs.getD i ET.bset.dflt).name = true
  kind : (xs.getD i ET.bset.dflt).kind = 1 ∨ (xs.getD i ET.bset.dflt).kind = 2
  small : big8 (xs.getD i ET.bset.dflt) = false
structure BookP (xs : List BSet) : Prop where
  few : xs.length ≤ 6
  each : ∀ i, i < xs.length → SetOk xs i
  leads : xs.any (fun s => !leadsN xs xs.length s) = false
noncomputable def bookB (xs : List BSet) : Bool := @decide (BookP xs) (Classical.propDecidable _)
theorem bookB_true {xs : List BSet} : bookB xs = true ↔ BookP xs := by simp [bookB]
theorem bookB_false {xs : List BSet} : bookB xs = false ↔ ¬ BookP xs := by simp [bookB]
theorem bad_expr (A B k1 k2 G : Bool) (P : Prop) [Decidable P] : (if (if (if (!A) = true then true else if P then !B else false) = true then true else if k1 = true then k2 else false) = true then true else G) = false ↔ A = true ∧ (P → B = true) ∧ (k1 = false ∨ k2 = false) ∧ G = false := by
  by_cases h : P <;> cases A <;> cases B <;> cases k1 <;> cases k2 <;> cases G <;> simp [h]
end Go.Proofs.YtjedcphhajlnoaaGreatDoor
/- Plain facts: books in order. -/
namespace Go.Proofs.YtjedcphhajlnoaaGreatDoor
open Go.RowKit

theorem bl_irrefl : ∀ x : List UInt8, Op.bytesLess x x = false
  | [] => rfl
  | a :: x => by
    show (decide (a < a) || (a == a && Op.bytesLess x x)) = false
    rw [bl_irrefl x]; simp
theorem bl_trans : ∀ x y z : List UInt8, Op.bytesLess x y = true → Op.bytesLess y z = true → Op.bytesLess x z = true
  | [], [], z, h, _ => by simp [Op.bytesLess] at h
  | [], b :: y, [], _, h => by simp [Op.bytesLess] at h
  | [], b :: y, c :: z, _, _ => rfl
  | a :: x, [], z, h, _ => by simp [Op.bytesLess] at h
  | a :: x, b :: y, [], _, h => by simp [Op.bytesLess] at h
  | a :: x, b :: y, c :: z, h1, h2 => by
    simp only [Op.bytesLess, Bool.or_eq_true, Bool.and_eq_true, decide_eq_true_eq, beq_iff_eq] at h1 h2 ⊢
    rcases h1 with h1 | ⟨rfl, h1⟩
    · rcases h2 with h2 | ⟨rfl, h2⟩
      · exact .inl (by rw [UInt8.lt_iff_toNat_lt] at *; omega)
      · exact .inl h1
    · rcases h2 with h2 | ⟨rfl, h2⟩
      · exact .inl h2
      · exact .inr ⟨rfl, bl_trans x y z h1 h2⟩
theorem bl_total : ∀ x y : List UInt8, Op.bytesLess x y = true ∨ x = y ∨ Op.bytesLess y x = true
  | [], [] => .inr (.inl rfl)
  | [], _ :: _ => .inl rfl
  | _ :: _, [] => .inr (.inr rfl)
  | a :: x, b :: y => by
    simp only [Op.bytesLess, Bool.or_eq_true, Bool.and_eq_true, decide_eq_true_eq, beq_iff_eq]
    by_cases h : a < b
    · exact .inl (.inl h)
    · by_cases h2 : b < a
      · exact .inr (.inr (.inl h2))
      · have e : a = b := by
          rw [UInt8.lt_iff_toNat_lt] at h h2
          exact UInt8.toNat_inj.1 (by omega)
        subst e
        rcases bl_total x y with h3 | rfl | h3
        · exact .inl (.inr ⟨rfl, h3⟩)
        · exact .inr (.inl rfl)
        · exact .inr (.inr (.inr ⟨rfl, h3⟩))
theorem toList_inj {a b : ByteArray} (h : a.toList = b.toList) : a = b := by
  have := toList_same a b
  rw [h, beq_self_eq_true] at this
  exact same_true.1 this.symm
theorem less_irrefl (a : ByteArray) : lessB a a = false := bl_irrefl _
theorem less_trans {a b c : ByteArray} (h1 : lessB a b = true) (h2 : lessB b c = true) : lessB a c = true := bl_trans _ _ _ h1 h2
theorem less_total (a b : ByteArray) : lessB a b = true ∨ a = b ∨ lessB b a = true := by
  rcases bl_total a.toList b.toList with h | h | h
  · exact .inl h
  · exact .inr (.inl (toList_inj h))
  · exact .inr (.inr h)
/-- One name after the other. -/
structure Sorted (xs : List BSet) : Prop where
  next : ∀ i, 0 < i → i < xs.length → lessB (xs.getD (i - 1) ET.bset.dflt).name (xs.getD i ET.bset.dflt).name = true
theorem Sorted.lt {xs : List BSet} (h : Sorted xs) (i : Nat) : ∀ d, i + d + 1 < xs.length → lessB (xs.getD i ET.bset.dflt).name (xs.getD (i + d + 1) ET.bset.dflt).name = true
  | 0, hd => h.next (i + 1) (by omega) hd
  | d + 1, hd => less_trans (h.lt i d (by omega)) (h.next (i + (d + 1) + 1) (by omega) hd)
/-- How many names stand ahead. -/
def lowN (xs : List BSet) (name : ByteArray) : Nat := xs.findIdx fun s => !lessB s.name name
noncomputable def thereB (xs : List BSet) (name : ByteArray) : Bool := decide (lowN xs name < xs.length) && same (xs.getD (lowN xs name) ET.bset.dflt).name name
theorem lowN_le (xs : List BSet) (name : ByteArray) : lowN xs name ≤ xs.length := List.findIdx_le_length
theorem lowN_before {xs : List BSet} {name : ByteArray} {i : Nat} (h : i < lowN xs name) : lessB (xs.getD i ET.bset.dflt).name name = true := by
  have hl := lowN_le xs name
  have h1 := List.not_of_lt_findIdx (p := fun s : BSet => !lessB s.name name) h
  have h2 : xs.getD i ET.bset.dflt = xs[i]'(by omega) := by simp [show i < xs.length by omega]
  rw [h2]; simpa using h1
theorem lowN_at {xs : List BSet} {name : ByteArray} (h : lowN xs name < xs.length) : lessB (xs.getD (lowN xs name) ET.bset.dflt).name name = false := by
  have h1 := List.findIdx_getElem (p := fun s : BSet => !lessB s.name name) (w := h)
  have h2 : xs.getD (lowN xs name) ET.bset.dflt = xs[lowN xs name]'h := by simp [h]
  rw [h2]
  have h3 : (!lessB (xs[lowN xs name]'h).name name) = true := h1
  simpa using h3
theorem lowN_eq {xs : List BSet} {name : ByteArray} {i : Nat} (hi : i ≤ xs.length) (hb : ∀ j, j < i → lessB (xs.getD j ET.bset.dflt).name name = true) (hs : i = xs.length ∨ lessB (xs.getD i ET.bset.dflt).name name = false) : lowN xs name = i := by
  have hl := lowN_le xs name
  rcases Nat.lt_trichotomy (lowN xs name) i with h | h | h
  · have h1 := hb _ h
    rw [lowN_at (by omega)] at h1; cases h1
  · exact h
  · have h1 := lowN_before h
    rcases hs with hs | hs
    · omega
    · rw [hs] at h1; cases h1
/-- In order: the two ways to look a name up agree. -/
theorem at_low {xs : List BSet} (h : Sorted xs) (name : ByteArray) : (thereB xs name = true → atB xs name = lowN xs name) ∧ (thereB xs name = false → atB xs name < 0) := by
  have hl := lowN_le xs name
  constructor
  · intro ht
    unfold thereB at ht
    rw [Bool.and_eq_true, decide_eq_true_eq, same_true] at ht
    refine firstAt_some (d := ET.bset.dflt) ht.1 (fun j hj => ?_) (same_true.2 ht.2)
    rw [same_false]
    intro he
    have := lowN_before hj
    rw [he, less_irrefl] at this; cases this
  · intro ht
    have e : atB xs name = -1 := firstAt_none (d := ET.bset.dflt) fun j hj => by
      rw [same_false]
      intro he
      rcases Nat.lt_trichotomy j (lowN xs name) with hlt | hlt | hlt
      · have := lowN_before hlt
        rw [he, less_irrefl] at this; cases this
      · subst hlt
        have : thereB xs name = true := by
          unfold thereB
          rw [Bool.and_eq_true, decide_eq_true_eq, same_true]; exact ⟨hj, he⟩
        rw [this] at ht; cases ht
      · have h1 := lowN_at (xs := xs) (name := name) (by omega)
        have h2 := h.lt (lowN xs name) (j - lowN xs name - 1) (by omega)
        rw [show lowN xs name + (j - lowN xs name - 1) + 1 = j by omega, he] at h2
        rw [h2] at h1; cases h1
    rw [e]; decide
theorem pigeon : ∀ (n : Nat) (l : List Nat), l.Nodup → (∀ j ∈ l, j < n) → l.length ≤ n
  | 0, l, _, h => by
    cases l with
    | nil => exact Nat.le_refl _
    | cons a r => exact absurd (h a (by simp)) (Nat.not_lt_zero _)
  | n + 1, l, hd, h => by
    have h1 := pigeon n (l.erase n) (hd.erase n) (fun j hj => by
      have h2 := h j (List.mem_of_mem_erase hj)
      have h3 : j ≠ n := fun e => by subst e; exact hd.not_mem_erase hj
      omega)
    have h2 := List.length_erase (a := n) (l := l)
    split at h2 <;> omega
theorem leads_mono (xs : List BSet) : ∀ (n : Nat) (s : BSet), leadsN xs n s = true → leadsN xs (n + 1) s = true
  | 0, s, h => by simp [leadsN] at h
  | n + 1, s, h => by
    unfold leadsN at h ⊢
    split
    · rename_i hf; rw [if_pos hf] at h; exact h
    · rename_i hf
      rw [if_neg hf] at h
      split
      · rename_i hk; rw [if_pos hk] at h; exact h
      · rename_i hk
        rw [if_neg hk] at h
        exact leads_mono xs n _ h
theorem setOf_at (xs : List BSet) (name : ByteArray) (h : ¬ atB xs name < 0) : (atB xs name).toNat < xs.length := by
  unfold atB firstAt at h ⊢
  split at h
  · rename_i i hi
    rw [List.findIdx?_eq_some_iff_getElem] at hi
    obtain ⟨hi, -⟩ := hi
    simpa using hi
  · exact absurd (by decide) h
/-- Who needs so many rounds has so many sets ahead. -/
theorem leads_chain (xs : List BSet) : ∀ (m k : Nat), k < xs.length → leadsN xs (m + 1) (xs.getD k ET.bset.dflt) = true → leadsN xs m (xs.getD k ET.bset.dflt) = false →
    ∃ l : List Nat, l.length = m + 1 ∧ l.Nodup ∧ ∀ j ∈ l, j < xs.length ∧ leadsN xs (m + 1) (xs.getD j ET.bset.dflt) = true
  | 0, k, hk, h1, _ => ⟨[k], rfl, by simp, fun j hj => by rw [List.mem_singleton] at hj; subst hj; exact ⟨hk, h1⟩⟩
  | m + 1, k, hk, h1, h2 => by
    have h1' := h1
    have h2' := h2
    unfold leadsN at h1 h2
    by_cases hf : same (xs.getD k ET.bset.dflt).from_ ⟨#[]⟩ = true
    · rw [if_pos hf] at h1 h2
      rw [h1] at h2; cases h2
    · rw [if_neg hf] at h1 h2
      by_cases hc : atB xs (xs.getD k ET.bset.dflt).from_ < 0 ∨ (setOf xs (xs.getD k ET.bset.dflt).from_).kind = (xs.getD k ET.bset.dflt).kind
      · rw [if_pos hc] at h1; cases h1
      · rw [if_neg hc] at h1 h2
        have hj := setOf_at xs (xs.getD k ET.bset.dflt).from_ fun h => hc (.inl h)
        obtain ⟨l, l1, l2, l3⟩ := leads_chain xs m (atB xs (xs.getD k ET.bset.dflt).from_).toNat hj h1 h2
        refine ⟨k :: l, by simp [l1], ?_, fun j hj => ?_⟩
        · rw [List.nodup_cons]
          refine ⟨fun hm => ?_, l2⟩
          have := (l3 k hm).2
          rw [h2'] at this; cases this
        · rcases List.mem_cons.1 hj with rfl | hm
          · exact ⟨hk, h1'⟩
          · exact ⟨(l3 j hm).1, leads_mono xs _ _ (l3 j hm).2⟩
/-- One round more says no more. -/
theorem leads_more (xs : List BSet) (k : Nat) (hk : k < xs.length) : leadsN xs (xs.length + 1) (xs.getD k ET.bset.dflt) = leadsN xs xs.length (xs.getD k ET.bset.dflt) := by
  cases h : leadsN xs xs.length (xs.getD k ET.bset.dflt) with
  | true => exact leads_mono xs _ _ h
  | false =>
    rw [← Bool.not_eq_true]
    intro h2
    obtain ⟨l, l1, l2, l3⟩ := leads_chain xs xs.length k hk h2 h
    have := pigeon xs.length l l2 fun j hj => (l3 j hj).1
    omega
theorem there_lt {xs : List BSet} {name : ByteArray} (h : thereB xs name = true) : lowN xs name < xs.length ∧ (xs.getD (lowN xs name) ET.bset.dflt).name = name := by
  unfold thereB at h
  rw [Bool.and_eq_true, decide_eq_true_eq, same_true] at h
  exact h
theorem book_sorted {xs : List BSet} (h : BookP xs) : Sorted xs := ⟨fun i h0 hi => (h.each i hi).less h0⟩
end Go.Proofs.YtjedcphhajlnoaaGreatDoor
