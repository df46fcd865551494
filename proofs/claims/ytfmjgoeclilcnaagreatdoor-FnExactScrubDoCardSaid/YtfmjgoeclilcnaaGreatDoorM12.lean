import Derived.Ground.NamesProg
import Derived.Shelf.Strconv.Itoa3
import Derived.Test.YtfmjgoeclilcnaaGreatDoorProg
import Derived.WalkKit
import Derived.Lib.AtoiAll
import Derived.Lib.AtoiTie
import Derived.Lib.ItoaNum
import Derived.Lib.Join
import Derived.Lib.SplitLaws
import Derived.Test.YtfmjgoeclilcnaaGreatDoorM5
import Derived.Test.YtfmjgoeclilcnaaGreatDoorM6
import Derived.Test.YtfmjgoeclilcnaaGreatDoorM7
import Derived.Test.YtfmjgoeclilcnaaGreatDoorM9
import Derived.Test.YtfmjgoeclilcnaaGreatDoorM11
set_option linter.unusedSimpArgs false
set_option linter.unusedVariables false
set_option linter.unusedSectionVars false
namespace Go.Proofs.YtfmjgoeclilcnaaGreatDoor
open Go.RowKit
def markE (n : Nat) (k : Int) : List Ent := (List.range n).map fun i : Nat => ⟨k + 3 * (i : Int), k + 3 * (i : Int) + 1, k + 3 * (i : Int) + 2⟩
def markP (n : Nat) (k : Int) : List Ptr := (List.range n).map fun i : Nat => ⟨k + 3 * (i : Int), k + 3 * (i : Int) + 1, k + 3 * (i : Int) + 2⟩
def markC1 (s : CSet) (k : Int) : CSet := ⟨markT k, k + 1, markT (k + 2), s.map, ⟨k + 3, k + 4, k + 5⟩, (k + 6).tmod 3 == 0⟩
def markC (xs : List CSet) (k : Int) : List CSet := (List.range xs.length).map fun i : Nat => markC1 (xs.getD i ET.cset.dflt) (k + 7 * (i : Int))
@[go_sem] theorem markE_len (n : Nat) (k : Int) : (markE n k).length = n := by simp [markE]
@[go_sem] theorem markP_len (n : Nat) (k : Int) : (markP n k).length = n := by simp [markP]
@[go_sem] theorem markC_len (xs : List CSet) (k : Int) : (markC xs k).length = xs.length := by simp [markC]
@[go_sem] theorem markE_take (n : Nat) (k : Int) : (markE n k).take n = markE n k := List.take_of_length_le (by simp [markE])
@[go_sem] theorem markP_take (n : Nat) (k : Int) : (markP n k).take n = markP n k := List.take_of_length_le (by simp [markP])
@[go_sem] theorem markC_take (xs : List CSet) (k : Int) : (markC xs k).take xs.length = markC xs k := List.take_of_length_le (by simp [markC])
theorem markE_get {n : Nat} {k : Int} {i : Nat} (h : i < n) (d : Ent) : (markE n k).getD i d = ⟨k + 3 * i, k + 3 * i + 1, k + 3 * i + 2⟩ := by simp [markE, h]
theorem markP_get {n : Nat} {k : Int} {i : Nat} (h : i < n) (d : Ptr) : (markP n k).getD i d = ⟨k + 3 * i, k + 3 * i + 1, k + 3 * i + 2⟩ := by simp [markP, h]
theorem markC_get {xs : List CSet} {k : Int} {i : Nat} (h : i < xs.length) (d : CSet) : (markC xs k).getD i d = markC1 (xs.getD i ET.cset.dflt) (k + 7 * i) := by simp [markC, h]
theorem mix_here {α : Type} {ms xs : List α} {i : Nat} {d : α} (hl : ms.length = xs.length) (hi : i < xs.length) : (mix ms xs i).getD i d = xs.getD i d := by
 unfold mix
 simp [List.getElem?_append_right, hl, show i ≤ xs.length by omega, List.length_take, Nat.min_eq_left, hi]
@[go_sem] def ctMarkE : Ct := ⟨true, [], fun args os => match args, os with
  | [.one (.osl .ent 0 0 n), .one (.val (.int .i64 k))], [.arr .ent xs] => ⟨n = xs.length ∧ xs.length ≤ 4000000 ∧ 0 ≤ k ∧ k ≤ 1000000000, vi (k + 3 * xs.length), [(0, some (.arr .ent (markE xs.length k)))], []⟩
  | _, _ => no⟩
theorem s_markE_e : EnterOk Tryz.prog 72 := ⟨_, Tryz.func72, rfl, by decide⟩
@[go_sem] def s_markE_lv : List (List Nat) := [[0, 1], [0, 1, 5], [0, 1, 5, 9], [0, 1, 5], [0, 1, 5], [0, 1, 5], [0, 1, 5], [0, 1, 5], [0, 1, 5], [0, 1, 5], [4]]
@[go_sem] noncomputable def s_markE_K : Known := Known.nil
set_option maxHeartbeats 8000000 in
theorem s_markE : Sound Tryz.prog 72 ctMarkE := by
 have ke := s_markE_K.env []
 have kl : Lives s_markE_lv := trivial
 refine sound_intro (E := ⟨ti, s_markE_K.Γ, []⟩) ke Tryz.func72 Tryz.ntmps72 rfl (rs := [.tmp 4]) rfl ?_
 intro args os hp
 unfold ctMarkE at hp ⊢
 dsimp only at hp ⊢
 split at hp
 ·rename_i n k xs
  refine ⟨by simp, fun φ0 w0 => ?_⟩
  obtain ⟨rfl, h1, h2, h3⟩ : n = xs.length ∧ xs.length ≤ 4000000 ∧ 0 ≤ k ∧ k ≤ 1000000000 := hp
  have hml := markE_len xs.length k
  have hz := mix_zero (markE xs.length k) xs
  refine goh trivial ?_
  refine W_for xs.length (fun i => True) (fun i => ⟨[(0, .one (.osl .ent 0 0 xs.length)), (1, vi (k + 3 * i)), (5, vi i)], [some (.arr .ent (mix (markE xs.length k) xs i))], [0]⟩) [some 0] (leh hz) trivial fun i hi _ => ?_
  have hm := mix_len (markE xs.length k) xs i hml
  refine goh hm ?_
  refine W_cnd ?_ ?_ <;> (try simp only [cnd_r]) <;> intro hlt
  ·have hli : i < xs.length := by omega
   have w1 : IntKind.i64.wrap (k + 3 * i + 1) = k + 3 * i + 1 := wrap_id _ (by omega) (by omega)
   have w2 : IntKind.i64.wrap (k + 3 * i + 1 + 1) = k + 3 * i + 2 := by rw [wrap_id _ (by omega) (by omega)]; omega
   have w3 : IntKind.i64.wrap (k + 3 * i + 2 + 1) = k + 3 * (i + 1) := by rw [wrap_id _ (by omega) (by omega)]; omega
   have w4 : IntKind.i64.wrap (k + 3 * i) = k + 3 * i := wrap_id _ (by omega) (by omega)
   have w5 : IntKind.i64.wrap (k + 3 * i + 2) = k + 3 * i + 2 := wrap_id _ (by omega) (by omega)
   have hg : ∀ x : Ent, ((mix (markE xs.length k) xs i).set i x).getD i ET.ent.dflt = x := fun x => by
    rw [List.getD_eq_getElem?_getD, List.getElem?_set, if_pos rfl, if_pos (by omega)]; rfl
   have hs := mix_set (markE xs.length k) xs i ET.ent.dflt hml (by omega) (x := ⟨k + 3 * i, k + 3 * i + 1, k + 3 * i + 2⟩) (markE_get (by omega) _).symm
   repeat' first
    | with_reducible refine red ?_
    | refine W_seq ?_
    | (refine W_reg (s_markE_K.env []) s_markE_lv fun K' hK' => ?_
       simp only [go_sem, hm, w1, w2, w3, w4, w5, List.length_set, hg, List.set_set, ↓reduceIte, ↓reduceDIte, reduceCtorEq, Nat.reduceAdd, Nat.reduceMul, Nat.reduceSub, Nat.reduceDiv, Nat.reduceMod, Nat.reduceLT, Nat.reduceLeDiff, Nat.reduceEqDiff, Nat.reduceBEq, Int.reduceToNat, Int.reduceLE, Int.reduceLT, Int.reduceEq, Int.reduceNe, Int.reduceNeg]
       (repeat' refine And.intro ?_ ?_) <;> try first | with_reducible refine hK' ?_ | exact shut6)
    | with_reducible refine blockG_o (by decide) ?_
   exact ⟨[some 0], by omega, leh (And.intro hs hm), trivial⟩
  ·obtain rfl : i = xs.length := by omega
   have hs := mix_all (markE xs.length k) xs xs.length hml rfl
   refine goh hm ?_
   exact finh [some 0] hs
 ·simp [no] at hp
@[go_sem] def ctMarkP : Ct := ⟨true, [], fun args os => match args, os with
  | [.one (.osl .ptr 0 0 n), .one (.val (.int .i64 k))], [.arr .ptr xs] => ⟨n = xs.length ∧ xs.length ≤ 4000000 ∧ 0 ≤ k ∧ k ≤ 1000000000, vi (k + 3 * xs.length), [(0, some (.arr .ptr (markP xs.length k)))], []⟩
  | _, _ => no⟩
theorem s_markP_e : EnterOk Tryz.prog 28 := ⟨_, Tryz.func28, rfl, by decide⟩
@[go_sem] def s_markP_lv : List (List Nat) := [[0, 1], [0, 1, 5], [0, 1, 5, 9], [0, 1, 5], [0, 1, 5], [0, 1, 5], [0, 1, 5], [0, 1, 5], [0, 1, 5], [0, 1, 5], [4]]
@[go_sem] noncomputable def s_markP_K : Known := Known.nil
set_option maxHeartbeats 8000000 in
theorem s_markP : Sound Tryz.prog 28 ctMarkP := by
 have ke := s_markP_K.env []
 have kl : Lives s_markP_lv := trivial
 refine sound_intro (E := ⟨ti, s_markP_K.Γ, []⟩) ke Tryz.func28 Tryz.ntmps28 rfl (rs := [.tmp 4]) rfl ?_
 intro args os hp
 unfold ctMarkP at hp ⊢
 dsimp only at hp ⊢
 split at hp
 ·rename_i n k xs
  refine ⟨by simp, fun φ0 w0 => ?_⟩
  obtain ⟨rfl, h1, h2, h3⟩ : n = xs.length ∧ xs.length ≤ 4000000 ∧ 0 ≤ k ∧ k ≤ 1000000000 := hp
  have hml := markP_len xs.length k
  have hz := mix_zero (markP xs.length k) xs
  refine goh trivial ?_
  refine W_for xs.length (fun i => True) (fun i => ⟨[(0, .one (.osl .ptr 0 0 xs.length)), (1, vi (k + 3 * i)), (5, vi i)], [some (.arr .ptr (mix (markP xs.length k) xs i))], [0]⟩) [some 0] (leh hz) trivial fun i hi _ => ?_
  have hm := mix_len (markP xs.length k) xs i hml
  refine goh hm ?_
  refine W_cnd ?_ ?_ <;> (try simp only [cnd_r]) <;> intro hlt
  ·have hli : i < xs.length := by omega
   have w1 : IntKind.i64.wrap (k + 3 * i + 1) = k + 3 * i + 1 := wrap_id _ (by omega) (by omega)
   have w2 : IntKind.i64.wrap (k + 3 * i + 1 + 1) = k + 3 * i + 2 := by rw [wrap_id _ (by omega) (by omega)]; omega
   have w3 : IntKind.i64.wrap (k + 3 * i + 2 + 1) = k + 3 * (i + 1) := by rw [wrap_id _ (by omega) (by omega)]; omega
   have w4 : IntKind.i64.wrap (k + 3 * i) = k + 3 * i := wrap_id _ (by omega) (by omega)
   have w5 : IntKind.i64.wrap (k + 3 * i + 2) = k + 3 * i + 2 := wrap_id _ (by omega) (by omega)
   have hg : ∀ x : Ptr, ((mix (markP xs.length k) xs i).set i x).getD i ET.ptr.dflt = x := fun x => by
    rw [List.getD_eq_getElem?_getD, List.getElem?_set, if_pos rfl, if_pos (by omega)]; rfl
   have hs := mix_set (markP xs.length k) xs i ET.ptr.dflt hml (by omega) (x := ⟨k + 3 * i, k + 3 * i + 1, k + 3 * i + 2⟩) (markP_get (by omega) _).symm
   repeat' first
    | with_reducible refine red ?_
    | refine W_seq ?_
    | (refine W_reg (s_markP_K.env []) s_markP_lv fun K' hK' => ?_
       simp only [go_sem, hm, w1, w2, w3, w4, w5, List.length_set, hg, List.set_set, ↓reduceIte, ↓reduceDIte, reduceCtorEq, Nat.reduceAdd, Nat.reduceMul, Nat.reduceSub, Nat.reduceDiv, Nat.reduceMod, Nat.reduceLT, Nat.reduceLeDiff, Nat.reduceEqDiff, Nat.reduceBEq, Int.reduceToNat, Int.reduceLE, Int.reduceLT, Int.reduceEq, Int.reduceNe, Int.reduceNeg]
       (repeat' refine And.intro ?_ ?_) <;> try first | with_reducible refine hK' ?_ | exact shut6)
    | with_reducible refine blockG_o (by decide) ?_
   exact ⟨[some 0], by omega, leh (And.intro hs hm), trivial⟩
  ·obtain rfl : i = xs.length := by omega
   have hs := mix_all (markP xs.length k) xs xs.length hml rfl
   refine goh hm ?_
   exact finh [some 0] hs
 ·simp [no] at hp
@[go_sem] def ctMarkC : Ct := ⟨true, [], fun args os => match args, os with
  | [.one (.osl .cset 0 0 n), .one (.val (.int .i64 k))], [.arr .cset xs] => ⟨n = xs.length ∧ xs.length ≤ 4000000 ∧ 0 ≤ k ∧ k ≤ 1000000000, vi (k + 7 * xs.length), [(0, some (.arr .cset (markC xs k)))], []⟩
  | _, _ => no⟩
theorem s_markC_e : EnterOk Tryz.prog 71 := ⟨_, Tryz.func71, rfl, by decide⟩
@[go_sem] def s_markC_lv : List (List Nat) := [[0, 1], [0, 1, 5], [0, 1, 5, 9], [0, 1, 5], [0, 1, 5], [0, 1, 5], [0, 1, 5], [0, 1, 5], [0, 1, 5], [0, 1, 5], [0, 1, 5], [0, 1, 5], [0, 1, 5], [0, 1, 5], [0, 1, 5], [0, 1, 5], [0, 1, 5], [0, 1, 5], [4]]
@[go_sem] noncomputable def s_markC_K : Known := (Known.nil).cons 157 ctMarkT s_markT s_markT_e
set_option maxHeartbeats 8000000 in
theorem s_markC : Sound Tryz.prog 71 ctMarkC := by
 have ke := s_markC_K.env []
 have kl : Lives s_markC_lv := trivial
 refine sound_intro (E := ⟨ti, s_markC_K.Γ, []⟩) ke Tryz.func71 Tryz.ntmps71 rfl (rs := [.tmp 4]) rfl ?_
 intro args os hp
 unfold ctMarkC at hp ⊢
 dsimp only at hp ⊢
 split at hp
 ·rename_i n k xs
  refine ⟨by simp, fun φ0 w0 => ?_⟩
  obtain ⟨rfl, h1, h2, h3⟩ : n = xs.length ∧ xs.length ≤ 4000000 ∧ 0 ≤ k ∧ k ≤ 1000000000 := hp
  have hml := markC_len xs k
  have hz := mix_zero (markC xs k) xs
  refine goh trivial ?_
  refine W_for xs.length (fun i => True) (fun i => ⟨[(0, .one (.osl .cset 0 0 xs.length)), (1, vi (k + 7 * i)), (5, vi i)], [some (.arr .cset (mix (markC xs k) xs i))], [0]⟩) [some 0] (leh hz) trivial fun i hi _ => ?_
  have hm := mix_len (markC xs k) xs i hml
  refine goh hm ?_
  refine W_cnd ?_ ?_ <;> (try simp only [cnd_r]) <;> intro hlt
  ·have hli : i < xs.length := by omega
   obtain ⟨q, hq⟩ : ∃ q : Int, q = k + 7 * i := ⟨_, rfl⟩
   have w0 : IntKind.i64.wrap q = q := wrap_id _ (by omega) (by omega)
   have w1 : IntKind.i64.wrap (q + 1) = q + 1 := wrap_id _ (by omega) (by omega)
   have w2 : IntKind.i64.wrap (q + 1 + 1) = q + 2 := by rw [wrap_id _ (by omega) (by omega)]; omega
   have w3 : IntKind.i64.wrap (q + 2 + 1) = q + 3 := by rw [wrap_id _ (by omega) (by omega)]; omega
   have w4 : IntKind.i64.wrap (q + 3 + 1) = q + 4 := by rw [wrap_id _ (by omega) (by omega)]; omega
   have w5 : IntKind.i64.wrap (q + 4 + 1) = q + 5 := by rw [wrap_id _ (by omega) (by omega)]; omega
   have w6 : IntKind.i64.wrap (q + 5 + 1) = q + 6 := by rw [wrap_id _ (by omega) (by omega)]; omega
   have w7 : IntKind.i64.wrap (q + 6 + 1) = k + 7 * ((i : Int) + 1) := by rw [wrap_id _ (by omega) (by omega)]; omega
   have v3 : IntKind.i64.wrap (q + 3) = q + 3 := wrap_id _ (by omega) (by omega)
   have v4 : IntKind.i64.wrap (q + 4) = q + 4 := wrap_id _ (by omega) (by omega)
   have v5 : IntKind.i64.wrap (q + 5) = q + 5 := wrap_id _ (by omega) (by omega)
   have hg : ∀ x : CSet, ((mix (markC xs k) xs i).set i x).getD i ET.cset.dflt = x := fun x => by
    rw [List.getD_eq_getElem?_getD, List.getElem?_set, if_pos rfl, if_pos (by omega)]; rfl
   have hh : (mix (markC xs k) xs i).getD i ET.cset.dflt = xs.getD i ET.cset.dflt := mix_here hml hli
   have hs := mix_set (markC xs k) xs i ET.cset.dflt hml (by omega) (x := markC1 (xs.getD i ET.cset.dflt) q) (by rw [hq]; exact (markC_get hli _).symm)
   unfold markC1 at hs
   rw [← hq]
   repeat' first
    | with_reducible refine red ?_
    | refine W_seq ?_
    | (refine W_reg (s_markC_K.env []) s_markC_lv fun K' hK' => ?_
       simp only [go_sem, hm, w0, w1, w2, w3, w4, w5, w6, w7, v3, v4, v5, List.length_set, hg, hh, List.set_set, ↓reduceIte, ↓reduceDIte, reduceCtorEq, Nat.reduceAdd, Nat.reduceMul, Nat.reduceSub, Nat.reduceDiv, Nat.reduceMod, Nat.reduceLT, Nat.reduceLeDiff, Nat.reduceEqDiff, Nat.reduceBEq, Int.reduceToNat, Int.reduceLE, Int.reduceLT, Int.reduceEq, Int.reduceNe, Int.reduceNeg]
       (repeat' refine And.intro ?_ ?_) <;> try first | with_reducible refine hK' ?_ | exact shut6)
    | with_reducible refine blockG_o (by decide) ?_
   exact ⟨[some 0], by omega, leh (And.intro hs hm), trivial⟩
  ·obtain rfl : i = xs.length := by omega
   have hs := mix_all (markC xs k) xs xs.length hml rfl
   refine goh hm ?_
   exact finh [some 0] hs
 ·simp [no] at hp
@[go_sem] def ctHeldE : Ct := ⟨false, [[some .ent]], fun args os => match args, os with
  | [.one (.isl .ent xs), .one (.val (.int .i64 k))], [] => ifp (xs = markE xs.length k ∧ xs.length ≤ 4000000 ∧ 0 ≤ k ∧ k ≤ 1000000000) (vi (k + 3 * xs.length))
  | _, _ => no⟩
theorem s_heldE_e : EnterOk Tryz.prog 75 := ⟨_, Tryz.func75, rfl, by decide⟩
@[go_sem] def s_heldE_lv : List (List Nat) := [[0, 1], [0, 1, 5], [0, 1, 5, 9], [0, 1, 5], [0, 1, 5, 18], [4], [0, 1, 5], [0, 1, 5, 27], [4], [0, 1, 5], [0, 1, 5, 36], [4], [0, 1, 5], [4]]
@[go_sem] noncomputable def s_heldE_K : Known := Known.nil
set_option maxHeartbeats 8000000 in
theorem s_heldE : Sound Tryz.prog 75 ctHeldE := by
 have ke := s_heldE_K.env []
 have kl : Lives s_heldE_lv := trivial
 refine sound_intro (E := ⟨ti, s_heldE_K.Γ, []⟩) ke Tryz.func75 Tryz.ntmps75 rfl (rs := [.tmp 4]) rfl ?_
 intro args os hp
 unfold ctHeldE at hp ⊢
 dsimp only at hp ⊢
 split at hp
 ·rename_i xs k
  refine ⟨by simp, fun φ0 w0 => ?_⟩
  obtain ⟨h0, h1, h2, h3⟩ : xs = markE xs.length k ∧ xs.length ≤ 4000000 ∧ 0 ≤ k ∧ k ≤ 1000000000 := hp
  have hget : ∀ i, i < xs.length → xs.getD i ET.ent.dflt = ⟨k + 3 * i, k + 3 * i + 1, k + 3 * i + 2⟩ := fun i hi => by
   conv => lhs; rw [h0]
   exact markE_get hi _
  clear h0
  refine goh trivial ?_
  refine W_for xs.length (fun i => True) (fun i => ⟨[(0, .one (.isl .ent xs)), (1, vi (k + 3 * i)), (5, vi i)], [], []⟩) [] (leh trivial) trivial fun i hi _ => ?_
  refine goh trivial ?_
  refine W_cnd ?_ ?_ <;> (try simp only [cnd_r]) <;> intro hlt
  ·have hg := hget i (by omega)
   have w1 : IntKind.i64.wrap (k + 3 * i + 1) = k + 3 * i + 1 := wrap_id _ (by omega) (by omega)
   have w2 : IntKind.i64.wrap (k + 3 * i + 1 + 1) = k + 3 * i + 2 := by rw [wrap_id _ (by omega) (by omega)]; omega
   have w3 : IntKind.i64.wrap (k + 3 * i + 2 + 1) = k + 3 * (i + 1) := by rw [wrap_id _ (by omega) (by omega)]; omega
   have w4 : IntKind.i64.wrap (k + 3 * i) = k + 3 * i := wrap_id _ (by omega) (by omega)
   have w5 : IntKind.i64.wrap (k + 3 * i + 2) = k + 3 * i + 2 := wrap_id _ (by omega) (by omega)
   refine goh (And.intro hg (And.intro w1 (And.intro w2 (And.intro w3 (And.intro w4 w5))))) ?_
   refine W_cnd ?_ ?_ <;> intro hlit <;> try (cases hlit; done)
   refine goh (And.intro hg (And.intro w1 (And.intro w2 (And.intro w3 (And.intro w4 w5))))) ?_
   refine W_cnd ?_ ?_ <;> intro hlit <;> try (cases hlit; done)
   refine goh (And.intro hg (And.intro w1 (And.intro w2 (And.intro w3 (And.intro w4 w5))))) ?_
   refine W_cnd ?_ ?_ <;> intro hlit <;> try (cases hlit; done)
   refine goh (And.intro hg (And.intro w1 (And.intro w2 (And.intro w3 (And.intro w4 w5))))) ?_
   exact ⟨[], by omega, leh trivial, trivial⟩
  ·obtain rfl : i = xs.length := by omega
   refine goh trivial ?_
   exact finh [] trivial
 ·simp [no, ifp] at hp
@[go_sem] def ctHeldP : Ct := ⟨false, [[some .ptr]], fun args os => match args, os with
  | [.one (.isl .ptr xs), .one (.val (.int .i64 k))], [] => ifp (xs = markP xs.length k ∧ xs.length ≤ 4000000 ∧ 0 ≤ k ∧ k ≤ 1000000000) (vi (k + 3 * xs.length))
  | _, _ => no⟩
theorem s_heldP_e : EnterOk Tryz.prog 29 := ⟨_, Tryz.func29, rfl, by decide⟩
@[go_sem] def s_heldP_lv : List (List Nat) := [[0, 1], [0, 1, 5], [0, 1, 5, 9], [0, 1, 5], [0, 1, 5, 18], [4], [0, 1, 5], [0, 1, 5, 27], [4], [0, 1, 5], [0, 1, 5, 36], [4], [0, 1, 5], [4]]
@[go_sem] noncomputable def s_heldP_K : Known := Known.nil
set_option maxHeartbeats 8000000 in
theorem s_heldP : Sound Tryz.prog 29 ctHeldP := by
 have ke := s_heldP_K.env []
 have kl : Lives s_heldP_lv := trivial
 refine sound_intro (E := ⟨ti, s_heldP_K.Γ, []⟩) ke Tryz.func29 Tryz.ntmps29 rfl (rs := [.tmp 4]) rfl ?_
 intro args os hp
 unfold ctHeldP at hp ⊢
 dsimp only at hp ⊢
 split at hp
 ·rename_i xs k
  refine ⟨by simp, fun φ0 w0 => ?_⟩
  obtain ⟨h0, h1, h2, h3⟩ : xs = markP xs.length k ∧ xs.length ≤ 4000000 ∧ 0 ≤ k ∧ k ≤ 1000000000 := hp
  have hget : ∀ i, i < xs.length → xs.getD i ET.ptr.dflt = ⟨k + 3 * i, k + 3 * i + 1, k + 3 * i + 2⟩ := fun i hi => by
   conv => lhs; rw [h0]
   exact markP_get hi _
  clear h0
  refine goh trivial ?_
  refine W_for xs.length (fun i => True) (fun i => ⟨[(0, .one (.isl .ptr xs)), (1, vi (k + 3 * i)), (5, vi i)], [], []⟩) [] (leh trivial) trivial fun i hi _ => ?_
  refine goh trivial ?_
  refine W_cnd ?_ ?_ <;> (try simp only [cnd_r]) <;> intro hlt
  ·have hg := hget i (by omega)
   have w1 : IntKind.i64.wrap (k + 3 * i + 1) = k + 3 * i + 1 := wrap_id _ (by omega) (by omega)
   have w2 : IntKind.i64.wrap (k + 3 * i + 1 + 1) = k + 3 * i + 2 := by rw [wrap_id _ (by omega) (by omega)]; omega
   have w3 : IntKind.i64.wrap (k + 3 * i + 2 + 1) = k + 3 * (i + 1) := by rw [wrap_id _ (by omega) (by omega)]; omega
   have w4 : IntKind.i64.wrap (k + 3 * i) = k + 3 * i := wrap_id _ (by omega) (by omega)
   have w5 : IntKind.i64.wrap (k + 3 * i + 2) = k + 3 * i + 2 := wrap_id _ (by omega) (by omega)
   refine goh (And.intro hg (And.intro w1 (And.intro w2 (And.intro w3 (And.intro w4 w5))))) ?_
   refine W_cnd ?_ ?_ <;> intro hlit <;> try (cases hlit; done)
   refine goh (And.intro hg (And.intro w1 (And.intro w2 (And.intro w3 (And.intro w4 w5))))) ?_
   refine W_cnd ?_ ?_ <;> intro hlit <;> try (cases hlit; done)
   refine goh (And.intro hg (And.intro w1 (And.intro w2 (And.intro w3 (And.intro w4 w5))))) ?_
   refine W_cnd ?_ ?_ <;> intro hlit <;> try (cases hlit; done)
   refine goh (And.intro hg (And.intro w1 (And.intro w2 (And.intro w3 (And.intro w4 w5))))) ?_
   exact ⟨[], by omega, leh trivial, trivial⟩
  ·obtain rfl : i = xs.length := by omega
   refine goh trivial ?_
   exact finh [] trivial
 ·simp [no, ifp] at hp
end Go.Proofs.YtfmjgoeclilcnaaGreatDoor
namespace Go.Proofs.YtfmjgoeclilcnaaGreatDoor
open Go.RowKit
theorem markC_idem (xs : List CSet) (k : Int) : markC (markC xs k) k = markC xs k := by
 apply List.ext_getElem (by rw [markC_len, markC_len])
 intro i h1 h2
 rw [markC_len] at h2
 have e1 := markC_get (xs := markC xs k) (k := k) (i := i) (by rw [markC_len]; exact h2) ET.cset.dflt
 have e2 := markC_get (xs := xs) (k := k) (i := i) h2 ET.cset.dflt
 rw [e2] at e1
 rw [List.getD_eq_getElem?_getD, List.getElem?_eq_getElem h1, Option.getD_some] at e1
 rw [List.getD_eq_getElem?_getD, List.getElem?_eq_getElem (by rw [markC_len]; exact h2), Option.getD_some] at e2
 rw [e1, e2]; rfl
@[go_sem] def ctHeldC : Ct := ⟨false, [[some .cset]], fun args os => match args, os with
  | [.one (.isl .cset xs), .one (.val (.int .i64 k))], [] => ifp (xs = markC xs k ∧ xs.length ≤ 4000000 ∧ 0 ≤ k ∧ k ≤ 1000000000) (vi (k + 7 * xs.length))
  | _, _ => no⟩
theorem s_heldC_e : EnterOk Tryz.prog 74 := ⟨_, Tryz.func74, rfl, by decide⟩
@[go_sem] def s_heldC_lv : List (List Nat) := [[0, 1], [0, 1, 5], [0, 1, 5, 9], [0, 1, 5], [0, 1, 5, 19], [4], [0, 1, 5], [0, 1, 5, 28], [4], [0, 1, 5], [0, 1, 5, 38], [4], [0, 1, 5], [0, 1, 5, 48], [4], [0, 1, 5], [0, 1, 5, 58], [4], [0, 1, 5], [0, 1, 5, 68], [4], [0, 1, 5], [0, 1, 5, 79], [4], [0, 1, 5], [4]]
@[go_sem] noncomputable def s_heldC_K : Known := (Known.nil).cons 157 ctMarkT s_markT s_markT_e
set_option maxHeartbeats 8000000 in
theorem s_heldC : Sound Tryz.prog 74 ctHeldC := by
 have ke := s_heldC_K.env []
 have kl : Lives s_heldC_lv := trivial
 refine sound_intro (E := ⟨ti, s_heldC_K.Γ, []⟩) ke Tryz.func74 Tryz.ntmps74 rfl (rs := [.tmp 4]) rfl ?_
 intro args os hp
 unfold ctHeldC at hp ⊢
 dsimp only at hp ⊢
 split at hp
 ·rename_i xs k
  refine ⟨by simp, fun φ0 w0 => ?_⟩
  obtain ⟨h0, h1, h2, h3⟩ : xs = markC xs k ∧ xs.length ≤ 4000000 ∧ 0 ≤ k ∧ k ≤ 1000000000 := hp
  have hget : ∀ i, i < xs.length → xs.getD i ET.cset.dflt = markC1 (xs.getD i ET.cset.dflt) (k + 7 * i) := fun i hi => by
   conv => lhs; rw [h0]
   exact markC_get hi _
  clear h0
  refine goh trivial ?_
  refine W_for xs.length (fun i => True) (fun i => ⟨[(0, .one (.isl .cset xs)), (1, vi (k + 7 * i)), (5, vi i)], [], []⟩) [] (leh trivial) trivial fun i hi _ => ?_
  refine goh trivial ?_
  refine W_cnd ?_ ?_ <;> (try simp only [cnd_r]) <;> intro hlt
  ·have hli : i < xs.length := by omega
   obtain ⟨q, hq⟩ : ∃ q : Int, q = k + 7 * i := ⟨_, rfl⟩
   have w0 : IntKind.i64.wrap q = q := wrap_id _ (by omega) (by omega)
   have w1 : IntKind.i64.wrap (q + 1) = q + 1 := wrap_id _ (by omega) (by omega)
   have w2 : IntKind.i64.wrap (q + 1 + 1) = q + 2 := by rw [wrap_id _ (by omega) (by omega)]; omega
   have w3 : IntKind.i64.wrap (q + 2 + 1) = q + 3 := by rw [wrap_id _ (by omega) (by omega)]; omega
   have w4 : IntKind.i64.wrap (q + 3 + 1) = q + 4 := by rw [wrap_id _ (by omega) (by omega)]; omega
   have w5 : IntKind.i64.wrap (q + 4 + 1) = q + 5 := by rw [wrap_id _ (by omega) (by omega)]; omega
   have w6 : IntKind.i64.wrap (q + 5 + 1) = q + 6 := by rw [wrap_id _ (by omega) (by omega)]; omega
   have w7 : IntKind.i64.wrap (q + 6 + 1) = k + 7 * ((i : Int) + 1) := by rw [wrap_id _ (by omega) (by omega)]; omega
   have v3 : IntKind.i64.wrap (q + 3) = q + 3 := wrap_id _ (by omega) (by omega)
   have v4 : IntKind.i64.wrap (q + 4) = q + 4 := wrap_id _ (by omega) (by omega)
   have v5 : IntKind.i64.wrap (q + 5) = q + 5 := wrap_id _ (by omega) (by omega)
   have hb0 : 0 ≤ q ∧ q ≤ 1100000000 := by omega
   have wi : IntKind.i64.wrap ((i : Int) + 1) = ((i + 1 : Nat) : Int) := by rw [wrap_id] <;> omega
   have hg := hget i hli
   rw [← hq] at hg ⊢
   clear hget hq h1 h2 h3 hi
   have g1 := congrArg CSet.name hg
   have g2 := congrArg CSet.kind hg
   have g3 := congrArg CSet.from_ hg
   have g4 := congrArg CSet.home hg
   have g5 := congrArg CSet.dirty hg
   obtain ⟨x, hx⟩ : ∃ x, xs.getD i ET.cset.dflt = x := ⟨_, rfl⟩
   rw [hx] at g1 g2 g3 g4 g5
   simp only [markC1] at g1 g2 g3 g4 g5
   have g6 := congrArg Ptr.at_ g4
   have g7 := congrArg Ptr.sum g4
   have g8 := congrArg Ptr.birth g4
   simp only at g6 g7 g8
   clear hg g4
   iterate 7
    refine goh (And.intro hx (And.intro g1 (And.intro g2 (And.intro g3 (And.intro g5 (And.intro g6 (And.intro g7 (And.intro g8 (And.intro w0 (And.intro w1 (And.intro w2 (And.intro w3 (And.intro w4 (And.intro w5 (And.intro w6 (And.intro w7 (And.intro v3 (And.intro v4 v5)))))))))))))))))) ?_
    refine W_cnd ?_ ?_ <;> intro hlit <;> try (cases hlit; done)
   refine goh (And.intro hx (And.intro g1 (And.intro g2 (And.intro g3 (And.intro g5 (And.intro g6 (And.intro g7 (And.intro g8 (And.intro w0 (And.intro w1 (And.intro w2 (And.intro w3 (And.intro w4 (And.intro w5 (And.intro w6 (And.intro w7 (And.intro v3 (And.intro v4 v5)))))))))))))))))) ?_
   exact ⟨[], hli, leh wi, trivial⟩
  ·obtain rfl : i = xs.length := by omega
   refine goh trivial ?_
   exact finh [] trivial
 ·simp [no, ifp] at hp
@[go_sem] def ctMarkCore : Ct := ⟨true, [], fun args os => match args, os with
  | [.agg [.val (.int .i64 x), .osl .cset 0 0 n1, .osl .ent 1 0 n2, .osl .ptr 2 0 n3, .val (.bool y), .osl .int 3 0 n4, .val (.int .i64 u)], .one (.val (.int .i64 k))], [.arr .cset cs, .arr .ent es, .arr .ptr ps, .arr .int zs] =>
    ⟨(n1 = cs.length ∧ n2 = es.length ∧ n3 = ps.length ∧ n4 = zs.length) ∧ (cs.length ≤ 4000000 ∧ es.length ≤ 4000000 ∧ ps.length ≤ 4000000 ∧ zs.length ≤ 4000000) ∧ 0 ≤ k ∧ k ≤ 700000000, vi (k + 7 * cs.length + 3 * es.length + 3 * ps.length + zs.length),
      [(0, some (.arr .cset (markC cs k))), (1, some (.arr .ent (markE es.length (k + 7 * cs.length)))), (2, some (.arr .ptr (markP ps.length (k + 7 * cs.length + 3 * es.length)))), (3, some (.arr .int (markI zs.length (k + 7 * cs.length + 3 * es.length + 3 * ps.length))))], []⟩
  | _, _ => no⟩
theorem s_markCore_e : EnterOk Tryz.prog 21 := ⟨_, Tryz.func21, rfl, by decide⟩
@[go_sem] def s_markCore_lv : List (List Nat) := [[1, 2], [1, 2], [1, 2], [1, 2], [1], [4]]
@[go_sem] noncomputable def s_markCore_K : Known := ((((Known.nil).cons 71 ctMarkC s_markC s_markC_e).cons 72 ctMarkE s_markE s_markE_e).cons 28 ctMarkP s_markP s_markP_e).cons 73 ctMarkI s_markI s_markI_e
set_option maxHeartbeats 8000000 in
theorem s_markCore : Sound Tryz.prog 21 ctMarkCore := by
 have ke := s_markCore_K.env []
 have kl : Lives s_markCore_lv := trivial
 refine sound_intro (E := ⟨ti, s_markCore_K.Γ, []⟩) ke Tryz.func21 Tryz.ntmps21 rfl (rs := [.tmp 4]) rfl ?_
 intro args os hp
 unfold ctMarkCore at hp ⊢
 dsimp only at hp ⊢
 split at hp
 ·rename_i x n1 n2 n3 y n4 u k cs es ps zs
  refine ⟨by simp, fun φ0 w0 => ?_⟩
  obtain ⟨⟨rfl, rfl, rfl, rfl⟩, ⟨h1, h2, h3, h4⟩, h5, h6⟩ : (n1 = cs.length ∧ n2 = es.length ∧ n3 = ps.length ∧ n4 = zs.length) ∧ (cs.length ≤ 4000000 ∧ es.length ≤ 4000000 ∧ ps.length ≤ 4000000 ∧ zs.length ≤ 4000000) ∧ 0 ≤ k ∧ k ≤ 700000000 := hp
  refine goh trivial ?_
  exact finh [some 0, some 1, some 2, some 3] trivial
 ·simp [no] at hp
@[go_sem] def ctMarkPool : Ct := ⟨true, [], fun args os => match args, os with
  | [.agg [.osl .str 0 0 m1, .osl .str 1 0 m2, .osl .late 2 0 m3, .val (.int .i64 x), .osl .cset 3 0 n1, .osl .ent 4 0 n2, .osl .ptr 5 0 n3, .val (.bool y), .osl .int 6 0 n4, .val (.int .i64 u), .val (.bool o)], .one (.val (.int .i64 k))], [.arr .str a, .arr .str b, .arr .late l, .arr .cset cs, .arr .ent es, .arr .ptr ps, .arr .int zs] =>
    ⟨((m1 = a.length ∧ m2 = b.length ∧ m3 = l.length) ∧ n1 = cs.length ∧ n2 = es.length ∧ n3 = ps.length ∧ n4 = zs.length) ∧ ((a.length ≤ 4000000 ∧ b.length ≤ 4000000 ∧ l.length ≤ 4000000) ∧ cs.length ≤ 4000000 ∧ es.length ≤ 4000000 ∧ ps.length ≤ 4000000 ∧ zs.length ≤ 4000000) ∧ 0 ≤ k ∧ k ≤ 600000000, vi (k + a.length + b.length + 3 * l.length + 7 * cs.length + 3 * es.length + 3 * ps.length + zs.length),
      [(0, some (.arr .str (markS a.length k))), (1, some (.arr .str (markS b.length (k + a.length)))), (2, some (.arr .late (markL l.length (k + a.length + b.length)))),
       (3, some (.arr .cset (markC cs (k + a.length + b.length + 3 * l.length)))), (4, some (.arr .ent (markE es.length (k + a.length + b.length + 3 * l.length + 7 * cs.length)))), (5, some (.arr .ptr (markP ps.length (k + a.length + b.length + 3 * l.length + 7 * cs.length + 3 * es.length)))), (6, some (.arr .int (markI zs.length (k + a.length + b.length + 3 * l.length + 7 * cs.length + 3 * es.length + 3 * ps.length))))], []⟩
  | _, _ => no⟩
theorem s_markPool_e : EnterOk Tryz.prog 12 := ⟨_, Tryz.func12, rfl, by decide⟩
@[go_sem] def s_markPool_lv : List (List Nat) := [[1, 2], [1, 2], [1], [4]]
@[go_sem] noncomputable def s_markPool_K : Known := ((Known.nil).cons 20 ctMarkDisk s_markDisk s_markDisk_e).cons 21 ctMarkCore s_markCore s_markCore_e
set_option maxHeartbeats 8000000 in
theorem s_markPool : Sound Tryz.prog 12 ctMarkPool := by
 have ke := s_markPool_K.env []
 have kl : Lives s_markPool_lv := trivial
 refine sound_intro (E := ⟨ti, s_markPool_K.Γ, []⟩) ke Tryz.func12 Tryz.ntmps12 rfl (rs := [.tmp 4]) rfl ?_
 intro args os hp
 unfold ctMarkPool at hp ⊢
 dsimp only at hp ⊢
 split at hp
 ·rename_i m1 m2 m3 x n1 n2 n3 y n4 u o k a b l cs es ps zs
  refine ⟨by simp, fun φ0 w0 => ?_⟩
  obtain ⟨⟨⟨rfl, rfl, rfl⟩, rfl, rfl, rfl, rfl⟩, ⟨⟨g1, g2, g3⟩, h1, h2, h3, h4⟩, h5, h6⟩ : ((m1 = a.length ∧ m2 = b.length ∧ m3 = l.length) ∧ n1 = cs.length ∧ n2 = es.length ∧ n3 = ps.length ∧ n4 = zs.length) ∧ ((a.length ≤ 4000000 ∧ b.length ≤ 4000000 ∧ l.length ≤ 4000000) ∧ cs.length ≤ 4000000 ∧ es.length ≤ 4000000 ∧ ps.length ≤ 4000000 ∧ zs.length ≤ 4000000) ∧ 0 ≤ k ∧ k ≤ 600000000 := hp
  refine goh trivial ?_
  exact finh [some 0, some 1, some 2, some 3, some 4, some 5, some 6] trivial
 ·simp [no] at hp
@[go_sem] def ctHeldCore : Ct := ⟨false, [[none, some .cset, some .ent, some .ptr, none, some .int, none]], fun args os => match args, os with
  | [.agg [.val (.int .i64 x), .isl .cset cs, .isl .ent es, .isl .ptr ps, .val (.bool y), .isl .int zs, .val (.int .i64 u)], .one (.val (.int .i64 k))], [] =>
    ifp ((cs = markC cs k ∧ es = markE es.length (k + 7 * cs.length) ∧ ps = markP ps.length (k + 7 * cs.length + 3 * es.length) ∧ zs = markI zs.length (k + 7 * cs.length + 3 * es.length + 3 * ps.length)) ∧ (cs.length ≤ 4000000 ∧ es.length ≤ 4000000 ∧ ps.length ≤ 4000000 ∧ zs.length ≤ 4000000) ∧ 0 ≤ k ∧ k ≤ 700000000) (vi (k + 7 * cs.length + 3 * es.length + 3 * ps.length + zs.length))
  | _, _ => no⟩
theorem s_heldCore_e : EnterOk Tryz.prog 22 := ⟨_, Tryz.func22, rfl, by decide⟩
@[go_sem] def s_heldCore_lv : List (List Nat) := [[1, 2], [1, 2], [1, 2, 10], [4], [1, 2], [1, 2, 16], [4], [1, 2], [1, 2, 22], [4], [1], [1, 28], [4], [4]]
@[go_sem] noncomputable def s_heldCore_K : Known := ((((Known.nil).cons 74 ctHeldC s_heldC s_heldC_e).cons 75 ctHeldE s_heldE s_heldE_e).cons 29 ctHeldP s_heldP s_heldP_e).cons 76 ctHeldI s_heldI s_heldI_e
set_option maxHeartbeats 8000000 in
theorem s_heldCore : Sound Tryz.prog 22 ctHeldCore := by
 have ke := s_heldCore_K.env []
 have kl : Lives s_heldCore_lv := trivial
 refine sound_intro (E := ⟨ti, s_heldCore_K.Γ, []⟩) ke Tryz.func22 Tryz.ntmps22 rfl (rs := [.tmp 4]) rfl ?_
 intro args os hp
 unfold ctHeldCore at hp ⊢
 dsimp only at hp ⊢
 split at hp
 ·rename_i x cs es ps y zs u k
  refine ⟨by simp, fun φ0 w0 => ?_⟩
  obtain ⟨⟨e1, e2, e3, e4⟩, ⟨h1, h2, h3, h4⟩, h5, h6⟩ : (cs = markC cs k ∧ es = markE es.length (k + 7 * cs.length) ∧ ps = markP ps.length (k + 7 * cs.length + 3 * es.length) ∧ zs = markI zs.length (k + 7 * cs.length + 3 * es.length + 3 * ps.length)) ∧ (cs.length ≤ 4000000 ∧ es.length ≤ 4000000 ∧ ps.length ≤ 4000000 ∧ zs.length ≤ 4000000) ∧ 0 ≤ k ∧ k ≤ 700000000 := hp
  have c1 : decide (k + 7 * cs.length < 0) = false := by simp; omega
  have c2 : decide (k + 7 * cs.length + 3 * es.length < 0) = false := by simp; omega
  have c3 : decide (k + 7 * cs.length + 3 * es.length + 3 * ps.length < 0) = false := by simp; omega
  have c4 : decide (k + 7 * cs.length + 3 * es.length + 3 * ps.length + zs.length < 0) = false := by simp; omega
  iterate 4
   refine goh (And.intro c1 (And.intro c2 (And.intro c3 c4))) ?_
   refine W_cnd ?_ ?_ <;> intro hlit <;> try (cases hlit; done)
  refine goh trivial ?_
  exact finh [] trivial
 ·simp [no, ifp] at hp
@[go_sem] def ctHeldPool : Ct := ⟨false, [[some .str, some .str, some .late, none, some .cset, some .ent, some .ptr, none, some .int, none, none]], fun args os => match args, os with
  | [.agg [.isl .str a, .isl .str b, .isl .late l, .val (.int .i64 x), .isl .cset cs, .isl .ent es, .isl .ptr ps, .val (.bool y), .isl .int zs, .val (.int .i64 u), .val (.bool o)], .one (.val (.int .i64 k))], [] =>
    ifp (((a = markS a.length k ∧ b = markS b.length (k + a.length) ∧ l = markL l.length (k + a.length + b.length)) ∧ (cs = markC cs (k + a.length + b.length + 3 * l.length) ∧ es = markE es.length (k + a.length + b.length + 3 * l.length + 7 * cs.length) ∧ ps = markP ps.length (k + a.length + b.length + 3 * l.length + 7 * cs.length + 3 * es.length) ∧ zs = markI zs.length (k + a.length + b.length + 3 * l.length + 7 * cs.length + 3 * es.length + 3 * ps.length)))
     ∧ ((a.length ≤ 4000000 ∧ b.length ≤ 4000000 ∧ l.length ≤ 4000000) ∧ cs.length ≤ 4000000 ∧ es.length ≤ 4000000 ∧ ps.length ≤ 4000000 ∧ zs.length ≤ 4000000) ∧ 0 ≤ k ∧ k ≤ 600000000) (vi (k + a.length + b.length + 3 * l.length + 7 * cs.length + 3 * es.length + 3 * ps.length + zs.length))
  | _, _ => no⟩
theorem s_heldPool_e : EnterOk Tryz.prog 13 := ⟨_, Tryz.func13, rfl, by decide⟩
@[go_sem] def s_heldPool_lv : List (List Nat) := [[1, 2], [1, 2], [1, 2, 10], [4], [1], [1, 16], [4], [4]]
@[go_sem] noncomputable def s_heldPool_K : Known := ((Known.nil).cons 42 ctHeldDisk s_heldDisk s_heldDisk_e).cons 22 ctHeldCore s_heldCore s_heldCore_e
set_option maxHeartbeats 8000000 in
theorem s_heldPool : Sound Tryz.prog 13 ctHeldPool := by
 have ke := s_heldPool_K.env []
 have kl : Lives s_heldPool_lv := trivial
 refine sound_intro (E := ⟨ti, s_heldPool_K.Γ, []⟩) ke Tryz.func13 Tryz.ntmps13 rfl (rs := [.tmp 4]) rfl ?_
 intro args os hp
 unfold ctHeldPool at hp ⊢
 dsimp only at hp ⊢
 split at hp
 ·rename_i a b l x cs es ps y zs u o k
  refine ⟨by simp, fun φ0 w0 => ?_⟩
  obtain ⟨⟨⟨d1, d2, d3⟩, e1, e2, e3, e4⟩, ⟨⟨g1, g2, g3⟩, h1, h2, h3, h4⟩, h5, h6⟩ := (show ((a = markS a.length k ∧ b = markS b.length (k + a.length) ∧ l = markL l.length (k + a.length + b.length)) ∧ (cs = markC cs (k + a.length + b.length + 3 * l.length) ∧ es = markE es.length (k + a.length + b.length + 3 * l.length + 7 * cs.length) ∧ ps = markP ps.length (k + a.length + b.length + 3 * l.length + 7 * cs.length + 3 * es.length) ∧ zs = markI zs.length (k + a.length + b.length + 3 * l.length + 7 * cs.length + 3 * es.length + 3 * ps.length)))
   ∧ ((a.length ≤ 4000000 ∧ b.length ≤ 4000000 ∧ l.length ≤ 4000000) ∧ cs.length ≤ 4000000 ∧ es.length ≤ 4000000 ∧ ps.length ≤ 4000000 ∧ zs.length ≤ 4000000) ∧ 0 ≤ k ∧ k ≤ 600000000 from hp)
  have c1 : decide (k + a.length + b.length + 3 * l.length < 0) = false := by simp; omega
  have c2 : decide (k + a.length + b.length + 3 * l.length + 7 * cs.length + 3 * es.length + 3 * ps.length + zs.length < 0) = false := by simp; omega
  refine goh (And.intro c1 c2) ?_
  refine W_cnd ?_ ?_ <;> intro hlit <;> try (cases hlit; done)
  refine goh (And.intro c1 c2) ?_
  refine W_cnd ?_ ?_ <;> intro hlit <;> try (cases hlit; done)
  refine goh trivial ?_
  exact finh [] trivial
 ·simp [no, ifp] at hp
end Go.Proofs.YtfmjgoeclilcnaaGreatDoor
namespace Go.Proofs.YtfmjgoeclilcnaaGreatDoor
open Go.RowKit
@[go_sem] def ctCloneCset : Ct := ⟨false, [[some .cset]], fun args os => match args, os with
  | [.one (.isl .cset xs)], [] => ⟨xs.length ≤ 4000000, .one (.osl .cset 0 0 xs.length), [], [.arr .cset xs]⟩
  | _, _ => no⟩
theorem s_cloneCset_e : EnterOk Tryz.prog 148 := ⟨_, Tryz.func148, rfl, by decide⟩
@[go_sem] def s_cloneCset_lv : List (List Nat) := [[0], [0, 4], [2], [2]]
@[go_sem] noncomputable def s_cloneCset_K : Known := Known.nil
set_option maxHeartbeats 8000000 in
theorem s_cloneCset : Sound Tryz.prog 148 ctCloneCset := by
 have ke := s_cloneCset_K.env []
 have kl : Lives s_cloneCset_lv := trivial
 refine sound_intro (E := ⟨ti, s_cloneCset_K.Γ, []⟩) ke Tryz.func148 Tryz.ntmps148 rfl (rs := [.tmp 2]) rfl ?_
 intro args os hp
 unfold ctCloneCset at hp ⊢
 dsimp only at hp ⊢
 split at hp
 ·rename_i xs
  refine ⟨by simp, fun φ0 w0 => ?_⟩
  have hlen : xs.length ≤ 4000000 := hp
  refine goh trivial ?_
  refine W_cond_nb _ _ (by exact rfl) (by exact trivial) ?_ ?_ <;> intro hx
  ·refine goh trivial ?_
   subst hx
   exact finh [none] trivial
  ·refine goh trivial ?_
   exact finh [some 1] trivial
 ·simp [no, ifp] at hp
@[go_sem] def ctCloneEnt : Ct := ⟨false, [[some .ent]], fun args os => match args, os with
  | [.one (.isl .ent xs)], [] => ⟨xs.length ≤ 4000000, .one (.osl .ent 0 0 xs.length), [], [.arr .ent xs]⟩
  | _, _ => no⟩
theorem s_cloneEnt_e : EnterOk Tryz.prog 149 := ⟨_, Tryz.func149, rfl, by decide⟩
@[go_sem] def s_cloneEnt_lv : List (List Nat) := [[0], [0, 4], [2], [2]]
@[go_sem] noncomputable def s_cloneEnt_K : Known := Known.nil
set_option maxHeartbeats 8000000 in
theorem s_cloneEnt : Sound Tryz.prog 149 ctCloneEnt := by
 have ke := s_cloneEnt_K.env []
 have kl : Lives s_cloneEnt_lv := trivial
 refine sound_intro (E := ⟨ti, s_cloneEnt_K.Γ, []⟩) ke Tryz.func149 Tryz.ntmps149 rfl (rs := [.tmp 2]) rfl ?_
 intro args os hp
 unfold ctCloneEnt at hp ⊢
 dsimp only at hp ⊢
 split at hp
 ·rename_i xs
  refine ⟨by simp, fun φ0 w0 => ?_⟩
  have hlen : xs.length ≤ 4000000 := hp
  refine goh trivial ?_
  refine W_cond_nb _ _ (by exact rfl) (by exact trivial) ?_ ?_ <;> intro hx
  ·refine goh trivial ?_
   subst hx
   exact finh [none] trivial
  ·refine goh trivial ?_
   exact finh [some 1] trivial
 ·simp [no, ifp] at hp
theorem s_l5Copy_e : EnterOk Tryz.prog 159 := ⟨_, Tryz.func159, rfl, by decide⟩
@[go_sem] def s_l5Copy_lv : List (List Nat) := [[0], [2]]
@[go_sem] noncomputable def s_l5Copy_K : Known := Known.nil
set_option maxHeartbeats 8000000 in
theorem s_l5Copy : Sound Tryz.prog 159 ctCloneEnt := by
 have ke := s_l5Copy_K.env []
 have kl : Lives s_l5Copy_lv := trivial
 refine sound_intro (E := ⟨ti, s_l5Copy_K.Γ, []⟩) ke Tryz.func159 Tryz.ntmps159 rfl (rs := [.tmp 2]) rfl ?_
 intro args os hp
 unfold ctCloneEnt at hp ⊢
 dsimp only at hp ⊢
 split at hp
 ·rename_i xs
  refine ⟨by simp, fun φ0 w0 => ?_⟩
  have hlen : xs.length ≤ 4000000 := hp
  refine goh trivial ?_
  exact finh [some 1] trivial
 ·simp [no, ifp] at hp
@[go_sem] def ctClonePtr : Ct := ⟨false, [[some .ptr]], fun args os => match args, os with
  | [.one (.isl .ptr xs)], [] => ⟨xs.length ≤ 4000000, .one (.osl .ptr 0 0 xs.length), [], [.arr .ptr xs]⟩
  | _, _ => no⟩
theorem s_clonePtr_e : EnterOk Tryz.prog 150 := ⟨_, Tryz.func150, rfl, by decide⟩
@[go_sem] def s_clonePtr_lv : List (List Nat) := [[0], [0, 4], [2], [2]]
@[go_sem] noncomputable def s_clonePtr_K : Known := Known.nil
set_option maxHeartbeats 8000000 in
theorem s_clonePtr : Sound Tryz.prog 150 ctClonePtr := by
 have ke := s_clonePtr_K.env []
 have kl : Lives s_clonePtr_lv := trivial
 refine sound_intro (E := ⟨ti, s_clonePtr_K.Γ, []⟩) ke Tryz.func150 Tryz.ntmps150 rfl (rs := [.tmp 2]) rfl ?_
 intro args os hp
 unfold ctClonePtr at hp ⊢
 dsimp only at hp ⊢
 split at hp
 ·rename_i xs
  refine ⟨by simp, fun φ0 w0 => ?_⟩
  have hlen : xs.length ≤ 4000000 := hp
  refine goh trivial ?_
  refine W_cond_nb _ _ (by exact rfl) (by exact trivial) ?_ ?_ <;> intro hx
  ·refine goh trivial ?_
   subst hx
   exact finh [none] trivial
  ·refine goh trivial ?_
   exact finh [some 1] trivial
 ·simp [no, ifp] at hp
@[go_sem] def ctCloneInt : Ct := ⟨false, [[some .int]], fun args os => match args, os with
  | [.one (.isl .int xs)], [] => ⟨xs.length ≤ 4000000, .one (.osl .int 0 0 xs.length), [], [.arr .int xs]⟩
  | _, _ => no⟩
theorem s_cloneInt_e : EnterOk Tryz.prog 151 := ⟨_, Tryz.func151, rfl, by decide⟩
@[go_sem] def s_cloneInt_lv : List (List Nat) := [[0], [0, 4], [2], [2]]
@[go_sem] noncomputable def s_cloneInt_K : Known := Known.nil
set_option maxHeartbeats 8000000 in
theorem s_cloneInt : Sound Tryz.prog 151 ctCloneInt := by
 have ke := s_cloneInt_K.env []
 have kl : Lives s_cloneInt_lv := trivial
 refine sound_intro (E := ⟨ti, s_cloneInt_K.Γ, []⟩) ke Tryz.func151 Tryz.ntmps151 rfl (rs := [.tmp 2]) rfl ?_
 intro args os hp
 unfold ctCloneInt at hp ⊢
 dsimp only at hp ⊢
 split at hp
 ·rename_i xs
  refine ⟨by simp, fun φ0 w0 => ?_⟩
  have hlen : xs.length ≤ 4000000 := hp
  refine goh trivial ?_
  refine W_cond_nb _ _ (by exact rfl) (by exact trivial) ?_ ?_ <;> intro hx
  ·refine goh trivial ?_
   subst hx
   exact finh [none] trivial
  ·refine goh trivial ?_
   exact finh [some 1] trivial
 ·simp [no, ifp] at hp
theorem s_ownCore_e : EnterOk Tryz.prog 63 := ⟨_, Tryz.func63, rfl, by decide⟩
@[go_sem] def s_ownCore_lv : List (List Nat) := [[1, 2], [1, 2], [2]]
@[go_sem] noncomputable def s_ownCore_K : Known := ((((Known.nil).cons 148 ctCloneCset s_cloneCset s_cloneCset_e).cons 149 ctCloneEnt s_cloneEnt s_cloneEnt_e).cons 150 ctClonePtr s_clonePtr s_clonePtr_e).cons 151 ctCloneInt s_cloneInt s_cloneInt_e
set_option maxHeartbeats 8000000 in
theorem s_ownCore : Sound Tryz.prog 63 ctToCore := by
 have ke := s_ownCore_K.env []
 have kl : Lives s_ownCore_lv := trivial
 refine sound_intro (E := ⟨ti, s_ownCore_K.Γ, []⟩) ke Tryz.func63 Tryz.ntmps63 rfl (rs := [.cell 2 43]) rfl ?_
 intro args os hp
 unfold ctToCore at hp ⊢
 dsimp only at hp ⊢
 split at hp
 ·rename_i x cs es ps y zs u
  refine ⟨by simp, fun φ0 w0 => ?_⟩
  obtain ⟨h1, h2, h3, h4⟩ : (Co.mk x cs es ps y zs u).small := hp
  simp only at h1 h2 h3 h4
  refine goh trivial ?_
  exact finh [some 2, some 3, some 4, some 5] trivial
 ·simp [no] at hp
theorem s_l6Copy_e : EnterOk Tryz.prog 85 := ⟨_, Tryz.func85, rfl, by decide⟩
@[go_sem] def s_l6Copy_lv : List (List Nat) := [[1, 2], [1, 2, 3], [1, 2, 3], [1, 2, 3], [1, 2, 3], [2, 3], [2]]
@[go_sem] noncomputable def s_l6Copy_K : Known := (Known.nil).cons 159 ctCloneEnt s_l5Copy s_l5Copy_e
set_option maxHeartbeats 8000000 in
theorem s_l6Copy : Sound Tryz.prog 85 ctToCore := by
 have ke := s_l6Copy_K.env []
 have kl : Lives s_l6Copy_lv := trivial
 refine sound_intro (E := ⟨ti, s_l6Copy_K.Γ, []⟩) ke Tryz.func85 Tryz.ntmps85 rfl (rs := [.cell 2 43]) rfl ?_
 intro args os hp
 unfold ctToCore at hp ⊢
 dsimp only at hp ⊢
 split at hp
 ·rename_i x cs es ps y zs u
  refine ⟨by simp, fun φ0 w0 => ?_⟩
  obtain ⟨h1, h2, h3, h4⟩ : (Co.mk x cs es ps y zs u).small := hp
  simp only at h1 h2 h3 h4
  refine goh trivial ?_
  exact finh [some 4, some 5, some 7, some 9] trivial
 ·simp [no] at hp
theorem s_ownPool_e : EnterOk Tryz.prog 38 := ⟨_, Tryz.func38, rfl, by decide⟩
@[go_sem] def s_ownPool_lv : List (List Nat) := [[1, 2], [2]]
@[go_sem] noncomputable def s_ownPool_K : Known := ((Known.nil).cons 95 ctOwn s_own s_own_e).cons 63 ctToCore s_ownCore s_ownCore_e
set_option maxHeartbeats 8000000 in
theorem s_ownPool : Sound Tryz.prog 38 ctToPool := by
 have ke := s_ownPool_K.env []
 have kl : Lives s_ownPool_lv := trivial
 refine sound_intro (E := ⟨ti, s_ownPool_K.Γ, []⟩) ke Tryz.func38 Tryz.ntmps38 rfl (rs := [.cell 2 45]) rfl ?_
 intro args os hp
 unfold ctToPool at hp ⊢
 dsimp only at hp ⊢
 split at hp
 ·rename_i a b l x cs es ps y zs u o
  refine ⟨by simp, fun φ0 w0 => ?_⟩
  obtain ⟨⟨g1, g2, g3⟩, ⟨h1, h2, h3, h4⟩⟩ : (Pl.mk ⟨a, b, l⟩ ⟨x, cs, es, ps, y, zs, u⟩ o).small := hp
  simp only at g1 g2 g3 h1 h2 h3 h4
  refine goh trivial ?_
  exact finh [some 2, some 3, some 4, some 5, some 6, some 7, some 8] trivial
 ·simp [no] at hp
theorem s_l10Copy_e : EnterOk Tryz.prog 32 := ⟨_, Tryz.func32, rfl, by decide⟩
@[go_sem] def s_l10Copy_lv : List (List Nat) := [[1, 2], [2]]
@[go_sem] noncomputable def s_l10Copy_K : Known := ((Known.nil).cons 84 ctOwn s_copy s_copy_e).cons 85 ctToCore s_l6Copy s_l6Copy_e
set_option maxHeartbeats 8000000 in
theorem s_l10Copy : Sound Tryz.prog 32 ctToPool := by
 have ke := s_l10Copy_K.env []
 have kl : Lives s_l10Copy_lv := trivial
 refine sound_intro (E := ⟨ti, s_l10Copy_K.Γ, []⟩) ke Tryz.func32 Tryz.ntmps32 rfl (rs := [.cell 2 45]) rfl ?_
 intro args os hp
 unfold ctToPool at hp ⊢
 dsimp only at hp ⊢
 split at hp
 ·rename_i a b l x cs es ps y zs u o
  refine ⟨by simp, fun φ0 w0 => ?_⟩
  obtain ⟨⟨g1, g2, g3⟩, ⟨h1, h2, h3, h4⟩⟩ : (Pl.mk ⟨a, b, l⟩ ⟨x, cs, es, ps, y, zs, u⟩ o).small := hp
  simp only at g1 g2 g3 h1 h2 h3 h4
  refine goh trivial ?_
  exact finh [some 2, some 3, some 4, some 5, some 6, some 7, some 8] trivial
 ·simp [no] at hp
def Co.nil : Co := ⟨0, [], [], [], false, [], 0⟩
def Pl.nil : Pl := ⟨.nil, .nil, false⟩
structure Pl.fit (p : Pl) : Prop where
 disk : p.disk.small
 core : p.core.fit
end Go.Proofs.YtfmjgoeclilcnaaGreatDoor
namespace Go.Proofs.YtfmjgoeclilcnaaGreatDoor
open Go.RowKit
attribute [go_sem] markC_idem
theorem core_small {c : Co} {n : Int} (h : 0 ≤ szW c.wt n) : c.sets.length ≤ n ∧ c.ddt.length ≤ n ∧ c.parts.length ≤ n ∧ c.safe.length ≤ n :=
 ⟨szW_mem h (by simp [Co.wt, wC]), szW_mem h (by simp [Co.wt, wC]), szW_mem h (by simp [Co.wt, wC]), szW_mem h (by simp [Co.wt, wC])⟩
theorem Co.inn.fit {x : Int} {cs : List CSet} {es : List Ent} {ps : List Ptr} {y : Bool} {zs : List Int} {u : Int} (h : (Co.mk x cs es ps y zs u).inn) {n : Int} (hn : n ≤ 1048576) (hs : 0 ≤ szW (Co.mk x cs es ps y zs u).wt n) :
  (cs.length ≤ 1048576 ∧ es.length ≤ 1048576 ∧ ps.length ≤ 1048576 ∧ zs.length ≤ 1048576) ∧ (Co.mk x cs es ps y zs u).fit := by
 have h1 := core_small hs
 simp only at h1
 refine ⟨by omega, ⟨⟨by simp only; omega, by simp only; omega, by simp only; omega, by simp only; omega⟩, fun i => ?_⟩⟩
 obtain ⟨-, h2⟩ := h.sets
 exact ⟨(h2 i).1, (h2 i).2⟩
structure Co.mid (c : Co) : Prop where
 sets : c.sets.length ≤ 1100000
 ddt : c.ddt.length ≤ 1100000
 parts : c.parts.length ≤ 1100000
 safe : c.safe.length ≤ 1100000
theorem Dk.mid_nil : Dk.mid Dk.nil := ⟨Nat.zero_le _, Nat.zero_le _, Nat.zero_le _⟩
theorem Co.mid_nil : Co.mid Co.nil := ⟨Nat.zero_le _, Nat.zero_le _, Nat.zero_le _, Nat.zero_le _⟩
end Go.Proofs.YtfmjgoeclilcnaaGreatDoor
namespace Go.Proofs
open Go.Shelf
def Tryz.lays171_ren : Go.Shelf.Ren := ⟨fun | 171 => 194 | 243 => 220 | 246 => 252 | 283 => 273 | 284 => 274 | 285 => 275 | 286 => 276 | 129 => 234 | 317 => 286 | 318 => 287 | 319 => 288 | 320 => 289 | 337 => 294 | 338 => 295 | n => n, fun | 3 => 3 | 9 => 9 | 2 => 2 | 4 => 4 | 171 => 285 | 0 => 0 | 53 => 249 | 37 => 225 | 5 => 5 | 173 => 287 | 212 => 304 | 51 => 247 | 20 => 20 | 213 => 305 | 46 => 223 | 232 => 310 | 233 => 311 | n => n, fun | 17 => 5 | 18 => 6 | 19 => 7 | n => n⟩
theorem Tryz.lays171 : Go.Proofs.LaysM.n171 Tryz.prog Tryz.lays171_ren := {
 mixed := by kernel_rfl
 f129 := Tryz.func234.trans (congrArg some (by kernel_rfl))
 f171 := Tryz.func194.trans (congrArg some (by kernel_rfl))
 f243 := Tryz.func220.trans (congrArg some (by kernel_rfl))
 f246 := Tryz.func252.trans (congrArg some (by kernel_rfl))
 f283 := Tryz.func273.trans (congrArg some (by kernel_rfl))
 f284 := Tryz.func274.trans (congrArg some (by kernel_rfl))
 f285 := Tryz.func275.trans (congrArg some (by kernel_rfl))
 f286 := Tryz.func276.trans (congrArg some (by kernel_rfl))
 f317 := Tryz.func286.trans (congrArg some (by kernel_rfl))
 f318 := Tryz.func287.trans (congrArg some (by kernel_rfl))
 f319 := Tryz.func288.trans (congrArg some (by kernel_rfl))
 f320 := Tryz.func289.trans (congrArg some (by kernel_rfl))
 f337 := Tryz.func294.trans (congrArg some (by kernel_rfl))
 f338 := Tryz.func295.trans (congrArg some (by kernel_rfl))
 t0 := Tryz.underlying0
 a0 := Tryz.isAgg0
 z0 := Tryz.sizeOf0
 v0 := Tryz.zeroValue0
 t2 := Tryz.underlying2
 a2 := Tryz.isAgg2
 z2 := Tryz.sizeOf2
 v2 := Tryz.zeroValue2
 t3 := Tryz.underlying3
 a3 := Tryz.isAgg3
 z3 := Tryz.sizeOf3
 v3 := Tryz.zeroValue3
 t4 := Tryz.underlying4
 a4 := Tryz.isAgg4
 z4 := Tryz.sizeOf4
 v4 := Tryz.zeroValue4
 t5 := Tryz.underlying5
 a5 := Tryz.isAgg5
 z5 := Tryz.sizeOf5
 v5 := Tryz.zeroValue5
 t9 := Tryz.underlying9
 a9 := Tryz.isAgg9
 z9 := Tryz.sizeOf9
 v9 := Tryz.zeroValue9
 t20 := Tryz.underlying20
 a20 := Tryz.isAgg20
 z20 := Tryz.sizeOf20
 v20 := Tryz.zeroValue20
 t37 := Tryz.underlying225
 a37 := Tryz.isAgg225
 z37 := Tryz.sizeOf225
 v37 := Tryz.zeroValue225
 t46 := Tryz.underlying223
 a46 := Tryz.isAgg223
 z46 := Tryz.sizeOf223
 v46 := Tryz.zeroValue223
 t51 := Tryz.underlying247
 a51 := Tryz.isAgg247
 z51 := Tryz.sizeOf247
 v51 := Tryz.zeroValue247
 t53 := Tryz.underlying249
 a53 := Tryz.isAgg249
 z53 := Tryz.sizeOf249
 v53 := Tryz.zeroValue249
 t171 := Tryz.underlying285
 a171 := Tryz.isAgg285
 z171 := Tryz.sizeOf285
 v171 := Tryz.zeroValue285
 t173 := Tryz.underlying287
 a173 := Tryz.isAgg287
 z173 := Tryz.sizeOf287
 v173 := Tryz.zeroValue287
 t212 := Tryz.underlying304
 a212 := Tryz.isAgg304
 z212 := Tryz.sizeOf304
 v212 := Tryz.zeroValue304
 t213 := Tryz.underlying305
 a213 := Tryz.isAgg305
 z213 := Tryz.sizeOf305
 t232 := Tryz.underlying310
 a232 := Tryz.isAgg310
 z232 := Tryz.sizeOf310
 v232 := Tryz.zeroValue310
 t233 := Tryz.underlying311
 a233 := Tryz.isAgg311
 z233 := Tryz.sizeOf311
 v233 := Tryz.zeroValue311
 g17 := by kernel_rfl
 g18 := by kernel_rfl
 g19 := by kernel_rfl
 i0 := by kernel_rfl
 i2 := by kernel_rfl
 i3 := by kernel_rfl
 i4 := by kernel_rfl
 i5 := by kernel_rfl
 i9 := by kernel_rfl
 i20 := by kernel_rfl
 i37 := by kernel_rfl
 i46 := by kernel_rfl
 i51 := by kernel_rfl
 i53 := by kernel_rfl
 i171 := by kernel_rfl
 i173 := by kernel_rfl
 i212 := by kernel_rfl
 i232 := by kernel_rfl
 i233 := by kernel_rfl
 m17 := by kernel_rfl
 m18 := by kernel_rfl
 m19 := by kernel_rfl }
end Go.Proofs
namespace Go.Proofs.YtfmjgoeclilcnaaGreatDoor
open Go.RowKit
theorem glo_tab {w : World} (h : GloOk0 w) : Lib.TabIs Tryz.prog w "internal/strconv.uint64pow10" .u64 Lib.pow10Tab := by
 obtain ⟨c, e, f, h1, h2⟩ := h _ (List.mem_cons_self ..)
 have h2 : c = (Lib.pow10Tab.map fun z => Value.int .u64 z).toArray := h2
 subst h2
 unfold Lib.TabIs World.var?
 rw [show Tryz.prog.globalNamed "internal/strconv.uint64pow10" = some _ from by kernel_rfl]
 simp only [Option.bind_some]
 rw [h1]
def decS (n : Int) : ByteArray := ⟨(Lib.itoa n).toArray⟩
def decB (u : Nat) : ByteArray := ⟨(Lib.decDigits u).toArray⟩
theorem wrap_u8 {n : Nat} (h : n < 256) : IntKind.u8.wrap (n : Int) = n := IntWalk.u8_in _ ⟨by omega, by omega⟩
theorem ofNat_u8 {n : Nat} (h : n < 256) : (UInt8.ofNat n).toNat = n := by rw [UInt8.toNat_ofNat']; omega
theorem decS_nat (u : Nat) : decS u = decB u := by
 unfold decS decB Lib.itoa
 rw [if_neg (by omega), Int.toNat_natCast]
theorem decS_neg {n : Int} (h : n < 0) : decS n = ⟨#[45]⟩ ++ decB n.natAbs := by
 unfold decS decB Lib.itoa
 rw [if_pos h]
 apply ByteArray.ext
 simp
theorem decB_small {u : Nat} (h : u < 10) : decB u = ⟨#[UInt8.ofNat (48 + u)]⟩ := by unfold decB; rw [Lib.decDigits, dif_pos h]
theorem decB_big {u : Nat} (h : ¬ u < 10) : decB u = decB (u / 10) ++ ⟨#[UInt8.ofNat (48 + u % 10)]⟩ := by
 unfold decB
 rw [Lib.decDigits, dif_neg h]
 apply ByteArray.ext
 simp
theorem decB_size (k : Nat) : ∀ u : Nat, u < 10 ^ (k + 1) → (decB u).size ≤ k + 1 := by
 induction k with
 | zero => intro u hu; rw [decB_small (by omega)]; exact Nat.le_refl _
 | succ k ih =>
   intro u hu
   by_cases h : u < 10
   ·rw [decB_small h]; show 1 ≤ _; omega
   ·rw [decB_big h, ByteArray.size_append]
    have := ih (u / 10) (by rw [Nat.pow_succ] at hu; omega)
    have h1 : (⟨#[UInt8.ofNat (48 + u % 10)]⟩ : ByteArray).size = 1 := rfl
    omega
theorem decS_size {n : Int} (h0 : -9223372036854775808 ≤ n) (h1 : n ≤ 9223372036854775807) : (decS n).size ≤ 20 := by
 rcases Int.lt_or_le n 0 with h | h
 ·rw [decS_neg h, ByteArray.size_append]
  have := decB_size 18 n.natAbs (by omega)
  have h1 : (⟨#[45]⟩ : ByteArray).size = 1 := rfl
  omega
 ·obtain ⟨u, rfl⟩ := Int.eq_ofNat_of_zero_le h
  rw [decS_nat]
  have := decB_size 18 u (by omega)
  omega
@[go_sem] def ctItoa : Ct := ⟨false, [], fun args os => match args, os with
  | [.one (.val (.int .i64 n))], [] => ifp (-9223372036854775808 ≤ n ∧ n ≤ 9223372036854775807) (vs (decS n))
  | _, _ => no⟩
theorem s_itoa_e : EnterOk Tryz.prog 194 := ⟨_, Tryz.func194, rfl, by decide⟩
theorem s_itoa : Sound Tryz.prog 194 ctItoa := by
 refine sound_plain fun args os hp => ?_
 unfold ctItoa at hp ⊢
 dsimp only at hp ⊢
 split at hp
 ·rename_i n
  obtain ⟨h0, h1⟩ : -9223372036854775808 ≤ n ∧ n ≤ 9223372036854775807 := hp
  refine ⟨rfl, [.int .i64 n], .string (decS n), rfl, rfl, fun w hw => ?_⟩
  refine (Any.strconv_Itoa Tryz.lays171 n h0 h1 w (glo_tab hw)).mono ?_
  rintro e w' ⟨he, k, os, rfl⟩
  refine ⟨he, rfl, rfl, rfl, ?_, fun j hj => ?_⟩
  ·show w.heap.size ≤ (w.heap ++ os).size
   rw [Array.size_append]; omega
  ·show (w.heap ++ os)[j]? = w.heap[j]?
   rw [Array.getElem?_append_left hj]
 ·exact hp.elim
@[go_sem] def ctDec (k : Nat) : Ct := ⟨false, [], fun args os => match args, os with
  | [.one (.val (.int .i64 n))], [] => ifp (-9223372036854775808 ≤ n ∧ n ≤ 9223372036854775807 ∧ (0 ≤ n ∧ 1 ≤ k ∨ 2 ≤ k)) (vs (decS n))
  | _, _ => no⟩
theorem s_dec_e : EnterOk Tryz.prog 172 := ⟨_, Tryz.func172, rfl, by decide⟩
@[go_sem] def s_dec_lv : List (List Nat) := [[0], [0, 5], [2], [0, 7], [2], [0, 3], [0, 3, 13], [0, 3], [0, 3], [2]]
@[go_sem] noncomputable def s_dec_K (n : Nat) (ih : Sound Tryz.prog 172 (ctDec n)) : Known := (Known.nil).cons 172 (ctDec n) ih s_dec_e
set_option maxHeartbeats 8000000 in
theorem s_dec_step (n : Nat) (ih : Sound Tryz.prog 172 (ctDec n)) : Sound Tryz.prog 172 (ctDec (n + 1)) := by
 have ke := (s_dec_K n ih).env []
 have kl : Lives s_dec_lv := trivial
 refine sound_intro (E := ⟨ti, (s_dec_K n ih).Γ, []⟩) ke Tryz.func172 Tryz.ntmps172 rfl (rs := [.tmp 2]) rfl ?_
 intro args os hp
 unfold ctDec at hp ⊢
 dsimp only at hp ⊢
 split at hp
 ·rename_i z
  refine ⟨by simp, fun φ0 w0 => ?_⟩
  obtain ⟨h0, h1, h2⟩ : -9223372036854775808 ≤ z ∧ z ≤ 9223372036854775807 ∧ (0 ≤ z ∧ 1 ≤ n + 1 ∨ 2 ≤ n + 1) := hp
  refine goh trivial ?_
  refine W_cnd ?_ ?_ <;> (try simp only [cnd_r]) <;> intro hc
  ·obtain rfl : z = -9223372036854775808 := by omega
   have e : decS (-9223372036854775808) = ⟨#[45, 57, 50, 50, 51, 51, 55, 50, 48, 51, 54, 56, 53, 52, 55, 55, 53, 56, 48, 56]⟩ := by decide +kernel
   refine goh trivial ?_
   exact finh [] e
  ·refine goh trivial ?_
   refine W_cnd ?_ ?_ <;> (try simp only [cnd_r]) <;> intro hn
   ·have hw : IntKind.i64.wrap (0 - z) = -z := by rw [Int.zero_sub]; exact wrap_id _ (by omega) (by omega)
    obtain ⟨u, hu⟩ := Int.eq_ofNat_of_zero_le (show 0 ≤ -z by omega)
    have e : decS z = ⟨#[45]⟩ ++ decS (-z) := by
     rw [decS_neg hn, hu, decS_nat, show z.natAbs = u by omega]
    have hs := decS_size (n := -z) (by omega) (by omega)
    refine goh hw ?_
    exact finh [] e
   ·obtain ⟨u, rfl⟩ := Int.eq_ofNat_of_zero_le (show 0 ≤ z by omega)
    have hsz := decB_size 18 u (by omega)
    refine goh trivial ?_
    refine W_le (σ' := ⟨[(0, vi u), (3, vs ⟨#[]⟩)], [], []⟩) [] (leh trivial) ?_
    refine W_loop (fun q σ => ∃ (m : Nat) (out : ByteArray), q = m ∧ m ≤ u ∧ decB m ++ out = decB u ∧ σ = ⟨[(0, vi m), (3, vs out)], [], []⟩) u ⟨u, ⟨#[]⟩, rfl, Nat.le_refl _, ByteArray.append_empty, rfl⟩ ?_
    rintro q σ ⟨m, out, rfl, hm, hd, rfl⟩
    have hos : out.size ≤ 20 := by
     have := congrArg ByteArray.size hd
     rw [ByteArray.size_append] at this
     omega
    refine goh trivial ?_
    refine W_cnd ?_ ?_ <;> (try simp only [cnd_r]) <;> intro hlt
    ·have hr : ((q : Int)).tmod 10 = ((q % 10 : Nat) : Int) := (Int.ofNat_tmod q 10).symm
     have hv : ((q : Int)).tdiv 10 = ((q / 10 : Nat) : Int) := (Int.ofNat_tdiv q 10).symm
     have w1 : IntKind.i64.wrap ((q % 10 : Nat) : Int) = ((q % 10 : Nat) : Int) := wrap_id _ (by omega) (by omega)
     have w2 : IntKind.i64.wrap ((q / 10 : Nat) : Int) = ((q / 10 : Nat) : Int) := wrap_id _ (by omega) (by omega)
     have w3 : IntKind.i64.wrap (48 + ((q % 10 : Nat) : Int)) = ((48 + q % 10 : Nat) : Int) := wrap_id _ (by omega) (by omega)
     have w4 : IntKind.u8.wrap ((48 + q % 10 : Nat) : Int) = ((48 + q % 10 : Nat) : Int) := wrap_u8 (by omega)
     have hd2 : decB (q / 10) ++ (⟨#[UInt8.ofNat (48 + q % 10)]⟩ ++ out) = decB u := by
      rw [← ByteArray.append_assoc, ← decB_big (by omega), hd]
     have w5 : (UInt8.ofNat (48 + q % 10)).toNat = 48 + q % 10 := ofNat_u8 (by omega)
     refine goh (And.intro hr (And.intro hv (And.intro w1 (And.intro w2 (And.intro w3 (And.intro w4 w5)))))) ?_
     exact ⟨q / 10, [], ⟨[(0, vi (q / 10 : Nat)), (3, vs (⟨#[UInt8.ofNat (48 + q % 10)]⟩ ++ out))], [], []⟩, by omega, leh trivial, q / 10, _, rfl, by omega, hd2, rfl⟩
    ·have w3 : IntKind.i64.wrap (48 + (q : Int)) = ((48 + q : Nat) : Int) := wrap_id _ (by omega) (by omega)
     have w4 : IntKind.u8.wrap ((48 + q : Nat) : Int) = ((48 + q : Nat) : Int) := wrap_u8 (by omega)
     have w5 : (UInt8.ofNat (48 + q)).toNat = 48 + q := ofNat_u8 (by omega)
     have e : decS u = ⟨#[UInt8.ofNat (48 + q)]⟩ ++ out := by rw [decS_nat, ← hd, decB_small (by omega)]
     refine goh (And.intro w3 (And.intro w4 w5)) ?_
     exact finh [] e
 ·simp [no, ifp] at hp
theorem s_dec_all : ∀ n, Sound Tryz.prog 172 (ctDec n)
 | 0 => fun args os hp => by
   unfold ctDec at hp
   dsimp only at hp
   split at hp
   ·obtain ⟨-, -, h⟩ : _ ∧ _ ∧ (_ ∧ 1 ≤ 0 ∨ 2 ≤ 0) := hp
    omega
   ·exact hp.elim
 | n + 1 => s_dec_step n (s_dec_all n)
@[go_sem] def ctDecV : Ct := ⟨false, [], fun args os => match args, os with
  | [.one (.val (.int .i64 n))], [] => ifp (-9223372036854775808 ≤ n ∧ n ≤ 9223372036854775807) (vs (decS n))
  | _, _ => no⟩
theorem s_dec2 : Sound Tryz.prog 172 ctDecV := by
 intro args os hp
 unfold ctDecV at hp ⊢
 dsimp only at hp ⊢
 split at hp
 ·rename_i n
  have h : -9223372036854775808 ≤ n ∧ n ≤ 9223372036854775807 := hp
  exact s_dec_all 2 [.one (.val (.int .i64 n))] [] (show _ ∧ _ ∧ _ from ⟨h.1, h.2, .inr (Nat.le_refl _)⟩)
 ·exact hp.elim
theorem s_dec2_e : EnterOk Tryz.prog 172 := s_dec_e
end Go.Proofs.YtfmjgoeclilcnaaGreatDoor
namespace Go.Proofs.YtfmjgoeclilcnaaGreatDoor
open Go
abbrev Bs := List UInt8
def cutL (c : UInt8) : Bs → List Bs
 | [] => [[]]
 | b :: r => if b = c then [] :: cutL c r else match cutL c r with
   | w :: ws => (b :: w) :: ws
   | [] => [[b]]
def joinL (s : Bs) : List Bs → Bs
 | [] => []
 | [w] => w
 | w :: ws => w ++ s ++ joinL s ws
theorem cutL_ne (c : UInt8) : ∀ l, cutL c l ≠ []
 | [] => by simp [cutL]
 | b :: r => by
   unfold cutL
   split
   ·simp
   ·split <;> simp
theorem joinL_cons (s w : Bs) {ws : List Bs} (h : ws ≠ []) : joinL s (w :: ws) = w ++ s ++ joinL s ws := by
 cases ws with
 | nil => exact absurd rfl h
 | cons => rfl
theorem join_cut (c : UInt8) : ∀ l, joinL [c] (cutL c l) = l
 | [] => rfl
 | b :: r => by
   have ih := join_cut c r
   unfold cutL
   split
   ·rename_i h
    rw [joinL_cons _ _ (cutL_ne c r), ih, h]; rfl
   ·cases hc : cutL c r with
    | nil => exact absurd hc (cutL_ne c r)
    | cons w ws =>
      rw [hc] at ih
      cases ws with
      | nil => simpa [joinL] using ih
      | cons v vs =>
        simp only [joinL] at ih ⊢
        rw [← ih]; rfl
theorem cut_hit (c : UInt8) (r : Bs) : cutL c (c :: r) = [] :: cutL c r := by
 conv => lhs; unfold cutL
 rw [if_pos rfl]
theorem cut_miss {b c : UInt8} (h : ¬ b = c) {r w : Bs} {ws : List Bs} (hr : cutL c r = w :: ws) : cutL c (b :: r) = (b :: w) :: ws := by
 conv => lhs; unfold cutL
 rw [if_neg h, hr]
theorem cut_none (c : UInt8) : ∀ l : Bs, c ∉ l → cutL c l = [l]
 | [], _ => rfl
 | b :: r, h => by
   rw [List.mem_cons, not_or] at h
   exact cut_miss (fun e => h.1 e.symm) (cut_none c r h.2)
theorem cut_app (c : UInt8) : ∀ (w : Bs) (r : Bs), c ∉ w → cutL c (w ++ c :: r) = w :: cutL c r
 | [], r, _ => cut_hit c r
 | b :: w, r, h => by
   rw [List.mem_cons, not_or] at h
   exact cut_miss (fun e => h.1 e.symm) (cut_app c w r h.2)
theorem cut_join (c : UInt8) : ∀ ws : List Bs, ws ≠ [] → (∀ w ∈ ws, c ∉ w) → cutL c (joinL [c] ws) = ws
 | [], h, _ => absurd rfl h
 | [w], _, h => cut_none c w (h w (by simp))
 | w :: v :: ws, _, h => by
   show cutL c (w ++ [c] ++ joinL [c] (v :: ws)) = _
   rw [List.append_assoc, List.singleton_append, cut_app c w _ (h w (by simp)), cut_join c (v :: ws) (by simp) fun x hx => h x (List.mem_cons_of_mem _ hx)]
theorem cut_len (c : UInt8) : ∀ l : Bs, (cutL c l).length ≤ l.length + 1
 | [] => by simp [cutL]
 | b :: r => by
   have ih := cut_len c r
   unfold cutL
   split
   ·simpa using ih
   ·split
    ·rename_i h; rw [h] at ih; simp at ih ⊢; omega
    ·simp
def isDig (b : UInt8) : Prop := 48 ≤ b.toNat ∧ b.toNat ≤ 57
instance (b : UInt8) : Decidable (isDig b) := inferInstanceAs (Decidable (_ ∧ _))
theorem dig_of {k : Nat} (h : k < 10) : (UInt8.ofNat (48 + k)).toNat = 48 + k := by
 rw [UInt8.toNat_ofNat']; omega
theorem decD_small {u : Nat} (h : u < 10) : Lib.decDigits u = [UInt8.ofNat (48 + u)] := by rw [Lib.decDigits, dif_pos h]
theorem decD_big {u : Nat} (h : ¬ u < 10) : Lib.decDigits u = Lib.decDigits (u / 10) ++ [UInt8.ofNat (48 + u % 10)] := by rw [Lib.decDigits, dif_neg h]
theorem decD_dig (u : Nat) : ∀ b ∈ Lib.decDigits u, isDig b := by
 induction u using Nat.strongRecOn with
 | _ u ih =>
   intro b hb
   by_cases h : u < 10
   ·rw [decD_small h] at hb
    simp only [List.mem_singleton] at hb
    subst hb
    unfold isDig; rw [dig_of h]; omega
   ·rw [decD_big h, List.mem_append] at hb
    rcases hb with hb | hb
    ·exact ih _ (by omega) b hb
    ·simp only [List.mem_singleton] at hb
     subst hb
     unfold isDig; rw [dig_of (by omega)]; omega
theorem decD_ne (u : Nat) : Lib.decDigits u ≠ [] := by
 by_cases h : u < 10
 ·rw [decD_small h]; simp
 ·rw [decD_big h]; simp
theorem decD_len (k : Nat) : ∀ u : Nat, u < 10 ^ (k + 1) → (Lib.decDigits u).length ≤ k + 1 := by
 induction k with
 | zero => intro u hu; rw [decD_small (by omega)]; exact Nat.le_refl _
 | succ k ih =>
   intro u hu
   by_cases h : u < 10
   ·rw [decD_small h]; simp
   ·rw [decD_big h, List.length_append]
    have := ih (u / 10) (by rw [Nat.pow_succ] at hu; omega)
    simp; omega
theorem decD_head (u : Nat) : 0 < u → ∃ b r, Lib.decDigits u = b :: r ∧ b.toNat ≠ 48 := by
 induction u using Nat.strongRecOn with
 | _ u ih =>
   intro hu
   by_cases h : u < 10
   ·exact ⟨_, _, decD_small h, by rw [dig_of h]; omega⟩
   ·obtain ⟨b, r, hb, h2⟩ := ih (u / 10) (by omega) (by omega)
    exact ⟨b, r ++ [_], by rw [decD_big h, hb]; rfl, h2⟩
theorem decFrom_app : ∀ (l : Bs) (acc : Nat) (m : Bs), Lib.decFrom acc (l ++ m) = (Lib.decFrom acc l).bind fun a => Lib.decFrom a m
 | [], acc, m => by simp [Lib.decFrom]
 | b :: l, acc, m => by
   simp only [List.cons_append, Lib.decFrom]
   cases h : Lib.digitVal b with
   | none => rfl
   | some d => exact decFrom_app l _ m
theorem digitVal_of {k : Nat} (h : k < 10) : Lib.digitVal (UInt8.ofNat (48 + k)) = some k := by
 unfold Lib.digitVal
 rw [dig_of h, if_pos (by omega)]
 congr 1; omega
theorem decFrom_decD (u : Nat) : Lib.decFrom 0 (Lib.decDigits u) = some u := by
 induction u using Nat.strongRecOn with
 | _ u ih =>
   by_cases h : u < 10
   ·rw [decD_small h]
    simp only [Lib.decFrom, digitVal_of h]
    congr 1; omega
   ·rw [decD_big h, decFrom_app, ih (u / 10) (by omega)]
    simp only [Option.bind_some, Lib.decFrom, digitVal_of (show u % 10 < 10 by omega)]
    congr 1; omega
theorem decD_inj {u v : Nat} (h : Lib.decDigits u = Lib.decDigits v) : u = v := by
 have h1 := decFrom_decD u
 rw [h, decFrom_decD] at h1
 exact (Option.some.inj h1).symm
end Go.Proofs.YtfmjgoeclilcnaaGreatDoor
namespace Go.Proofs.YtfmjgoeclilcnaaGreatDoor
open Go
def bytesL (l : Bs) : ByteArray := ⟨l.toArray⟩
theorem bytesL_data (s : ByteArray) : bytesL s.data.toList = s := by
 cases s; simp [bytesL]
theorem bytesL_list (l : Bs) : (bytesL l).data.toList = l := by simp [bytesL]
theorem bytesL_app (l m : Bs) : bytesL (l ++ m) = bytesL l ++ bytesL m := by
 apply ByteArray.ext; simp [bytesL]
theorem index_not (c : UInt8) : ∀ l : Bs, c ∉ l → Lib.index l [c] = -1
 | [], _ => rfl
 | b :: l, h => by
   rw [List.mem_cons, not_or] at h
   have h1 : List.isPrefixOf [c] (b :: l) = false := by simp [List.isPrefixOf, h.1]
   unfold Lib.index
   rw [h1, index_not c l h.2]; rfl
theorem index_at (c : UInt8) : ∀ (w r : Bs), c ∉ w → Lib.index (w ++ c :: r) [c] = (w.length : Int)
 | [], r, _ => by
   have h1 : List.isPrefixOf [c] (c :: r) = true := by simp [List.isPrefixOf]
   show Lib.index (c :: r) [c] = 0
   unfold Lib.index
   rw [if_pos h1]
 | b :: w, r, h => by
   rw [List.mem_cons, not_or] at h
   have h1 : List.isPrefixOf [c] (b :: (w ++ c :: r)) = false := by simp [List.isPrefixOf, h.1]
   show Lib.index (b :: (w ++ c :: r)) [c] = _
   unfold Lib.index
   rw [h1, index_at c w r h.2]
   have : (((w.length : Int)) == -1) = false := by rw [beq_eq_false_iff_ne]; omega
   rw [this]
   simp
theorem split_cut (c : UInt8) : ∀ (n : Nat) (l : Bs), l.length ≤ n → Lib.splitK [c] 0 (Lib.count l [c]) l = cutL c l
 | n, l, hn => by
   by_cases hc : c ∈ l
   ·obtain ⟨w, r, rfl, hw⟩ := List.eq_append_cons_of_mem hc
    have hi := index_at c w r hw
    rw [Lib.count_hit (by simp) hi, cut_app c w r hw, Nat.add_comm]
    have hm : ¬ (Lib.index (w ++ c :: r) [c] == -1) = true := fun e => by have := beq_iff_eq.1 e; omega
    rw [Lib.splitK, if_neg hm, hi]
    have e1 : (w ++ c :: r).drop ((w.length : Int).toNat + [c].length) = r := by
     rw [Int.toNat_natCast, List.length_singleton, show w ++ c :: r = (w ++ [c]) ++ r by simp]
     rw [List.drop_append, List.drop_eq_nil_of_le (by simp)]
     simp
    have e3 : (w ++ c :: r).drop (w.length + [c].length) = r := e1
    have e2 : (w ++ c :: r).take ((w.length : Int).toNat + 0) = w := by simp
    rw [e1, e2, e3]
    cases n with
    | zero => simp at hn
    | succ n =>
      rw [split_cut c n r (by simp at hn; omega)]
   ·rw [Lib.count_miss (index_not c l hc), cut_none c l hc]
    rfl
def splitV (c : UInt8) (s : ByteArray) : List ByteArray := (cutL c s.data.toList).map bytesL
theorem split_lib (c : UInt8) (s : ByteArray) : Lib.splitB ⟨#[c]⟩ 0 (Lib.countB s ⟨#[c]⟩) s = splitV c s := by
 have h := Lib.splitB_data ⟨#[c]⟩ 0 (Lib.countB s ⟨#[c]⟩) s
 have h2 : Lib.splitK [c] 0 (Lib.count s.data.toList [c]) s.data.toList = cutL c s.data.toList := split_cut c _ _ (Nat.le_refl _)
 have h3 : (Lib.splitB ⟨#[c]⟩ 0 (Lib.countB s ⟨#[c]⟩) s).map (·.data.toList) = cutL c s.data.toList := h.trans h2
 unfold splitV
 rw [← h3, List.map_map]
 conv => lhs; rw [← List.map_id (Lib.splitB ⟨#[c]⟩ 0 (Lib.countB s ⟨#[c]⟩) s)]
 apply List.map_congr_left
 intro x _
 exact (bytesL_data x).symm
theorem splitV_len (c : UInt8) (s : ByteArray) : (splitV c s).length ≤ s.size + 1 := by
 unfold splitV
 rw [List.length_map]
 exact cut_len c _
def cutV (c : UInt8) (s : ByteArray) : ByteArray × ByteArray × Bool :=
 (bytesL (Lib.cut s.data.toList [c]).1, bytesL (Lib.cut s.data.toList [c]).2.1, (Lib.cut s.data.toList [c]).2.2)
theorem cutV_not {c : UInt8} {s : ByteArray} (h : c ∉ s.data.toList) : cutV c s = (s, ⟨#[]⟩, false) := by
 unfold cutV Lib.cut
 rw [index_not c _ h, if_neg (by decide)]
 simp only [bytesL_data]; rfl
theorem cutV_at {c : UInt8} {s : ByteArray} {w r : Bs} (h : s.data.toList = w ++ c :: r) (hw : c ∉ w) : cutV c s = (bytesL w, bytesL r, true) := by
 unfold cutV Lib.cut
 rw [h, index_at c w r hw, if_pos (by omega)]
 have e1 : (w ++ c :: r).drop ((w.length : Int).toNat + [c].length) = r := by
  rw [Int.toNat_natCast, List.length_singleton, show w ++ c :: r = (w ++ [c]) ++ r by simp]
  rw [List.drop_append, List.drop_eq_nil_of_le (by simp)]
  simp
 have e2 : (w ++ c :: r).take (w.length : Int).toNat = w := by simp
 rw [e1, e2]
def joinV (sep : ByteArray) (xs : List ByteArray) : ByteArray := bytesL (Lib.join (xs.map (·.data.toList)) sep.data.toList)
theorem lib_join (sep : Bs) : ∀ xs : List Bs, Lib.join xs sep = joinL sep xs
 | [] => rfl
 | [x] => Lib.join_one x sep
 | x :: y :: r => by
   rw [joinL_cons _ _ (by simp), ← lib_join sep (y :: r)]
   simp [Lib.join, List.intercalate]
theorem splitV_join {c : UInt8} {ws : List ByteArray} (hn : ws ≠ []) (h : ∀ w ∈ ws, c ∉ w.data.toList) : splitV c (joinV ⟨#[c]⟩ ws) = ws := by
 unfold splitV joinV
 rw [bytesL_list, lib_join]
 have e : (⟨#[c]⟩ : ByteArray).data.toList = [c] := rfl
 rw [e, cut_join c _ (by simpa using hn) (by
  intro w hw
  obtain ⟨x, hx, rfl⟩ := List.mem_map.1 hw
  exact h x hx), List.map_map]
 conv => rhs; rw [← List.map_id ws]
 apply List.map_congr_left
 intro x _
 exact bytesL_data x
theorem joinV_split (c : UInt8) (s : ByteArray) : joinV ⟨#[c]⟩ (splitV c s) = s := by
 unfold splitV joinV
 rw [lib_join, List.map_map]
 have e : (cutL c s.data.toList).map ((fun x : ByteArray => x.data.toList) ∘ bytesL) = cutL c s.data.toList := by
  conv => rhs; rw [← List.map_id (cutL c s.data.toList)]
  apply List.map_congr_left
  intro x _
  exact bytesL_list x
 rw [e]
 have e2 : (⟨#[c]⟩ : ByteArray).data.toList = [c] := rfl
 rw [e2, join_cut, bytesL_data]
theorem joinV_three (c : UInt8) (x y z : ByteArray) : joinV ⟨#[c]⟩ [x, y, z] = x ++ ⟨#[c]⟩ ++ y ++ ⟨#[c]⟩ ++ z := by
 unfold joinV
 rw [lib_join]
 show bytesL (x.data.toList ++ [c] ++ (y.data.toList ++ [c] ++ z.data.toList)) = _
 rw [bytesL_app, bytesL_app, bytesL_app, bytesL_app, bytesL_data, bytesL_data, bytesL_data]
 have e : bytesL [c] = ⟨#[c]⟩ := rfl
 rw [e]
 simp only [ByteArray.append_assoc]
end Go.Proofs.YtfmjgoeclilcnaaGreatDoor
