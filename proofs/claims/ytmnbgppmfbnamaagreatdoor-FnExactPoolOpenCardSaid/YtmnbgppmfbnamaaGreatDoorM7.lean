import Derived.Test.YtmnbgppmfbnamaaGreatDoorProg
import Derived.WalkKit
import Derived.Ground.NamesProg
import Derived.Shelf.Strings.SlTrimAscii
import Derived.Sort.Walk0
import Derived.Test.YtmnbgppmfbnamaaGreatDoorM5
import Derived.Test.YtmnbgppmfbnamaaGreatDoorM6
set_option linter.unusedSimpArgs false
set_option linter.unusedVariables false
set_option linter.unusedSectionVars false
/- Functions of the exact laws: numbers; pointers. -/
namespace Go.Proofs.YtmnbgppmfbnamaaGreatDoor
open Go.RowKit

@[go_sem] def ctEqI : Ct := ⟨false, [[some .int], [some .int]], fun args os => match args, os with
  | [.one (.isl .int xs), .one (.isl .int ys)], [] => ifp (xs = ys ∧ xs.length ≤ 4000000) (vb true)
  | _, _ => no⟩
@[go_sem] def sgEqI (xs : List Int) (i : Nat) : Sg := ⟨[(0, .one (.isl .int xs)), (1, .one (.isl .int xs)), (5, vi i)], [], []⟩
theorem s_eqI_e : EnterOk Tryz.prog 103 := ⟨_, Tryz.func103, rfl, by decide⟩
@[go_sem] def s_eqI_lv : List (List Nat) := [[0, 1], [0, 1, 10], [4], [0, 1, 5], [0, 1, 5, 14], [0, 1, 5], [0, 1, 5, 25], [4], [4]]
@[go_sem] noncomputable def s_eqI_K : Known := Known.nil
set_option maxHeartbeats 8000000 in
theorem s_eqI : Sound Tryz.prog 103 ctEqI := by
  have ke := s_eqI_K.env []
  have kl : Lives s_eqI_lv := trivial
  refine sound_intro (E := ⟨ti, s_eqI_K.Γ, []⟩) ke Tryz.func103 Tryz.ntmps103 rfl (rs := [.tmp 4]) rfl ?_
  intro args os hp
  unfold ctEqI at hp ⊢
  dsimp only at hp ⊢
  split at hp
  · rename_i xs ys
    refine ⟨by simp, fun φ0 w0 => ?_⟩
    obtain ⟨rfl, hlen⟩ : xs = ys ∧ xs.length ≤ 4000000 := hp
    refine goh trivial ?_
    refine W_cnd ?_ ?_ <;> intro hlit <;> try (cases hlit; done)
    refine goh trivial ?_
    refine W_le (σ' := sgEqI xs 0) [] (by
      simp only [go_sem, inj_r, ↓reduceIte, reduceCtorEq, Nat.reduceAdd, Nat.reduceLT, Nat.reduceLeDiff, Nat.reduceEqDiff, Int.reduceEq]
      all_goals (repeat' refine And.intro ?_ ?_) <;> try exact shut7
      ) ?_
    refine W_loop (fun n σ => ∃ i : Nat, i ≤ xs.length ∧ n = xs.length - i ∧ σ = sgEqI xs i) xs.length ⟨0, by omega, by omega, rfl⟩ ?_
    rintro n σ ⟨i, hi, rfl, rfl⟩
    unfold sgEqI
    refine goh trivial ?_
    refine W_cnd ?_ ?_ <;> (try simp only [cnd_r]) <;> intro hlt
    · refine goh trivial ?_
      refine W_cnd ?_ ?_ <;> intro hlit <;> try (cases hlit; done)
      refine goh trivial ?_
      refine ⟨xs.length - (i + 1), [], sgEqI xs (i + 1), by omega, ?_, i + 1, by omega, rfl, rfl⟩
      exact leh trivial
    · refine goh trivial ?_
      exact finh [] trivial
  · simp [no, ifp] at hp
@[go_sem] def ctToI : Ct := ⟨false, [[some .int]], fun args os => match args, os with
  | [.one (.isl .int xs)], [] => ⟨xs.length ≤ 4000000, .one (.osl .int 0 0 xs.length), [], [.arr .int xs]⟩
  | _, _ => no⟩
@[go_sem] def sgToI (xs : List Int) (i : Nat) : Sg := ⟨[(0, .one (.isl .int xs)), (3, .one (.osl .int 0 0 xs.length)), (4, vi i)], [some (.arr .int (mix xs (List.replicate xs.length ET.int.dflt) i))], []⟩
theorem s_toI_e : EnterOk Tryz.prog 96 := ⟨_, Tryz.func96, rfl, by decide⟩
@[go_sem] def s_toI_lv : List (List Nat) := [[0], [0, 3], [0, 3, 4], [0, 3, 4, 11], [0, 3, 4], [0, 3, 4], [2]]
@[go_sem] noncomputable def s_toI_K : Known := Known.nil
set_option maxHeartbeats 8000000 in
theorem s_toI : Sound Tryz.prog 96 ctToI := by
  have ke := s_toI_K.env []
  have kl : Lives s_toI_lv := trivial
  refine sound_intro (E := ⟨ti, s_toI_K.Γ, []⟩) ke Tryz.func96 Tryz.ntmps96 rfl (rs := [.tmp 2]) rfl ?_
  intro args os hp
  unfold ctToI at hp ⊢
  dsimp only at hp ⊢
  split at hp
  · rename_i xs
    refine ⟨by simp, fun φ0 w0 => ?_⟩
    have hlen : xs.length ≤ 4000000 := hp
    clear hp
    refine goh trivial ?_
    refine W_le (σ' := sgToI xs 0) [some 0] (by
      simp only [go_sem, mix_zero, inj_r, ↓reduceIte, reduceCtorEq, Nat.reduceAdd, Nat.reduceLT, Nat.reduceLeDiff, Nat.reduceEqDiff, Int.reduceEq]
      all_goals (repeat' refine And.intro ?_ ?_) <;> try exact shut7
      ) ?_
    refine W_loop (fun n σ => ∃ i : Nat, i ≤ xs.length ∧ n = xs.length - i ∧ σ = sgToI xs i) xs.length ⟨0, by omega, by omega, rfl⟩ ?_
    rintro n σ ⟨i, hi, rfl, rfl⟩
    unfold sgToI
    have hm := mix_len xs (List.replicate xs.length ET.int.dflt) i (by simp)
    rw [List.length_replicate] at hm
    refine goh hm ?_
    refine W_cnd ?_ ?_ <;> (try simp only [cnd_r]) <;> intro hlt
    · have hs := mix_set xs (List.replicate xs.length ET.int.dflt) i ET.int.dflt (by simp) (by simp; omega) rfl
      refine goh hm ?_
      refine ⟨xs.length - (i + 1), [some 0], sgToI xs (i + 1), by omega, ?_, i + 1, by omega, rfl, rfl⟩
      exact leh (And.intro hs hm)
    · have hs := mix_all xs (List.replicate xs.length ET.int.dflt) i (by simp) (by simp; omega)
      refine goh hm ?_
      exact finh [some 0] hs
  · simp [no] at hp
@[go_sem] def ctMarkI : Ct := ⟨true, [], fun args os => match args, os with
  | [.one (.osl .int 0 0 n), .one (.val (.int .i64 k))], [.arr .int xs] => ⟨n = xs.length ∧ xs.length ≤ 4000000 ∧ 0 ≤ k ∧ k ≤ 1000000000, vi (k + xs.length), [(0, some (.arr .int (markI xs.length k)))], []⟩
  | _, _ => no⟩
@[go_sem] def sgMarkI (xs : List Int) (k : Int) (i : Nat) : Sg := ⟨[(0, .one (.osl .int 0 0 xs.length)), (1, vi (k + i)), (5, vi i)], [some (.arr .int (mix (markI xs.length k) xs i))], [0]⟩
theorem s_markI_e : EnterOk Tryz.prog 107 := ⟨_, Tryz.func107, rfl, by decide⟩
@[go_sem] def s_markI_lv : List (List Nat) := [[0, 1], [0, 1, 5], [0, 1, 5, 9], [0, 1, 5], [0, 1, 5], [0, 1, 5], [4]]
@[go_sem] noncomputable def s_markI_K : Known := Known.nil
set_option maxHeartbeats 8000000 in
theorem s_markI : Sound Tryz.prog 107 ctMarkI := by
  have ke := s_markI_K.env []
  have kl : Lives s_markI_lv := trivial
  refine sound_intro (E := ⟨ti, s_markI_K.Γ, []⟩) ke Tryz.func107 Tryz.ntmps107 rfl (rs := [.tmp 4]) rfl ?_
  intro args os hp
  unfold ctMarkI at hp ⊢
  dsimp only at hp ⊢
  split at hp
  · rename_i n k xs
    refine ⟨by simp, fun φ0 w0 => ?_⟩
    obtain ⟨rfl, h1, h2, h3⟩ : n = xs.length ∧ xs.length ≤ 4000000 ∧ 0 ≤ k ∧ k ≤ 1000000000 := hp
    have hml := markI_len xs.length k
    refine goh trivial ?_
    refine W_le (σ' := sgMarkI xs k 0) [some 0] (by
      simp only [go_sem, mix_zero, inj_r, ↓reduceIte, reduceCtorEq, Nat.reduceAdd, Nat.reduceLT, Nat.reduceLeDiff, Nat.reduceEqDiff, Int.reduceEq]
      all_goals (repeat' refine And.intro ?_ ?_) <;> try exact shut7
      ) ?_
    refine W_loop (fun q σ => ∃ i : Nat, i ≤ xs.length ∧ q = xs.length - i ∧ σ = sgMarkI xs k i) xs.length ⟨0, by omega, by omega, rfl⟩ ?_
    rintro q σ ⟨i, hi, rfl, rfl⟩
    unfold sgMarkI
    have hm := mix_len (markI xs.length k) xs i hml
    refine goh hm ?_
    refine W_cnd ?_ ?_ <;> (try simp only [cnd_r]) <;> intro hlt
    · have hs := mix_set (markI xs.length k) xs i ET.int.dflt hml (by omega) (x := k + i) (markI_get (by omega) _).symm
      refine goh hm ?_
      refine ⟨xs.length - (i + 1), [some 0], sgMarkI xs k (i + 1), by omega, ?_, i + 1, by omega, rfl, rfl⟩
      exact leh (And.intro hs hm)
    · obtain rfl : i = xs.length := by omega
      have hs := mix_all (markI xs.length k) xs xs.length hml rfl
      refine goh hm ?_
      exact finh [some 0] hs
  · simp [no] at hp
@[go_sem] def ctHeldI : Ct := ⟨false, [[some .int]], fun args os => match args, os with
  | [.one (.isl .int xs), .one (.val (.int .i64 k))], [] => ifp (xs = markI xs.length k ∧ xs.length ≤ 4000000 ∧ 0 ≤ k ∧ k ≤ 1000000000) (vi (k + xs.length))
  | _, _ => no⟩
@[go_sem] def sgHeldI (xs : List Int) (k : Int) (i : Nat) : Sg := ⟨[(0, .one (.isl .int xs)), (1, vi (k + i)), (5, vi i)], [], []⟩
theorem s_heldI_e : EnterOk Tryz.prog 113 := ⟨_, Tryz.func113, rfl, by decide⟩
@[go_sem] def s_heldI_lv : List (List Nat) := [[0, 1], [0, 1, 5], [0, 1, 5, 9], [0, 1, 5], [0, 1, 5, 17], [4], [0, 1, 5], [4]]
@[go_sem] noncomputable def s_heldI_K : Known := Known.nil
set_option maxHeartbeats 8000000 in
theorem s_heldI : Sound Tryz.prog 113 ctHeldI := by
  have ke := s_heldI_K.env []
  have kl : Lives s_heldI_lv := trivial
  refine sound_intro (E := ⟨ti, s_heldI_K.Γ, []⟩) ke Tryz.func113 Tryz.ntmps113 rfl (rs := [.tmp 4]) rfl ?_
  intro args os hp
  unfold ctHeldI at hp ⊢
  dsimp only at hp ⊢
  split at hp
  · rename_i xs k
    refine ⟨by simp, fun φ0 w0 => ?_⟩
    obtain ⟨h0, h1, h2, h3⟩ : xs = markI xs.length k ∧ xs.length ≤ 4000000 ∧ 0 ≤ k ∧ k ≤ 1000000000 := hp
    have hget : ∀ i, i < xs.length → xs.getD i ET.int.dflt = k + i := fun i hi => by
      conv => lhs; rw [h0]
      exact markI_get hi _
    clear h0
    refine goh trivial ?_
    refine W_le (σ' := sgHeldI xs k 0) [] (by
      simp only [go_sem, inj_r, ↓reduceIte, reduceCtorEq, Nat.reduceAdd, Nat.reduceLT, Nat.reduceLeDiff, Nat.reduceEqDiff, Int.reduceEq]
      all_goals (repeat' refine And.intro ?_ ?_) <;> try exact shut7
      ) ?_
    refine W_loop (fun q σ => ∃ i : Nat, i ≤ xs.length ∧ q = xs.length - i ∧ σ = sgHeldI xs k i) xs.length ⟨0, by omega, by omega, rfl⟩ ?_
    rintro q σ ⟨i, hi, rfl, rfl⟩
    unfold sgHeldI
    refine goh trivial ?_
    refine W_cnd ?_ ?_ <;> (try simp only [cnd_r]) <;> intro hlt
    · have hg := hget i (by omega)
      refine goh hg ?_
      refine W_cnd ?_ ?_ <;> intro hlit <;> try (cases hlit; done)
      refine goh trivial ?_
      refine ⟨xs.length - (i + 1), [], sgHeldI xs k (i + 1), by omega, ?_, i + 1, by omega, rfl, rfl⟩
      exact leh trivial
    · obtain rfl : i = xs.length := by omega
      refine goh trivial ?_
      exact finh [] trivial
  · simp [no, ifp] at hp
@[go_sem] def ctToPtr : Ct := ⟨false, [], fun args os => match args, os with
  | [.agg [.val (.int .i64 x), .val (.int .i64 y), .val (.int .i64 z)]], [] => is (.agg [.val (.int .i64 x), .val (.int .i64 y), .val (.int .i64 z)])
  | _, _ => no⟩
theorem s_toPtr_e : EnterOk Tryz.prog 167 := ⟨_, Tryz.func167, rfl, by decide⟩
@[go_sem] def s_toPtr_lv : List (List Nat) := [[1, 2], [1, 2, 3], [1, 2, 3], [1, 2, 3], [2, 3], [2]]
@[go_sem] noncomputable def s_toPtr_K : Known := Known.nil
set_option maxHeartbeats 8000000 in
theorem s_toPtr : Sound Tryz.prog 167 ctToPtr := by
  have ke := s_toPtr_K.env []
  have kl : Lives s_toPtr_lv := trivial
  refine sound_intro (E := ⟨ti, s_toPtr_K.Γ, []⟩) ke Tryz.func167 Tryz.ntmps167 rfl (rs := [.cell 2 187]) rfl ?_
  intro args os hp
  unfold ctToPtr at hp ⊢
  dsimp only at hp ⊢
  split at hp
  · rename_i x y z
    refine ⟨by simp, fun φ0 w0 => ?_⟩
    refine goh trivial ?_
    exact finh [] trivial
  · simp [no, is] at hp
end Go.Proofs.YtmnbgppmfbnamaaGreatDoor
/-
  DERIVED: THE SHELF's CONTRACTS AT THIS DUMP, IN PLAIN WORDS (tools/lay-plain.mjs out of 'YtmnbgppmfbnamaaGreatDoorTSh1Q.lean', which tools/lay-shelf.mjs wrote): THE SAME DECLARATIONS UNDER THE SAME NAMES: 'import', 'namespace', 'open', 'def', 'theorem' AND NOTHING ELSE: no command of the shelf's: FOR A HAND-IN. Each laying: the table of numbers ('.._ren') and one theorem, a field a fact of the dump's own or the kernel's comparison; each contract: ONE APPLICATION.
-/
namespace Go.Proofs
open Go.Shelf
def Tryz.lays160_ren : Go.Shelf.Ren := ⟨fun | 160 => 123 | 232 => 193 | 231 => 192 | 227 => 194 | 234 => 196 | 233 => 195 | 236 => 198 | 235 => 197 | 228 => 243 | 271 => 246 | 151 => 245 | 197 => 244 | 120 => 287 | 152 => 286 | 260 => 285 | 137 => 133 | 119 => 306 | 224 => 256 | 225 => 255 | 217 => 211 | 266 => 261 | n => n, fun | 9 => 9 | 4 => 4 | 3 => 3 | 5 => 5 | 117 => 224 | 116 => 223 | 0 => 0 | 124 => 227 | 21 => 21 | 105 => 266 | 46 => 153 | 119 => 318 | 139 => 321 | 138 => 320 | n => n, fun | 3 => 4 | 4 => 5 | n => n⟩
theorem Tryz.lays160 : Go.Proofs.Lays.n160 Tryz.prog Tryz.lays160_ren := {
  mixed := by kernel_rfl
  f119 := Tryz.func306.trans (congrArg some (by kernel_rfl))
  f120 := Tryz.func287.trans (congrArg some (by kernel_rfl))
  f137 := Tryz.func133.trans (congrArg some (by kernel_rfl))
  f151 := Tryz.func245.trans (congrArg some (by kernel_rfl))
  f152 := Tryz.func286.trans (congrArg some (by kernel_rfl))
  f160 := Tryz.func123.trans (congrArg some (by kernel_rfl))
  f197 := Tryz.func244.trans (congrArg some (by kernel_rfl))
  f217 := Tryz.func211.trans (congrArg some (by kernel_rfl))
  f224 := Tryz.func256.trans (congrArg some (by kernel_rfl))
  f225 := Tryz.func255.trans (congrArg some (by kernel_rfl))
  f227 := Tryz.func194.trans (congrArg some (by kernel_rfl))
  f228 := Tryz.func243.trans (congrArg some (by kernel_rfl))
  f231 := Tryz.func192.trans (congrArg some (by kernel_rfl))
  f232 := Tryz.func193.trans (congrArg some (by kernel_rfl))
  f233 := Tryz.func195.trans (congrArg some (by kernel_rfl))
  f234 := Tryz.func196.trans (congrArg some (by kernel_rfl))
  f235 := Tryz.func197.trans (congrArg some (by kernel_rfl))
  f236 := Tryz.func198.trans (congrArg some (by kernel_rfl))
  f260 := Tryz.func285.trans (congrArg some (by kernel_rfl))
  f266 := Tryz.func261.trans (congrArg some (by kernel_rfl))
  f271 := Tryz.func246.trans (congrArg some (by kernel_rfl))
  t0 := Tryz.underlying0
  a0 := Tryz.isAgg0
  z0 := Tryz.sizeOf0
  v0 := Tryz.zeroValue0
  t3 := Tryz.underlying3
  a3 := Tryz.isAgg3
  z3 := Tryz.sizeOf3
  v3 := Tryz.zeroValue3
  t4 := Tryz.underlying4
  a4 := Tryz.isAgg4
  z4 := Tryz.sizeOf4
  v4 := Tryz.zeroValue4
  t5 := Tryz.underlying5
  a5 := Tryz.isAgg5
  z5 := Tryz.sizeOf5
  v5 := Tryz.zeroValue5
  t9 := Tryz.underlying9
  a9 := Tryz.isAgg9
  z9 := Tryz.sizeOf9
  v9 := Tryz.zeroValue9
  t21 := Tryz.underlying21
  a21 := Tryz.isAgg21
  z21 := Tryz.sizeOf21
  v21 := Tryz.zeroValue21
  t46 := Tryz.underlying153
  a46 := Tryz.isAgg153
  z46 := Tryz.sizeOf153
  v46 := Tryz.zeroValue153
  t105 := Tryz.underlying266
  a105 := Tryz.isAgg266
  z105 := Tryz.sizeOf266
  v105 := Tryz.zeroValue266
  t116 := Tryz.underlying223
  a116 := Tryz.isAgg223
  z116 := Tryz.sizeOf223
  t117 := Tryz.underlying224
  a117 := Tryz.isAgg224
  z117 := Tryz.sizeOf224
  v117 := Tryz.zeroValue224
  t119 := Tryz.underlying318
  a119 := Tryz.isAgg318
  z119 := Tryz.sizeOf318
  t124 := Tryz.underlying227
  a124 := Tryz.isAgg227
  z124 := Tryz.sizeOf227
  v124 := Tryz.zeroValue227
  t138 := Tryz.underlying320
  a138 := Tryz.isAgg320
  z138 := Tryz.sizeOf320
  v138 := Tryz.zeroValue320
  t139 := Tryz.underlying321
  a139 := Tryz.isAgg321
  z139 := Tryz.sizeOf321
  v139 := Tryz.zeroValue321
  g3 := by kernel_rfl
  g4 := by kernel_rfl }
end Go.Proofs
/- strings.Trim at the small letters. -/
namespace Go.Proofs.YtmnbgppmfbnamaaGreatDoor
open Go.RowKit

def small : ByteArray := ⟨#[97, 98, 99, 100, 101, 102, 103, 104, 105, 106, 107, 108, 109, 110, 111, 112, 113, 114, 115, 116, 117, 118, 119, 120, 121, 122]⟩
def trimmed (s : ByteArray) : ByteArray := ⟨(Lib.trimS s.data.toList small.data.toList).toArray⟩
@[go_sem] def ctTrim : Ct := ⟨false, [], fun args os => match args, os with
  | [.one (.val (.string s)), .one (.val (.string c))], [] => ifp (s.size ≤ 9223372036854775807 ∧ c = small) (vs (trimmed s))
  | _, _ => no⟩
theorem s_trim_e : EnterOk Tryz.prog 123 := ⟨_, Tryz.func123, rfl, by decide⟩
theorem s_trim : Sound Tryz.prog 123 ctTrim := by
  refine sound_plain fun args os hp => ?_
  unfold ctTrim at hp ⊢
  dsimp only at hp ⊢
  split at hp
  · rename_i s c
    obtain ⟨hs, rfl⟩ : s.size ≤ 9223372036854775807 ∧ c = small := hp
    refine ⟨rfl, [.string s, .string small], .string (trimmed s), rfl, rfl, fun w _ => ?_⟩
    exact Any.strings_Trim_laid Tryz.lays160 (by kernel_rfl) s small w hs (by decide) (ascii_of_all (by decide))
  · exact hp.elim
end Go.Proofs.YtmnbgppmfbnamaaGreatDoor
/- Plain facts: names. -/
namespace Go.Proofs.YtmnbgppmfbnamaaGreatDoor
open Go.RowKit

def isLow (b : UInt8) : Bool := decide (97 ≤ b.toNat) && decide (b.toNat ≤ 122)
/-- Is it a name: one to six small letters. -/
def nameB (s : ByteArray) : Bool := (decide (1 ≤ s.size) && decide (s.size ≤ 6)) && s.data.toList.all isLow
theorem small_low : ∀ n : Fin 256, small.data.toList.contains (UInt8.ofNat n.val) = isLow (UInt8.ofNat n.val) := by decide +kernel
theorem small_low' (b : UInt8) : small.data.toList.contains b = isLow b := by
  have h := small_low ⟨b.toNat, b.toNat_lt⟩
  simpa using h
theorem dropWhile_nil {α : Type} (p : α → Bool) : ∀ l : List α, l.dropWhile p = [] ↔ l.all p = true
  | [] => by simp
  | a :: l => by
    rw [List.dropWhile_cons, List.all_cons]
    cases h : p a
    · simp
    · simpa using dropWhile_nil p l
theorem trimmed_nil (s : ByteArray) : trimmed s = ⟨#[]⟩ ↔ s.data.toList.all isLow = true := by
  have hp : (fun b => small.data.toList.contains b) = isLow := funext small_low'
  have hsub : ∀ l : List UInt8, (l.reverse.dropWhile isLow).reverse.all isLow = true → l.all isLow = true := by
    intro l h
    rw [List.all_reverse] at h
    have h2 : l.reverse.all isLow = true := by
      rw [← List.takeWhile_append_dropWhile (p := isLow) (l := l.reverse), List.all_append, h, Bool.and_true]
      exact List.all_takeWhile
    rwa [List.all_reverse] at h2
  have hback : ∀ l : List UInt8, l.all isLow = true → l.reverse.dropWhile isLow = [] := fun l h => (dropWhile_nil _ _).2 (by rwa [List.all_reverse])
  unfold trimmed Lib.trimS Lib.trimLeftS Lib.trimRightS
  rw [hp]
  constructor
  · intro h
    have h1 : ((s.data.toList.reverse.dropWhile isLow).reverse.dropWhile isLow) = [] := by
      have h2 := congrArg (fun x : ByteArray => x.data.toList) h
      simpa using h2
    exact hsub _ ((dropWhile_nil _ _).1 h1)
  · intro h
    rw [hback _ h]
    rfl
theorem all_low (s : ByteArray) : s.data.toList.all isLow = true ↔ ∀ j, j < s.size → isLow (s.data.getD j 0) = true := by
  rw [List.all_eq_true]
  constructor
  · intro h j hj
    have hj2 : j < s.data.size := hj
    have : s.data.getD j 0 = s.data[j] := dif_pos hj2
    rw [this]
    exact h _ (by simp)
  · intro h b hb
    obtain ⟨j, hj, rfl⟩ := List.getElem_of_mem hb
    have hj2 : j < s.data.size := by simpa using hj
    have h3 := h j hj2
    rw [show s.data.getD j 0 = s.data[j] from dif_pos hj2] at h3
    simpa using h3
theorem nameB_same (s : ByteArray) : nameB s = (if 1 ≤ (s.size : Int) ∧ (s.size : Int) ≤ 6 then same (trimmed s) ⟨#[]⟩ else false) := by
  have e : same (trimmed s) ⟨#[]⟩ = s.data.toList.all isLow := by
    rw [Bool.eq_iff_iff, same_true, trimmed_nil]
  unfold nameB
  rw [e]
  by_cases h : 1 ≤ (s.size : Int) ∧ (s.size : Int) ≤ 6
  · rw [if_pos h, decide_eq_true (show 1 ≤ s.size by omega), decide_eq_true (show s.size ≤ 6 by omega)]; rfl
  · rw [if_neg h, Bool.and_eq_false_iff]
    left
    rw [Bool.and_eq_false_iff, decide_eq_false_iff_not, decide_eq_false_iff_not]
    omega
theorem nameB_false {s : ByteArray} {i : Nat} (hi : i < s.size) (h : isLow (s.data.getD i 0) = false) : nameB s = false := by
  unfold nameB
  have : s.data.toList.all isLow = false := by
    rw [← Bool.not_eq_true, all_low]
    intro h2
    rw [h2 i hi] at h; cases h
  rw [this, Bool.and_false]
theorem nameB_low {s : ByteArray} (h : ∀ j, j < s.size → isLow (s.data.getD j 0) = true) : nameB s = (if (s.size : Int) > 0 then decide ((s.size : Int) ≤ 6) else false) := by
  unfold nameB
  rw [(all_low s).2 h, Bool.and_true]
  by_cases h1 : (s.size : Int) > 0
  · rw [if_pos h1, decide_eq_true (show 1 ≤ s.size by omega), Bool.true_and, decide_eq_decide]; omega
  · rw [if_neg h1, decide_eq_false (show ¬ 1 ≤ s.size by omega)]; rfl
end Go.Proofs.YtmnbgppmfbnamaaGreatDoor
/- Functions: names. -/
namespace Go.Proofs.YtmnbgppmfbnamaaGreatDoor
open Go.RowKit

@[go_sem] def ctName : Ct := ⟨false, [], fun args os => match args, os with
  | [.one (.val (.string s))], [] => ifp (s.size ≤ 9223372036854775807) (vb (nameB s))
  | _, _ => no⟩
theorem s_bookName_e : EnterOk Tryz.prog 47 := ⟨_, Tryz.func47, rfl, by decide⟩
@[go_sem] def s_bookName_lv : List (List Nat) := [[0], [2]]
@[go_sem] noncomputable def s_bookName_K : Known := ((Known.nil).cons 46 ctWithin s_within s_within_e).cons 123 ctTrim s_trim s_trim_e
set_option maxHeartbeats 8000000 in
theorem s_bookName : Sound Tryz.prog 47 ctName := by
  have ke := s_bookName_K.env []
  have kl : Lives s_bookName_lv := trivial
  refine sound_intro (E := ⟨ti, s_bookName_K.Γ, []⟩) ke Tryz.func47 Tryz.ntmps47 rfl (rs := [.tmp 2]) rfl ?_
  intro args os hp
  unfold ctName at hp ⊢
  dsimp only at hp ⊢
  split at hp
  · rename_i s
    refine ⟨by simp, fun φ0 w0 => ?_⟩
    have hs : s.size ≤ 9223372036854775807 := hp
    clear hp
    repeat' first
      | with_reducible refine red ?_
      | refine W_seq ?_
      | (refine W_reg (s_bookName_K.env []) s_bookName_lv fun K' hK' => ?_
         simp only [go_sem, small, ↓reduceIte, ↓reduceDIte, reduceCtorEq, Nat.reduceAdd, Nat.reduceMul, Nat.reduceSub, Nat.reduceDiv, Nat.reduceMod, Nat.reduceLT, Nat.reduceLeDiff, Nat.reduceEqDiff, Nat.reduceBEq, Int.reduceToNat, Int.reduceLE, Int.reduceLT, Int.reduceEq, Int.reduceNe, Int.reduceNeg]
         (repeat' refine And.intro ?_ ?_) <;> try first | with_reducible refine hK' ?_ | exact shut6)
      | with_reducible refine blockG_o (by decide) ?_
    refine ⟨by (simp only [go_sem, ↓reduceIte, reduceCtorEq, Nat.reduceAdd, Nat.reduceLT, Nat.reduceLeDiff, Nat.reduceEqDiff]) <;> trivial, [], ?_⟩
    all_goals try simp only [go_sem, inj_r, ↓reduceIte, reduceCtorEq, Nat.reduceAdd, Nat.reduceLT, Nat.reduceLeDiff, Nat.reduceEqDiff, Int.reduceEq]
    all_goals (repeat' refine And.intro ?_ ?_) <;> try exact shut7
    exact (nameB_same s).symm
  · simp [no, ifp] at hp
@[go_sem] def sgName (s : ByteArray) (i : Nat) : Sg := ⟨[(0, vs s), (3, vi i)], [], []⟩
theorem s_specName_e : EnterOk Tryz.prog 59 := ⟨_, Tryz.func59, rfl, by decide⟩
@[go_sem] def s_specName_lv : List (List Nat) := [[0], [0, 3], [0, 3, 7], [0, 3], [0, 3, 19], [2], [2]]
@[go_sem] noncomputable def s_specName_K : Known := Known.nil
set_option maxHeartbeats 8000000 in
theorem s_specName : Sound Tryz.prog 59 ctName := by
  have ke := s_specName_K.env []
  have kl : Lives s_specName_lv := trivial
  refine sound_intro (E := ⟨ti, s_specName_K.Γ, []⟩) ke Tryz.func59 Tryz.ntmps59 rfl (rs := [.tmp 2]) rfl ?_
  intro args os hp
  unfold ctName at hp ⊢
  dsimp only at hp ⊢
  split at hp
  · rename_i s
    refine ⟨by simp, fun φ0 w0 => ?_⟩
    have hs : s.size ≤ 9223372036854775807 := hp
    clear hp
    refine goh trivial ?_
    refine W_le (σ' := sgName s 0) [] (by
      simp only [go_sem, inj_r, ↓reduceIte, reduceCtorEq, Nat.reduceAdd, Nat.reduceLT, Nat.reduceLeDiff, Nat.reduceEqDiff, Int.reduceEq]
      all_goals (repeat' refine And.intro ?_ ?_) <;> try exact shut7
      ) ?_
    refine W_loop (fun q σ => ∃ i : Nat, i ≤ s.size ∧ q = s.size - i ∧ (∀ j, j < i → isLow (s.data.getD j 0) = true) ∧ σ = sgName s i) s.size ⟨0, by omega, by omega, by omega, rfl⟩ ?_
    rintro q σ ⟨i, hi, rfl, hbef, rfl⟩
    unfold sgName
    refine goh trivial ?_
    refine W_cnd ?_ ?_ <;> (try simp only [cnd_r]) <;> intro hlt
    · refine goh trivial ?_
      refine W_cnd ?_ ?_ <;> (try simp only [cnd_r]) <;> intro hc
      · have hl : isLow (s.data.getD i 0) = false := by
          unfold isLow
          rw [Bool.and_eq_false_iff, decide_eq_false_iff_not, decide_eq_false_iff_not]; omega
        have e := nameB_false (by omega) hl
        refine goh trivial ?_
        exact finh [] e
      · have hl : isLow (s.data.getD i 0) = true := by
          unfold isLow
          rw [Bool.and_eq_true, decide_eq_true_eq, decide_eq_true_eq]; omega
        refine goh trivial ?_
        refine ⟨s.size - (i + 1), [], sgName s (i + 1), by omega, ?_, i + 1, by omega, rfl, fun j hj => ?_, rfl⟩
        · exact leh trivial
        · rcases Nat.lt_succ_iff_lt_or_eq.1 hj with h | rfl
          · exact hbef j h
          · exact hl
    · have e := nameB_low (s := s) fun j hj => hbef j (by omega)
      refine goh trivial ?_
      exact finh [] e
  · simp [no, ifp] at hp
end Go.Proofs.YtmnbgppmfbnamaaGreatDoor
/- Functions of the exact laws: pointers, entries and sets, one by one. -/
namespace Go.Proofs.YtmnbgppmfbnamaaGreatDoor
open Go.RowKit

theorem plain_val : ∀ {cs : List TC} {vs : List Value}, plain cs = some vs → cs = vs.map .val
  | [], vs, h => by simp [plain] at h; subst h; rfl
  | c :: cs, vs, h => by
    unfold plain at h
    split at h
    · rename_i v us h1 h2
      simp only [Option.some.injEq] at h
      subst h
      rw [plain_val h2]
      cases c <;> simp [tcv] at h1
      subst h1; rfl
    · cases h
theorem kInt {ks : List TK} {vs : List Value} (h : kindsOk (.int .i64 :: ks) vs = true) : ∃ n r, vs = .int .i64 n :: r ∧ kindsOk ks r = true := by
  cases vs with
  | nil => simp [kindsOk] at h
  | cons v r => cases v with
    | int k n => cases k <;> simp [kindsOk] at h; exact ⟨n, r, rfl, h⟩
    | _ => simp [kindsOk] at h
theorem kStr {ks : List TK} {vs : List Value} (h : kindsOk (.str :: ks) vs = true) : ∃ n r, vs = .string n :: r ∧ kindsOk ks r = true := by
  cases vs with
  | nil => simp [kindsOk] at h
  | cons v r => cases v <;> simp [kindsOk] at h; exact ⟨_, r, rfl, h⟩
theorem kBool {ks : List TK} {vs : List Value} (h : kindsOk (.bool :: ks) vs = true) : ∃ n r, vs = .bool n :: r ∧ kindsOk ks r = true := by
  cases vs with
  | nil => simp [kindsOk] at h
  | cons v r => cases v <;> simp [kindsOk] at h; exact ⟨_, r, rfl, h⟩
theorem kNil {vs : List Value} (h : kindsOk [] vs = true) : vs = [] := by
  cases vs with
  | nil => rfl
  | cons v r => simp [kindsOk] at h
/-- Eight pointers. -/
@[go_sem] def P8.cells (x : Eight Ptr) : List Value := [.int .i64 x.x0.at_, .int .i64 x.x0.sum, .int .i64 x.x0.birth, .int .i64 x.x1.at_, .int .i64 x.x1.sum, .int .i64 x.x1.birth, .int .i64 x.x2.at_, .int .i64 x.x2.sum, .int .i64 x.x2.birth, .int .i64 x.x3.at_, .int .i64 x.x3.sum, .int .i64 x.x3.birth, .int .i64 x.x4.at_, .int .i64 x.x4.sum, .int .i64 x.x4.birth, .int .i64 x.x5.at_, .int .i64 x.x5.sum, .int .i64 x.x5.birth, .int .i64 x.x6.at_, .int .i64 x.x6.sum, .int .i64 x.x6.birth, .int .i64 x.x7.at_, .int .i64 x.x7.sum, .int .i64 x.x7.birth]
@[go_sem] def P8.ofCells (cs : List Value) : Eight Ptr := ⟨⟨Value.num (cell cs 0), Value.num (cell cs 1), Value.num (cell cs 2)⟩, ⟨Value.num (cell cs 3), Value.num (cell cs 4), Value.num (cell cs 5)⟩, ⟨Value.num (cell cs 6), Value.num (cell cs 7), Value.num (cell cs 8)⟩, ⟨Value.num (cell cs 9), Value.num (cell cs 10), Value.num (cell cs 11)⟩, ⟨Value.num (cell cs 12), Value.num (cell cs 13), Value.num (cell cs 14)⟩, ⟨Value.num (cell cs 15), Value.num (cell cs 16), Value.num (cell cs 17)⟩, ⟨Value.num (cell cs 18), Value.num (cell cs 19), Value.num (cell cs 20)⟩, ⟨Value.num (cell cs 21), Value.num (cell cs 22), Value.num (cell cs 23)⟩⟩
@[go_sem] theorem p8_eta (x : Eight Ptr) : (⟨⟨x.x0.at_, x.x0.sum, x.x0.birth⟩, ⟨x.x1.at_, x.x1.sum, x.x1.birth⟩, ⟨x.x2.at_, x.x2.sum, x.x2.birth⟩, ⟨x.x3.at_, x.x3.sum, x.x3.birth⟩, ⟨x.x4.at_, x.x4.sum, x.x4.birth⟩, ⟨x.x5.at_, x.x5.sum, x.x5.birth⟩, ⟨x.x6.at_, x.x6.sum, x.x6.birth⟩, ⟨x.x7.at_, x.x7.sum, x.x7.birth⟩⟩ : Eight Ptr) = x := rfl
@[go_sem] theorem cset_eta (x : CSet) : (⟨x.name, x.kind, x.from_, ⟨⟨x.map.x0.at_, x.map.x0.sum, x.map.x0.birth⟩, ⟨x.map.x1.at_, x.map.x1.sum, x.map.x1.birth⟩, ⟨x.map.x2.at_, x.map.x2.sum, x.map.x2.birth⟩, ⟨x.map.x3.at_, x.map.x3.sum, x.map.x3.birth⟩, ⟨x.map.x4.at_, x.map.x4.sum, x.map.x4.birth⟩, ⟨x.map.x5.at_, x.map.x5.sum, x.map.x5.birth⟩, ⟨x.map.x6.at_, x.map.x6.sum, x.map.x6.birth⟩, ⟨x.map.x7.at_, x.map.x7.sum, x.map.x7.birth⟩⟩, ⟨x.home.at_, x.home.sum, x.home.birth⟩, x.dirty⟩ : CSet) = x := rfl
@[go_sem] theorem cset_eta2 (x : CSet) : (⟨x.name, x.kind, x.from_, x.map, ⟨x.home.at_, x.home.sum, x.home.birth⟩, x.dirty⟩ : CSet) = x := rfl
@[go_sem] def p8Of (cs : List TC) : Option (Eight Ptr) := match plain cs with
  | some vs => if kindsOk [.int .i64, .int .i64, .int .i64, .int .i64, .int .i64, .int .i64, .int .i64, .int .i64, .int .i64, .int .i64, .int .i64, .int .i64, .int .i64, .int .i64, .int .i64, .int .i64, .int .i64, .int .i64, .int .i64, .int .i64, .int .i64, .int .i64, .int .i64, .int .i64] vs = true then some (P8.ofCells vs) else none
  | none => none
theorem p8_cells {vs : List Value} (h : kindsOk [.int .i64, .int .i64, .int .i64, .int .i64, .int .i64, .int .i64, .int .i64, .int .i64, .int .i64, .int .i64, .int .i64, .int .i64, .int .i64, .int .i64, .int .i64, .int .i64, .int .i64, .int .i64, .int .i64, .int .i64, .int .i64, .int .i64, .int .i64, .int .i64] vs = true) : P8.cells (P8.ofCells vs) = vs := by
  obtain ⟨a0, r0, rfl, h0⟩ := kInt h
  obtain ⟨a1, r1, rfl, h1⟩ := kInt h0
  obtain ⟨a2, r2, rfl, h2⟩ := kInt h1
  obtain ⟨a3, r3, rfl, h3⟩ := kInt h2
  obtain ⟨a4, r4, rfl, h4⟩ := kInt h3
  obtain ⟨a5, r5, rfl, h5⟩ := kInt h4
  obtain ⟨a6, r6, rfl, h6⟩ := kInt h5
  obtain ⟨a7, r7, rfl, h7⟩ := kInt h6
  obtain ⟨a8, r8, rfl, h8⟩ := kInt h7
  obtain ⟨a9, r9, rfl, h9⟩ := kInt h8
  obtain ⟨a10, r10, rfl, h10⟩ := kInt h9
  obtain ⟨a11, r11, rfl, h11⟩ := kInt h10
  obtain ⟨a12, r12, rfl, h12⟩ := kInt h11
  obtain ⟨a13, r13, rfl, h13⟩ := kInt h12
  obtain ⟨a14, r14, rfl, h14⟩ := kInt h13
  obtain ⟨a15, r15, rfl, h15⟩ := kInt h14
  obtain ⟨a16, r16, rfl, h16⟩ := kInt h15
  obtain ⟨a17, r17, rfl, h17⟩ := kInt h16
  obtain ⟨a18, r18, rfl, h18⟩ := kInt h17
  obtain ⟨a19, r19, rfl, h19⟩ := kInt h18
  obtain ⟨a20, r20, rfl, h20⟩ := kInt h19
  obtain ⟨a21, r21, rfl, h21⟩ := kInt h20
  obtain ⟨a22, r22, rfl, h22⟩ := kInt h21
  obtain ⟨a23, r23, rfl, h23⟩ := kInt h22
  obtain rfl := kNil h23
  rfl
theorem p8Of_some {cs : List TC} {x : Eight Ptr} (h : p8Of cs = some x) : cs = (P8.cells x).map .val := by
  unfold p8Of at h
  split at h
  · rename_i vs hv
    split at h
    · rename_i hk
      simp only [Option.some.injEq] at h
      subst h
      rw [p8_cells hk]
      exact plain_val hv
    · cases h
  · cases h
@[go_sem] def csetOf (cs : List TC) : Option (CSet) := match plain cs with
  | some vs => if kindsOk [.str, .int .i64, .str, .int .i64, .int .i64, .int .i64, .int .i64, .int .i64, .int .i64, .int .i64, .int .i64, .int .i64, .int .i64, .int .i64, .int .i64, .int .i64, .int .i64, .int .i64, .int .i64, .int .i64, .int .i64, .int .i64, .int .i64, .int .i64, .int .i64, .int .i64, .int .i64, .int .i64, .int .i64, .int .i64, .bool] vs = true then some (ET.cset.ofCells vs) else none
  | none => none
theorem cset_cells {vs : List Value} (h : kindsOk [.str, .int .i64, .str, .int .i64, .int .i64, .int .i64, .int .i64, .int .i64, .int .i64, .int .i64, .int .i64, .int .i64, .int .i64, .int .i64, .int .i64, .int .i64, .int .i64, .int .i64, .int .i64, .int .i64, .int .i64, .int .i64, .int .i64, .int .i64, .int .i64, .int .i64, .int .i64, .int .i64, .int .i64, .int .i64, .bool] vs = true) : ET.cset.cells (ET.cset.ofCells vs) = vs := by
  obtain ⟨a0, r0, rfl, h0⟩ := kStr h
  obtain ⟨a1, r1, rfl, h1⟩ := kInt h0
  obtain ⟨a2, r2, rfl, h2⟩ := kStr h1
  obtain ⟨a3, r3, rfl, h3⟩ := kInt h2
  obtain ⟨a4, r4, rfl, h4⟩ := kInt h3
  obtain ⟨a5, r5, rfl, h5⟩ := kInt h4
  obtain ⟨a6, r6, rfl, h6⟩ := kInt h5
  obtain ⟨a7, r7, rfl, h7⟩ := kInt h6
  obtain ⟨a8, r8, rfl, h8⟩ := kInt h7
  obtain ⟨a9, r9, rfl, h9⟩ := kInt h8
  obtain ⟨a10, r10, rfl, h10⟩ := kInt h9
  obtain ⟨a11, r11, rfl, h11⟩ := kInt h10
  obtain ⟨a12, r12, rfl, h12⟩ := kInt h11
  obtain ⟨a13, r13, rfl, h13⟩ := kInt h12
  obtain ⟨a14, r14, rfl, h14⟩ := kInt h13
  obtain ⟨a15, r15, rfl, h15⟩ := kInt h14
  obtain ⟨a16, r16, rfl, h16⟩ := kInt h15
  obtain ⟨a17, r17, rfl, h17⟩ := kInt h16
  obtain ⟨a18, r18, rfl, h18⟩ := kInt h17
  obtain ⟨a19, r19, rfl, h19⟩ := kInt h18
  obtain ⟨a20, r20, rfl, h20⟩ := kInt h19
  obtain ⟨a21, r21, rfl, h21⟩ := kInt h20
  obtain ⟨a22, r22, rfl, h22⟩ := kInt h21
  obtain ⟨a23, r23, rfl, h23⟩ := kInt h22
  obtain ⟨a24, r24, rfl, h24⟩ := kInt h23
  obtain ⟨a25, r25, rfl, h25⟩ := kInt h24
  obtain ⟨a26, r26, rfl, h26⟩ := kInt h25
  obtain ⟨a27, r27, rfl, h27⟩ := kInt h26
  obtain ⟨a28, r28, rfl, h28⟩ := kInt h27
  obtain ⟨a29, r29, rfl, h29⟩ := kInt h28
  obtain ⟨a30, r30, rfl, h30⟩ := kBool h29
  obtain rfl := kNil h30
  rfl
theorem csetOf_some {cs : List TC} {x : CSet} (h : csetOf cs = some x) : cs = (ET.cset.cells x).map .val := by
  unfold csetOf at h
  split at h
  · rename_i vs hv
    split at h
    · rename_i hk
      simp only [Option.some.injEq] at h
      subst h
      rw [cset_cells hk]
      exact plain_val hv
    · cases h
  · cases h
@[go_sem] def p8mix (x : Eight Ptr) (i : Nat) : List TC := ((P8.cells x).map .val).take (3 * i) ++ ((P8.cells (Eight.rep Ptr.zero)).map .val).drop (3 * i)
attribute [go_sem] Eight.rep Ptr.zero
@[go_sem] def ctToP8 : Ct := ⟨false, [], fun args os => match args, os with
  | [.agg cs], [] => (match p8Of cs with | some x => is (.agg ((P8.cells x).map .val)) | none => no)
  | _, _ => no⟩
@[go_sem] def sgP8 (x : Eight Ptr) (i : Nat) : Sg := ⟨[(1, .one (.ptr 0 0)), (2, .one (.ptr 1 0)), (3, .one (.ptr 2 0)), (4, vi i)], [some (.cells ((P8.cells x).map .val)), some (.cells ((P8.cells (Eight.rep Ptr.zero)).map .val)), some (.cells (p8mix x i))], []⟩
theorem s_toP8_e : EnterOk Tryz.prog 220 := ⟨_, Tryz.func220, rfl, by decide⟩
@[go_sem] def s_toP8_lv : List (List Nat) := [[1, 2], [1, 2, 3], [1, 2, 3, 4], [1, 2, 3, 4, 6], [1, 2, 3, 4], [1, 2, 3, 4], [2]]
@[go_sem] noncomputable def s_toP8_K : Known := (Known.nil).cons 167 ctToPtr s_toPtr s_toPtr_e
set_option maxHeartbeats 8000000 in
theorem s_toP8 : Sound Tryz.prog 220 ctToP8 := by
  have ke := s_toP8_K.env []
  have kl : Lives s_toP8_lv := trivial
  refine sound_intro (E := ⟨ti, s_toP8_K.Γ, []⟩) ke Tryz.func220 Tryz.ntmps220 rfl (rs := [.cell 2 188]) rfl ?_
  intro args os hp
  unfold ctToP8 at hp ⊢
  dsimp only at hp ⊢
  split at hp
  · rename_i cs
    split at hp
    · rename_i x hx
      obtain rfl := p8Of_some hx
      clear hx hp
      refine ⟨by simp, fun φ0 w0 => ?_⟩
      refine goh trivial ?_
      refine W_le (σ' := sgP8 x 0) [some 0, some 1, some 2] (by
        simp only [go_sem, Nat.reduceMul, inj_r, ↓reduceIte, reduceCtorEq, Nat.reduceAdd, Nat.reduceLT, Nat.reduceLeDiff, Nat.reduceEqDiff, Int.reduceEq]
        all_goals (repeat' refine And.intro ?_ ?_) <;> try exact shut7
        ) ?_
      refine W_loop (fun q σ => ∃ i : Nat, i ≤ 8 ∧ q = 8 - i ∧ σ = sgP8 x i) 8 ⟨0, by omega, by omega, rfl⟩ ?_
      rintro q σ ⟨i, hi, rfl, rfl⟩
      unfold sgP8
      rcases (show i = 0 ∨ i = 1 ∨ i = 2 ∨ i = 3 ∨ i = 4 ∨ i = 5 ∨ i = 6 ∨ i = 7 ∨ i = 8 by omega) with hc | hc | hc | hc | hc | hc | hc | hc | hc
      all_goals try (
        refine goh hc ?_
        refine W_cnd ?_ ?_ <;> intro hlit <;> try (cases hlit; done)
        refine goh hc ?_
        refine ⟨8 - (i + 1), [some 0, some 1, some 2], sgP8 x (i + 1), by omega, ?_, i + 1, by omega, rfl, rfl⟩
        simp only [go_sem, hc, Nat.reduceMul, inj_r, ↓reduceIte, reduceCtorEq, Nat.reduceAdd, Nat.reduceLT, Nat.reduceLeDiff, Nat.reduceEqDiff, Int.reduceEq]
        all_goals (repeat' refine And.intro ?_ ?_) <;> try exact shut7
        done)
      refine goh hc ?_
      refine W_cnd ?_ ?_ <;> intro hlit <;> try (cases hlit; done)
      refine goh hc ?_
      exact finh [] trivial
    · simp [no] at hp
  · simp [no] at hp
@[go_sem] def ctToCset : Ct := ⟨false, [], fun args os => match args, os with
  | [.agg cs], [] => (match csetOf cs with | some x => is (.agg ((ET.cset.cells x).map .val)) | none => no)
  | _, _ => no⟩
theorem s_toCset_e : EnterOk Tryz.prog 165 := ⟨_, Tryz.func165, rfl, by decide⟩
@[go_sem] def s_toCset_lv : List (List Nat) := [[1, 2], [1, 2, 3], [1, 2, 3], [1, 2, 3], [1, 2, 3], [1, 2, 3], [1, 2, 3], [2, 3], [2]]
@[go_sem] noncomputable def s_toCset_K : Known := ((Known.nil).cons 220 ctToP8 s_toP8 s_toP8_e).cons 167 ctToPtr s_toPtr s_toPtr_e
set_option maxHeartbeats 8000000 in
theorem s_toCset : Sound Tryz.prog 165 ctToCset := by
  have ke := s_toCset_K.env []
  have kl : Lives s_toCset_lv := trivial
  refine sound_intro (E := ⟨ti, s_toCset_K.Γ, []⟩) ke Tryz.func165 Tryz.ntmps165 rfl (rs := [.cell 2 190]) rfl ?_
  intro args os hp
  unfold ctToCset at hp ⊢
  dsimp only at hp ⊢
  split at hp
  · rename_i cs
    split at hp
    · rename_i x hx
      obtain rfl := csetOf_some hx
      clear hx hp
      refine ⟨by simp, fun φ0 w0 => ?_⟩
      refine goh trivial ?_
      exact finh [] trivial
    · simp [no] at hp
  · simp [no] at hp
@[go_sem] def ctToEnt : Ct := ctToPtr
theorem s_toEnt_e : EnterOk Tryz.prog 166 := ⟨_, Tryz.func166, rfl, by decide⟩
@[go_sem] def s_toEnt_lv : List (List Nat) := [[1, 2], [1, 2, 3], [1, 2, 3], [1, 2, 3], [2, 3], [2]]
@[go_sem] noncomputable def s_toEnt_K : Known := Known.nil
set_option maxHeartbeats 8000000 in
theorem s_toEnt : Sound Tryz.prog 166 ctToPtr := by
  have ke := s_toEnt_K.env []
  have kl : Lives s_toEnt_lv := trivial
  refine sound_intro (E := ⟨ti, s_toEnt_K.Γ, []⟩) ke Tryz.func166 Tryz.ntmps166 rfl (rs := [.cell 2 201]) rfl ?_
  intro args os hp
  unfold ctToPtr at hp ⊢
  dsimp only at hp ⊢
  split at hp
  · rename_i x y z
    refine ⟨by simp, fun φ0 w0 => ?_⟩
    refine goh trivial ?_
    exact finh [] trivial
  · simp [no, is] at hp
@[go_sem] def ctEqPtr : Ct := ⟨false, [], fun args os => match args, os with
  | [.agg [.val (.int .i64 x), .val (.int .i64 y), .val (.int .i64 z)], .agg [.val (.int .i64 x'), .val (.int .i64 y'), .val (.int .i64 z')]], [] => ifp (x = x' ∧ y = y' ∧ z = z') (vb true)
  | _, _ => no⟩
theorem s_eqPtr_e : EnterOk Tryz.prog 185 := ⟨_, Tryz.func185, rfl, by decide⟩
@[go_sem] def s_eqPtr_lv : List (List Nat) := [[2, 3], [2, 3, 9], [4], [2, 3, 14], [4], [19], [4], [4]]
@[go_sem] noncomputable def s_eqPtr_K : Known := Known.nil
set_option maxHeartbeats 8000000 in
theorem s_eqPtr : Sound Tryz.prog 185 ctEqPtr := by
  have ke := s_eqPtr_K.env []
  have kl : Lives s_eqPtr_lv := trivial
  refine sound_intro (E := ⟨ti, s_eqPtr_K.Γ, []⟩) ke Tryz.func185 Tryz.ntmps185 rfl (rs := [.tmp 4]) rfl ?_
  intro args os hp
  unfold ctEqPtr at hp ⊢
  dsimp only at hp ⊢
  split at hp
  · rename_i x y z x' y' z'
    refine ⟨by simp, fun φ0 w0 => ?_⟩
    obtain ⟨rfl, rfl, rfl⟩ : x = x' ∧ y = y' ∧ z = z' := hp
    refine goh trivial ?_
    refine W_cnd ?_ ?_ <;> intro hlit <;> try (cases hlit; done)
    refine goh trivial ?_
    refine W_cnd ?_ ?_ <;> intro hlit <;> try (cases hlit; done)
    refine goh trivial ?_
    refine W_cnd ?_ ?_ <;> intro hlit <;> try (cases hlit; done)
    refine goh trivial ?_
    exact finh [] trivial
  · simp [no, ifp] at hp
theorem s_eqEnt_e : EnterOk Tryz.prog 184 := ⟨_, Tryz.func184, rfl, by decide⟩
@[go_sem] def s_eqEnt_lv : List (List Nat) := [[2, 3], [2, 3, 9], [4], [2, 3, 14], [4], [19], [4], [4]]
@[go_sem] noncomputable def s_eqEnt_K : Known := Known.nil
set_option maxHeartbeats 8000000 in
theorem s_eqEnt : Sound Tryz.prog 184 ctEqPtr := by
  have ke := s_eqEnt_K.env []
  have kl : Lives s_eqEnt_lv := trivial
  refine sound_intro (E := ⟨ti, s_eqEnt_K.Γ, []⟩) ke Tryz.func184 Tryz.ntmps184 rfl (rs := [.tmp 4]) rfl ?_
  intro args os hp
  unfold ctEqPtr at hp ⊢
  dsimp only at hp ⊢
  split at hp
  · rename_i x y z x' y' z'
    refine ⟨by simp, fun φ0 w0 => ?_⟩
    obtain ⟨rfl, rfl, rfl⟩ : x = x' ∧ y = y' ∧ z = z' := hp
    refine goh trivial ?_
    refine W_cnd ?_ ?_ <;> intro hlit <;> try (cases hlit; done)
    refine goh trivial ?_
    refine W_cnd ?_ ?_ <;> intro hlit <;> try (cases hlit; done)
    refine goh trivial ?_
    refine W_cnd ?_ ?_ <;> intro hlit <;> try (cases hlit; done)
    refine goh trivial ?_
    exact finh [] trivial
  · simp [no, ifp] at hp
@[go_sem] def ctEqP8 : Ct := ⟨false, [], fun args os => match args, os with
  | [.agg cs, .agg ds], [] => (match p8Of cs, p8Of ds with | some x, some y => ifp (x = y) (vb true) | _, _ => no)
  | _, _ => no⟩
@[go_sem] def sgQ8 (x : Eight Ptr) (i : Nat) : Sg := ⟨[(2, .one (.ptr 0 0)), (3, .one (.ptr 1 0)), (5, vi i)], [some (.cells ((P8.cells x).map .val)), some (.cells ((P8.cells x).map .val))], []⟩
theorem s_eqP8_e : EnterOk Tryz.prog 231 := ⟨_, Tryz.func231, rfl, by decide⟩
@[go_sem] def s_eqP8_lv : List (List Nat) := [[2, 3], [2, 3, 5], [2, 3, 5, 7], [2, 3, 5], [2, 3, 5, 17], [4], [4]]
@[go_sem] noncomputable def s_eqP8_K : Known := (Known.nil).cons 185 ctEqPtr s_eqPtr s_eqPtr_e
set_option maxHeartbeats 8000000 in
theorem s_eqP8 : Sound Tryz.prog 231 ctEqP8 := by
  have ke := s_eqP8_K.env []
  have kl : Lives s_eqP8_lv := trivial
  refine sound_intro (E := ⟨ti, s_eqP8_K.Γ, []⟩) ke Tryz.func231 Tryz.ntmps231 rfl (rs := [.tmp 4]) rfl ?_
  intro args os hp
  unfold ctEqP8 at hp ⊢
  dsimp only at hp ⊢
  split at hp
  · rename_i cs ds
    split at hp
    · rename_i x y hx hy
      obtain rfl := p8Of_some hx
      obtain rfl := p8Of_some hy
      obtain rfl : x = y := hp
      clear hx hy
      refine ⟨by simp, fun φ0 w0 => ?_⟩
      refine goh trivial ?_
      refine W_le (σ' := sgQ8 x 0) [some 0, some 1] (by
        simp only [go_sem, inj_r, ↓reduceIte, reduceCtorEq, Nat.reduceAdd, Nat.reduceLT, Nat.reduceLeDiff, Nat.reduceEqDiff, Int.reduceEq]
        all_goals (repeat' refine And.intro ?_ ?_) <;> try exact shut7
        ) ?_
      refine W_loop (fun q σ => ∃ i : Nat, i ≤ 8 ∧ q = 8 - i ∧ σ = sgQ8 x i) 8 ⟨0, by omega, by omega, rfl⟩ ?_
      rintro q σ ⟨i, hi, rfl, rfl⟩
      unfold sgQ8
      rcases (show i = 0 ∨ i = 1 ∨ i = 2 ∨ i = 3 ∨ i = 4 ∨ i = 5 ∨ i = 6 ∨ i = 7 ∨ i = 8 by omega) with hc | hc | hc | hc | hc | hc | hc | hc | hc
      all_goals try (
        refine goh hc ?_
        refine W_cnd ?_ ?_ <;> intro hlit <;> try (cases hlit; done)
        refine goh hc ?_
        refine W_cnd ?_ ?_ <;> intro hlit <;> try (cases hlit; done)
        refine goh hc ?_
        refine ⟨8 - (i + 1), [some 0, some 1], sgQ8 x (i + 1), by omega, ?_, i + 1, by omega, rfl, rfl⟩
        simp only [go_sem, hc, inj_r, ↓reduceIte, reduceCtorEq, Nat.reduceAdd, Nat.reduceLT, Nat.reduceLeDiff, Nat.reduceEqDiff, Int.reduceEq]
        all_goals (repeat' refine And.intro ?_ ?_) <;> try exact shut7
        done)
      refine goh hc ?_
      refine W_cnd ?_ ?_ <;> intro hlit <;> try (cases hlit; done)
      refine goh hc ?_
      exact finh [] trivial
    · simp [no] at hp
  · simp [no] at hp
@[go_sem] def ctEqCset : Ct := ⟨false, [], fun args os => match args, os with
  | [.agg cs, .agg ds], [] => (match csetOf cs, csetOf ds with | some x, some y => ifp (x = y) (vb true) | _, _ => no)
  | _, _ => no⟩
theorem s_eqCset_e : EnterOk Tryz.prog 183 := ⟨_, Tryz.func183, rfl, by decide⟩
@[go_sem] def s_eqCset_lv : List (List Nat) := [[2, 3], [2, 3, 9], [4], [2, 3, 14], [4], [2, 3, 19], [4], [2, 3, 25], [4], [2, 3, 31], [4], [36], [4], [4]]
@[go_sem] noncomputable def s_eqCset_K : Known := ((Known.nil).cons 231 ctEqP8 s_eqP8 s_eqP8_e).cons 185 ctEqPtr s_eqPtr s_eqPtr_e
set_option maxHeartbeats 8000000 in
theorem s_eqCset : Sound Tryz.prog 183 ctEqCset := by
  have ke := s_eqCset_K.env []
  have kl : Lives s_eqCset_lv := trivial
  refine sound_intro (E := ⟨ti, s_eqCset_K.Γ, []⟩) ke Tryz.func183 Tryz.ntmps183 rfl (rs := [.tmp 4]) rfl ?_
  intro args os hp
  unfold ctEqCset at hp ⊢
  dsimp only at hp ⊢
  split at hp
  · rename_i cs ds
    split at hp
    · rename_i x y hx hy
      obtain rfl := csetOf_some hx
      obtain rfl := csetOf_some hy
      obtain rfl : x = y := hp
      clear hx hy
      refine ⟨by simp, fun φ0 w0 => ?_⟩
      refine goh trivial ?_
      refine W_cnd ?_ ?_ <;> intro hlit <;> try (cases hlit; done)
      refine goh trivial ?_
      refine W_cnd ?_ ?_ <;> intro hlit <;> try (cases hlit; done)
      refine goh trivial ?_
      refine W_cnd ?_ ?_ <;> intro hlit <;> try (cases hlit; done)
      refine goh trivial ?_
      refine W_cnd ?_ ?_ <;> intro hlit <;> try (cases hlit; done)
      refine goh trivial ?_
      refine W_cnd ?_ ?_ <;> intro hlit <;> try (cases hlit; done)
      refine goh trivial ?_
      refine W_cnd ?_ ?_ <;> intro hlit <;> try (cases hlit; done)
      refine goh trivial ?_
      exact finh [] trivial
    · simp [no] at hp
  · simp [no] at hp
def wC1 (x : CSet) : List Nat := [x.name.size, x.from_.size]
@[go_sem] def ctSzCset : Ct := ⟨false, [], fun args os => match args, os with
  | [.agg cs, .one (.val (.int .i64 n))], [] => (match csetOf cs with | some x => ifp ((x.name.size ≤ 9223372036854775807 ∧ x.from_.size ≤ 9223372036854775807) ∧ 0 ≤ n ∧ n ≤ 1048576) (vi (szW (wC1 x) n)) | none => no)
  | _, _ => no⟩
theorem s_szCset_e : EnterOk Tryz.prog 153 := ⟨_, Tryz.func153, rfl, by decide⟩
@[go_sem] def s_szCset_lv : List (List Nat) := [[1, 2], [1, 2], [1, 2, 11], [4], [1], [1, 18], [4], [4]]
@[go_sem] noncomputable def s_szCset_K : Known := Known.nil
set_option maxHeartbeats 8000000 in
theorem s_szCset : Sound Tryz.prog 153 ctSzCset := by
  have ke := s_szCset_K.env []
  have kl : Lives s_szCset_lv := trivial
  refine sound_intro (E := ⟨ti, s_szCset_K.Γ, []⟩) ke Tryz.func153 Tryz.ntmps153 rfl (rs := [.tmp 4]) rfl ?_
  intro args os hp
  unfold ctSzCset at hp ⊢
  dsimp only at hp ⊢
  split at hp
  · rename_i cs n
    split at hp
    · rename_i x hx
      obtain rfl := csetOf_some hx
      obtain ⟨⟨h1, h2⟩, h3, h4⟩ : (x.name.size ≤ 9223372036854775807 ∧ x.from_.size ≤ 9223372036854775807) ∧ 0 ≤ n ∧ n ≤ 1048576 := hp
      clear hx
      refine ⟨by simp, fun φ0 w0 => ?_⟩
      have e1 : IntKind.i64.wrap (n - x.name.size) = n - x.name.size := wrap_id _ (by omega) (by omega)
      have f1 : szW (wC1 x) n = if n - x.name.size < 0 then -1 else szW [x.from_.size] (n - x.name.size) := rfl
      refine goh e1 ?_
      refine W_cnd ?_ ?_ <;> (try simp only [cnd_r]) <;> intro hc
      · rw [if_pos hc] at f1
        refine goh trivial ?_
        exact finh [] f1
      · rw [if_neg hc] at f1
        have e2 : IntKind.i64.wrap (n - x.name.size - x.from_.size) = n - x.name.size - x.from_.size := wrap_id _ (by omega) (by omega)
        have f2 : szW [x.from_.size] (n - x.name.size) = if n - x.name.size - x.from_.size < 0 then -1 else n - x.name.size - x.from_.size := rfl
        refine goh e2 ?_
        refine W_cnd ?_ ?_ <;> (try simp only [cnd_r]) <;> intro hd
        · rw [if_pos hd] at f2
          refine goh trivial ?_
          exact finh [] (And.intro f1 f2)
        · rw [if_neg hd] at f2
          refine goh trivial ?_
          exact finh [] (And.intro f1 f2)
    · simp [no] at hp
  · simp [no] at hp
end Go.Proofs.YtmnbgppmfbnamaaGreatDoor
/- Functions of the exact laws: the sets of a book, one by one. -/
namespace Go.Proofs.YtmnbgppmfbnamaaGreatDoor
open Go.RowKit

/-- Eight texts. -/
@[go_sem] def S8.cells (x : Eight ByteArray) : List Value := [.string x.x0, .string x.x1, .string x.x2, .string x.x3, .string x.x4, .string x.x5, .string x.x6, .string x.x7]
@[go_sem] def S8.ofCells (cs : List Value) : Eight ByteArray := ⟨Value.str (cell cs 0), Value.str (cell cs 1), Value.str (cell cs 2), Value.str (cell cs 3), Value.str (cell cs 4), Value.str (cell cs 5), Value.str (cell cs 6), Value.str (cell cs 7)⟩
@[go_sem] theorem s8_eta (x : Eight ByteArray) : (⟨x.x0, x.x1, x.x2, x.x3, x.x4, x.x5, x.x6, x.x7⟩ : Eight ByteArray) = x := rfl
@[go_sem] theorem bset_eta (x : BSet) : (⟨x.name, x.kind, x.from_, ⟨x.blocks.x0, x.blocks.x1, x.blocks.x2, x.blocks.x3, x.blocks.x4, x.blocks.x5, x.blocks.x6, x.blocks.x7⟩⟩ : BSet) = x := rfl
@[go_sem] theorem bset_eta2 (x : BSet) : (⟨x.name, x.kind, x.from_, x.blocks⟩ : BSet) = x := rfl
@[go_sem] def s8Of (cs : List TC) : Option (Eight ByteArray) := match plain cs with
  | some vs => if kindsOk [.str, .str, .str, .str, .str, .str, .str, .str] vs = true then some (S8.ofCells vs) else none
  | none => none
theorem s8_cells {vs : List Value} (h : kindsOk [.str, .str, .str, .str, .str, .str, .str, .str] vs = true) : S8.cells (S8.ofCells vs) = vs := by
  obtain ⟨a0, r0, rfl, h0⟩ := kStr h
  obtain ⟨a1, r1, rfl, h1⟩ := kStr h0
  obtain ⟨a2, r2, rfl, h2⟩ := kStr h1
  obtain ⟨a3, r3, rfl, h3⟩ := kStr h2
  obtain ⟨a4, r4, rfl, h4⟩ := kStr h3
  obtain ⟨a5, r5, rfl, h5⟩ := kStr h4
  obtain ⟨a6, r6, rfl, h6⟩ := kStr h5
  obtain ⟨a7, r7, rfl, h7⟩ := kStr h6
  obtain rfl := kNil h7
  rfl
theorem s8Of_some {cs : List TC} {x : Eight ByteArray} (h : s8Of cs = some x) : cs = (S8.cells x).map .val := by
  unfold s8Of at h
  split at h
  · rename_i vs hv
    split at h
    · rename_i hk
      simp only [Option.some.injEq] at h
      subst h
      rw [s8_cells hk]
      exact plain_val hv
    · cases h
  · cases h
@[go_sem] def bsetOf (cs : List TC) : Option (BSet) := match plain cs with
  | some vs => if kindsOk [.str, .int .i64, .str, .str, .str, .str, .str, .str, .str, .str, .str] vs = true then some (ET.bset.ofCells vs) else none
  | none => none
theorem bset_cells {vs : List Value} (h : kindsOk [.str, .int .i64, .str, .str, .str, .str, .str, .str, .str, .str, .str] vs = true) : ET.bset.cells (ET.bset.ofCells vs) = vs := by
  obtain ⟨a0, r0, rfl, h0⟩ := kStr h
  obtain ⟨a1, r1, rfl, h1⟩ := kInt h0
  obtain ⟨a2, r2, rfl, h2⟩ := kStr h1
  obtain ⟨a3, r3, rfl, h3⟩ := kStr h2
  obtain ⟨a4, r4, rfl, h4⟩ := kStr h3
  obtain ⟨a5, r5, rfl, h5⟩ := kStr h4
  obtain ⟨a6, r6, rfl, h6⟩ := kStr h5
  obtain ⟨a7, r7, rfl, h7⟩ := kStr h6
  obtain ⟨a8, r8, rfl, h8⟩ := kStr h7
  obtain ⟨a9, r9, rfl, h9⟩ := kStr h8
  obtain ⟨a10, r10, rfl, h10⟩ := kStr h9
  obtain rfl := kNil h10
  rfl
theorem bsetOf_some {cs : List TC} {x : BSet} (h : bsetOf cs = some x) : cs = (ET.bset.cells x).map .val := by
  unfold bsetOf at h
  split at h
  · rename_i vs hv
    split at h
    · rename_i hk
      simp only [Option.some.injEq] at h
      subst h
      rw [bset_cells hk]
      exact plain_val hv
    · cases h
  · cases h
@[go_sem] def s8mix (x : Eight ByteArray) (i : Nat) : List TC := ((S8.cells x).map .val).take i ++ ((S8.cells (Eight.rep ⟨#[]⟩)).map .val).drop i
@[go_sem] def ctToS8 : Ct := ⟨false, [], fun args os => match args, os with
  | [.agg cs], [] => (match s8Of cs with | some x => is (.agg ((S8.cells x).map .val)) | none => no)
  | _, _ => no⟩
@[go_sem] def sgS8 (x : Eight ByteArray) (i : Nat) : Sg := ⟨[(1, .one (.ptr 0 0)), (2, .one (.ptr 1 0)), (3, .one (.ptr 2 0)), (4, vi i)], [some (.cells ((S8.cells x).map .val)), some (.cells ((S8.cells (Eight.rep ⟨#[]⟩)).map .val)), some (.cells (s8mix x i))], []⟩
@[go_sem] def ctEqS8 : Ct := ⟨false, [], fun args os => match args, os with
  | [.agg cs, .agg ds], [] => (match s8Of cs, s8Of ds with | some x, some y => ifp (x = y) (vb true) | _, _ => no)
  | _, _ => no⟩
@[go_sem] def sgR8 (x : Eight ByteArray) (i : Nat) : Sg := ⟨[(2, .one (.ptr 0 0)), (3, .one (.ptr 1 0)), (5, vi i)], [some (.cells ((S8.cells x).map .val)), some (.cells ((S8.cells x).map .val))], []⟩
@[go_sem] def ctToBset : Ct := ⟨false, [], fun args os => match args, os with
  | [.agg cs], [] => (match bsetOf cs with | some x => is (.agg ((ET.bset.cells x).map .val)) | none => no)
  | _, _ => no⟩
@[go_sem] def ctEqBset : Ct := ⟨false, [], fun args os => match args, os with
  | [.agg cs, .agg ds], [] => (match bsetOf cs, bsetOf ds with | some x, some y => ifp (x = y) (vb true) | _, _ => no)
  | _, _ => no⟩
def w8 (x : Eight ByteArray) : List Nat := [x.x0.size, x.x1.size, x.x2.size, x.x3.size, x.x4.size, x.x5.size, x.x6.size, x.x7.size]
structure in8 (x : Eight ByteArray) : Prop where
  y0 : x.x0.size ≤ 9223372036854775807
  y1 : x.x1.size ≤ 9223372036854775807
  y2 : x.x2.size ≤ 9223372036854775807
  y3 : x.x3.size ≤ 9223372036854775807
  y4 : x.x4.size ≤ 9223372036854775807
  y5 : x.x5.size ≤ 9223372036854775807
  y6 : x.x6.size ≤ 9223372036854775807
  y7 : x.x7.size ≤ 9223372036854775807
@[go_sem] def ctSz8 : Ct := ⟨false, [], fun args os => match args, os with
  | [.agg cs, .one (.val (.int .i64 n))], [] => (match s8Of cs with | some x => ifp (in8 x ∧ 0 ≤ n ∧ n ≤ 1048576) (vi (szW (w8 x) n)) | none => no)
  | _, _ => no⟩
@[go_sem] def sgZ8 (x : Eight ByteArray) (n : Int) (i : Nat) : Sg := ⟨[(1, vi n), (2, .one (.ptr 0 0)), (5, vi i)], [some (.cells ((S8.cells x).map .val))], []⟩
def wB1 (x : BSet) : List Nat := x.name.size :: x.from_.size :: w8 x.blocks
structure inB1 (x : BSet) : Prop where
  name : x.name.size ≤ 9223372036854775807
  from_ : x.from_.size ≤ 9223372036854775807
  blocks : in8 x.blocks
@[go_sem] def ctSzBset : Ct := ⟨false, [], fun args os => match args, os with
  | [.agg cs, .one (.val (.int .i64 n))], [] => (match bsetOf cs with | some x => ifp (inB1 x ∧ 0 ≤ n ∧ n ≤ 1048576) (vi (szW (wB1 x) n)) | none => no)
  | _, _ => no⟩
end Go.Proofs.YtmnbgppmfbnamaaGreatDoor
/- Plain facts: books. -/
namespace Go.Proofs.YtmnbgppmfbnamaaGreatDoor
open Go.RowKit

def long24 (t : ByteArray) : Bool := decide ((t.size : Int) > 24)
noncomputable def atB (xs : List BSet) (name : ByteArray) : Int := firstAt (fun x => same x.name name) xs
/-- The set of that name, or none. -/
noncomputable def setOf (xs : List BSet) (name : ByteArray) : BSet := xs.getD (atB xs name).toNat ET.bset.dflt
/-- Does following From lead to a volume without one, in so many rounds? -/
noncomputable def leadsN (xs : List BSet) : Nat → BSet → Bool
  | 0, _ => false
  | n + 1, s => if same s.from_ ⟨#[]⟩ = true then s.kind == 1 else if atB xs s.from_ < 0 ∨ (setOf xs s.from_).kind = s.kind then false else leadsN xs n (setOf xs s.from_)
def big8 (x : BSet) : Bool := [x.blocks.x0, x.blocks.x1, x.blocks.x2, x.blocks.x3, x.blocks.x4, x.blocks.x5, x.blocks.x6, x.blocks.x7].any long24
def lessB (a b : ByteArray) : Bool := Op.bytesLess a.toList b.toList
/-- The set of place i is well formed. -/
structure SetOk (xs : List BSet) (i : Nat) : Prop where
  name : nameB (xs.getD i ET.bset.dflt).name = true
  less : 0 < i → lessB (xs.getD (i - 1) ET.bset.dflt).name (xs.getD i ET.bset.dflt).name = true
  kind : (xs.getD i ET.bset.dflt).kind = 1 ∨ (xs.getD i ET.bset.dflt).kind = 2
  small : big8 (xs.getD i ET.bset.dflt) = false
structure BookP (xs : List BSet) : Prop where
  few : xs.length ≤ 6
  each : ∀ i, i < xs.length → SetOk xs i
  leads : xs.any (fun s => !leadsN xs xs.length s) = false
noncomputable def bookB (xs : List BSet) : Bool := @decide (BookP xs) (Classical.propDecidable _)
theorem bookB_true {xs : List BSet} : bookB xs = true ↔ BookP xs := by simp [bookB]
theorem bookB_false {xs : List BSet} : bookB xs = false ↔ ¬ BookP xs := by simp [bookB]
theorem bad_expr (A B k1 k2 G : Bool) (P : Prop) [Decidable P] : (if (if (if (!A) = true then true else if P then !B else false) = true then true else if k1 = true then k2 else false) = true then true else G) = false ↔ A = true ∧ (P → B = true) ∧ (k1 = false ∨ k2 = false) ∧ G = false := by
  by_cases h : P <;> cases A <;> cases B <;> cases k1 <;> cases k2 <;> cases G <;> simp [h]
end Go.Proofs.YtmnbgppmfbnamaaGreatDoor
