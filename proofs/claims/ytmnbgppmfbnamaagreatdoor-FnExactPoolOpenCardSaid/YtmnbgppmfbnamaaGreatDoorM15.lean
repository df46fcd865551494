import Derived.Lib.ItoaNum
import Derived.Lib.AtoiAll
import Derived.Lib.AtoiTie
import Derived.Lib.SplitLaws
import Derived.Lib.Join
import Derived.Test.YtmnbgppmfbnamaaGreatDoorProg
import Derived.WalkKit
import Derived.Ground.NamesProg
import Derived.Shelf.Strings.SplitShaped
import Derived.Shelf.Strings.Shaped
import Derived.Shelf.Strings.OnBuilder
import Derived.Shelf.Strconv.ErrVarAll
import Derived.Test.YtmnbgppmfbnamaaGreatDoorM8
import Derived.Test.YtmnbgppmfbnamaaGreatDoorM9
import Derived.Test.YtmnbgppmfbnamaaGreatDoorM11
import Derived.Test.YtmnbgppmfbnamaaGreatDoorM14
set_option linter.unusedSimpArgs false
set_option linter.unusedVariables false
set_option linter.unusedSectionVars false
/- Plain facts: texts cut at a byte, numerals. -/
namespace Go.Proofs.YtmnbgppmfbnamaaGreatDoor
open Go

abbrev Bs := List UInt8
/-- The pieces of a text between bytes c. -/
def cutL (c : UInt8) : Bs → List Bs
  | [] => [[]]
  | b :: r => if b = c then [] :: cutL c r else match cutL c r with
    | w :: ws => (b :: w) :: ws
    | [] => [[b]]
/-- Texts with a text between them. -/
def joinL (s : Bs) : List Bs → Bs
  | [] => []
  | [w] => w
  | w :: ws => w ++ s ++ joinL s ws
theorem cutL_ne (c : UInt8) : ∀ l, cutL c l ≠ []
  | [] => by simp [cutL]
  | b :: r => by
    unfold cutL
    split
    · simp
    · split <;> simp
theorem joinL_cons (s w : Bs) {ws : List Bs} (h : ws ≠ []) : joinL s (w :: ws) = w ++ s ++ joinL s ws := by
  cases ws with
  | nil => exact absurd rfl h
  | cons => rfl
theorem join_cut (c : UInt8) : ∀ l, joinL [c] (cutL c l) = l
  | [] => rfl
  | b :: r => by
    have ih := join_cut c r
    unfold cutL
    split
    · rename_i h
      rw [joinL_cons _ _ (cutL_ne c r), ih, h]; rfl
    · cases hc : cutL c r with
      | nil => exact absurd hc (cutL_ne c r)
      | cons w ws =>
        rw [hc] at ih
        cases ws with
        | nil => simpa [joinL] using ih
        | cons v vs =>
          simp only [joinL] at ih ⊢
          rw [← ih]; rfl
theorem cut_hit (c : UInt8) (r : Bs) : cutL c (c :: r) = [] :: cutL c r := by
  conv => lhs; unfold cutL
  rw [if_pos rfl]
theorem cut_miss {b c : UInt8} (h : ¬ b = c) {r w : Bs} {ws : List Bs} (hr : cutL c r = w :: ws) : cutL c (b :: r) = (b :: w) :: ws := by
  conv => lhs; unfold cutL
  rw [if_neg h, hr]
theorem cut_none (c : UInt8) : ∀ l : Bs, c ∉ l → cutL c l = [l]
  | [], _ => rfl
  | b :: r, h => by
    rw [List.mem_cons, not_or] at h
    exact cut_miss (fun e => h.1 e.symm) (cut_none c r h.2)
theorem cut_app (c : UInt8) : ∀ (w : Bs) (r : Bs), c ∉ w → cutL c (w ++ c :: r) = w :: cutL c r
  | [], r, _ => cut_hit c r
  | b :: w, r, h => by
    rw [List.mem_cons, not_or] at h
    exact cut_miss (fun e => h.1 e.symm) (cut_app c w r h.2)
theorem cut_join (c : UInt8) : ∀ ws : List Bs, ws ≠ [] → (∀ w ∈ ws, c ∉ w) → cutL c (joinL [c] ws) = ws
  | [], h, _ => absurd rfl h
  | [w], _, h => cut_none c w (h w (by simp))
  | w :: v :: ws, _, h => by
    show cutL c (w ++ [c] ++ joinL [c] (v :: ws)) = _
    rw [List.append_assoc, List.singleton_append, cut_app c w _ (h w (by simp)), cut_join c (v :: ws) (by simp) fun x hx => h x (List.mem_cons_of_mem _ hx)]
theorem cut_mem (c : UInt8) : ∀ (l : Bs), ∀ w ∈ cutL c l, c ∉ w
  | [], w, hw => by simp [cutL] at hw; subst hw; simp
  | b :: r, w, hw => by
    unfold cutL at hw
    split at hw
    · rcases List.mem_cons.1 hw with rfl | hw
      · simp
      · exact cut_mem c r w hw
    · rename_i hb
      cases hc : cutL c r with
      | nil => exact absurd hc (cutL_ne c r)
      | cons v vs =>
        rw [hc] at hw
        have h2 := cut_mem c r
        rw [hc] at h2
        simp only [List.mem_cons] at hw
        rcases hw with rfl | hw
        · rw [List.mem_cons, not_or]
          exact ⟨fun e => hb e.symm, h2 v (by simp)⟩
        · exact h2 w (List.mem_cons_of_mem _ hw)
theorem cut_len (c : UInt8) : ∀ l : Bs, (cutL c l).length ≤ l.length + 1
  | [] => by simp [cutL]
  | b :: r => by
    have ih := cut_len c r
    unfold cutL
    split
    · simpa using ih
    · split
      · rename_i h; rw [h] at ih; simp at ih ⊢; omega
      · simp

/-! Numerals. -/
def isDig (b : UInt8) : Prop := 48 ≤ b.toNat ∧ b.toNat ≤ 57
instance (b : UInt8) : Decidable (isDig b) := inferInstanceAs (Decidable (_ ∧ _))
theorem dig_of {k : Nat} (h : k < 10) : (UInt8.ofNat (48 + k)).toNat = 48 + k := by
  rw [UInt8.toNat_ofNat']; omega
theorem decD_small {u : Nat} (h : u < 10) : Lib.decDigits u = [UInt8.ofNat (48 + u)] := by rw [Lib.decDigits, dif_pos h]
theorem decD_big {u : Nat} (h : ¬ u < 10) : Lib.decDigits u = Lib.decDigits (u / 10) ++ [UInt8.ofNat (48 + u % 10)] := by rw [Lib.decDigits, dif_neg h]
theorem decD_dig (u : Nat) : ∀ b ∈ Lib.decDigits u, isDig b := by
  induction u using Nat.strongRecOn with
  | _ u ih =>
    intro b hb
    by_cases h : u < 10
    · rw [decD_small h] at hb
      simp only [List.mem_singleton] at hb
      subst hb
      unfold isDig; rw [dig_of h]; omega
    · rw [decD_big h, List.mem_append] at hb
      rcases hb with hb | hb
      · exact ih _ (by omega) b hb
      · simp only [List.mem_singleton] at hb
        subst hb
        unfold isDig; rw [dig_of (by omega)]; omega
theorem decD_ne (u : Nat) : Lib.decDigits u ≠ [] := by
  by_cases h : u < 10
  · rw [decD_small h]; simp
  · rw [decD_big h]; simp
theorem decD_len (k : Nat) : ∀ u : Nat, u < 10 ^ (k + 1) → (Lib.decDigits u).length ≤ k + 1 := by
  induction k with
  | zero => intro u hu; rw [decD_small (by omega)]; exact Nat.le_refl _
  | succ k ih =>
    intro u hu
    by_cases h : u < 10
    · rw [decD_small h]; simp
    · rw [decD_big h, List.length_append]
      have := ih (u / 10) (by rw [Nat.pow_succ] at hu; omega)
      simp; omega
/-- No leading zero, but of zero itself. -/
theorem decD_head (u : Nat) : 0 < u → ∃ b r, Lib.decDigits u = b :: r ∧ b.toNat ≠ 48 := by
  induction u using Nat.strongRecOn with
  | _ u ih =>
    intro hu
    by_cases h : u < 10
    · exact ⟨_, _, decD_small h, by rw [dig_of h]; omega⟩
    · obtain ⟨b, r, hb, h2⟩ := ih (u / 10) (by omega) (by omega)
      exact ⟨b, r ++ [_], by rw [decD_big h, hb]; rfl, h2⟩
theorem decFrom_app : ∀ (l : Bs) (acc : Nat) (m : Bs), Lib.decFrom acc (l ++ m) = (Lib.decFrom acc l).bind fun a => Lib.decFrom a m
  | [], acc, m => by simp [Lib.decFrom]
  | b :: l, acc, m => by
    simp only [List.cons_append, Lib.decFrom]
    cases h : Lib.digitVal b with
    | none => rfl
    | some d => exact decFrom_app l _ m
theorem digitVal_of {k : Nat} (h : k < 10) : Lib.digitVal (UInt8.ofNat (48 + k)) = some k := by
  unfold Lib.digitVal
  rw [dig_of h, if_pos (by omega)]
  congr 1; omega
theorem decFrom_decD (u : Nat) : Lib.decFrom 0 (Lib.decDigits u) = some u := by
  induction u using Nat.strongRecOn with
  | _ u ih =>
    by_cases h : u < 10
    · rw [decD_small h]
      simp only [Lib.decFrom, digitVal_of h]
      congr 1; omega
    · rw [decD_big h, decFrom_app, ih (u / 10) (by omega)]
      simp only [Option.bind_some, Lib.decFrom, digitVal_of (show u % 10 < 10 by omega)]
      congr 1; omega
theorem decD_inj {u v : Nat} (h : Lib.decDigits u = Lib.decDigits v) : u = v := by
  have h1 := decFrom_decD u
  rw [h, decFrom_decD] at h1
  exact (Option.some.inj h1).symm
end Go.Proofs.YtmnbgppmfbnamaaGreatDoor
/- Plain facts: the library's words are texts cut at a byte. -/
namespace Go.Proofs.YtmnbgppmfbnamaaGreatDoor
open Go

def bytesL (l : Bs) : ByteArray := ⟨l.toArray⟩
theorem bytesL_data (s : ByteArray) : bytesL s.data.toList = s := by
  cases s; simp [bytesL]
theorem bytesL_list (l : Bs) : (bytesL l).data.toList = l := by simp [bytesL]
theorem bytesL_app (l m : Bs) : bytesL (l ++ m) = bytesL l ++ bytesL m := by
  apply ByteArray.ext; simp [bytesL]
theorem bytesL_inj {l m : Bs} (h : bytesL l = bytesL m) : l = m := by
  have := congrArg (fun s : ByteArray => s.data.toList) h
  simpa [bytesL_list] using this
theorem index_not (c : UInt8) : ∀ l : Bs, c ∉ l → Lib.index l [c] = -1
  | [], _ => rfl
  | b :: l, h => by
    rw [List.mem_cons, not_or] at h
    have h1 : List.isPrefixOf [c] (b :: l) = false := by simp [List.isPrefixOf, h.1]
    unfold Lib.index
    rw [h1, index_not c l h.2]; rfl
theorem index_at (c : UInt8) : ∀ (w r : Bs), c ∉ w → Lib.index (w ++ c :: r) [c] = (w.length : Int)
  | [], r, _ => by
    have h1 : List.isPrefixOf [c] (c :: r) = true := by simp [List.isPrefixOf]
    show Lib.index (c :: r) [c] = 0
    unfold Lib.index
    rw [if_pos h1]
  | b :: w, r, h => by
    rw [List.mem_cons, not_or] at h
    have h1 : List.isPrefixOf [c] (b :: (w ++ c :: r)) = false := by simp [List.isPrefixOf, h.1]
    show Lib.index (b :: (w ++ c :: r)) [c] = _
    unfold Lib.index
    rw [h1, index_at c w r h.2]
    have : (((w.length : Int)) == -1) = false := by rw [beq_eq_false_iff_ne]; omega
    rw [this]
    simp
theorem split_cut (c : UInt8) : ∀ (n : Nat) (l : Bs), l.length ≤ n → Lib.splitK [c] 0 (Lib.count l [c]) l = cutL c l
  | n, l, hn => by
    by_cases hc : c ∈ l
    · obtain ⟨w, r, rfl, hw⟩ := List.eq_append_cons_of_mem hc
      have hi := index_at c w r hw
      rw [Lib.count_hit (by simp) hi, cut_app c w r hw, Nat.add_comm]
      have hm : ¬ (Lib.index (w ++ c :: r) [c] == -1) = true := fun e => by have := beq_iff_eq.1 e; omega
      rw [Lib.splitK, if_neg hm, hi]
      have e1 : (w ++ c :: r).drop ((w.length : Int).toNat + [c].length) = r := by
        rw [Int.toNat_natCast, List.length_singleton, show w ++ c :: r = (w ++ [c]) ++ r by simp]
        rw [List.drop_append, List.drop_eq_nil_of_le (by simp)]
        simp
      have e3 : (w ++ c :: r).drop (w.length + [c].length) = r := e1
      have e2 : (w ++ c :: r).take ((w.length : Int).toNat + 0) = w := by simp
      rw [e1, e2, e3]
      cases n with
      | zero => simp at hn
      | succ n =>
        rw [split_cut c n r (by simp at hn; omega)]
    · rw [Lib.count_miss (index_not c l hc), cut_none c l hc]
      rfl
def splitV (c : UInt8) (s : ByteArray) : List ByteArray := (cutL c s.data.toList).map bytesL
theorem split_lib (c : UInt8) (s : ByteArray) : Lib.splitB ⟨#[c]⟩ 0 (Lib.countB s ⟨#[c]⟩) s = splitV c s := by
  have h := Lib.splitB_data ⟨#[c]⟩ 0 (Lib.countB s ⟨#[c]⟩) s
  have h2 : Lib.splitK [c] 0 (Lib.count s.data.toList [c]) s.data.toList = cutL c s.data.toList := split_cut c _ _ (Nat.le_refl _)
  have h3 : (Lib.splitB ⟨#[c]⟩ 0 (Lib.countB s ⟨#[c]⟩) s).map (·.data.toList) = cutL c s.data.toList := h.trans h2
  unfold splitV
  rw [← h3, List.map_map]
  conv => lhs; rw [← List.map_id (Lib.splitB ⟨#[c]⟩ 0 (Lib.countB s ⟨#[c]⟩) s)]
  apply List.map_congr_left
  intro x _
  exact (bytesL_data x).symm
theorem splitV_len (c : UInt8) (s : ByteArray) : (splitV c s).length ≤ s.size + 1 := by
  unfold splitV
  rw [List.length_map]
  exact cut_len c _
/-- What stands before the first c, and behind it; is there one? -/
def cutV (c : UInt8) (s : ByteArray) : ByteArray × ByteArray × Bool :=
  (bytesL (Lib.cut s.data.toList [c]).1, bytesL (Lib.cut s.data.toList [c]).2.1, (Lib.cut s.data.toList [c]).2.2)
theorem cutV_not {c : UInt8} {s : ByteArray} (h : c ∉ s.data.toList) : cutV c s = (s, ⟨#[]⟩, false) := by
  unfold cutV Lib.cut
  rw [index_not c _ h, if_neg (by decide)]
  simp only [bytesL_data]; rfl
theorem cutV_at {c : UInt8} {s : ByteArray} {w r : Bs} (h : s.data.toList = w ++ c :: r) (hw : c ∉ w) : cutV c s = (bytesL w, bytesL r, true) := by
  unfold cutV Lib.cut
  rw [h, index_at c w r hw, if_pos (by omega)]
  have e1 : (w ++ c :: r).drop ((w.length : Int).toNat + [c].length) = r := by
    rw [Int.toNat_natCast, List.length_singleton, show w ++ c :: r = (w ++ [c]) ++ r by simp]
    rw [List.drop_append, List.drop_eq_nil_of_le (by simp)]
    simp
  have e2 : (w ++ c :: r).take (w.length : Int).toNat = w := by simp
  rw [e1, e2]
def joinV (sep : ByteArray) (xs : List ByteArray) : ByteArray := bytesL (Lib.join (xs.map (·.data.toList)) sep.data.toList)
theorem lib_join (sep : Bs) : ∀ xs : List Bs, Lib.join xs sep = joinL sep xs
  | [] => rfl
  | [x] => Lib.join_one x sep
  | x :: y :: r => by
    rw [joinL_cons _ _ (by simp), ← lib_join sep (y :: r)]
    simp [Lib.join, List.intercalate]
theorem splitV_join {c : UInt8} {ws : List ByteArray} (hn : ws ≠ []) (h : ∀ w ∈ ws, c ∉ w.data.toList) : splitV c (joinV ⟨#[c]⟩ ws) = ws := by
  unfold splitV joinV
  rw [bytesL_list, lib_join]
  have e : (⟨#[c]⟩ : ByteArray).data.toList = [c] := rfl
  rw [e, cut_join c _ (by simpa using hn) (by
    intro w hw
    obtain ⟨x, hx, rfl⟩ := List.mem_map.1 hw
    exact h x hx), List.map_map]
  conv => rhs; rw [← List.map_id ws]
  apply List.map_congr_left
  intro x _
  exact bytesL_data x
theorem joinV_split (c : UInt8) (s : ByteArray) : joinV ⟨#[c]⟩ (splitV c s) = s := by
  unfold splitV joinV
  rw [lib_join, List.map_map]
  have e : (cutL c s.data.toList).map ((fun x : ByteArray => x.data.toList) ∘ bytesL) = cutL c s.data.toList := by
    conv => rhs; rw [← List.map_id (cutL c s.data.toList)]
    apply List.map_congr_left
    intro x _
    exact bytesL_list x
  rw [e]
  have e2 : (⟨#[c]⟩ : ByteArray).data.toList = [c] := rfl
  rw [e2, join_cut, bytesL_data]
theorem joinV_three (c : UInt8) (x y z : ByteArray) : joinV ⟨#[c]⟩ [x, y, z] = x ++ ⟨#[c]⟩ ++ y ++ ⟨#[c]⟩ ++ z := by
  unfold joinV
  rw [lib_join]
  show bytesL (x.data.toList ++ [c] ++ (y.data.toList ++ [c] ++ z.data.toList)) = _
  rw [bytesL_app, bytesL_app, bytesL_app, bytesL_app, bytesL_data, bytesL_data, bytesL_data]
  have e : bytesL [c] = ⟨#[c]⟩ := rfl
  rw [e]
  simp only [ByteArray.append_assoc]
end Go.Proofs.YtmnbgppmfbnamaaGreatDoor
/-
  DERIVED: THE SHELF's CONTRACTS AT THIS DUMP, IN PLAIN WORDS (tools/lay-plain.mjs out of 'YtmnbgppmfbnamaaGreatDoorTSh4Q.lean', which tools/lay-shelf.mjs wrote): THE SAME DECLARATIONS UNDER THE SAME NAMES: 'import', 'namespace', 'open', 'def', 'theorem' AND NOTHING ELSE: no command of the shelf's: FOR A HAND-IN. Each laying: the table of numbers ('.._ren') and one theorem, a field a fact of the dump's own or the kernel's comparison; each contract: ONE APPLICATION.
-/
namespace Go.Proofs
open Go.Shelf
def Tryz.lays146_ren : Go.Shelf.Ren := ⟨fun | 146 => 55 | 221 => 129 | 268 => 202 | 138 => 203 | 143 => 204 | 195 => 253 | 197 => 244 | 218 => 254 | 219 => 205 | 260 => 285 | 217 => 211 | 225 => 255 | 224 => 256 | 267 => 257 | 266 => 261 | 314 => 293 | n => n, fun | 9 => 9 | 31 => 32 | 3 => 3 | 4 => 4 | 0 => 0 | 105 => 266 | 21 => 21 | 5 => 5 | 46 => 153 | 119 => 318 | 139 => 321 | 138 => 320 | 146 => 308 | 51 => 305 | n => n, fun | 1 => 0 | 3 => 4 | 4 => 5 | n => n⟩
theorem Tryz.lays146 : Go.Proofs.LaysM.n146 Tryz.prog Tryz.lays146_ren := {
  mixed := by kernel_rfl
  f138 := Tryz.func203.trans (congrArg some (by kernel_rfl))
  f143 := Tryz.func204.trans (congrArg some (by kernel_rfl))
  f146 := Tryz.func55.trans (congrArg some (by kernel_rfl))
  f195 := Tryz.func253.trans (congrArg some (by kernel_rfl))
  f197 := Tryz.func244.trans (congrArg some (by kernel_rfl))
  f217 := Tryz.func211.trans (congrArg some (by kernel_rfl))
  f218 := Tryz.func254.trans (congrArg some (by kernel_rfl))
  f219 := Tryz.func205.trans (congrArg some (by kernel_rfl))
  f221 := Tryz.func129.trans (congrArg some (by kernel_rfl))
  f224 := Tryz.func256.trans (congrArg some (by kernel_rfl))
  f225 := Tryz.func255.trans (congrArg some (by kernel_rfl))
  f260 := Tryz.func285.trans (congrArg some (by kernel_rfl))
  f266 := Tryz.func261.trans (congrArg some (by kernel_rfl))
  f267 := Tryz.func257.trans (congrArg some (by kernel_rfl))
  f268 := Tryz.func202.trans (congrArg some (by kernel_rfl))
  f314 := Tryz.func293.trans (congrArg some (by kernel_rfl))
  t0 := Tryz.underlying0
  a0 := Tryz.isAgg0
  z0 := Tryz.sizeOf0
  v0 := Tryz.zeroValue0
  t3 := Tryz.underlying3
  a3 := Tryz.isAgg3
  z3 := Tryz.sizeOf3
  v3 := Tryz.zeroValue3
  t4 := Tryz.underlying4
  a4 := Tryz.isAgg4
  z4 := Tryz.sizeOf4
  v4 := Tryz.zeroValue4
  t5 := Tryz.underlying5
  a5 := Tryz.isAgg5
  z5 := Tryz.sizeOf5
  v5 := Tryz.zeroValue5
  t9 := Tryz.underlying9
  a9 := Tryz.isAgg9
  z9 := Tryz.sizeOf9
  v9 := Tryz.zeroValue9
  t21 := Tryz.underlying21
  a21 := Tryz.isAgg21
  z21 := Tryz.sizeOf21
  v21 := Tryz.zeroValue21
  t31 := Tryz.underlying32
  a31 := Tryz.isAgg32
  z31 := Tryz.sizeOf32
  v31 := Tryz.zeroValue32
  t46 := Tryz.underlying153
  a46 := Tryz.isAgg153
  z46 := Tryz.sizeOf153
  v46 := Tryz.zeroValue153
  t51 := Tryz.underlying305
  a51 := Tryz.isAgg305
  z51 := Tryz.sizeOf305
  v51 := Tryz.zeroValue305
  t105 := Tryz.underlying266
  a105 := Tryz.isAgg266
  z105 := Tryz.sizeOf266
  v105 := Tryz.zeroValue266
  t119 := Tryz.underlying318
  a119 := Tryz.isAgg318
  z119 := Tryz.sizeOf318
  t138 := Tryz.underlying320
  a138 := Tryz.isAgg320
  z138 := Tryz.sizeOf320
  v138 := Tryz.zeroValue320
  t139 := Tryz.underlying321
  a139 := Tryz.isAgg321
  z139 := Tryz.sizeOf321
  v139 := Tryz.zeroValue321
  t146 := Tryz.underlying308
  a146 := Tryz.isAgg308
  z146 := Tryz.sizeOf308
  v146 := Tryz.zeroValue308
  g1 := by kernel_rfl
  g3 := by kernel_rfl
  g4 := by kernel_rfl
  i0 := by kernel_rfl
  i3 := by kernel_rfl
  i4 := by kernel_rfl
  i5 := by kernel_rfl
  i9 := by kernel_rfl
  i21 := by kernel_rfl
  i31 := by kernel_rfl
  i46 := by kernel_rfl
  i51 := by kernel_rfl
  i105 := by kernel_rfl
  i138 := by kernel_rfl
  i139 := by kernel_rfl
  i146 := by kernel_rfl
  m1 := by kernel_rfl
  s1_3 := fun w h => Go.Proofs.cell_of_shapedOpen_int (zero := #[.int .i64 0]) (t := 3) h (of_decide_eq_true (by kernel_rfl)) (by kernel_rfl) rfl (by kernel_rfl) (by kernel_rfl) Tryz.underlying3
  m3 := by kernel_rfl
  m4 := by kernel_rfl }
end Go.Proofs
/-
  DERIVED: THE SHELF's CONTRACTS AT THIS DUMP, IN PLAIN WORDS (tools/lay-plain.mjs out of 'YtmnbgppmfbnamaaGreatDoorTSh5Q.lean', which tools/lay-shelf.mjs wrote): THE SAME DECLARATIONS UNDER THE SAME NAMES: 'import', 'namespace', 'open', 'def', 'theorem' AND NOTHING ELSE: no command of the shelf's: FOR A HAND-IN. Each laying: the table of numbers ('.._ren') and one theorem, a field a fact of the dump's own or the kernel's comparison; each contract: ONE APPLICATION.
-/
namespace Go.Proofs
open Go.Shelf
def Tryz.lays145_ren : Go.Shelf.Ren := ⟨fun | 145 => 56 | 220 => 130 | 219 => 205 | 217 => 211 | 225 => 255 | 224 => 256 | 267 => 257 | 266 => 261 | 314 => 293 | n => n, fun | 9 => 9 | 4 => 4 | 59 => 95 | 3 => 3 | 5 => 5 | 46 => 153 | 146 => 308 | 51 => 305 | n => n, fun | 1 => 0 | n => n⟩
theorem Tryz.lays145 : Go.Proofs.LaysM.n145 Tryz.prog Tryz.lays145_ren := {
  mixed := by kernel_rfl
  f145 := Tryz.func56.trans (congrArg some (by kernel_rfl))
  f217 := Tryz.func211.trans (congrArg some (by kernel_rfl))
  f219 := Tryz.func205.trans (congrArg some (by kernel_rfl))
  f220 := Tryz.func130.trans (congrArg some (by kernel_rfl))
  f224 := Tryz.func256.trans (congrArg some (by kernel_rfl))
  f225 := Tryz.func255.trans (congrArg some (by kernel_rfl))
  f266 := Tryz.func261.trans (congrArg some (by kernel_rfl))
  f267 := Tryz.func257.trans (congrArg some (by kernel_rfl))
  f314 := Tryz.func293.trans (congrArg some (by kernel_rfl))
  t3 := Tryz.underlying3
  a3 := Tryz.isAgg3
  z3 := Tryz.sizeOf3
  v3 := Tryz.zeroValue3
  t4 := Tryz.underlying4
  a4 := Tryz.isAgg4
  z4 := Tryz.sizeOf4
  v4 := Tryz.zeroValue4
  t5 := Tryz.underlying5
  a5 := Tryz.isAgg5
  z5 := Tryz.sizeOf5
  v5 := Tryz.zeroValue5
  t9 := Tryz.underlying9
  a9 := Tryz.isAgg9
  z9 := Tryz.sizeOf9
  v9 := Tryz.zeroValue9
  t46 := Tryz.underlying153
  a46 := Tryz.isAgg153
  z46 := Tryz.sizeOf153
  v46 := Tryz.zeroValue153
  t51 := Tryz.underlying305
  a51 := Tryz.isAgg305
  z51 := Tryz.sizeOf305
  v51 := Tryz.zeroValue305
  t59 := Tryz.underlying95
  a59 := Tryz.isAgg95
  z59 := Tryz.sizeOf95
  v59 := Tryz.zeroValue95
  t146 := Tryz.underlying308
  a146 := Tryz.isAgg308
  z146 := Tryz.sizeOf308
  v146 := Tryz.zeroValue308
  g1 := by kernel_rfl
  i3 := by kernel_rfl
  i4 := by kernel_rfl
  i5 := by kernel_rfl
  i9 := by kernel_rfl
  i46 := by kernel_rfl
  i51 := by kernel_rfl
  i59 := by kernel_rfl
  i146 := by kernel_rfl
  m1 := by kernel_rfl
  s1_3 := fun w h => Go.Proofs.cell_of_shapedOpen_int (zero := #[.int .i64 0]) (t := 3) h (of_decide_eq_true (by kernel_rfl)) (by kernel_rfl) rfl (by kernel_rfl) (by kernel_rfl) Tryz.underlying3 }
end Go.Proofs
/-
  DERIVED: THE SHELF's CONTRACTS AT THIS DUMP, IN PLAIN WORDS (tools/lay-plain.mjs out of 'YtmnbgppmfbnamaaGreatDoorTSh6Q.lean', which tools/lay-shelf.mjs wrote): THE SAME DECLARATIONS UNDER THE SAME NAMES: 'import', 'namespace', 'open', 'def', 'theorem' AND NOTHING ELSE: no command of the shelf's: FOR A HAND-IN. Each laying: the table of numbers ('.._ren') and one theorem, a field a fact of the dump's own or the kernel's comparison; each contract: ONE APPLICATION.
-/
namespace Go.Proofs
open Go.Shelf
def Tryz.lays156_ren : Go.Shelf.Ren := ⟨fun | 156 => 52 | 165 => 125 | 166 => 126 | 169 => 127 | 240 => 199 | 241 => 200 | 276 => 247 | 277 => 248 | n => n, fun | 31 => 32 | 9 => 9 | 3 => 3 | 4 => 4 | 0 => 0 | 20 => 20 | 72 => 157 | 76 => 99 | 70 => 155 | 37 => 22 | 75 => 98 | 127 => 228 | 164 => 269 | 5 => 5 | 80 => 159 | n => n, fun | n => n⟩
theorem Tryz.lays156 : Go.Proofs.Lays.n156 Tryz.prog Tryz.lays156_ren := {
  mixed := by kernel_rfl
  f156 := Tryz.func52.trans (congrArg some (by kernel_rfl))
  f165 := Tryz.func125.trans (congrArg some (by kernel_rfl))
  f166 := Tryz.func126.trans (congrArg some (by kernel_rfl))
  f169 := Tryz.func127.trans (congrArg some (by kernel_rfl))
  f240 := Tryz.func199.trans (congrArg some (by kernel_rfl))
  f241 := Tryz.func200.trans (congrArg some (by kernel_rfl))
  f276 := Tryz.func247.trans (congrArg some (by kernel_rfl))
  f277 := Tryz.func248.trans (congrArg some (by kernel_rfl))
  t0 := Tryz.underlying0
  a0 := Tryz.isAgg0
  z0 := Tryz.sizeOf0
  v0 := Tryz.zeroValue0
  t3 := Tryz.underlying3
  a3 := Tryz.isAgg3
  z3 := Tryz.sizeOf3
  v3 := Tryz.zeroValue3
  t4 := Tryz.underlying4
  a4 := Tryz.isAgg4
  z4 := Tryz.sizeOf4
  v4 := Tryz.zeroValue4
  t9 := Tryz.underlying9
  a9 := Tryz.isAgg9
  z9 := Tryz.sizeOf9
  v9 := Tryz.zeroValue9
  t20 := Tryz.underlying20
  a20 := Tryz.isAgg20
  z20 := Tryz.sizeOf20
  v20 := Tryz.zeroValue20
  t31 := Tryz.underlying32
  a31 := Tryz.isAgg32
  z31 := Tryz.sizeOf32
  v31 := Tryz.zeroValue32
  t37 := Tryz.underlying22
  a37 := Tryz.isAgg22
  z37 := Tryz.sizeOf22
  v37 := Tryz.zeroValue22
  t70 := Tryz.underlying155
  a70 := Tryz.isAgg155
  z70 := Tryz.sizeOf155
  v70 := Tryz.zeroValue155
  t72 := Tryz.underlying157
  a72 := Tryz.isAgg157
  z72 := Tryz.sizeOf157
  v72 := Tryz.zeroValue157
  t75 := Tryz.underlying98
  a75 := Tryz.isAgg98
  z75 := Tryz.sizeOf98
  v75 := Tryz.zeroValue98
  t76 := Tryz.underlying99
  a76 := Tryz.isAgg99
  z76 := Tryz.sizeOf99
  v76 := Tryz.zeroValue99
  t127 := Tryz.underlying228
  a127 := Tryz.isAgg228
  z127 := Tryz.sizeOf228
  v127 := Tryz.zeroValue228
  t164 := Tryz.underlying269
  a164 := Tryz.isAgg269
  z164 := Tryz.sizeOf269
  v164 := Tryz.zeroValue269 }
end Go.Proofs
/-
  DERIVED: THE SHELF's CONTRACTS AT THIS DUMP, IN PLAIN WORDS (tools/lay-plain.mjs out of 'YtmnbgppmfbnamaaGreatDoorTSh7Q.lean', which tools/lay-shelf.mjs wrote): THE SAME DECLARATIONS UNDER THE SAME NAMES: 'import', 'namespace', 'open', 'def', 'theorem' AND NOTHING ELSE: no command of the shelf's: FOR A HAND-IN. Each laying: the table of numbers ('.._ren') and one theorem, a field a fact of the dump's own or the kernel's comparison; each contract: ONE APPLICATION.
-/
namespace Go.Proofs
open Go.Shelf
def Tryz.lays172_ren : Go.Shelf.Ren := ⟨fun | 172 => 57 | 244 => 131 | 245 => 132 | 247 => 206 | 279 => 207 | 280 => 208 | 281 => 209 | 282 => 210 | 287 => 258 | 316 => 259 | 171 => 53 | 205 => 260 | 321 => 294 | 322 => 295 | 243 => 128 | 246 => 201 | 283 => 249 | 284 => 250 | 285 => 251 | 286 => 252 | 129 => 289 | 317 => 288 | 318 => 290 | 319 => 291 | 320 => 292 | 337 => 307 | 338 => 308 | n => n, fun | 9 => 9 | 3 => 3 | 75 => 98 | 76 => 99 | 4 => 4 | 5 => 5 | 167 => 232 | 37 => 22 | 0 => 0 | 85 => 233 | 2 => 2 | 168 => 235 | 53 => 273 | 175 => 278 | 46 => 153 | 210 => 281 | 127 => 228 | 145 => 313 | 143 => 311 | 21 => 21 | 171 => 272 | 173 => 276 | 212 => 304 | 51 => 305 | 20 => 20 | 213 => 306 | 232 => 331 | 233 => 332 | 80 => 159 | n => n, fun | 15 => 1 | 16 => 2 | 17 => 3 | 18 => 6 | 19 => 7 | n => n⟩
theorem Tryz.lays172 : Go.Proofs.LaysC.n172 Tryz.prog Tryz.lays172_ren := {
  mixed := by kernel_rfl
  f129 := Tryz.func289.trans (congrArg some (by kernel_rfl))
  f171 := Tryz.func53.trans (congrArg some (by kernel_rfl))
  f172 := Tryz.func57.trans (congrArg some (by kernel_rfl))
  f205 := Tryz.func260.trans (congrArg some (by kernel_rfl))
  f243 := Tryz.func128.trans (congrArg some (by kernel_rfl))
  f244 := Tryz.func131.trans (congrArg some (by kernel_rfl))
  f245 := Tryz.func132.trans (congrArg some (by kernel_rfl))
  f246 := Tryz.func201.trans (congrArg some (by kernel_rfl))
  f247 := Tryz.func206.trans (congrArg some (by kernel_rfl))
  f279 := Tryz.func207.trans (congrArg some (by kernel_rfl))
  f280 := Tryz.func208.trans (congrArg some (by kernel_rfl))
  f281 := Tryz.func209.trans (congrArg some (by kernel_rfl))
  f282 := Tryz.func210.trans (congrArg some (by kernel_rfl))
  f283 := Tryz.func249.trans (congrArg some (by kernel_rfl))
  f284 := Tryz.func250.trans (congrArg some (by kernel_rfl))
  f285 := Tryz.func251.trans (congrArg some (by kernel_rfl))
  f286 := Tryz.func252.trans (congrArg some (by kernel_rfl))
  f287 := Tryz.func258.trans (congrArg some (by kernel_rfl))
  f316 := Tryz.func259.trans (congrArg some (by kernel_rfl))
  f317 := Tryz.func288.trans (congrArg some (by kernel_rfl))
  f318 := Tryz.func290.trans (congrArg some (by kernel_rfl))
  f319 := Tryz.func291.trans (congrArg some (by kernel_rfl))
  f320 := Tryz.func292.trans (congrArg some (by kernel_rfl))
  f321 := Tryz.func294.trans (congrArg some (by kernel_rfl))
  f322 := Tryz.func295.trans (congrArg some (by kernel_rfl))
  f337 := Tryz.func307.trans (congrArg some (by kernel_rfl))
  f338 := Tryz.func308.trans (congrArg some (by kernel_rfl))
  t0 := Tryz.underlying0
  a0 := Tryz.isAgg0
  z0 := Tryz.sizeOf0
  v0 := Tryz.zeroValue0
  t2 := Tryz.underlying2
  a2 := Tryz.isAgg2
  z2 := Tryz.sizeOf2
  v2 := Tryz.zeroValue2
  t3 := Tryz.underlying3
  a3 := Tryz.isAgg3
  z3 := Tryz.sizeOf3
  v3 := Tryz.zeroValue3
  t4 := Tryz.underlying4
  a4 := Tryz.isAgg4
  z4 := Tryz.sizeOf4
  v4 := Tryz.zeroValue4
  t5 := Tryz.underlying5
  a5 := Tryz.isAgg5
  z5 := Tryz.sizeOf5
  v5 := Tryz.zeroValue5
  t9 := Tryz.underlying9
  a9 := Tryz.isAgg9
  z9 := Tryz.sizeOf9
  v9 := Tryz.zeroValue9
  t20 := Tryz.underlying20
  a20 := Tryz.isAgg20
  z20 := Tryz.sizeOf20
  v20 := Tryz.zeroValue20
  t21 := Tryz.underlying21
  a21 := Tryz.isAgg21
  z21 := Tryz.sizeOf21
  v21 := Tryz.zeroValue21
  t37 := Tryz.underlying22
  a37 := Tryz.isAgg22
  z37 := Tryz.sizeOf22
  v37 := Tryz.zeroValue22
  t46 := Tryz.underlying153
  a46 := Tryz.isAgg153
  z46 := Tryz.sizeOf153
  v46 := Tryz.zeroValue153
  t51 := Tryz.underlying305
  a51 := Tryz.isAgg305
  z51 := Tryz.sizeOf305
  v51 := Tryz.zeroValue305
  t53 := Tryz.underlying273
  a53 := Tryz.isAgg273
  z53 := Tryz.sizeOf273
  v53 := Tryz.zeroValue273
  t75 := Tryz.underlying98
  a75 := Tryz.isAgg98
  z75 := Tryz.sizeOf98
  v75 := Tryz.zeroValue98
  t76 := Tryz.underlying99
  a76 := Tryz.isAgg99
  z76 := Tryz.sizeOf99
  v76 := Tryz.zeroValue99
  t85 := Tryz.underlying233
  a85 := Tryz.isAgg233
  z85 := Tryz.sizeOf233
  v85 := Tryz.zeroValue233
  t127 := Tryz.underlying228
  a127 := Tryz.isAgg228
  z127 := Tryz.sizeOf228
  v127 := Tryz.zeroValue228
  t143 := Tryz.underlying311
  a143 := Tryz.isAgg311
  z143 := Tryz.sizeOf311
  v143 := Tryz.zeroValue311
  t145 := Tryz.underlying313
  a145 := Tryz.isAgg313
  z145 := Tryz.sizeOf313
  v145 := Tryz.zeroValue313
  t167 := Tryz.underlying232
  a167 := Tryz.isAgg232
  z167 := Tryz.sizeOf232
  v167 := Tryz.zeroValue232
  t168 := Tryz.underlying235
  a168 := Tryz.isAgg235
  z168 := Tryz.sizeOf235
  v168 := Tryz.zeroValue235
  t171 := Tryz.underlying272
  a171 := Tryz.isAgg272
  z171 := Tryz.sizeOf272
  v171 := Tryz.zeroValue272
  t173 := Tryz.underlying276
  a173 := Tryz.isAgg276
  z173 := Tryz.sizeOf276
  v173 := Tryz.zeroValue276
  t175 := Tryz.underlying278
  a175 := Tryz.isAgg278
  z175 := Tryz.sizeOf278
  v175 := Tryz.zeroValue278
  t210 := Tryz.underlying281
  a210 := Tryz.isAgg281
  z210 := Tryz.sizeOf281
  v210 := Tryz.zeroValue281
  t212 := Tryz.underlying304
  a212 := Tryz.isAgg304
  z212 := Tryz.sizeOf304
  v212 := Tryz.zeroValue304
  t213 := Tryz.underlying306
  a213 := Tryz.isAgg306
  z213 := Tryz.sizeOf306
  t232 := Tryz.underlying331
  a232 := Tryz.isAgg331
  z232 := Tryz.sizeOf331
  v232 := Tryz.zeroValue331
  t233 := Tryz.underlying332
  a233 := Tryz.isAgg332
  z233 := Tryz.sizeOf332
  v233 := Tryz.zeroValue332
  g15 := by kernel_rfl
  g16 := by kernel_rfl
  g17 := by kernel_rfl
  g18 := by kernel_rfl
  g19 := by kernel_rfl
  t80 := Tryz.underlying159
  a80 := Tryz.isAgg159
  z80 := Tryz.sizeOf159
  v80 := Tryz.zeroValue159
  i0 := by kernel_rfl
  i2 := by kernel_rfl
  i3 := by kernel_rfl
  i4 := by kernel_rfl
  i5 := by kernel_rfl
  i9 := by kernel_rfl
  i20 := by kernel_rfl
  i21 := by kernel_rfl
  i37 := by kernel_rfl
  i46 := by kernel_rfl
  i51 := by kernel_rfl
  i53 := by kernel_rfl
  i75 := by kernel_rfl
  i76 := by kernel_rfl
  i80 := by kernel_rfl
  i85 := by kernel_rfl
  i127 := by kernel_rfl
  i143 := by kernel_rfl
  i145 := by kernel_rfl
  i167 := by kernel_rfl
  i168 := by kernel_rfl
  i171 := by kernel_rfl
  i173 := by kernel_rfl
  i175 := by kernel_rfl
  i210 := by kernel_rfl
  i212 := by kernel_rfl
  i232 := by kernel_rfl
  i233 := by kernel_rfl
  m15 := by kernel_rfl
  m16 := by kernel_rfl
  m17 := by kernel_rfl
  m18 := by kernel_rfl
  m19 := by kernel_rfl
  c0 := by kernel_rfl
  c2 := by kernel_rfl
  c3 := by kernel_rfl
  c4 := by kernel_rfl
  c5 := by kernel_rfl
  c9 := by kernel_rfl
  c20 := by kernel_rfl
  c21 := by kernel_rfl
  c37 := by kernel_rfl
  c46 := by kernel_rfl
  c51 := by kernel_rfl
  c53 := by kernel_rfl
  c75 := by kernel_rfl
  c76 := by kernel_rfl
  c80 := by kernel_rfl
  c85 := by kernel_rfl
  c127 := by kernel_rfl
  c143 := by kernel_rfl
  c145 := by kernel_rfl
  c167 := by kernel_rfl
  c168 := by kernel_rfl
  c171 := by kernel_rfl
  c173 := by kernel_rfl
  c175 := by kernel_rfl
  c210 := by kernel_rfl
  c212 := by kernel_rfl
  c213 := by kernel_rfl
  c232 := by kernel_rfl
  c233 := by kernel_rfl }
end Go.Proofs
/- The library's words: Split, Cut, Join, Atoi. -/
namespace Go.Proofs.YtmnbgppmfbnamaaGreatDoor
open Go.RowKit

/-- What is returned is plain, whatever the world; what was there is as it was. -/
theorem post_plain {φ : Phi} {w w' : World} {s : St} {r : Value} (hrel : Rel φ (tabOf []) w) (hu : s.upd = []) (hn : s.news = []) (hv : ∀ φ T w, VR φ T w s.v r) (hb : Below w.heap.size w w') : Post φ (tabOf []) w 0 s (.returned r) w' := by
  have hT : newT (tabOf []) 0 s = tabOf [] := newT_pure _ _ _ hu hn
  have no : ∀ b, ¬ Own φ (tabOf []) b := fun b ⟨k, base, h1, _⟩ => by simp [tabOf] at h1
  have old : ∀ b, b < w.heap.size → w'.heap[b]? = w.heap[b]? := fun b hb' => hb.block b hb'
  refine ⟨r, φ, rfl, hv _ _ _, ?_, ?_, fun k hk => .inl hk, fun b hb' _ => old b hb'⟩
  · rw [hT]
    exact ⟨fun k o h => by simp [tabOf] at h, fun k _ _ _ _ h _ _ _ => by simp [tabOf] at h, fun b h => ⟨Nat.lt_of_lt_of_le (hrel.frd b h).1 hb.size, no b⟩, fun q hq => by
      obtain ⟨-, c, e, f, h2, h3⟩ := hrel.glo q hq
      exact ⟨no _, c, e, f, (old _ (Array.getElem?_eq_some_iff.1 h2).1).trans h2, h3⟩⟩
  · rw [hT]
    exact ⟨hb.os, hb.tape, hb.output, hb.size, fun _ _ h => h, fun b hb' _ => old b hb', fun b _ h => h, fun b hb' => by unfold sizeAt; rw [old b hb'], fun _ => Iff.rfl⟩
theorem glo0 {φ : Phi} {T : Tab} {w : World} (h : Rel φ T w) : GloOk0 w := fun q hq => (h.glo q hq).2
theorem flat_str : ∀ xs : List ByteArray, xs.flatMap ET.str.cells = xs.map Value.string
  | [] => rfl
  | x :: xs => by rw [List.flatMap_cons, flat_str xs]; rfl
/-- Texts in a new array. -/
theorem post_texts {φ : Phi} {w : World} {s : St} {xs : List ByteArray} {t : TypeId} (hrel : Rel φ (tabOf []) w) (hφ : ∀ k, φ k = none) (hs : s.upd = [] ∧ s.news = [.arr .str xs] ∧ s.v = .one (.osl .str 0 0 xs.length)) :
    Post φ (tabOf []) w 0 s (.returned (.slice (some ⟨w.heap.size, 0, none⟩) xs.length xs.length)) (w.alloc (.cells (xs.map Value.string).toArray t)) := by
  obtain ⟨h1, h2, h3⟩ := hs
  have hT : newT (tabOf []) 0 s = fun k => if k = 0 then some (Obj.arr .str xs) else none := by
    funext k
    unfold newT
    rw [h1, h2]
    cases k with
    | zero => simp [addT, updT, tabOf]
    | succ k => simp [addT, updT, tabOf]
  have hheap : (w.alloc (.cells (xs.map Value.string).toArray t)).heap = w.heap.push (.cells (xs.map Value.string).toArray t) := rfl
  have old : ∀ b, b < w.heap.size → (w.alloc (.cells (xs.map Value.string).toArray t)).heap[b]? = w.heap[b]? := fun b hb => by
    rw [hheap, Array.getElem?_push, if_neg (by omega)]
  have new : (w.alloc (.cells (xs.map Value.string).toArray t)).heap[w.heap.size]? = some (.cells (xs.map Value.string).toArray t) := by
    rw [hheap, Array.getElem?_push, if_pos rfl]
  have hfl := flat_str xs
  let φ' : Phi := ⟨fun k => if k = 0 then some (w.heap.size, 0) else none, φ.fr⟩
  have own : ∀ b, Own φ' (newT (tabOf []) 0 s) b → b = w.heap.size := by
    rintro b ⟨k, base, -, h⟩
    have h : (if k = 0 then some (w.heap.size, 0) else none) = some (b, base) := h
    split at h
    · cases h; rfl
    · cases h
  refine ⟨_, φ', rfl, ?_, ?_, ?_, ?_, fun b hb _ => old b hb⟩
  · rw [h3]
    simp only [VR, CR]
    refine ⟨some ⟨w.heap.size, 0, none⟩, xs.length, rfl, Nat.le_refl _, ?_, ?_, fun _ => ⟨w.heap.size, 0, rfl, ?_, ?_⟩⟩
    · intro h; cases h
    · intro ad h; cases h; rfl
    · simp
    · unfold sizeAt
      rw [new]
      simp [ET.sz]
  · refine ⟨fun k o h => ?_, fun k k' b base base' hk hk' _ _ => ?_, fun b hb => ⟨?_, fun ho => ?_⟩, fun q hq => ?_⟩
    · rw [hT] at h
      simp only at h
      split at h
      · rename_i hk
        cases h
        subst hk
        refine .inr ⟨w.heap.size, 0, _, rfl, ⟨_, _, new, fun j _ => by simp⟩, fun i v hi => ?_⟩
        rw [hfl] at hi
        simpa using hi
      · cases h
    · rw [hT] at hk hk'
      by_cases e1 : k = 0
      · by_cases e2 : k' = 0
        · rw [e1, e2]
        · simp [e2] at hk'
      · simp [e1] at hk
    · have := (hrel.frd b hb).1
      rw [hheap, Array.size_push]; omega
    · have h4 := own b ho
      have := (hrel.frd b hb).1
      omega
    · obtain ⟨-, c, e, f, h5, h6⟩ := hrel.glo q hq
      have h7 := (Array.getElem?_eq_some_iff.1 h5).1
      exact ⟨fun ho => by have := own _ ho; omega, c, e, f, (old _ h7).trans h5, h6⟩
  · exact ⟨rfl, rfl, rfl, by rw [hheap, Array.size_push]; omega, fun k p h => (by rw [hφ k] at h; cases h), fun b hb _ => old b hb, fun b hb ho => (by have := own b ho; omega), fun b hb => (by unfold sizeAt; rw [old b hb]), fun _ => Iff.rfl⟩
  · intro k hk
    right
    by_cases e : k = 0
    · subst e
      exact ⟨Nat.le_refl _, by rw [h2]; exact Nat.zero_lt_one⟩
    · exact absurd (show (if k = 0 then some (w.heap.size, 0) else none) = none from if_neg e) hk
/-- The longest text that is looked for at once. -/
theorem size_one {s : ByteArray} (h : s.size = 1) : s = ⟨#[s.data.getD 0 0]⟩ := by
  apply ByteArray.ext
  apply Array.ext
  · simpa using h
  · intro i h1 h2
    have : i = 0 := by simp at h2; omega
    subst this
    simp [Array.getD, h1]
    intro he
    rw [he] at h
    cases h
@[go_sem] def ctSplit : Ct := ⟨false, [], fun args os => match args, os with
  | [.one (.val (.string s)), .one (.val (.string sep))], [] => ⟨s.size < 4294967281 ∧ sep.size = 1, .one (.osl .str 0 0 (splitV (sep.data.getD 0 0) s).length), [], [.arr .str (splitV (sep.data.getD 0 0) s)]⟩
  | _, _ => no⟩
@[go_sem] def ctCut : Ct := ⟨false, [], fun args os => match args, os with
  | [.one (.val (.string s)), .one (.val (.string sep))], [] => ifp (s.size < 4294967281 ∧ sep.size = 1) (.tup [vs (cutV (sep.data.getD 0 0) s).1, vs (cutV (sep.data.getD 0 0) s).2.1, vb (cutV (sep.data.getD 0 0) s).2.2])
  | _, _ => no⟩
@[go_sem] def ctJoin : Ct := ⟨false, [[some .str], []], fun args os => match args, os with
  | [.one (.isl .str xs), .one (.val (.string sep))], [] => ifp (xs.length ≤ 140737488355328 ∧ (joinV sep xs).size ≤ 140737488355328) (vs (joinV sep xs))
  | _, _ => no⟩
theorem s_join_e : EnterOk Tryz.prog 52 := ⟨_, Tryz.func52, rfl, by decide⟩
theorem join_extra : Builder.Extra Tryz.prog Tryz.lays156_ren where
  sizeBuilder := by kernel_rfl
  liesBuilder := by kernel_rfl
  t5 := Tryz.lays146.t5
  a5 := Tryz.lays146.a5
  z5 := Tryz.lays146.z5
  v5 := Tryz.lays146.v5
  infoByte := by kernel_rfl
  cellsByte := by kernel_rfl
  sizeByte := by kernel_rfl
  neB5 := by decide
theorem s_join : Sound Tryz.prog 52 ctJoin := by
  intro args os hp φ w rargs hrel hv hn
  unfold ctJoin at hp ⊢
  dsimp only at hp ⊢
  split at hp
  · rename_i xs sep
    obtain ⟨h1, h2⟩ : xs.length ≤ 140737488355328 ∧ (joinV sep xs).size ≤ 140737488355328 := hp
    obtain ⟨v0, v1, rfl⟩ : ∃ v0 v1, rargs = [v0, v1] := by
      match rargs, hv with
      | [v0, v1], _ => exact ⟨v0, v1, rfl⟩
      | [], hv => simp [VRs] at hv
      | [_], hv => simp [VRs] at hv
      | _ :: _ :: _ :: _, hv => simp [VRs] at hv
    simp only [VRs, VR, CR] at hv
    obtain ⟨⟨a, cap, rfl, hcap, hnone, hspot, hcells⟩, rfl, -⟩ := hv
    have hlen : (Lib.join (xs.map (·.data.toList)) sep.data.toList).length ≤ 140737488355328 := h2
    have fin : ∀ (e : Ending) (w' : World), e = .returned (.string ⟨(Lib.join (xs.map (·.data.toList)) sep.data.toList).toArray⟩) ∧ Below w.heap.size w w' → Post φ (tabOf []) w 0 (ifp (xs.length ≤ 140737488355328 ∧ (joinV sep xs).size ≤ 140737488355328) (vs (joinV sep xs))) e w' := by
      rintro e w' ⟨rfl, hb⟩
      exact post_plain hrel rfl rfl (fun φ T w => by simp only [ifp, VR, CR, vs]; rfl) hb
    match xs, hcells, fin, h1, hcap, hlen with
    | [], _, fin, _, _, _ =>
      refine (Any.strings_Join_none Tryz.lays156 join_extra a cap sep w).mono fun e w' h => fin _ _ ⟨h.1, ?_⟩
      rw [h.2]; exact Below.refl _ _
    | x :: xs, hcells, fin, h1, hcap, hlen =>
      obtain ⟨b, o, rfl, himm, hat⟩ := hcells (by simp)
      exact (Any.strings_Join Tryz.lays156 join_extra b o cap (x :: xs) sep w (fun j y hy => by
        have hfl := flat_str (x :: xs)
        refine hat j (.string y) ?_
        rw [hfl, List.getElem?_map, hy]; rfl) himm.1 h1 hcap hlen).mono fun e w' h => fin _ _ h
  · exact hp.elim
/-- A number that is read, or none. -/
def atoiV (s : ByteArray) : Option Int := match Lib.atoiAll s.data.toList with
  | .ok v => some v
  | _ => none
def atoiN (s : ByteArray) : Int := match Lib.atoiAll s.data.toList with
  | .ok v => v
  | .range => Lib.atoiSat s.data.toList
  | _ => 0
@[go_sem] def ctAtoi : Ct := ⟨false, [], fun args os => match args, os with
  | [.one (.val (.string s))], [] => ifp (s.size ≤ 281474976710656) (.tup [vi (atoiN s), match atoiV s with | some _ => .one (.val .nilIface) | none => .one .ifc])
  | _, _ => no⟩
end Go.Proofs.YtmnbgppmfbnamaaGreatDoor
/- Plain facts: texts of numbers and of pointers. -/
namespace Go.Proofs.YtmnbgppmfbnamaaGreatDoor
open Go.RowKit

theorem decS_list (n : Int) : (decS n).data.toList = Lib.itoa n := by simp [decS]
theorem itoa_not {c : UInt8} (h1 : c.toNat ≠ 45) (h2 : c.toNat < 48 ∨ 57 < c.toNat) (n : Int) : c ∉ (decS n).data.toList := by
  rw [decS_list]
  have h3 : ∀ u, c ∉ Lib.decDigits u := fun u hm => by
    have := decD_dig u c hm
    unfold isDig at this; omega
  unfold Lib.itoa
  split
  · rw [List.mem_cons, not_or]
    exact ⟨fun e => by subst e; exact h1 rfl, h3 _⟩
  · exact h3 _
theorem no_dot (n : Int) : (46 : UInt8) ∉ (decS n).data.toList := itoa_not (by decide) (by decide) n
theorem no_blank (n : Int) : (32 : UInt8) ∉ (decS n).data.toList := itoa_not (by decide) (by decide) n
theorem no_colon (n : Int) : (58 : UInt8) ∉ (decS n).data.toList := itoa_not (by decide) (by decide) n
theorem decS_inj {n m : Int} (h : decS n = decS m) : n = m := by
  have h := congrArg (fun s : ByteArray => s.data.toList) h
  simp only [decS_list] at h
  have hd : ∀ u v, (45 : UInt8) :: Lib.decDigits u ≠ Lib.decDigits v := fun u v e => by
    have := decD_dig v 45 (by rw [← e]; simp)
    revert this; decide
  unfold Lib.itoa at h
  split at h <;> split at h
  · injection h with _ h; have := decD_inj h; omega
  · exact absurd h (hd _ _)
  · exact absurd h.symm (hd _ _)
  · have := decD_inj h; omega
theorem decS_ne (n : Int) : decS n ≠ ⟨#[]⟩ := fun h => by
  have h := congrArg (fun s : ByteArray => s.data.toList) h
  simp only [decS_list] at h
  unfold Lib.itoa at h
  split at h
  · cases h
  · exact decD_ne _ h
theorem atoi_dig {u : Nat} (h : u < 10 ^ 17) : Lib.atoiAll (Lib.decDigits u) = .ok (u : Int) := by
  have hl := decD_len 16 u h
  have h1 : Lib.parseMag (Lib.decDigits u) = .ok u := by
    rw [Lib.parseMag_short _ (by omega)]
    unfold Lib.decNat
    rw [if_neg (by simpa using decD_ne u), decFrom_decD]; rfl
  cases hd : Lib.decDigits u with
  | nil => exact absurd hd (decD_ne u)
  | cons c r =>
    have hc := decD_dig u c (by rw [hd]; simp)
    unfold isDig at hc
    unfold Lib.atoiAll
    simp only
    rw [if_neg (by omega), ← hd, h1]
    simp only
    rw [if_neg (by omega), if_neg (by omega), if_neg (by omega)]
theorem atoi_dec {n : Int} (h0 : 0 ≤ n) (h1 : n < 10 ^ 17) : atoiV (decS n) = some n ∧ atoiN (decS n) = n := by
  obtain ⟨u, rfl⟩ := Int.eq_ofNat_of_zero_le h0
  have h := atoi_dig (u := u) (by omega)
  have e : Lib.itoa (u : Int) = Lib.decDigits u := by
    unfold Lib.itoa
    rw [if_neg (by omega), Int.toNat_natCast]
  unfold atoiV atoiN
  rw [decS_list, e, h]
  exact ⟨rfl, rfl⟩
theorem atoiV_in {s : ByteArray} {n : Int} (h : atoiV s = some n) : atoiN s = n ∧ -9223372036854775808 ≤ n ∧ n ≤ 9223372036854775807 := by
  unfold atoiV at h
  unfold atoiN
  cases ha : Lib.atoiAll s.data.toList
  · rw [ha] at h
    cases h
    have := Lib.atoiAll_bounds ha
    exact ⟨rfl, this.1, this.2⟩
  · rw [ha] at h; cases h
  · rw [ha] at h; cases h
/-- Numbers with points between them. -/
def pointsV (zs : List Int) : ByteArray := joinV ⟨#[46]⟩ (zs.map decS)
theorem joinL_len (s : Bs) (k : Nat) : ∀ xs : List Bs, (∀ x ∈ xs, x.length ≤ k) → (joinL s xs).length ≤ xs.length * (k + s.length)
  | [], _ => by simp [joinL]
  | [x], h => by
    have := h x (by simp)
    show x.length ≤ _
    simp; omega
  | x :: y :: r, h => by
    have h1 := h x (by simp)
    have h2 := joinL_len s k (y :: r) fun z hz => h z (List.mem_cons_of_mem _ hz)
    show (x ++ s ++ joinL s (y :: r)).length ≤ _
    rw [List.length_append, List.length_append, List.length_cons (a := x), Nat.succ_mul]
    omega
theorem joinV_size {sep : ByteArray} {k : Nat} {xs : List ByteArray} (h : ∀ x ∈ xs, x.size ≤ k) : (joinV sep xs).size ≤ xs.length * (k + sep.size) := by
  have h1 := joinL_len sep.data.toList k (xs.map (·.data.toList)) fun x hx => by
    obtain ⟨y, hy, rfl⟩ := List.mem_map.1 hx
    exact h y hy
  rw [List.length_map] at h1
  show (Lib.join _ _).toArray.size ≤ _
  rw [List.size_toArray, lib_join]
  exact h1
theorem pointsV_size {zs : List Int} (h : ∀ z ∈ zs, -9223372036854775808 ≤ z ∧ z ≤ 9223372036854775807) : (pointsV zs).size ≤ zs.length * 21 := by
  have := joinV_size (sep := ⟨#[46]⟩) (k := 20) (xs := zs.map decS) fun x hx => by
    obtain ⟨z, hz, rfl⟩ := List.mem_map.1 hx
    exact decS_size (h z hz).1 (h z hz).2
  rwa [List.length_map] at this
theorem pointsV_split {zs : List Int} (h : zs ≠ []) : splitV 46 (pointsV zs) = zs.map decS :=
  splitV_join (by simpa using h) fun w hw => by
    obtain ⟨z, -, rfl⟩ := List.mem_map.1 hw
    exact no_dot z
theorem pointsV_three (a b c : Int) : pointsV [a, b, c] = decS a ++ ⟨#[46]⟩ ++ decS b ++ ⟨#[46]⟩ ++ decS c := joinV_three 46 _ _ _
/-- A pointer's text. -/
def ptrT (p : Ptr) : ByteArray := if ptrOkB p = true then (if p.at_ = 0 then ⟨#[45]⟩ else pointsV [p.at_, p.sum, p.birth]) else ⟨#[]⟩
theorem ptrOk_cases {p : Ptr} (h : ptrOkB p = true) : p = ⟨0, 0, 0⟩ ∨ (1 ≤ p.at_ ∧ p.at_ ≤ 119 ∧ 0 ≤ p.sum ∧ p.sum ≤ 65520 ∧ 0 ≤ p.birth ∧ p.birth ≤ 1000000) := by
  unfold ptrOkB at h
  simp only [Bool.or_eq_true, Bool.and_eq_true, decide_eq_true_eq] at h
  rcases h with h | h
  · left; cases p; simp only at h; simp [h]
  · right; omega
theorem ptrOk_real {p : Ptr} (h : realB p = true) : ptrOkB p = true ∧ p.at_ ≠ 0 ∧ ptrT p = pointsV [p.at_, p.sum, p.birth] := by
  unfold realB at h
  rw [Bool.and_eq_true] at h
  have h2 : p.at_ ≠ 0 := by simpa using h.2
  exact ⟨h.1, h2, by unfold ptrT; rw [if_pos h.1, if_neg h2]⟩
theorem ptrT_size (p : Ptr) : (ptrT p).size ≤ 63 := by
  unfold ptrT
  split
  · rename_i h
    split
    · show 1 ≤ 63; omega
    · have hc := ptrOk_cases h
      have := pointsV_size (zs := [p.at_, p.sum, p.birth]) fun z hz => by
        simp only [List.mem_cons, List.not_mem_nil, or_false] at hz
        rcases hc with rfl | hc
        · simp only at hz; omega
        · omega
      simpa using this
  · exact Nat.zero_le _
theorem ptrT_inj {p q : Ptr} (hp : ptrOkB p = true) (hq : ptrOkB q = true) (h : ptrT p = ptrT q) : p = q := by
  have hs : ∀ r : Ptr, ptrOkB r = true → r.at_ ≠ 0 → splitV 46 (ptrT r) = [decS r.at_, decS r.sum, decS r.birth] := fun r h1 h2 => by
    unfold ptrT
    rw [if_pos h1, if_neg h2, pointsV_split (by simp)]; rfl
  have hz : ∀ r : Ptr, ptrOkB r = true → r.at_ = 0 → r = ⟨0, 0, 0⟩ ∧ splitV 46 (ptrT r) = [⟨#[45]⟩] := fun r h1 h2 => by
    rcases ptrOk_cases h1 with rfl | h3
    · exact ⟨rfl, by unfold ptrT; rw [if_pos h1, if_pos rfl]; decide⟩
    · omega
  by_cases h1 : p.at_ = 0 <;> by_cases h2 : q.at_ = 0
  · rw [(hz p hp h1).1, (hz q hq h2).1]
  · have h3 := (hz p hp h1).2
    rw [h, hs q hq h2] at h3
    simp at h3
  · have h3 := (hz q hq h2).2
    rw [← h, hs p hp h1] at h3
    simp at h3
  · have h3 := hs p hp h1
    rw [h, hs q hq h2] at h3
    simp only [List.cons.injEq, and_true] at h3
    obtain ⟨e1, e2, e3⟩ := h3
    cases p; cases q
    simp only at e1 e2 e3
    rw [decS_inj e1, decS_inj e2, decS_inj e3]
/-- The pointer with a text. -/
noncomputable def ptrReadV (t : ByteArray) : Option Ptr := open Classical in if h : ∃ p, ptrOkB p = true ∧ ptrT p = t then some (Classical.choose h) else none
theorem ptrRead_some {t : ByteArray} {p : Ptr} : ptrReadV t = some p ↔ ptrOkB p = true ∧ ptrT p = t := by
  unfold ptrReadV
  constructor
  · intro h
    split at h
    · rename_i hx
      cases h
      exact Classical.choose_spec hx
    · cases h
  · rintro ⟨h1, h2⟩
    have hx : ∃ p, ptrOkB p = true ∧ ptrT p = t := ⟨p, h1, h2⟩
    rw [dif_pos hx]
    have h3 := Classical.choose_spec hx
    rw [ptrT_inj h3.1 h1 (h3.2.trans h2.symm)]
theorem ptrRead_none {t : ByteArray} (h : ∀ p, ptrOkB p = true → ptrT p = t → False) : ptrReadV t = none := by
  unfold ptrReadV
  rw [dif_neg fun ⟨p, h1, h2⟩ => h p h1 h2]
theorem ptrRead_dash : ptrReadV ⟨#[45]⟩ = some ⟨0, 0, 0⟩ := ptrRead_some.2 ⟨by decide, by unfold ptrT; rw [if_pos (by decide), if_pos rfl]⟩
/-- Three numbers, read. -/
def thr (t : ByteArray) : Option (Int × Int × Int) := match splitV 46 t with
  | [x, y, z] => (match atoiV x, atoiV y, atoiV z with
    | some a, some b, some c => some (a, b, c)
    | _, _, _ => none)
  | _ => none
/-- The three ways of a text that is no dash. -/
theorem thr_read {t : ByteArray} (h : t ≠ ⟨#[45]⟩) : ptrReadV t = (match thr t with
  | some (a, b, c) => if pointsV [a, b, c] = t ∧ realB ⟨a, b, c⟩ = true then some ⟨a, b, c⟩ else none
  | none => none) := by
  have hk : ∀ p, ptrOkB p = true → ptrT p = t → thr t = some (p.at_, p.sum, p.birth) ∧ pointsV [p.at_, p.sum, p.birth] = t ∧ realB p = true := by
    intro p h1 h2
    have h3 : p.at_ ≠ 0 := fun h3 => h (by rw [← h2]; unfold ptrT; rw [if_pos h1, if_pos h3])
    have h4 : pointsV [p.at_, p.sum, p.birth] = t := by rw [← h2]; unfold ptrT; rw [if_pos h1, if_neg h3]
    refine ⟨?_, h4, by unfold realB; rw [h1]; simpa using h3⟩
    rcases ptrOk_cases h1 with rfl | hc
    · exact absurd rfl h3
    · unfold thr
      rw [← h4, pointsV_split (by simp)]
      simp only [List.map_cons, List.map_nil]
      rw [(atoi_dec (n := p.at_) (by omega) (by omega)).1, (atoi_dec (n := p.sum) (by omega) (by omega)).1, (atoi_dec (n := p.birth) (by omega) (by omega)).1]
  cases hr : ptrReadV t with
  | some p =>
    obtain ⟨h1, h2⟩ := ptrRead_some.1 hr
    obtain ⟨h3, h4, h5⟩ := hk p h1 h2
    rw [h3]
    simp only
    rw [if_pos ⟨h4, h5⟩]
  | none =>
    cases ht : thr t with
    | none => rfl
    | some x =>
      obtain ⟨a, b, c⟩ := x
      simp only
      rw [if_neg]
      rintro ⟨h1, h2⟩
      obtain ⟨h3, h4, h5⟩ := ptrOk_real h2
      have := ptrRead_some.2 ⟨h3, h5.trans h1⟩
      rw [hr] at this
      cases this
end Go.Proofs.YtmnbgppmfbnamaaGreatDoor
/- Plain facts: texts of maps, tables and roots. -/
namespace Go.Proofs.YtmnbgppmfbnamaaGreatDoor
open Go.RowKit

theorem decS_fine {n : Int} (h0 : 0 ≤ n) (k : Nat) (h : n < 10 ^ (k + 1)) : (decS n).size ≤ k + 1 := by
  obtain ⟨u, rfl⟩ := Int.eq_ofNat_of_zero_le h0
  rw [decS_nat]
  refine decB_size k u ?_
  have : ((u : Nat) : Int) < ((10 ^ (k + 1) : Nat) : Int) := by rw [Int.natCast_pow]; exact h
  omega
theorem three_size {a b c : Int} {i j k : Nat} (h0 : 0 ≤ a) (h1 : 0 ≤ b) (h2 : 0 ≤ c) (ha : a < 10 ^ (i + 1)) (hb : b < 10 ^ (j + 1)) (hc : c < 10 ^ (k + 1)) : (pointsV [a, b, c]).size ≤ i + j + k + 5 := by
  have x := decS_fine h0 i ha
  have y := decS_fine h1 j hb
  have z := decS_fine h2 k hc
  have d : (⟨#[46]⟩ : ByteArray).size = 1 := rfl
  rw [pointsV_three, ByteArray.size_append, ByteArray.size_append, ByteArray.size_append, ByteArray.size_append, d]
  omega
theorem ptrT_fine (p : Ptr) : (ptrT p).size ≤ 17 := by
  unfold ptrT
  split
  · rename_i h
    split
    · show 1 ≤ 17; omega
    · rename_i h0
      rcases ptrOk_cases h with rfl | ⟨h1, h2, h3, h4, h5, h6⟩
      · exact absurd rfl h0
      · exact three_size (i := 2) (j := 4) (k := 6) (by omega) h3 h5 (by omega) (by omega) (by omega)
  · exact Nat.zero_le _
/-- A list of pieces with one more behind it. -/
theorem joinL_snoc (s : Bs) : ∀ (xs : List Bs) (y : Bs), xs ≠ [] → joinL s (xs ++ [y]) = joinL s xs ++ s ++ y
  | [], y, h => absurd rfl h
  | [x], y, _ => by rw [List.singleton_append, joinL_cons _ _ (by simp)]; rfl
  | x :: z :: r, y, _ => by
    rw [List.cons_append, joinL_cons _ _ (by simp), joinL_snoc s (z :: r) y (by simp), joinL_cons s x (by simp : z :: r ≠ [])]
    simp [List.append_assoc]
theorem joinV_nil (sep : ByteArray) : joinV sep [] = ⟨#[]⟩ := by unfold joinV; rw [List.map_nil, lib_join]; rfl
theorem joinV_one (sep x : ByteArray) : joinV sep [x] = x := by
  unfold joinV; rw [List.map_cons, List.map_nil, lib_join]; exact bytesL_data x
theorem joinV_snoc (sep : ByteArray) (xs : List ByteArray) (y : ByteArray) (h : xs ≠ []) : joinV sep (xs ++ [y]) = joinV sep xs ++ sep ++ y := by
  unfold joinV
  rw [lib_join, lib_join, List.map_append, List.map_cons, List.map_nil, joinL_snoc _ _ _ (by simpa using h)]
  apply ByteArray.ext
  simp [bytesL]
noncomputable def mapT (m : Eight Ptr) : ByteArray := if m.list.any badPtr = true then ⟨#[]⟩ else joinV ⟨#[32]⟩ (m.list.map ptrT)
theorem mapT_size (m : Eight Ptr) : (mapT m).size ≤ 144 := by
  unfold mapT
  split
  · exact Nat.zero_le _
  · have := joinV_size (sep := ⟨#[32]⟩) (k := 17) (xs := m.list.map ptrT) fun x hx => by
      obtain ⟨z, -, rfl⟩ := List.mem_map.1 hx
      exact ptrT_fine z
    have e : (m.list.map ptrT).length = 8 := by rw [List.length_map]; rfl
    have e2 : (⟨#[32]⟩ : ByteArray).size = 1 := rfl
    rw [e, e2] at this
    exact this
def entT (e : Ent) : ByteArray := pointsV [e.sum, e.at_, e.count]
noncomputable def ddtT (es : List Ent) : ByteArray := if ddtB es = true then joinV ⟨#[32]⟩ (es.map entT) else ⟨#[]⟩
theorem ddtP_ent {es : List Ent} (h : ddtB es = true) {e : Ent} (he : e ∈ es) : entB e = true := by
  obtain ⟨i, hi, rfl⟩ := List.getElem_of_mem he
  have h := (ddtB_true.1 h).each i hi
  have h := h.ent
  rwa [show es.getD i ET.ent.dflt = es[i] by simp [hi]] at h
theorem entT_size {e : Ent} (h : entB e = true) : (entT e).size ≤ 14 := by
  obtain ⟨⟨h1, h2⟩, ⟨h3, h4⟩, h5, h6⟩ := entB_true h
  exact three_size (i := 4) (j := 2) (k := 3) h1 (by omega) (by omega) (by omega) (by omega) (by omega)
theorem entT_in {e : Ent} (h : entB e = true) (i : Nat) : -9223372036854775808 ≤ [e.sum, e.at_, e.count].getD i ET.int.dflt ∧ [e.sum, e.at_, e.count].getD i ET.int.dflt ≤ 9223372036854775807 := by
  obtain ⟨⟨h1, h2⟩, ⟨h3, h4⟩, h5, h6⟩ := entB_true h
  have hd : ET.int.dflt = (0 : Int) := rfl
  match i with
  | 0 => simp; omega
  | 1 => simp; omega
  | 2 => simp; omega
  | i + 3 => simp [hd]
theorem ddtT_size {es : List Ent} (h : es.length ≤ 48) : (ddtT es).size ≤ es.length * 15 := by
  unfold ddtT
  split
  · rename_i hd
    have := joinV_size (sep := ⟨#[32]⟩) (k := 14) (xs := es.map entT) fun x hx => by
      obtain ⟨z, hz, rfl⟩ := List.mem_map.1 hx
      exact entT_size (ddtP_ent hd hz)
    have e2 : (⟨#[32]⟩ : ByteArray).size = 1 := rfl
    rw [List.length_map, e2] at this
    exact this
  · exact Nat.zero_le _
noncomputable def fromT (s : ByteArray) : ByteArray := if same s ⟨#[]⟩ = true then ⟨#[45]⟩ else s
noncomputable def setL (s : CSet) : ByteArray := ⟨#[10]⟩ ++ s.name ++ ⟨#[32]⟩ ++ decS s.kind ++ ⟨#[32]⟩ ++ fromT s.from_ ++ ⟨#[32]⟩ ++ ptrT s.home
def partL (p : Ptr) : ByteArray := ⟨#[10, 46, 32]⟩ ++ ptrT p
def root0 : ByteArray := ⟨#[114, 111, 111, 116]⟩
noncomputable def rootS (cs : List CSet) : ByteArray := cs.foldl (fun o s => o ++ setL s) root0
noncomputable def rootPs (o : ByteArray) (ps : List Ptr) : ByteArray := ps.foldl (fun o p => o ++ partL p) o
noncomputable def rootT (cs : List CSet) (ps : List Ptr) : ByteArray := if cs.any csetBad = true then ⟨#[]⟩ else if ps.any partBad = true then ⟨#[]⟩ else rootPs (rootS cs) ps
theorem csetB_parts {s : CSet} (h : csetB s = true) : nameB s.name = true ∧ (s.from_ = ⟨#[]⟩ ∨ nameB s.from_ = true) ∧ (s.kind = 1 ∨ s.kind = 2) ∧ ptrOkB s.home = true ∧ s.map.list.any badPtr = false := by
  unfold csetB at h
  simp only [Bool.and_eq_true, Bool.or_eq_true, decide_eq_true_eq, same_true, Bool.not_eq_true'] at h
  exact ⟨h.1.1.1.1, h.1.1.1.2, h.1.1.2, h.1.2, h.2⟩
theorem nameB_size {s : ByteArray} (h : nameB s = true) : 1 ≤ s.size ∧ s.size ≤ 6 := by
  unfold nameB at h
  simp only [Bool.and_eq_true, decide_eq_true_eq] at h
  exact h.1
theorem setL_size {s : CSet} (h : csetB s = true) : (setL s).size ≤ 40 := by
  obtain ⟨h1, h2, h3, h4, -⟩ := csetB_parts h
  have a := (nameB_size h1).2
  have b : (fromT s.from_).size ≤ 6 := by
    unfold fromT
    split
    · show 1 ≤ 6; omega
    · rename_i hx
      rcases h2 with h2 | h2
      · exact absurd (same_true.2 h2) hx
      · exact (nameB_size h2).2
  have c := decS_fine (n := s.kind) (by omega) 0 (by omega)
  have d := ptrT_fine s.home
  have e1 : (⟨#[10]⟩ : ByteArray).size = 1 := rfl
  have e2 : (⟨#[32]⟩ : ByteArray).size = 1 := rfl
  unfold setL
  simp only [ByteArray.size_append, e1, e2]
  omega
theorem partL_size (p : Ptr) : (partL p).size ≤ 20 := by
  have d := ptrT_fine p
  have e1 : (⟨#[10, 46, 32]⟩ : ByteArray).size = 3 := rfl
  unfold partL
  rw [ByteArray.size_append, e1]; omega
theorem rootS_snoc (cs : List CSet) (s : CSet) : rootS (cs ++ [s]) = rootS cs ++ setL s := by unfold rootS; rw [List.foldl_append]; rfl
theorem rootPs_snoc (o : ByteArray) (ps : List Ptr) (p : Ptr) : rootPs o (ps ++ [p]) = rootPs o ps ++ partL p := by unfold rootPs; rw [List.foldl_append]; rfl
theorem rootS_size (cs : List CSet) (h : ∀ s ∈ cs, csetB s = true) : (rootS cs).size ≤ 4 + cs.length * 40 := by
  suffices h2 : ∀ (cs : List CSet) (o : ByteArray), (∀ s ∈ cs, csetB s = true) → (cs.foldl (fun o s => o ++ setL s) o).size ≤ o.size + cs.length * 40 from h2 cs root0 h
  intro cs
  induction cs with
  | nil => intro o _; simp
  | cons s r ih =>
    intro o h
    have h1 := ih (o ++ setL s) fun s hs => h s (List.mem_cons_of_mem _ hs)
    have h2 := setL_size (h s (List.mem_cons_self ..))
    rw [ByteArray.size_append] at h1
    rw [List.foldl_cons, List.length_cons, Nat.succ_mul]
    omega
theorem rootPs_size (ps : List Ptr) : ∀ o : ByteArray, (rootPs o ps).size ≤ o.size + ps.length * 20 := by
  induction ps with
  | nil => intro o; simp [rootPs]
  | cons p r ih =>
    intro o
    have h1 := ih (o ++ partL p)
    have h2 := partL_size p
    rw [ByteArray.size_append] at h1
    show (rootPs (o ++ partL p) r).size ≤ _
    rw [List.length_cons, Nat.succ_mul]
    omega
end Go.Proofs.YtmnbgppmfbnamaaGreatDoor
/- Functions: texts of pointers. -/
namespace Go.Proofs.YtmnbgppmfbnamaaGreatDoor
open Go.RowKit

@[go_sem] def ctPoints : Ct := ⟨false, [[some .int]], fun args os => match args, os with
  | [.one (.isl .int zs)], [] => ifp (zs.length ≤ 1000 ∧ ∀ i : Nat, -9223372036854775808 ≤ zs.getD i ET.int.dflt ∧ zs.getD i ET.int.dflt ≤ 9223372036854775807) (vs (pointsV zs))
  | _, _ => no⟩
theorem s_points_e : EnterOk Tryz.prog 49 := ⟨_, Tryz.func49, rfl, by decide⟩
@[go_sem] def s_points_lv : List (List Nat) := [[0], [0, 3], [3, 6, 7, 8], [3, 6, 7, 8, 9], [3, 5, 6, 7, 8], [3, 6, 7, 8], [3, 6, 7, 8], [2]]
@[go_sem] noncomputable def s_points_K : Known := ((Known.nil).cons 53 ctItoa s_itoa s_itoa_e).cons 52 ctJoin s_join s_join_e
set_option maxHeartbeats 8000000 in
theorem s_points : Sound Tryz.prog 49 ctPoints := by
  have ke := s_points_K.env []
  have kl : Lives s_points_lv := trivial
  refine sound_intro (E := ⟨ti, s_points_K.Γ, []⟩) ke Tryz.func49 Tryz.ntmps49 rfl (rs := [.tmp 2]) rfl ?_
  intro args os hp
  unfold ctPoints at hp ⊢
  dsimp only at hp ⊢
  split at hp
  · rename_i zs
    obtain ⟨hlen, hin⟩ : zs.length ≤ 1000 ∧ ∀ i : Nat, -9223372036854775808 ≤ zs.getD i ET.int.dflt ∧ zs.getD i ET.int.dflt ≤ 9223372036854775807 := hp
    refine ⟨by simp, fun φ0 w0 => ?_⟩
    refine goh trivial ?_
    refine W_for zs.length (fun i => True) (fun i => ⟨[(3, .one (.osl .str 0 0 i)), (6, .one (.isl .int zs)), (7, vi zs.length), (8, vi i)], [some (.arr .str ((zs.take i).map decS))], []⟩) [none] (leh trivial) trivial fun i hi _ => ?_
    have hl : ((zs.take i).map decS).length = i := by rw [List.length_map, List.length_take]; omega
    refine goh trivial ?_
    refine W_cnd ?_ ?_ <;> (try simp only [cnd_r]) <;> intro hlt
    · have hin2 := hin i
      have hs : (zs.take (i + 1)).map decS = (zs.take i).map decS ++ [decS (zs.getD i ET.int.dflt)] := by
        have e : zs.getD i ET.int.dflt = zs[i] := by simp [show i < zs.length by omega]
        rw [e, List.take_add_one, List.getElem?_eq_getElem (by omega), List.map_append]; rfl
      have ht3 : ((zs.take i).map decS).take i = (zs.take i).map decS := List.take_of_length_le (by omega)
      refine goh (And.intro hl (And.intro hin2 ht3)) ?_
      exact ⟨[some 2], by omega, leh (And.intro hs hl), trivial⟩
    · obtain rfl : i = zs.length := by omega
      have ht : zs.take zs.length = zs := List.take_length
      rw [ht] at hl ⊢
      have e : pointsV zs = joinV ⟨#[46]⟩ (zs.map decS) := rfl
      have hz := pointsV_size (zs := zs) fun z hz => by
        obtain ⟨j, hj, rfl⟩ := List.getElem_of_mem hz
        have := hin j
        rwa [show zs.getD j ET.int.dflt = zs[j] by simp [hj]] at this
      rw [e] at hz
      have hj : (zs.map decS).length ≤ 140737488355328 ∧ (joinV ⟨#[46]⟩ (zs.map decS)).size ≤ 140737488355328 := ⟨by omega, by omega⟩
      have ht2 : (zs.map decS).take zs.length = zs.map decS := List.take_of_length_le (by omega)
      refine goh (And.intro hl (And.intro hj ht2)) ?_
      exact finh [] e
  · simp [no, ifp] at hp
@[go_sem] def ctPtrText : Ct := ⟨false, [], fun args os => match args, os with
  | [.agg [.val (.int .i64 a), .val (.int .i64 s), .val (.int .i64 b)]], [] => is (vs (ptrT ⟨a, s, b⟩))
  | _, _ => no⟩
theorem three_in {a s b : Int} (h : ptrOkB ⟨a, s, b⟩ = true) (i : Nat) : -9223372036854775808 ≤ [a, s, b].getD i ET.int.dflt ∧ [a, s, b].getD i ET.int.dflt ≤ 9223372036854775807 := by
  have hd : ET.int.dflt = (0 : Int) := rfl
  rcases ptrOk_cases h with h | h
  · cases h
    match i with
    | 0 => simp
    | 1 => simp
    | 2 => simp
    | i + 3 => simp [hd]
  · simp only at h
    match i with
    | 0 => simp; omega
    | 1 => simp; omega
    | 2 => simp; omega
    | i + 3 => simp [hd]
theorem s_ptrText_e : EnterOk Tryz.prog 280 := ⟨_, Tryz.func280, rfl, by decide⟩
@[go_sem] def s_ptrText_lv : List (List Nat) := [[1], [1, 3], [2], [1, 7], [2], [2]]
@[go_sem] noncomputable def s_ptrText_K : Known := ((Known.nil).cons 223 ctPtrOk s_ptrOk s_ptrOk_e).cons 49 ctPoints s_points s_points_e
set_option maxHeartbeats 8000000 in
theorem s_ptrText : Sound Tryz.prog 280 ctPtrText := by
  have ke := s_ptrText_K.env []
  have kl : Lives s_ptrText_lv := trivial
  refine sound_intro (E := ⟨ti, s_ptrText_K.Γ, []⟩) ke Tryz.func280 Tryz.ntmps280 rfl (rs := [.tmp 2]) rfl ?_
  intro args os hp
  unfold ctPtrText at hp ⊢
  dsimp only at hp ⊢
  split at hp
  · rename_i a s b
    refine ⟨by simp, fun φ0 w0 => ?_⟩
    clear hp
    have nt : (!true) = false := rfl
    have nf : (!false) = true := rfl
    cases hk : ptrOkB ⟨a, s, b⟩ with
    | false =>
      have e : ptrT ⟨a, s, b⟩ = ⟨#[]⟩ := by unfold ptrT; rw [if_neg (by rw [hk]; decide)]
      refine goh (And.intro hk nf) ?_
      refine W_cnd ?_ ?_ <;> intro hlit <;> try (cases hlit; done)
      refine goh trivial ?_
      exact finh [] e
    | true =>
      refine goh (And.intro hk nt) ?_
      refine W_cnd ?_ ?_ <;> intro hlit <;> try (cases hlit; done)
      refine goh trivial ?_
      refine W_cnd ?_ ?_ <;> (try simp only [cnd_r]) <;> intro h0
      · have e : ptrT ⟨a, s, b⟩ = ⟨#[45]⟩ := by unfold ptrT; rw [if_pos hk, if_pos h0]
        refine goh trivial ?_
        exact finh [] e
      · simp only [beq_eq_false_iff_ne, ne_eq] at h0
        have e : ptrT ⟨a, s, b⟩ = pointsV [a, s, b] := by unfold ptrT; rw [if_pos hk, if_neg h0]
        have hin := three_in hk
        refine goh hin ?_
        exact finh [] e
  · exact hp.elim
theorem s_specPtrText_e : EnterOk Tryz.prog 298 := ⟨_, Tryz.func298, rfl, by decide⟩
@[go_sem] def s_specPtrText_lv : List (List Nat) := [[1], [1, 5], [2], [1, 8], [2], [2]]
@[go_sem] noncomputable def s_specPtrText_K : Known := ((Known.nil).cons 158 ctPtrOk s_specPtrOk s_specPtrOk_e).cons 61 ctDecV s_dec2 s_dec2_e
set_option maxHeartbeats 8000000 in
theorem s_specPtrText : Sound Tryz.prog 298 ctPtrText := by
  have ke := s_specPtrText_K.env []
  have kl : Lives s_specPtrText_lv := trivial
  refine sound_intro (E := ⟨ti, s_specPtrText_K.Γ, []⟩) ke Tryz.func298 Tryz.ntmps298 rfl (rs := [.tmp 2]) rfl ?_
  intro args os hp
  unfold ctPtrText at hp ⊢
  dsimp only at hp ⊢
  split at hp
  · rename_i a s b
    refine ⟨by simp, fun φ0 w0 => ?_⟩
    clear hp
    have nt : (!true) = false := rfl
    have nf : (!false) = true := rfl
    cases hk : ptrOkB ⟨a, s, b⟩ with
    | false =>
      have e : ptrT ⟨a, s, b⟩ = ⟨#[]⟩ := by unfold ptrT; rw [if_neg (by rw [hk]; decide)]
      refine goh (And.intro hk nf) ?_
      refine W_cnd ?_ ?_ <;> intro hlit <;> try (cases hlit; done)
      refine goh trivial ?_
      exact finh [] e
    | true =>
      refine goh (And.intro hk nt) ?_
      refine W_cnd ?_ ?_ <;> intro hlit <;> try (cases hlit; done)
      refine goh trivial ?_
      refine W_cnd ?_ ?_ <;> (try simp only [cnd_r]) <;> intro h0
      · have e : ptrT ⟨a, s, b⟩ = ⟨#[45]⟩ := by unfold ptrT; rw [if_pos hk, if_pos h0]
        refine goh trivial ?_
        exact finh [] e
      · simp only [beq_eq_false_iff_ne, ne_eq] at h0
        have e : ptrT ⟨a, s, b⟩ = decS a ++ ⟨#[46]⟩ ++ decS s ++ ⟨#[46]⟩ ++ decS b := by unfold ptrT; rw [if_pos hk, if_neg h0, pointsV_three]
        have hin := three_in hk
        have i0 := hin 0
        have i1 := hin 1
        have i2 := hin 2
        simp only [List.getD_cons_zero, List.getD_cons_succ] at i0 i1 i2
        have z0 := decS_size i0.1 i0.2
        have z1 := decS_size i1.1 i1.2
        have z2 := decS_size i2.1 i2.2
        have hc1 : (⟨#[46]⟩ : ByteArray).size = 1 := rfl
        refine goh trivial ?_
        exact finh [] e
  · exact hp.elim
end Go.Proofs.YtmnbgppmfbnamaaGreatDoor
