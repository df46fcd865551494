import Derived.Test.YtjedcphhajlnoaaGreatDoorProg
import Derived.WalkKit
import Derived.Ground.NamesProg
import Derived.Shelf.Strings.SlTrimAscii
import Derived.Sort.Walk0
import Derived.Test.YtjedcphhajlnoaaGreatDoorM5
import Derived.Test.YtjedcphhajlnoaaGreatDoorM8
import Derived.Test.YtjedcphhajlnoaaGreatDoorM10
set_option linter.unusedSimpArgs false
set_option linter.unusedVariables false
set_option linter.unusedSectionVars false
/-
  DERIVED: THE SHELF's CONTRACTS AT THIS DUMP, IN PLAIN WORDS (tools/lay-plain.mjs out of 'YtjedcphhajlnoaaGreatDoorTSh1Q.lean', which tools/lay-shelf.mjs wrote): THE SAME DECLARATIONS UNDER THE SAME NAMES: 'import', 'namespace', 'open', 'def', 'theorem' AND NOTHING ELSE: no command of the shelf's: FOR A HAND-IN. Each laying: the table of numbers ('.._ren') and one theorem, a field a fact of the dump's own or the kernel's comparison; each contract: ONE APPLICATION.
-/
namespace Go.Proofs
open Go.Shelf
def Tryz.lays160_ren : Go.Shelf.Ren := ⟨fun | 160 => 201 | 232 => 247 | 231 => 246 | 227 => 248 | 234 => 250 | 233 => 249 | 236 => 252 | 235 => 251 | 228 => 277 | 271 => 279 | 151 => 278 | 197 => 272 | 120 => 299 | 152 => 298 | 260 => 295 | 137 => 206 | 119 => 303 | 224 => 283 | 225 => 282 | 217 => 256 | 266 => 285 | n => n, fun | 9 => 9 | 4 => 4 | 3 => 3 | 5 => 5 | 117 => 266 | 116 => 265 | 0 => 0 | 124 => 269 | 21 => 21 | 105 => 282 | 46 => 221 | 119 => 310 | 139 => 313 | 138 => 312 | n => n, fun | 3 => 4 | 4 => 5 | n => n⟩
theorem Tryz.lays160 : Go.Proofs.Lays.n160 Tryz.prog Tryz.lays160_ren := {
  mixed := by kernel_rfl
  f119 := Tryz.func303.trans (congrArg some (by kernel_rfl))
  f120 := Tryz.func299.trans (congrArg some (by kernel_rfl))
  f137 := Tryz.func206.trans (congrArg some (by kernel_rfl))
  f151 := Tryz.func278.trans (congrArg some (by kernel_rfl))
  f152 := Tryz.func298.trans (congrArg some (by kernel_rfl))
  f160 := Tryz.func201.trans (congrArg some (by kernel_rfl))
  f197 := Tryz.func272.trans (congrArg some (by kernel_rfl))
  f217 := Tryz.func256.trans (congrArg some (by kernel_rfl))
  f224 := Tryz.func283.trans (congrArg some (by kernel_rfl))
  f225 := Tryz.func282.trans (congrArg some (by kernel_rfl))
  f227 := Tryz.func248.trans (congrArg some (by kernel_rfl))
  f228 := Tryz.func277.trans (congrArg some (by kernel_rfl))
  f231 := Tryz.func246.trans (congrArg some (by kernel_rfl))
  f232 := Tryz.func247.trans (congrArg some (by kernel_rfl))
  f233 := Tryz.func249.trans (congrArg some (by kernel_rfl))
  f234 := Tryz.func250.trans (congrArg some (by kernel_rfl))
  f235 := Tryz.func251.trans (congrArg some (by kernel_rfl))
  f236 := Tryz.func252.trans (congrArg some (by kernel_rfl))
  f260 := Tryz.func295.trans (congrArg some (by kernel_rfl))
  f266 := Tryz.func285.trans (congrArg some (by kernel_rfl))
  f271 := Tryz.func279.trans (congrArg some (by kernel_rfl))
  t0 := Tryz.underlying0
  a0 := Tryz.isAgg0
  z0 := Tryz.sizeOf0
  v0 := Tryz.zeroValue0
  t3 := Tryz.underlying3
  a3 := Tryz.isAgg3
  z3 := Tryz.sizeOf3
  v3 := Tryz.zeroValue3
  t4 := Tryz.underlying4
  a4 := Tryz.isAgg4
  z4 := Tryz.sizeOf4
  v4 := Tryz.zeroValue4
  t5 := Tryz.underlying5
  a5 := Tryz.isAgg5
  z5 := Tryz.sizeOf5
  v5 := Tryz.zeroValue5
  t9 := Tryz.underlying9
  a9 := Tryz.isAgg9
  z9 := Tryz.sizeOf9
  v9 := Tryz.zeroValue9
  t21 := Tryz.underlying21
  a21 := Tryz.isAgg21
  z21 := Tryz.sizeOf21
  v21 := Tryz.zeroValue21
  t46 := Tryz.underlying221
  a46 := Tryz.isAgg221
  z46 := Tryz.sizeOf221
  v46 := Tryz.zeroValue221
  t105 := Tryz.underlying282
  a105 := Tryz.isAgg282
  z105 := Tryz.sizeOf282
  v105 := Tryz.zeroValue282
  t116 := Tryz.underlying265
  a116 := Tryz.isAgg265
  z116 := Tryz.sizeOf265
  t117 := Tryz.underlying266
  a117 := Tryz.isAgg266
  z117 := Tryz.sizeOf266
  v117 := Tryz.zeroValue266
  t119 := Tryz.underlying310
  a119 := Tryz.isAgg310
  z119 := Tryz.sizeOf310
  t124 := Tryz.underlying269
  a124 := Tryz.isAgg269
  z124 := Tryz.sizeOf269
  v124 := Tryz.zeroValue269
  t138 := Tryz.underlying312
  a138 := Tryz.isAgg312
  z138 := Tryz.sizeOf312
  v138 := Tryz.zeroValue312
  t139 := Tryz.underlying313
  a139 := Tryz.isAgg313
  z139 := Tryz.sizeOf313
  v139 := Tryz.zeroValue313
  g3 := by kernel_rfl
  g4 := by kernel_rfl }
end Go.Proofs
/- strings.Trim at the small letters. -/
namespace Go.Proofs.YtjedcphhajlnoaaGreatDoor
open Go.RowKit

def small : ByteArray := ⟨#[97, 98, 99, 100, 101, 102, 103, 104, 105, 106, 107, 108, 109, 110, 111, 112, 113, 114, 115, 116, 117, 118, 119, 120, 121, 122]⟩
def trimmed (s : ByteArray) : ByteArray := ⟨(Lib.trimS s.data.toList small.data.toList).toArray⟩
@[go_sem] def ctTrim : Ct := ⟨false, [], fun args os => match args, os with
  | [.one (.val (.string s)), .one (.val (.string c))], [] => ifp (s.size ≤ 9223372036854775807 ∧ c = small) (vs (trimmed s))
  | _, _ => no⟩
theorem s_trim_e : EnterOk Tryz.prog 201 := ⟨_, Tryz.func201, rfl, by decide⟩
theorem s_trim : Sound Tryz.prog 201 ctTrim := by
  refine sound_plain fun args os hp => ?_
  unfold ctTrim at hp ⊢
  dsimp only at hp ⊢
  split at hp
  · rename_i s c
    obtain ⟨hs, rfl⟩ : s.size ≤ 9223372036854775807 ∧ c = small := hp
    refine ⟨rfl, [.string s, .string small], .string (trimmed s), rfl, rfl, fun w _ => ?_⟩
    exact Any.strings_Trim_laid Tryz.lays160 (by kernel_rfl) s small w hs (by decide) (ascii_of_all (by decide))
  · exact hp.elim
end Go.Proofs.YtjedcphhajlnoaaGreatDoor
/- Plain facts: names. -/
namespace Go.Proofs.YtjedcphhajlnoaaGreatDoor
open Go.RowKit

def isLow (b : UInt8) : Bool := decide (97 ≤ b.toNat) && decide (b.toNat ≤ 122)
/-- Is it a name: one to six small letters. -/
def nameB (s : ByteArray) : Bool := (decide (1 ≤ s.size) && decide (s.size ≤ 6)) && s.data.toList.all isLow
theorem small_low : ∀ n : Fin 256, small.data.toList.contains (UInt8.ofNat n.val) = isLow (UInt8.ofNat n.val) := by decide +kernel
theorem small_low' (b : UInt8) : small.data.toList.contains b = isLow b := by
  have h := small_low ⟨b.toNat, b.toNat_lt⟩
  simpa using h
theorem dropWhile_nil {α : Type} (p : α → Bool) : ∀ l : List α, l.dropWhile p = [] ↔ l.all p = true
  | [] => by simp
  | a :: l => by
    rw [List.dropWhile_cons, List.all_cons]
    cases h : p a
    · simp
    · simpa using dropWhile_nil p l
theorem trimmed_nil (s : ByteArray) : trimmed s = ⟨#[]⟩ ↔ s.data.toList.all isLow = true := by
  have hp : (fun b => small.data.toList.contains b) = isLow := funext small_low'
  have hsub : ∀ l : List UInt8, (l.reverse.dropWhile isLow).reverse.all isLow = true → l.all isLow = true := by
    intro l h
    rw [List.all_reverse] at h
    have h2 : l.reverse.all isLow = true := by
      rw [← List.takeWhile_append_dropWhile (p := isLow) (l := l.reverse), List.all_append, h, Bool.and_true]
      exact List.all_takeWhile
    rwa [List.all_reverse] at h2
  have hback : ∀ l : List UInt8, l.all isLow = true → l.reverse.dropWhile isLow = [] := fun l h => (dropWhile_nil _ _).2 (by rwa [List.all_reverse])
  unfold trimmed Lib.trimS Lib.trimLeftS Lib.trimRightS
  rw [hp]
  constructor
  · intro h
    have h1 : ((s.data.toList.reverse.dropWhile isLow).reverse.dropWhile isLow) = [] := by
      have h2 := congrArg (fun x : ByteArray => x.data.toList) h
      simpa using h2
    exact hsub _ ((dropWhile_nil _ _).1 h1)
  · intro h
    rw [hback _ h]
    rfl
theorem all_low (s : ByteArray) : s.data.toList.all isLow = true ↔ ∀ j, j < s.size → isLow (s.data.getD j 0) = true := by
  rw [List.all_eq_true]
  constructor
  · intro h j hj
    have hj2 : j < s.data.size := hj
    have : s.data.getD j 0 = s.data[j] := dif_pos hj2
    rw [this]
    exact h _ (by simp)
  · intro h b hb
    obtain ⟨j, hj, rfl⟩ := List.getElem_of_mem hb
    have hj2 : j < s.data.size := by simpa using hj
    have h3 := h j hj2
    rw [show s.data.getD j 0 = s.data[j] from dif_pos hj2] at h3
    simpa using h3
theorem nameB_same (s : ByteArray) : nameB s = (if 1 ≤ (s.size : Int) ∧ (s.size : Int) ≤ 6 then same (trimmed s) ⟨#[]⟩ else false) := by
  have e : same (trimmed s) ⟨#[]⟩ = s.data.toList.all isLow := by
    rw [Bool.eq_iff_iff, same_true, trimmed_nil]
  unfold nameB
  rw [e]
  by_cases h : 1 ≤ (s.size : Int) ∧ (s.size : Int) ≤ 6
  · rw [if_pos h, decide_eq_true (show 1 ≤ s.size by omega), decide_eq_true (show s.size ≤ 6 by omega)]; rfl
  · rw [if_neg h, Bool.and_eq_false_iff]
    left
    rw [Bool.and_eq_false_iff, decide_eq_false_iff_not, decide_eq_false_iff_not]
    omega
theorem nameB_false {s : ByteArray} {i : Nat} (hi : i < s.size) (h : isLow (s.data.getD i 0) = false) : nameB s = false := by
  unfold nameB
  have : s.data.toList.all isLow = false := by
    rw [← Bool.not_eq_true, all_low]
    intro h2
    rw [h2 i hi] at h; cases h
  rw [this, Bool.and_false]
theorem nameB_low {s : ByteArray} (h : ∀ j, j < s.size → isLow (s.data.getD j 0) = true) : nameB s = (if (s.size : Int) > 0 then decide ((s.size : Int) ≤ 6) else false) := by
  unfold nameB
  rw [(all_low s).2 h, Bool.and_true]
  by_cases h1 : (s.size : Int) > 0
  · rw [if_pos h1, decide_eq_true (show 1 ≤ s.size by omega), Bool.true_and, decide_eq_decide]; omega
  · rw [if_neg h1, decide_eq_false (show ¬ 1 ≤ s.size by omega)]; rfl
end Go.Proofs.YtjedcphhajlnoaaGreatDoor
/- Functions: names. -/
namespace Go.Proofs.YtjedcphhajlnoaaGreatDoor
open Go.RowKit

@[go_sem] def ctName : Ct := ⟨false, [], fun args os => match args, os with
  | [.one (.val (.string s))], [] => ifp (s.size ≤ 9223372036854775807) (vb (nameB s))
  | _, _ => no⟩
theorem s_bookName_e : EnterOk Tryz.prog 127 := ⟨_, Tryz.func127, rfl, by decide⟩
@[go_sem] def s_bookName_lv : List (List Nat) := [[0], [2]]
@[go_sem] noncomputable def s_bookName_K : Known := ((Known.nil).cons 89 ctWithin s_within s_within_e).cons 201 ctTrim s_trim s_trim_e
set_option maxHeartbeats 8000000 in
theorem s_bookName : Sound Tryz.prog 127 ctName := by
  have ke := s_bookName_K.env []
  have kl : Lives s_bookName_lv := trivial
  refine sound_intro (E := ⟨ti, s_bookName_K.Γ, []⟩) ke Tryz.func127 Tryz.ntmps127 rfl (rs := [.tmp 2]) rfl ?_
  intro args os hp
  unfold ctName at hp ⊢
  dsimp only at hp ⊢
  split at hp
  · rename_i s
    refine ⟨by simp, fun φ0 w0 => ?_⟩
    have hs : s.size ≤ 9223372036854775807 := hp
    clear hp
    repeat' first
      | with_reducible refine red ?_
      | refine W_seq ?_
      | (refine W_reg (s_bookName_K.env []) s_bookName_lv fun K' hK' => ?_
         simp only [go_sem, small, ↓reduceIte, ↓reduceDIte, reduceCtorEq, Nat.reduceAdd, Nat.reduceMul, Nat.reduceSub, Nat.reduceDiv, Nat.reduceMod, Nat.reduceLT, Nat.reduceLeDiff, Nat.reduceEqDiff, Nat.reduceBEq, Int.reduceToNat, Int.reduceLE, Int.reduceLT, Int.reduceEq, Int.reduceNe, Int.reduceNeg]
         (repeat' refine And.intro ?_ ?_) <;> try first | with_reducible refine hK' ?_ | exact shut6)
      | with_reducible refine blockG_o (by decide) ?_
    refine ⟨by (simp only [go_sem, ↓reduceIte, reduceCtorEq, Nat.reduceAdd, Nat.reduceLT, Nat.reduceLeDiff, Nat.reduceEqDiff]) <;> trivial, [], ?_⟩
    all_goals try simp only [go_sem, inj_r, ↓reduceIte, reduceCtorEq, Nat.reduceAdd, Nat.reduceLT, Nat.reduceLeDiff, Nat.reduceEqDiff, Int.reduceEq]
    all_goals (repeat' refine And.intro ?_ ?_) <;> try exact shut7
    exact (nameB_same s).symm
  · simp [no, ifp] at hp
@[go_sem] def sgName (s : ByteArray) (i : Nat) : Sg := ⟨[(0, vs s), (3, vi i)], [], []⟩
theorem s_specName_e : EnterOk Tryz.prog 132 := ⟨_, Tryz.func132, rfl, by decide⟩
@[go_sem] def s_specName_lv : List (List Nat) := [[0], [0, 3], [0, 3, 7], [0, 3], [0, 3, 19], [2], [2]]
@[go_sem] noncomputable def s_specName_K : Known := Known.nil
set_option maxHeartbeats 8000000 in
theorem s_specName : Sound Tryz.prog 132 ctName := by
  have ke := s_specName_K.env []
  have kl : Lives s_specName_lv := trivial
  refine sound_intro (E := ⟨ti, s_specName_K.Γ, []⟩) ke Tryz.func132 Tryz.ntmps132 rfl (rs := [.tmp 2]) rfl ?_
  intro args os hp
  unfold ctName at hp ⊢
  dsimp only at hp ⊢
  split at hp
  · rename_i s
    refine ⟨by simp, fun φ0 w0 => ?_⟩
    have hs : s.size ≤ 9223372036854775807 := hp
    clear hp
    refine goh trivial ?_
    refine W_le (σ' := sgName s 0) [] (by
      simp only [go_sem, inj_r, ↓reduceIte, reduceCtorEq, Nat.reduceAdd, Nat.reduceLT, Nat.reduceLeDiff, Nat.reduceEqDiff, Int.reduceEq]
      all_goals (repeat' refine And.intro ?_ ?_) <;> try exact shut7
      ) ?_
    refine W_loop (fun q σ => ∃ i : Nat, i ≤ s.size ∧ q = s.size - i ∧ (∀ j, j < i → isLow (s.data.getD j 0) = true) ∧ σ = sgName s i) s.size ⟨0, by omega, by omega, by omega, rfl⟩ ?_
    rintro q σ ⟨i, hi, rfl, hbef, rfl⟩
    unfold sgName
    refine goh trivial ?_
    refine W_cnd ?_ ?_ <;> (try simp only [cnd_r]) <;> intro hlt
    · refine goh trivial ?_
      refine W_cnd ?_ ?_ <;> (try simp only [cnd_r]) <;> intro hc
      · have hl : isLow (s.data.getD i 0) = false := by
          unfold isLow
          rw [Bool.and_eq_false_iff, decide_eq_false_iff_not, decide_eq_false_iff_not]; omega
        have e := nameB_false (by omega) hl
        refine goh trivial ?_
        exact finh [] e
      · have hl : isLow (s.data.getD i 0) = true := by
          unfold isLow
          rw [Bool.and_eq_true, decide_eq_true_eq, decide_eq_true_eq]; omega
        refine goh trivial ?_
        refine ⟨s.size - (i + 1), [], sgName s (i + 1), by omega, ?_, i + 1, by omega, rfl, fun j hj => ?_, rfl⟩
        · exact leh trivial
        · rcases Nat.lt_succ_iff_lt_or_eq.1 hj with h | rfl
          · exact hbef j h
          · exact hl
    · have e := nameB_low (s := s) fun j hj => hbef j (by omega)
      refine goh trivial ?_
      exact finh [] e
  · simp [no, ifp] at hp
end Go.Proofs.YtjedcphhajlnoaaGreatDoor
/- Plain facts: books. -/
namespace Go.Proofs.YtjedcphhajlnoaaGreatDoor
open Go.RowKit

def long24 (t : ByteArray) : Bool := decide ((t.size : Int) > 24)
noncomputable def atB (xs : List BSet) (name : ByteArray) : Int := firstAt (fun x => same x.name name) xs
/-- The set of that name, or none. -/
noncomputable def setOf (xs : List BSet) (name : ByteArray) : BSet := xs.getD (atB xs name).toNat ET.bset.dflt
/-- Does following From lead to a volume without one, in so many rounds? -/
noncomputable def leadsN (xs : List BSet) : Nat → BSet → Bool
  | 0, _ => false
  | n + 1, s => if same s.from_ ⟨#[]⟩ = true then s.kind == 1 else if atB xs s.from_ < 0 ∨ (setOf xs s.from_).kind = s.kind then false else leadsN xs n (setOf xs s.from_)
def big8 (x : BSet) : Bool := [x.blocks.x0, x.blocks.x1, x.blocks.x2, x.blocks.x3, x.blocks.x4, x.blocks.x5, x.blocks.x6, x.blocks.x7].any long24
def lessB (a b : ByteArray) : Bool := Op.bytesLess a.toList b.toList
/-- The set of place i is well formed. -/
structure SetOk (xs : List BSet) (i : Nat) : Prop where
  name : nameB (xs.getD i ET.bset.dflt).name = true
  less : 0 < i → lessB (xs.getD (i - 1) ET.bset.dflt).name (xs.getD i ET.bset.dflt).name = true
  kind : (xs.getD i ET.bset.dflt).kind = 1 ∨ (xs.getD i ET.bset.dflt).kind = 2
  small : big8 (xs.getD i ET.bset.dflt) = false
structure BookP (xs : List BSet) : Prop where
  few : xs.length ≤ 6
  each : ∀ i, i < xs.length → SetOk xs i
  leads : xs.any (fun s => !leadsN xs xs.length s) = false
noncomputable def bookB (xs : List BSet) : Bool := @decide (BookP xs) (Classical.propDecidable _)
theorem bookB_true {xs : List BSet} : bookB xs = true ↔ BookP xs := by simp [bookB]
theorem bookB_false {xs : List BSet} : bookB xs = false ↔ ¬ BookP xs := by simp [bookB]
theorem bad_expr (A B k1 k2 G : Bool) (P : Prop) [Decidable P] : (if (if (if (!A) = true then true else if P then !B else false) = true then true else if k1 = true then k2 else false) = true then true else G) = false ↔ A = true ∧ (P → B = true) ∧ (k1 = false ∨ k2 = false) ∧ G = false := by
  by_cases h : P <;> cases A <;> cases B <;> cases k1 <;> cases k2 <;> cases G <;> simp [h]
end Go.Proofs.YtjedcphhajlnoaaGreatDoor
/- Plain facts: books in order. -/
namespace Go.Proofs.YtjedcphhajlnoaaGreatDoor
open Go.RowKit

theorem bl_irrefl : ∀ x : List UInt8, Op.bytesLess x x = false
  | [] => rfl
  | a :: x => by
    show (decide (a < a) || (a == a && Op.bytesLess x x)) = false
    rw [bl_irrefl x]; simp
theorem bl_trans : ∀ x y z : List UInt8, Op.bytesLess x y = true → Op.bytesLess y z = true → Op.bytesLess x z = true
  | [], [], z, h, _ => by simp [Op.bytesLess] at h
  | [], b :: y, [], _, h => by simp [Op.bytesLess] at h
  | [], b :: y, c :: z, _, _ => rfl
  | a :: x, [], z, h, _ => by simp [Op.bytesLess] at h
  | a :: x, b :: y, [], _, h => by simp [Op.bytesLess] at h
  | a :: x, b :: y, c :: z, h1, h2 => by
    simp only [Op.bytesLess, Bool.or_eq_true, Bool.and_eq_true, decide_eq_true_eq, beq_iff_eq] at h1 h2 ⊢
    rcases h1 with h1 | ⟨rfl, h1⟩
    · rcases h2 with h2 | ⟨rfl, h2⟩
      · exact .inl (by rw [UInt8.lt_iff_toNat_lt] at *; omega)
      · exact .inl h1
    · rcases h2 with h2 | ⟨rfl, h2⟩
      · exact .inl h2
      · exact .inr ⟨rfl, bl_trans x y z h1 h2⟩
theorem bl_total : ∀ x y : List UInt8, Op.bytesLess x y = true ∨ x = y ∨ Op.bytesLess y x = true
  | [], [] => .inr (.inl rfl)
  | [], _ :: _ => .inl rfl
  | _ :: _, [] => .inr (.inr rfl)
  | a :: x, b :: y => by
    simp only [Op.bytesLess, Bool.or_eq_true, Bool.and_eq_true, decide_eq_true_eq, beq_iff_eq]
    by_cases h : a < b
    · exact .inl (.inl h)
    · by_cases h2 : b < a
      · exact .inr (.inr (.inl h2))
      · have e : a = b := by
          rw [UInt8.lt_iff_toNat_lt] at h h2
          exact UInt8.toNat_inj.1 (by omega)
        subst e
        rcases bl_total x y with h3 | rfl | h3
        · exact .inl (.inr ⟨rfl, h3⟩)
        · exact .inr (.inl rfl)
        · exact .inr (.inr (.inr ⟨rfl, h3⟩))
theorem toList_inj {a b : ByteArray} (h : a.toList = b.toList) : a = b := by
  have := toList_same a b
  rw [h, beq_self_eq_true] at this
  exact same_true.1 this.symm
theorem less_irrefl (a : ByteArray) : lessB a a = false := bl_irrefl _
theorem less_trans {a b c : ByteArray} (h1 : lessB a b = true) (h2 : lessB b c = true) : lessB a c = true := bl_trans _ _ _ h1 h2
theorem less_total (a b : ByteArray) : lessB a b = true ∨ a = b ∨ lessB b a = true := by
  rcases bl_total a.toList b.toList with h | h | h
  · exact .inl h
  · exact .inr (.inl (toList_inj h))
  · exact .inr (.inr h)
/-- One name after the other. -/
structure Sorted (xs : List BSet) : Prop where
  next : ∀ i, 0 < i → i < xs.length → lessB (xs.getD (i - 1) ET.bset.dflt).name (xs.getD i ET.bset.dflt).name = true
theorem Sorted.lt {xs : List BSet} (h : Sorted xs) (i : Nat) : ∀ d, i + d + 1 < xs.length → lessB (xs.getD i ET.bset.dflt).name (xs.getD (i + d + 1) ET.bset.dflt).name = true
  | 0, hd => h.next (i + 1) (by omega) hd
  | d + 1, hd => less_trans (h.lt i d (by omega)) (h.next (i + (d + 1) + 1) (by omega) hd)
/-- How many names stand ahead. -/
def lowN (xs : List BSet) (name : ByteArray) : Nat := xs.findIdx fun s => !lessB s.name name
noncomputable def thereB (xs : List BSet) (name : ByteArray) : Bool := decide (lowN xs name < xs.length) && same (xs.getD (lowN xs name) ET.bset.dflt).name name
theorem lowN_le (xs : List BSet) (name : ByteArray) : lowN xs name ≤ xs.length := List.findIdx_le_length
theorem lowN_before {xs : List BSet} {name : ByteArray} {i : Nat} (h : i < lowN xs name) : lessB (xs.getD i ET.bset.dflt).name name = true := by
  have hl := lowN_le xs name
  have h1 := List.not_of_lt_findIdx (p := fun s : BSet => !lessB s.name name) h
  have h2 : xs.getD i ET.bset.dflt = xs[i]'(by omega) := by simp [show i < xs.length by omega]
  rw [h2]; simpa using h1
theorem lowN_at {xs : List BSet} {name : ByteArray} (h : lowN xs name < xs.length) : lessB (xs.getD (lowN xs name) ET.bset.dflt).name name = false := by
  have h1 := List.findIdx_getElem (p := fun s : BSet => !lessB s.name name) (w := h)
  have h2 : xs.getD (lowN xs name) ET.bset.dflt = xs[lowN xs name]'h := by simp [h]
  rw [h2]
  have h3 : (!lessB (xs[lowN xs name]'h).name name) = true := h1
  simpa using h3
theorem lowN_eq {xs : List BSet} {name : ByteArray} {i : Nat} (hi : i ≤ xs.length) (hb : ∀ j, j < i → lessB (xs.getD j ET.bset.dflt).name name = true) (hs : i = xs.length ∨ lessB (xs.getD i ET.bset.dflt).name name = false) : lowN xs name = i := by
  have hl := lowN_le xs name
  rcases Nat.lt_trichotomy (lowN xs name) i with h | h | h
  · have h1 := hb _ h
    rw [lowN_at (by omega)] at h1; cases h1
  · exact h
  · have h1 := lowN_before h
    rcases hs with hs | hs
    · omega
    · rw [hs] at h1; cases h1
/-- In order: the two ways to look a name up agree. -/
theorem at_low {xs : List BSet} (h : Sorted xs) (name : ByteArray) : (thereB xs name = true → atB xs name = lowN xs name) ∧ (thereB xs name = false → atB xs name < 0) := by
  have hl := lowN_le xs name
  constructor
  · intro ht
    unfold thereB at ht
    rw [Bool.and_eq_true, decide_eq_true_eq, same_true] at ht
    refine firstAt_some (d := ET.bset.dflt) ht.1 (fun j hj => ?_) (same_true.2 ht.2)
    rw [same_false]
    intro he
    have := lowN_before hj
    rw [he, less_irrefl] at this; cases this
  · intro ht
    have e : atB xs name = -1 := firstAt_none (d := ET.bset.dflt) fun j hj => by
      rw [same_false]
      intro he
      rcases Nat.lt_trichotomy j (lowN xs name) with hlt | hlt | hlt
      · have := lowN_before hlt
        rw [he, less_irrefl] at this; cases this
      · subst hlt
        have : thereB xs name = true := by
          unfold thereB
          rw [Bool.and_eq_true, decide_eq_true_eq, same_true]; exact ⟨hj, he⟩
        rw [this] at ht; cases ht
      · have h1 := lowN_at (xs := xs) (name := name) (by omega)
        have h2 := h.lt (lowN xs name) (j - lowN xs name - 1) (by omega)
        rw [show lowN xs name + (j - lowN xs name - 1) + 1 = j by omega, he] at h2
        rw [h2] at h1; cases h1
    rw [e]; decide
theorem pigeon : ∀ (n : Nat) (l : List Nat), l.Nodup → (∀ j ∈ l, j < n) → l.length ≤ n
  | 0, l, _, h => by
    cases l with
    | nil => exact Nat.le_refl _
    | cons a r => exact absurd (h a (by simp)) (Nat.not_lt_zero _)
  | n + 1, l, hd, h => by
    have h1 := pigeon n (l.erase n) (hd.erase n) (fun j hj => by
      have h2 := h j (List.mem_of_mem_erase hj)
      have h3 : j ≠ n := fun e => by subst e; exact hd.not_mem_erase hj
      omega)
    have h2 := List.length_erase (a := n) (l := l)
    split at h2 <;> omega
theorem leads_mono (xs : List BSet) : ∀ (n : Nat) (s : BSet), leadsN xs n s = true → leadsN xs (n + 1) s = true
  | 0, s, h => by simp [leadsN] at h
  | n + 1, s, h => by
    unfold leadsN at h ⊢
    split
    · rename_i hf; rw [if_pos hf] at h; exact h
    · rename_i hf
      rw [if_neg hf] at h
      split
      · rename_i hk; rw [if_pos hk] at h; exact h
      · rename_i hk
        rw [if_neg hk] at h
        exact leads_mono xs n _ h
theorem setOf_at (xs : List BSet) (name : ByteArray) (h : ¬ atB xs name < 0) : (atB xs name).toNat < xs.length := by
  unfold atB firstAt at h ⊢
  split at h
  · rename_i i hi
    rw [List.findIdx?_eq_some_iff_getElem] at hi
    obtain ⟨hi, -⟩ := hi
    simpa using hi
  · exact absurd (by decide) h
/-- Who needs so many rounds has so many sets ahead. -/
theorem leads_chain (xs : List BSet) : ∀ (m k : Nat), k < xs.length → leadsN xs (m + 1) (xs.getD k ET.bset.dflt) = true → leadsN xs m (xs.getD k ET.bset.dflt) = false →
    ∃ l : List Nat, l.length = m + 1 ∧ l.Nodup ∧ ∀ j ∈ l, j < xs.length ∧ leadsN xs (m + 1) (xs.getD j ET.bset.dflt) = true
  | 0, k, hk, h1, _ => ⟨[k], rfl, by simp, fun j hj => by rw [List.mem_singleton] at hj; subst hj; exact ⟨hk, h1⟩⟩
  | m + 1, k, hk, h1, h2 => by
    have h1' := h1
    have h2' := h2
    unfold leadsN at h1 h2
    by_cases hf : same (xs.getD k ET.bset.dflt).from_ ⟨#[]⟩ = true
    · rw [if_pos hf] at h1 h2
      rw [h1] at h2; cases h2
    · rw [if_neg hf] at h1 h2
      by_cases hc : atB xs (xs.getD k ET.bset.dflt).from_ < 0 ∨ (setOf xs (xs.getD k ET.bset.dflt).from_).kind = (xs.getD k ET.bset.dflt).kind
      · rw [if_pos hc] at h1; cases h1
      · rw [if_neg hc] at h1 h2
        have hj := setOf_at xs (xs.getD k ET.bset.dflt).from_ fun h => hc (.inl h)
        obtain ⟨l, l1, l2, l3⟩ := leads_chain xs m (atB xs (xs.getD k ET.bset.dflt).from_).toNat hj h1 h2
        refine ⟨k :: l, by simp [l1], ?_, fun j hj => ?_⟩
        · rw [List.nodup_cons]
          refine ⟨fun hm => ?_, l2⟩
          have := (l3 k hm).2
          rw [h2'] at this; cases this
        · rcases List.mem_cons.1 hj with rfl | hm
          · exact ⟨hk, h1'⟩
          · exact ⟨(l3 j hm).1, leads_mono xs _ _ (l3 j hm).2⟩
/-- One round more says no more. -/
theorem leads_more (xs : List BSet) (k : Nat) (hk : k < xs.length) : leadsN xs (xs.length + 1) (xs.getD k ET.bset.dflt) = leadsN xs xs.length (xs.getD k ET.bset.dflt) := by
  cases h : leadsN xs xs.length (xs.getD k ET.bset.dflt) with
  | true => exact leads_mono xs _ _ h
  | false =>
    rw [← Bool.not_eq_true]
    intro h2
    obtain ⟨l, l1, l2, l3⟩ := leads_chain xs xs.length k hk h2 h
    have := pigeon xs.length l l2 fun j hj => (l3 j hj).1
    omega
theorem there_lt {xs : List BSet} {name : ByteArray} (h : thereB xs name = true) : lowN xs name < xs.length ∧ (xs.getD (lowN xs name) ET.bset.dflt).name = name := by
  unfold thereB at h
  rw [Bool.and_eq_true, decide_eq_true_eq, same_true] at h
  exact h
theorem book_sorted {xs : List BSet} (h : BookP xs) : Sorted xs := ⟨fun i h0 hi => (h.each i hi).less h0⟩
end Go.Proofs.YtjedcphhajlnoaaGreatDoor
/- Plain facts: entries of a table, pointers of sets, valid cores. -/
namespace Go.Proofs.YtjedcphhajlnoaaGreatDoor
open Go.RowKit

def Eight.list {α : Type} (m : Eight α) : List α := [m.x0, m.x1, m.x2, m.x3, m.x4, m.x5, m.x6, m.x7]
def Eight.get {α : Type} (m : Eight α) : Nat → α
  | 0 => m.x0 | 1 => m.x1 | 2 => m.x2 | 3 => m.x3 | 4 => m.x4 | 5 => m.x5 | 6 => m.x6 | _ => m.x7

/-! Entries. -/
def entB (e : Ent) : Bool := decide (0 ≤ e.sum) && decide (e.sum ≤ 65520) && (decide (1 ≤ e.at_) && decide (e.at_ ≤ 119)) && (decide (1 ≤ e.count) && decide (e.count ≤ 1000))
theorem entB_true {e : Ent} (h : entB e = true) : (0 ≤ e.sum ∧ e.sum ≤ 65520) ∧ (1 ≤ e.at_ ∧ e.at_ ≤ 119) ∧ (1 ≤ e.count ∧ e.count ≤ 1000) := by
  unfold entB at h
  simp only [Bool.and_eq_true, decide_eq_true_eq] at h
  omega
structure EntOk (es : List Ent) (i : Nat) : Prop where
  ent : entB (es.getD i ET.ent.dflt) = true
  less : 0 < i → (es.getD (i - 1) ET.ent.dflt).at_ < (es.getD i ET.ent.dflt).at_
structure DdtP (es : List Ent) : Prop where
  few : es.length ≤ 48
  each : ∀ i, i < es.length → EntOk es i
noncomputable def ddtB (es : List Ent) : Bool := @decide (DdtP es) (Classical.propDecidable _)
theorem ddtB_true {es : List Ent} : ddtB es = true ↔ DdtP es := by simp [ddtB]
theorem ddtB_false {es : List Ent} : ddtB es = false ↔ ¬ DdtP es := by simp [ddtB]
/-- The places ascend, and are small numbers. -/
structure Asc (es : List Ent) : Prop where
  lt : ∀ i, 0 < i → i < es.length → (es.getD (i - 1) ET.ent.dflt).at_ < (es.getD i ET.ent.dflt).at_
  lo : ∀ i, i < es.length → 1 ≤ (es.getD i ET.ent.dflt).at_ ∧ (es.getD i ET.ent.dflt).at_ ≤ 119
theorem DdtP.asc {es : List Ent} (h : DdtP es) : Asc es := ⟨fun i h0 hi => (h.each i hi).less h0, fun i hi => (entB_true (h.each i hi).ent).2.1⟩
theorem Asc.all {es : List Ent} (h : Asc es) (i : Nat) : ∀ d, i + d + 1 < es.length → (es.getD i ET.ent.dflt).at_ < (es.getD (i + d + 1) ET.ent.dflt).at_
  | 0, hd => h.lt (i + 1) (by omega) hd
  | d + 1, hd => Int.lt_trans (h.all i d (by omega)) (h.lt (i + (d + 1) + 1) (by omega) hd)
theorem Asc.le {es : List Ent} (h : Asc es) {i j : Nat} (hij : i ≤ j) (hj : j < es.length) : (es.getD i ET.ent.dflt).at_ ≤ (es.getD j ET.ent.dflt).at_ := by
  rcases Nat.eq_or_lt_of_le hij with rfl | hlt
  · exact Int.le_refl _
  · have h2 := h.all i (j - i - 1) (by omega)
    rw [show i + (j - i - 1) + 1 = j by omega] at h2
    omega
def lowE (es : List Ent) (at_ : Int) : Nat := es.findIdx fun e => !decide (e.at_ < at_)
def thereE (es : List Ent) (at_ : Int) : Bool := decide (lowE es at_ < es.length) && decide ((es.getD (lowE es at_) ET.ent.dflt).at_ = at_)
theorem lowE_le (es : List Ent) (a : Int) : lowE es a ≤ es.length := List.findIdx_le_length
theorem lowE_before {es : List Ent} {a : Int} {i : Nat} (h : i < lowE es a) : (es.getD i ET.ent.dflt).at_ < a := by
  have h1 := List.not_of_lt_findIdx h
  have h2 := lowE_le es a
  simp only [Bool.not_eq_true', Bool.not_eq_false', decide_eq_true_eq, Bool.not_not] at h1
  have e : es.getD i ET.ent.dflt = es[i]'(by omega) := by simp [show i < es.length by omega]
  rw [e]
  simpa using h1
theorem lowE_at {es : List Ent} {a : Int} (h : lowE es a < es.length) : ¬ (es.getD (lowE es a) ET.ent.dflt).at_ < a := by
  have h1 := @List.findIdx_getElem _ (fun e : Ent => !decide (e.at_ < a)) es h
  have e : es.getD (lowE es a) ET.ent.dflt = es[lowE es a] := by simp [h]
  rw [e]
  rw [Bool.not_eq_true', decide_eq_false_iff_not] at h1
  exact h1
theorem lowE_eq {es : List Ent} {a : Int} {i : Nat} (hi : i ≤ es.length) (hb : ∀ j, j < i → (es.getD j ET.ent.dflt).at_ < a) (hs : i = es.length ∨ ¬ (es.getD i ET.ent.dflt).at_ < a) : lowE es a = i := by
  rcases Nat.lt_trichotomy (lowE es a) i with h | h | h
  · exact absurd (hb _ h) (lowE_at (by omega))
  · exact h
  · rcases hs with rfl | hs
    · have := lowE_le es a; omega
    · exact absurd (lowE_before h) hs
theorem thereE_at {es : List Ent} {a : Int} (h : thereE es a = true) : lowE es a < es.length ∧ (es.getD (lowE es a) ET.ent.dflt).at_ = a := by
  unfold thereE at h
  simpa using h
theorem thereE_of {es : List Ent} (h : Asc es) {i : Nat} (hi : i < es.length) : lowE es (es.getD i ET.ent.dflt).at_ = i ∧ thereE es (es.getD i ET.ent.dflt).at_ = true := by
  have e : lowE es (es.getD i ET.ent.dflt).at_ = i := lowE_eq (by omega) (fun j hj => by
    have h2 := h.all j (i - j - 1) (by omega)
    rwa [show j + (i - j - 1) + 1 = i by omega] at h2) (.inr (by omega))
  refine ⟨e, ?_⟩
  unfold thereE
  rw [e]
  simp [hi]

/-! Pointers. -/
def refsP (cs : List CSet) : List Ptr := cs.flatMap fun s => s.map.list
def cntAt (ps : List Ptr) (a : Int) : Nat := (ps.filter fun p => decide (p.at_ = a)).length
def posN (ps : List Ptr) : Nat := (ps.filter fun p => decide (0 < p.at_)).length
theorem cntAt_app (ps qs : List Ptr) (a : Int) : cntAt (ps ++ qs) a = cntAt ps a + cntAt qs a := by unfold cntAt; rw [List.filter_append, List.length_append]
theorem posN_app (ps qs : List Ptr) : posN (ps ++ qs) = posN ps + posN qs := by unfold posN; rw [List.filter_append, List.length_append]
theorem cntAt_one (p : Ptr) (a : Int) : cntAt [p] a = if p.at_ = a then 1 else 0 := by
  unfold cntAt
  by_cases h : p.at_ = a <;> simp [h]
theorem posN_one (p : Ptr) : posN [p] = if 0 < p.at_ then 1 else 0 := by
  unfold posN
  by_cases h : 0 < p.at_ <;> simp [h]
theorem refs_len : ∀ cs : List CSet, (refsP cs).length = 8 * cs.length
  | [] => rfl
  | c :: cs => by
    show (c.map.list ++ refsP cs).length = _
    rw [List.length_append, refs_len cs, List.length_cons]
    show 8 + _ = _
    omega
theorem refs_take {cs : List CSet} {i : Nat} (h : i < cs.length) : refsP (cs.take (i + 1)) = refsP (cs.take i) ++ (cs.getD i ET.cset.dflt).map.list := by
  have e : cs.getD i ET.cset.dflt = cs[i] := by simp [h]
  unfold refsP
  rw [e, List.take_add_one, List.getElem?_eq_getElem h, List.flatMap_append]
  simp
theorem list_take (m : Eight Ptr) (j : Nat) (h : j < 8) : m.list.take (j + 1) = m.list.take j ++ [m.get j] := by
  rcases (show j = 0 ∨ j = 1 ∨ j = 2 ∨ j = 3 ∨ j = 4 ∨ j = 5 ∨ j = 6 ∨ j = 7 by omega) with rfl | rfl | rfl | rfl | rfl | rfl | rfl | rfl <;> rfl
theorem list_all (m : Eight Ptr) : m.list.take 8 = m.list := rfl
theorem one_of {l : List Int} {a : Int} (h : l.Pairwise (· < ·)) (ha : a ∈ l) : (l.map fun x => if a = x then 1 else 0).sum = 1 := by
  induction l with
  | nil => cases ha
  | cons x l ih =>
    rw [List.pairwise_cons] at h
    rw [List.map_cons, List.sum_cons]
    by_cases hx : a = x
    · have : (l.map fun x => if a = x then 1 else 0).sum = 0 := by
        have h0 : ∀ l : List Int, (∀ y ∈ l, a < y) → (l.map fun x => if a = x then 1 else 0).sum = 0 := fun l => by
          induction l with
          | nil => intro _; rfl
          | cons y l ih =>
            intro hy
            rw [List.map_cons, List.sum_cons, ih fun z hz => hy z (by simp [hz]), if_neg]
            have := hy y (by simp)
            omega
        exact h0 l fun y hy => by rw [hx]; exact h.1 y hy
      rw [this, if_pos hx]
    · rw [if_neg hx, ih h.2 (by simpa [hx] using ha)]
theorem asc_pairs {es : List Ent} (h : Asc es) : (es.map (·.at_)).Pairwise (· < ·) := by
  rw [List.pairwise_iff_getElem]
  intro i j hi hj hij
  rw [List.length_map] at hi hj
  have h2 := h.all i (j - i - 1) (by omega)
  rw [show i + (j - i - 1) + 1 = j by omega] at h2
  simpa [hi, hj] using h2
/-- So many pointers point at an entry as point anywhere, if each points at an entry. -/
theorem cnt_sum {es : List Ent} (h : Asc es) : ∀ ps : List Ptr, (∀ p ∈ ps, 0 < p.at_ → thereE es p.at_ = true) → (es.map fun e => cntAt ps e.at_).sum = posN ps
  | [], _ => by
    have : ∀ l : List Ent, (l.map fun e => cntAt [] e.at_).sum = 0 := fun l => by
      induction l with
      | nil => rfl
      | cons a l ih => rw [List.map_cons, List.sum_cons, ih]; rfl
    exact this es
  | p :: ps, hp => by
    have h1 := cnt_sum h ps fun q hq => hp q (by simp [hq])
    have h2 : (es.map fun e => cntAt (p :: ps) e.at_).sum = (es.map fun e => if p.at_ = e.at_ then 1 else 0).sum + (es.map fun e => cntAt ps e.at_).sum := by
      have : ∀ l : List Ent, (l.map fun e => cntAt (p :: ps) e.at_).sum = (l.map fun e => if p.at_ = e.at_ then 1 else 0).sum + (l.map fun e => cntAt ps e.at_).sum := fun l => by
        induction l with
        | nil => rfl
        | cons a l ih =>
          rw [List.map_cons, List.sum_cons, ih, List.map_cons, List.sum_cons, List.map_cons, List.sum_cons, show p :: ps = [p] ++ ps from rfl, cntAt_app, cntAt_one]
          omega
      exact this es
    have h3 : (es.map fun e => if p.at_ = e.at_ then 1 else 0).sum = if 0 < p.at_ then 1 else 0 := by
      have e : (es.map fun e => if p.at_ = e.at_ then 1 else 0) = (es.map (·.at_)).map fun x => if p.at_ = x then 1 else 0 := by rw [List.map_map]; rfl
      rw [e]
      split
      · rename_i h0
        obtain ⟨hk, ha⟩ := thereE_at (hp p (by simp) h0)
        refine one_of (asc_pairs h) ?_
        rw [List.mem_map]
        refine ⟨es[lowE es p.at_], List.getElem_mem _, ?_⟩
        rw [show es.getD (lowE es p.at_) ET.ent.dflt = es[lowE es p.at_] by simp [hk]] at ha
        exact ha
      · rename_i h0
        have : ∀ l : List Ent, (∀ e ∈ l, 1 ≤ e.at_) → ((l.map (·.at_)).map fun x => if p.at_ = x then 1 else 0).sum = 0 := fun l => by
          induction l with
          | nil => intro _; rfl
          | cons a l ih =>
            intro hl
            rw [List.map_cons, List.map_cons, List.sum_cons, ih fun z hz => hl z (by simp [hz]), if_neg]
            have := hl a (by simp)
            omega
        refine this es fun e he => ?_
        obtain ⟨j, hj, rfl⟩ := List.getElem_of_mem he
        have h4 := (h.lo j hj).1
        rwa [show es.getD j ET.ent.dflt = es[j] by simp [hj]] at h4
    rw [h2, h3, h1, show p :: ps = [p] ++ ps from rfl, posN_app, posN_one]

theorem cnt_le (ps : List Ptr) (a : Int) : cntAt ps a ≤ ps.length := List.length_filter_le _ _
/-- The counts of the entries, by so many pointers. -/
def cnts (es : List Ent) (ps : List Ptr) : List Int := es.map fun e => (cntAt ps e.at_ : Int)
theorem cnts_len (es : List Ent) (ps : List Ptr) : (cnts es ps).length = es.length := List.length_map _
theorem cnts_get {es : List Ent} (ps : List Ptr) {i : Nat} (h : i < es.length) (h' : i < (cnts es ps).length) : (cnts es ps)[i] = (cntAt ps (es.getD i ET.ent.dflt).at_ : Int) := by
  have e : es.getD i ET.ent.dflt = es[i] := by simp [h]
  rw [e]
  exact List.getElem_map _
theorem cnts_at {es : List Ent} (ps : List Ptr) {k : Nat} (hk : k < es.length) : (cnts es ps).getD k 0 = (cntAt ps (es.getD k ET.ent.dflt).at_ : Int) := by
  unfold cnts
  simp [hk]
theorem cnts_step {es : List Ent} (h : Asc es) {ps : List Ptr} {p : Ptr} (ht : thereE es p.at_ = true) : (cnts es ps).set (lowE es p.at_) ((cnts es ps).getD (lowE es p.at_) 0 + 1) = cnts es (ps ++ [p]) := by
  obtain ⟨hk, ha⟩ := thereE_at ht
  rw [cnts_at ps hk]
  refine List.ext_getElem (by rw [List.length_set, cnts_len, cnts_len]) fun i h1 h2 => ?_
  rw [List.length_set, cnts_len] at h1
  rw [List.getElem_set]
  have e2 : (cnts es (ps ++ [p]))[i] = (cntAt (ps ++ [p]) (es.getD i ET.ent.dflt).at_ : Int) := cnts_get _ h1 _
  rw [e2, cntAt_app, cntAt_one]
  split
  · rename_i he
    subst he
    rw [ha, if_pos rfl]
    omega
  · rename_i he
    have hne : ¬ p.at_ = (es.getD i ET.ent.dflt).at_ := fun hh => by
      have := (thereE_of h h1).1
      rw [← hh] at this
      exact he this
    rw [if_neg hne, cnts_get _ h1]
    omega
theorem cnts_skip {es : List Ent} (h : Asc es) (ps : List Ptr) {p : Ptr} (hp : p.at_ = 0) : cnts es (ps ++ [p]) = cnts es ps := by
  refine List.ext_getElem (by rw [cnts_len, cnts_len]) fun i h1 h2 => ?_
  rw [cnts_len] at h2
  have h3 := (h.lo i h2).1
  have e1 : (cnts es (ps ++ [p]))[i] = (cntAt (ps ++ [p]) (es.getD i ET.ent.dflt).at_ : Int) := cnts_get _ h2 _
  have e2 : (cnts es ps)[i] = (cntAt ps (es.getD i ET.ent.dflt).at_ : Int) := cnts_get _ h2 _
  rw [e1, e2, cntAt_app, cntAt_one, if_neg (by omega)]
  omega
theorem cnts_none (es : List Ent) : cnts es [] = List.replicate es.length 0 := by
  unfold cnts
  have : ∀ l : List Ent, (l.map fun e => (cntAt [] e.at_ : Int)) = List.replicate l.length 0 := fun l => by
    induction l with
    | nil => rfl
    | cons a l ih => rw [List.map_cons, ih]; rfl
  exact this es

/-! Cores. -/
def frameOf (cs : List CSet) : List BSet := cs.map fun s => ⟨s.name, s.kind, s.from_, Eight.rep ⟨#[]⟩⟩
theorem frame_len (cs : List CSet) : (frameOf cs).length = cs.length := by unfold frameOf; rw [List.length_map]
theorem frame_take {cs : List CSet} {i : Nat} (h : i < cs.length) : frameOf (cs.take (i + 1)) = frameOf (cs.take i) ++ [⟨(cs.getD i ET.cset.dflt).name, (cs.getD i ET.cset.dflt).kind, (cs.getD i ET.cset.dflt).from_, Eight.rep ⟨#[]⟩⟩] := by
  have e : cs.getD i ET.cset.dflt = cs[i] := by simp [h]
  unfold frameOf
  rw [e, List.take_add_one, List.getElem?_eq_getElem h, List.map_append]
  rfl
theorem frame_at (cs : List CSet) (i : Nat) : (frameOf cs).getD i ET.bset.dflt = ⟨(cs.getD i ET.cset.dflt).name, (cs.getD i ET.cset.dflt).kind, (cs.getD i ET.cset.dflt).from_, Eight.rep ⟨#[]⟩⟩ := by
  unfold frameOf
  by_cases h : i < cs.length
  · simp [h]
  · simp [show ¬ i < cs.length from h, List.getElem?_eq_none (show cs.length ≤ i by omega)]
    rfl
noncomputable def csetB (s : CSet) : Bool := nameB s.name && (same s.from_ ⟨#[]⟩ || nameB s.from_) && (decide (s.kind = 1) || decide (s.kind = 2)) && ptrOkB s.home && !s.map.list.any fun p => !ptrOkB p
noncomputable def csetBad (s : CSet) : Bool := !csetB s
def partBad (p : Ptr) : Bool := !realB p
def badPtr (p : Ptr) : Bool := !ptrOkB p
theorem csetB_no {s : CSet} (h : ((nameB s.name = false ∨ ¬ s.from_ = ⟨#[]⟩ ∧ nameB s.from_ = false) ∨ ¬ s.kind = 1 ∧ ¬ s.kind = 2) ∨ ptrOkB s.home = false) : csetB s = false := by
  unfold csetB
  rcases h with ((h | ⟨h, h2⟩) | ⟨h, h2⟩) | h
  · simp [h]
  · simp [h2, same_false.2 h]
  · simp [h, h2]
  · simp [h]
theorem csetB_yes {s : CSet} (h : ((¬ nameB s.name = false ∧ (¬ s.from_ = ⟨#[]⟩ → ¬ nameB s.from_ = false)) ∧ (¬ s.kind = 1 → s.kind = 2)) ∧ ptrOkB s.home = true) : csetB s = !s.map.list.any badPtr := by
  obtain ⟨⟨⟨h1, h2⟩, h3⟩, h4⟩ := h
  have e2 : (same s.from_ ⟨#[]⟩ || nameB s.from_) = true := by
    by_cases hf : s.from_ = ⟨#[]⟩
    · rw [same_true.2 hf]; rfl
    · rw [show nameB s.from_ = true by simpa using h2 hf, Bool.or_true]
  have e3 : (decide (s.kind = 1) || decide (s.kind = 2)) = true := by
    by_cases hk : s.kind = 1
    · simp [hk]
    · simp [h3 hk]
  unfold csetB
  rw [show nameB s.name = true by simpa using h1, e2, e3, h4]
  rfl
structure Safe (zs : List Int) (i : Nat) : Prop where
  lo : 13 ≤ zs.getD i 0 ∧ zs.getD i 0 ≤ 119
  less : 0 < i → zs.getD (i - 1) 0 < zs.getD i 0
noncomputable def safeB (zs : List Int) : Bool := @decide (∀ i, i < zs.length → Safe zs i) (Classical.propDecidable _)
theorem safeB_true {zs : List Int} : safeB zs = true ↔ ∀ i, i < zs.length → Safe zs i := by simp [safeB]
theorem safeB_false {zs : List Int} : safeB zs = false ↔ ¬ ∀ i, i < zs.length → Safe zs i := by rw [← Bool.not_eq_true, safeB_true]
structure SumsP (ps : List Ptr) (es : List Ent) : Prop where
  each : ∀ p ∈ ps, p.at_ ≠ 0 → thereE es p.at_ = true ∧ (es.getD (lowE es p.at_) ET.ent.dflt).sum = p.sum
structure CountP (ps : List Ptr) (es : List Ent) : Prop where
  sums : SumsP ps es
  cnt : ∀ k, k < es.length → (es.getD k ET.ent.dflt).count = cntAt ps (es.getD k ET.ent.dflt).at_
noncomputable def countB (ps : List Ptr) (es : List Ent) : Bool := @decide (CountP ps es) (Classical.propDecidable _)
theorem countB_true {ps : List Ptr} {es : List Ent} : countB ps es = true ↔ CountP ps es := by simp [countB]
theorem countB_false {ps : List Ptr} {es : List Ent} : countB ps es = false ↔ ¬ CountP ps es := by simp [countB]
/-- How many pointers point at a place; none at no place. -/
def rcnt (ps : List Ptr) (a : Int) : Int := if 0 < a then (cntAt ps a : Int) else 0
theorem rcnt_app (ps : List Ptr) (p : Ptr) (a : Int) : rcnt (ps ++ [p]) a = rcnt ps a + if p.at_ = a ∧ a > 0 then 1 else 0 := by
  unfold rcnt
  rw [cntAt_app, cntAt_one]
  by_cases h : 0 < a <;> by_cases h2 : p.at_ = a <;> simp [h, h2]
theorem rcnt_yes {ps : List Ptr} {p : Ptr} {a : Int} (h : p.at_ = a ∧ a > 0) : rcnt (ps ++ [p]) a = rcnt ps a + 1 := by rw [rcnt_app, if_pos h]
theorem rcnt_no {ps : List Ptr} {p : Ptr} {a : Int} (h : ¬ p.at_ = a ∨ ¬ a > 0) : rcnt (ps ++ [p]) a = rcnt ps a := by rw [rcnt_app, if_neg (fun k => h.elim (fun h => h k.1) fun h => h k.2), Int.add_zero]
theorem rcnt_nil (a : Int) : rcnt (refsP []) a = 0 := by unfold rcnt; split <;> rfl
theorem rcnt_le (ps : List Ptr) (a : Int) : 0 ≤ rcnt ps a ∧ rcnt ps a ≤ ps.length := by
  unfold rcnt
  have := cnt_le ps a
  split <;> omega
theorem posN_le (ps : List Ptr) : posN ps ≤ ps.length := List.length_filter_le _ _
def sumC (es : List Ent) : Int := (es.map (·.count)).sum
theorem sumC_take {es : List Ent} {i : Nat} (h : i < es.length) : sumC (es.take (i + 1)) = sumC (es.take i) + (es.getD i ET.ent.dflt).count := by
  have e : es.getD i ET.ent.dflt = es[i] := by simp [h]
  unfold sumC
  rw [e, List.take_add_one, List.getElem?_eq_getElem h, List.map_append, List.sum_append]
  simp
/-- The pointers of the first sets, and of the next one the first. -/
def ptrsTo (cs : List CSet) (i j : Nat) : List Ptr := refsP (cs.take i) ++ (cs.getD i ET.cset.dflt).map.list.take j
theorem ptrsTo_zero (cs : List CSet) (i : Nat) : ptrsTo cs i 0 = refsP (cs.take i) := by unfold ptrsTo; rw [List.take_zero, List.append_nil]
theorem ptrsTo_next (cs : List CSet) (i : Nat) {j : Nat} (h : j < 8) : ptrsTo cs i (j + 1) = ptrsTo cs i j ++ [(cs.getD i ET.cset.dflt).map.get j] := by
  unfold ptrsTo; rw [list_take _ _ h, List.append_assoc]
theorem ptrsTo_end {cs : List CSet} {i : Nat} (h : i < cs.length) : ptrsTo cs i 8 = refsP (cs.take (i + 1)) := by
  unfold ptrsTo; rw [refs_take h, list_all]
theorem refs_end {cs : List CSet} {i : Nat} (h : cs.length ≤ i) : refsP (cs.take i) = refsP cs := by rw [List.take_of_length_le h]
theorem ptrsTo_len (cs : List CSet) (i j : Nat) : (ptrsTo cs i j).length ≤ 8 * i + 8 := by
  unfold ptrsTo
  have h1 := refs_len (cs.take i)
  have h2 := List.length_take (i := i) (l := cs)
  have h3 : ((cs.getD i ET.cset.dflt).map.list.take j).length ≤ 8 := by rw [List.length_take]; exact Nat.min_le_right _ _
  rw [List.length_append, h1, h2]
  omega
noncomputable def countsS (ps : List Ptr) (es : List Ent) : Bool := @decide ((∀ k, k < es.length → rcnt ps (es.getD k ET.ent.dflt).at_ = (es.getD k ET.ent.dflt).count) ∧ sumC es = posN ps) (Classical.propDecidable _)
theorem countsS_true {ps : List Ptr} {es : List Ent} : countsS ps es = true ↔ (∀ k, k < es.length → rcnt ps (es.getD k ET.ent.dflt).at_ = (es.getD k ET.ent.dflt).count) ∧ sumC es = posN ps := by simp [countsS]
theorem countsS_false {ps : List Ptr} {es : List Ent} : countsS ps es = false ↔ ¬ ((∀ k, k < es.length → rcnt ps (es.getD k ET.ent.dflt).at_ = (es.getD k ET.ent.dflt).count) ∧ sumC es = posN ps) := by rw [← Bool.not_eq_true, countsS_true]
noncomputable def sumsS (ps : List Ptr) (es : List Ent) : Bool := @decide (∀ p ∈ ps, p.at_ > 0 → thereE es p.at_ = true ∧ (es.getD (lowE es p.at_) ET.ent.dflt).sum = p.sum) (Classical.propDecidable _)
theorem sumsS_true {ps : List Ptr} {es : List Ent} : sumsS ps es = true ↔ ∀ p ∈ ps, p.at_ > 0 → thereE es p.at_ = true ∧ (es.getD (lowE es p.at_) ET.ent.dflt).sum = p.sum := by simp [sumsS]
theorem sumsS_false {ps : List Ptr} {es : List Ent} : sumsS ps es = false ↔ ¬ ∀ p ∈ ps, p.at_ > 0 → thereE es p.at_ = true ∧ (es.getD (lowE es p.at_) ET.ent.dflt).sum = p.sum := by rw [← Bool.not_eq_true, sumsS_true]
theorem posN_yes {ps : List Ptr} {p : Ptr} (h : p.at_ > 0) : (posN (ps ++ [p]) : Int) = posN ps + 1 := by
  rw [posN_app, posN_one, if_pos h]; omega
theorem posN_no {ps : List Ptr} {p : Ptr} (h : ¬ p.at_ > 0) : posN (ps ++ [p]) = posN ps := by rw [posN_app, posN_one, if_neg h]; rfl
theorem refs_nil : refsP [] = [] := rfl
theorem sumC_nil : sumC [] = 0 := rfl
theorem sumC_end {es : List Ent} {i : Nat} (h : es.length ≤ i) : sumC (es.take i) = sumC es := by rw [List.take_of_length_le h]
theorem sumC_le {es : List Ent} {n : Nat} {i : Nat} (hi : i ≤ es.length) (h : ∀ j, j < i → 0 ≤ (es.getD j ET.ent.dflt).count ∧ (es.getD j ET.ent.dflt).count ≤ n) : 0 ≤ sumC (es.take i) ∧ sumC (es.take i) ≤ i * n := by
  induction i with
  | zero => exact ⟨Int.le_refl _, by rw [List.take_zero]; simp [sumC]⟩
  | succ i ih =>
    obtain ⟨h1, h2⟩ := ih (by omega) fun j hj => h j (by omega)
    obtain ⟨h3, h4⟩ := h i (by omega)
    rw [sumC_take (show i < es.length by omega)]
    refine ⟨by omega, ?_⟩
    have : ((i + 1 : Nat) : Int) * n = i * n + n := by rw [Int.natCast_add, Int.add_mul]; simp
    omega
structure CoreP (c : Co) : Prop where
  txg : 0 ≤ c.txg ∧ c.txg ≤ 1000000
  ddt : DdtP c.ddt
  parts : c.parts.length ≤ 8 ∧ c.parts.any partBad = false
  logn : 0 ≤ c.logn ∧ c.logn ≤ 8
  safe : ∀ i, i < c.safe.length → Safe c.safe i
  sets : c.sets.any csetBad = false
  book : bookB (frameOf c.sets) = true
  counts : CountP (refsP c.sets) c.ddt
noncomputable def Co.ok (c : Co) : Bool := @decide (CoreP c) (Classical.propDecidable _)
theorem Co.ok_true {c : Co} : c.ok = true ↔ CoreP c := by simp [Co.ok]
theorem Co.ok_false {c : Co} : c.ok = false ↔ ¬ CoreP c := by simp [Co.ok]
theorem ptr_low {p : Ptr} (h : ptrOkB p = true) : 0 ≤ p.at_ ∧ p.at_ ≤ 119 := by
  unfold ptrOkB at h
  simp only [Bool.and_eq_true, Bool.or_eq_true, decide_eq_true_eq] at h
  omega
theorem refs_ok {cs : List CSet} (h : cs.any csetBad = false) : ∀ p ∈ refsP cs, ptrOkB p = true := by
  intro p hp
  unfold refsP at hp
  rw [List.mem_flatMap] at hp
  obtain ⟨s, hs, hp⟩ := hp
  rw [List.any_eq_false] at h
  have h1 := h s hs
  unfold csetBad csetB at h1
  simp only [Bool.not_eq_true', Bool.not_eq_false, Bool.and_eq_true, List.any_eq_false, Bool.not_eq_false', Bool.not_eq_true] at h1
  have h2 := h1.2 p hp
  simpa using h2
end Go.Proofs.YtjedcphhajlnoaaGreatDoor
/- Plain facts: halves, ascending places. -/
namespace Go.Proofs.YtjedcphhajlnoaaGreatDoor
open Go.RowKit

theorem half (i j : Nat) (hi : i ≤ 4000000) (hj : j ≤ 4000000) : IntKind.i64.wrap ((IntKind.u64.wrap (IntKind.i64.wrap ((i : Int) + (j : Int)))).fdiv (2 ^ min 1 64)) = ((i + j) / 2 : Nat) := by
  rw [wrap_id ((i : Int) + j) (by omega) (by omega)]
  have hu : IntKind.u64.wrap ((i : Int) + j) = (i : Int) + j := by
    unfold IntKind.wrap
    simp [IntKind.signed, IntKind.bits]
    omega
  rw [hu, show ((2 : Int) ^ min 1 64) = 2 from rfl, Int.fdiv_eq_ediv_of_nonneg _ (by decide), wrap_id _ (by omega) (by omega)]
  omega
end Go.Proofs.YtjedcphhajlnoaaGreatDoor
/- Functions: entries of a table, places. -/
namespace Go.Proofs.YtjedcphhajlnoaaGreatDoor
open Go.RowKit

@[go_sem] def ctEntOk : Ct := ⟨false, [], fun args os => match args, os with
  | [.agg [.val (.int .i64 a), .val (.int .i64 b), .val (.int .i64 c)]], [] => is (vb (entB ⟨a, b, c⟩))
  | _, _ => no⟩
theorem s_entryOk_e : EnterOk Tryz.prog 258 := ⟨_, Tryz.func258, rfl, by decide⟩
@[go_sem] def s_entryOk_lv : List (List Nat) := [[1], [2]]
@[go_sem] noncomputable def s_entryOk_K : Known := (Known.nil).cons 89 ctWithin s_within s_within_e
set_option maxHeartbeats 8000000 in
theorem s_entryOk : Sound Tryz.prog 258 ctEntOk := by
  have ke := s_entryOk_K.env []
  have kl : Lives s_entryOk_lv := trivial
  refine sound_intro (E := ⟨ti, s_entryOk_K.Γ, []⟩) ke Tryz.func258 Tryz.ntmps258 rfl (rs := [.tmp 2]) rfl ?_
  intro args os hp
  unfold ctEntOk at hp ⊢
  dsimp only at hp ⊢
  split at hp
  · rename_i a b c
    refine ⟨by simp, fun φ0 w0 => ?_⟩
    refine goh trivial ?_
    refine ⟨by (simp only [go_sem, ↓reduceIte, reduceCtorEq, Nat.reduceAdd, Nat.reduceLT, Nat.reduceLeDiff, Nat.reduceEqDiff]) <;> trivial, [], ?_⟩
    all_goals try simp only [go_sem, inj_r, ↓reduceIte, reduceCtorEq, Nat.reduceAdd, Nat.reduceLT, Nat.reduceLeDiff, Nat.reduceEqDiff, Int.reduceEq]
    all_goals (repeat' refine And.intro ?_ ?_) <;> try exact shut7
    rw [Bool.eq_iff_iff]; simp [entB]; try omega
  · simp [no, is] at hp
theorem s_l5Entry_e : EnterOk Tryz.prog 211 := ⟨_, Tryz.func211, rfl, by decide⟩
@[go_sem] def s_l5Entry_lv : List (List Nat) := [[1], [2]]
@[go_sem] noncomputable def s_l5Entry_K : Known := Known.nil
set_option maxHeartbeats 8000000 in
theorem s_l5Entry : Sound Tryz.prog 211 ctEntOk := by
  have ke := s_l5Entry_K.env []
  have kl : Lives s_l5Entry_lv := trivial
  refine sound_intro (E := ⟨ti, s_l5Entry_K.Γ, []⟩) ke Tryz.func211 Tryz.ntmps211 rfl (rs := [.tmp 2]) rfl ?_
  intro args os hp
  unfold ctEntOk at hp ⊢
  dsimp only at hp ⊢
  split at hp
  · rename_i a b c
    refine ⟨by simp, fun φ0 w0 => ?_⟩
    refine goh trivial ?_
    refine ⟨by (simp only [go_sem, ↓reduceIte, reduceCtorEq, Nat.reduceAdd, Nat.reduceLT, Nat.reduceLeDiff, Nat.reduceEqDiff]) <;> trivial, [], ?_⟩
    all_goals try simp only [go_sem, inj_r, ↓reduceIte, reduceCtorEq, Nat.reduceAdd, Nat.reduceLT, Nat.reduceLeDiff, Nat.reduceEqDiff, Int.reduceEq]
    all_goals (repeat' refine And.intro ?_ ?_) <;> try exact shut7
    rw [Bool.eq_iff_iff]; simp [entB]; try omega
  · simp [no, is] at hp
@[go_sem] noncomputable def ctDdtOk : Ct := ⟨false, [[some .ent]], fun args os => match args, os with
  | [.one (.isl .ent es)], [] => ifp (es.length ≤ 4000000) (vb (ddtB es))
  | _, _ => no⟩
theorem ent_bad {es : List Ent} {i : Nat} (hi : i < es.length) (h : entB (es.getD i ET.ent.dflt) = false ∨ (i : Int) > 0 ∧ (es.getD i ET.ent.dflt).at_ ≤ (es.getD (i - 1) ET.ent.dflt).at_) : ddtB es = false :=
  ddtB_false.2 fun hd => by
    obtain ⟨h1, h2⟩ := hd.each i hi
    rcases h with h | ⟨h3, h4⟩
    · rw [h1] at h; cases h
    · have := h2 (by omega); omega
theorem ent_good {es : List Ent} {i : Nat} (hb : ∀ j, j < i → EntOk es j) (h : ¬ entB (es.getD i ET.ent.dflt) = false ∧ (¬ (i : Int) > 0 ∨ ¬ (es.getD i ET.ent.dflt).at_ ≤ (es.getD (i - 1) ET.ent.dflt).at_)) : ∀ j, j < i + 1 → EntOk es j := fun j hj => by
  rcases Nat.lt_succ_iff_lt_or_eq.1 hj with h2 | rfl
  · exact hb j h2
  · exact ⟨by simpa using h.1, fun h0 => by rcases h.2 with h3 | h3 <;> omega⟩
theorem s_specDdtOk_e : EnterOk Tryz.prog 148 := ⟨_, Tryz.func148, rfl, by decide⟩
@[go_sem] def s_specDdtOk_lv : List (List Nat) := [[0], [0, 6], [2], [0, 3], [0, 3, 10], [0, 3], [0, 3, 36], [2], [2]]
@[go_sem] noncomputable def s_specDdtOk_K : Known := (Known.nil).cons 211 ctEntOk s_l5Entry s_l5Entry_e
set_option maxHeartbeats 8000000 in
theorem s_specDdtOk : Sound Tryz.prog 148 ctDdtOk := by
  have ke := s_specDdtOk_K.env []
  have kl : Lives s_specDdtOk_lv := trivial
  refine sound_intro (E := ⟨ti, s_specDdtOk_K.Γ, []⟩) ke Tryz.func148 Tryz.ntmps148 rfl (rs := [.tmp 2]) rfl ?_
  intro args os hp
  unfold ctDdtOk at hp ⊢
  dsimp only at hp ⊢
  split at hp
  · rename_i es
    refine ⟨by simp, fun φ0 w0 => ?_⟩
    have hlen : es.length ≤ 4000000 := hp
    refine goh trivial ?_
    refine W_cnd ?_ ?_ <;> (try simp only [cnd_r]) <;> intro hc
    · have e : ddtB es = false := ddtB_false.2 fun h => by have := h.few; omega
      refine goh trivial ?_
      exact finh [] e
    · refine goh trivial ?_
      refine W_for es.length (fun i => ∀ j, j < i → EntOk es j) (fun i => ⟨[(0, .one (.isl .ent es)), (3, vi i)], [], []⟩) [] (leh trivial) (by omega) fun i hi hb => ?_
      refine goh trivial ?_
      refine W_cnd ?_ ?_ <;> (try simp only [cnd_r]) <;> intro hlt
      · have w1 : IntKind.i64.wrap ((i : Int) - 1) = (i : Int) - 1 := wrap_id _ (by omega) (by omega)
        have ht : ((i : Int) - 1).toNat = i - 1 := by omega
        refine goh (And.intro w1 ht) ?_
        refine W_cnd ?_ ?_ <;> (try simp only [cnd_r]) <;> intro hx
        · have e := ent_bad (by omega) hx
          refine goh trivial ?_
          exact finh [] e
        · refine goh trivial ?_
          exact ⟨[], by omega, leh trivial, ent_good hb hx⟩
      · have e : ddtB es = true := ddtB_true.2 ⟨by omega, fun j hj => hb j (by omega)⟩
        refine goh trivial ?_
        exact finh [] e
  · simp [no, ifp] at hp
theorem s_ddtOk_e : EnterOk Tryz.prog 218 := ⟨_, Tryz.func218, rfl, by decide⟩
@[go_sem] def s_ddtOk_lv : List (List Nat) := [[0], [0, 5, 6, 7], [0, 5, 6, 7, 8], [0, 3, 4, 5, 6, 7], [0, 5, 6, 7, 29], [2], [0, 5, 6, 7], [2]]
@[go_sem] noncomputable def s_ddtOk_K : Known := (Known.nil).cons 258 ctEntOk s_entryOk s_entryOk_e
set_option maxHeartbeats 8000000 in
theorem s_ddtOk : Sound Tryz.prog 218 ctDdtOk := by
  have ke := s_ddtOk_K.env []
  have kl : Lives s_ddtOk_lv := trivial
  refine sound_intro (E := ⟨ti, s_ddtOk_K.Γ, []⟩) ke Tryz.func218 Tryz.ntmps218 rfl (rs := [.tmp 2]) rfl ?_
  intro args os hp
  unfold ctDdtOk at hp ⊢
  dsimp only at hp ⊢
  split at hp
  · rename_i es
    refine ⟨by simp, fun φ0 w0 => ?_⟩
    have hlen : es.length ≤ 4000000 := hp
    refine goh trivial ?_
    refine W_for es.length (fun i => ∀ j, j < i → EntOk es j) (fun i => ⟨[(0, .one (.isl .ent es)), (5, .one (.isl .ent es)), (6, vi es.length), (7, vi i)], [], []⟩) [] (leh trivial) (by omega) fun i hi hb => ?_
    refine goh trivial ?_
    refine W_cnd ?_ ?_ <;> (try simp only [cnd_r]) <;> intro hlt
    · have w1 : IntKind.i64.wrap ((i : Int) - 1) = (i : Int) - 1 := wrap_id _ (by omega) (by omega)
      have ht : ((i : Int) - 1).toNat = i - 1 := by omega
      refine goh (And.intro w1 ht) ?_
      refine W_cnd ?_ ?_ <;> (try simp only [cnd_r]) <;> intro hx
      · have e := ent_bad (es := es) (i := i) (by omega) (by rcases hx with h | ⟨h1, h2⟩; exact .inl h; exact .inr ⟨by omega, by omega⟩)
        refine goh trivial ?_
        exact finh [] e
      · refine goh trivial ?_
        exact ⟨[], by omega, leh trivial, ent_good hb ⟨hx.1, by rcases hx.2 with h | h; exact .inl (by omega); exact .inr (by omega)⟩⟩
    · have e : ddtB es = decide ((es.length : Int) ≤ 48) := by
        rw [Bool.eq_iff_iff, ddtB_true, decide_eq_true_eq]
        exact ⟨fun h => by have := h.few; omega, fun h => ⟨by omega, fun j hj => hb j (by omega)⟩⟩
      refine goh trivial ?_
      exact finh [] e
  · simp [no, ifp] at hp
@[go_sem] noncomputable def ctPlaces : Ct := ⟨false, [[some .int]], fun args os => match args, os with
  | [.one (.isl .int zs)], [] => ifp (zs.length ≤ 4000000) (vb (safeB zs))
  | _, _ => no⟩
theorem s_l6Places_e : EnterOk Tryz.prog 149 := ⟨_, Tryz.func149, rfl, by decide⟩
@[go_sem] def s_l6Places_lv : List (List Nat) := [[0], [0, 3], [0, 3, 7], [0, 3], [0, 3, 37], [2], [2]]
@[go_sem] noncomputable def s_l6Places_K : Known := Known.nil
set_option maxHeartbeats 8000000 in
theorem s_l6Places : Sound Tryz.prog 149 ctPlaces := by
  have ke := s_l6Places_K.env []
  have kl : Lives s_l6Places_lv := trivial
  refine sound_intro (E := ⟨ti, s_l6Places_K.Γ, []⟩) ke Tryz.func149 Tryz.ntmps149 rfl (rs := [.tmp 2]) rfl ?_
  intro args os hp
  unfold ctPlaces at hp ⊢
  dsimp only at hp ⊢
  split at hp
  · rename_i zs
    refine ⟨by simp, fun φ0 w0 => ?_⟩
    have hlen : zs.length ≤ 4000000 := hp
    refine goh trivial ?_
    refine W_for zs.length (fun i => ∀ j, j < i → Safe zs j) (fun i => ⟨[(0, .one (.isl .int zs)), (3, vi i)], [], []⟩) [] (leh trivial) (by omega) fun i hi hb => ?_
    refine goh trivial ?_
    refine W_cnd ?_ ?_ <;> (try simp only [cnd_r]) <;> intro hlt
    · have w1 : IntKind.i64.wrap ((i : Int) - 1) = (i : Int) - 1 := wrap_id _ (by omega) (by omega)
      have ht : ((i : Int) - 1).toNat = i - 1 := by omega
      refine goh (And.intro w1 ht) ?_
      refine W_cnd ?_ ?_ <;> (try simp only [cnd_r]) <;> intro hx
      · have e : safeB zs = false := safeB_false.2 fun h => by
          obtain ⟨h1, h2⟩ := h i (by omega)
          have hx' : ((List.getD (α := Int) zs i 0) < (13 : Int) ∨ (List.getD (α := Int) zs i 0) ≥ (120 : Int)) ∨ (i : Int) > 0 ∧ (List.getD (α := Int) zs i 0) ≤ (List.getD (α := Int) zs (i - 1) 0) := hx
          clear hx
          rcases hx' with h3 | ⟨h3, h4⟩
          · omega
          · have := h2 (by omega); omega
        refine goh trivial ?_
        exact finh [] e
      · refine goh trivial ?_
        exact ⟨[], by omega, leh trivial, fun j hj => by
          rcases Nat.lt_succ_iff_lt_or_eq.1 hj with h2 | rfl
          · exact hb j h2
          · have hx' : (¬ (List.getD (α := Int) zs j 0) < (13 : Int) ∧ ¬ (List.getD (α := Int) zs j 0) ≥ (120 : Int)) ∧ (¬ (j : Int) > 0 ∨ ¬ (List.getD (α := Int) zs j 0) ≤ (List.getD (α := Int) zs (j - 1) 0)) := hx
            clear hx
            exact ⟨by omega, fun h0 => by omega⟩⟩
    · have e : safeB zs = true := safeB_true.2 fun j hj => hb j (by omega)
      refine goh trivial ?_
      exact finh [] e
  · simp [no, ifp] at hp
@[go_sem] noncomputable def ctAtE : Ct := ⟨false, [[some .ent]], fun args os => match args, os with
  | [.one (.isl .ent es), .one (.val (.int .i64 a))], [] => ifp (es.length ≤ 4000000) (.tup [vi (lowE es a), vb (thereE es a)])
  | _, _ => no⟩
theorem thereE_eq (es : List Ent) (a : Int) {k : Nat} (e : lowE es a = k) : thereE es a = if (k : Int) < es.length then decide ((es.getD k ET.ent.dflt).at_ = a) else false := by
  unfold thereE
  rw [e]
  by_cases h : (k : Int) < es.length
  · rw [if_pos h, decide_eq_true (show k < es.length by omega), Bool.true_and]
  · rw [if_neg h, decide_eq_false (show ¬ k < es.length by omega), Bool.false_and]
theorem s_l5At_e : EnterOk Tryz.prog 214 := ⟨_, Tryz.func214, rfl, by decide⟩
@[go_sem] def s_l5At_lv : List (List Nat) := [[0, 1], [0, 1, 6], [0, 1, 6, 19], [0, 1, 6], [4, 5]]
@[go_sem] noncomputable def s_l5At_K : Known := Known.nil
set_option maxHeartbeats 8000000 in
theorem s_l5At : Sound Tryz.prog 214 ctAtE := by
  have ke := s_l5At_K.env []
  have kl : Lives s_l5At_lv := trivial
  refine sound_intro (E := ⟨ti, s_l5At_K.Γ, []⟩) ke Tryz.func214 Tryz.ntmps214 rfl (rs := [.tmp 4, .tmp 5]) rfl ?_
  intro args os hp
  unfold ctAtE at hp ⊢
  dsimp only at hp ⊢
  split at hp
  · rename_i es a
    refine ⟨by simp, fun φ0 w0 => ?_⟩
    have hlen : es.length ≤ 4000000 := hp
    refine goh trivial ?_
    refine W_for es.length (fun i => ∀ j, j < i → (es.getD j ET.ent.dflt).at_ < a) (fun i => ⟨[(0, .one (.isl .ent es)), (1, vi a), (6, vi i)], [], []⟩) [] (leh trivial) (by omega) fun i hi hb => ?_
    refine goh trivial ?_
    refine W_cnd ?_ ?_ <;> (try simp only [cnd_r]) <;> intro hc
    · refine goh trivial ?_
      exact ⟨[], by omega, leh trivial, fun j hj => by
        rcases Nat.lt_succ_iff_lt_or_eq.1 hj with h2 | rfl
        · exact hb j h2
        · exact hc.2⟩
    · have e : lowE es a = i := lowE_eq hi hb (by omega)
      have e2 := thereE_eq es a e
      refine goh trivial ?_
      exact finh [] (And.intro e e2)
  · simp [no, ifp] at hp
@[go_sem] def ctCmpE : Ct := ⟨false, [], fun args os => match args, os with
  | [.agg [.val (.int .i64 a), .val (.int .i64 b), .val (.int .i64 c)], .one (.val (.int .i64 t))], [] => ifp ((-1000000 ≤ b ∧ b ≤ 1000000) ∧ (-1000000 ≤ t ∧ t ≤ 1000000)) (vi (b - t))
  | _, _ => no⟩
theorem s_ddtPlace1_e : EnterOk Tryz.prog 289 := ⟨_, Tryz.func289, rfl, by decide⟩
@[go_sem] def s_ddtPlace1_lv : List (List Nat) := [[1, 2], [4]]
@[go_sem] noncomputable def s_ddtPlace1_K : Known := Known.nil
set_option maxHeartbeats 8000000 in
theorem s_ddtPlace1 : Sound Tryz.prog 289 ctCmpE := by
  have ke := s_ddtPlace1_K.env []
  have kl : Lives s_ddtPlace1_lv := trivial
  refine sound_intro (E := ⟨ti, s_ddtPlace1_K.Γ, []⟩) ke Tryz.func289 Tryz.ntmps289 rfl (rs := [.tmp 4]) rfl ?_
  intro args os hp
  unfold ctCmpE at hp ⊢
  dsimp only at hp ⊢
  split at hp
  · rename_i a b c t
    refine ⟨by simp, fun φ0 w0 => ?_⟩
    obtain ⟨h1, h2⟩ : (-1000000 ≤ b ∧ b ≤ 1000000) ∧ (-1000000 ≤ t ∧ t ≤ 1000000) := hp
    refine goh trivial ?_
    exact finh [] trivial
  · simp [no, ifp] at hp
@[go_sem] noncomputable def ctSearchE : Ct := ⟨false, [[some .ent]], fun args os => match args, os with
  | [.one (.isl .ent es), .one (.val (.int .i64 a)), .one (.fn 289 [])], [] => ifp (es.length ≤ 4000000 ∧ Asc es ∧ (-1000000 ≤ a ∧ a ≤ 1000000)) (.tup [vi (lowE es a), vb (thereE es a)])
  | _, _ => no⟩
@[go_sem] def sgSearchE (es : List Ent) (a : Int) (i j : Nat) : Sg := ⟨[(0, .one (.isl .ent es)), (1, vi a), (2, .one (.fn 289 [])), (8, vi es.length), (9, vi i), (10, vi j)], [], []⟩
theorem Asc.hi {es : List Ent} (h : Asc es) {a : Int} {i j : Nat} (hij : i ≤ j) (hj : j < es.length) (hs : ¬ (es.getD i ET.ent.dflt).at_ < a) : ¬ (es.getD j ET.ent.dflt).at_ < a := by
  have := h.le hij hj; omega
theorem s_searchE_e : EnterOk Tryz.prog 288 := ⟨_, Tryz.func288, rfl, by decide⟩
@[go_sem] def s_searchE_lv : List (List Nat) := [[0, 1, 2], [0, 1, 2, 8], [0, 1, 2, 8, 9, 10], [0, 1, 2, 8, 9, 10, 17], [0, 1, 2, 8, 9, 10, 11], [0, 1, 2, 8, 9, 10, 11, 31], [0, 1, 2, 8, 9, 10], [0, 1, 2, 8, 9, 10], [6, 7]]
@[go_sem] noncomputable def s_searchE_K : Known := (Known.nil).cons 289 ctCmpE s_ddtPlace1 s_ddtPlace1_e
set_option maxHeartbeats 8000000 in
theorem s_searchE : Sound Tryz.prog 288 ctSearchE := by
  have ke := s_searchE_K.env []
  have kl : Lives s_searchE_lv := trivial
  refine sound_intro (E := ⟨ti, s_searchE_K.Γ, []⟩) ke Tryz.func288 Tryz.ntmps288 rfl (rs := [.tmp 6, .tmp 7]) rfl ?_
  intro args os hp
  unfold ctSearchE at hp ⊢
  dsimp only at hp ⊢
  split at hp
  · rename_i es a
    refine ⟨by simp, fun φ0 w0 => ?_⟩
    obtain ⟨hlen, hso, ha⟩ : es.length ≤ 4000000 ∧ Asc es ∧ (-1000000 ≤ a ∧ a ≤ 1000000) := hp
    refine goh trivial ?_
    refine W_le (σ' := sgSearchE es a 0 es.length) [] (leh trivial) ?_
    refine W_loop (fun q σ => ∃ i j : Nat, i ≤ j ∧ j ≤ es.length ∧ q = j - i ∧ (∀ k, k < i → (es.getD k ET.ent.dflt).at_ < a) ∧ (j < es.length → ¬ (es.getD j ET.ent.dflt).at_ < a) ∧ σ = sgSearchE es a i j) es.length ⟨0, es.length, by omega, by omega, by omega, by omega, by omega, rfl⟩ ?_
    rintro q σ ⟨i, j, hij, hj, rfl, hlo, hhi, rfl⟩
    unfold sgSearchE
    refine goh trivial ?_
    refine W_cnd ?_ ?_ <;> (try simp only [cnd_r]) <;> intro hlt
    · have hH := half i j (by omega) (by omega)
      obtain ⟨h, hh⟩ : ∃ h, (i + j) / 2 = h := ⟨_, rfl⟩
      rw [hh] at hH
      have hb := hso.lo h (by omega)
      refine goh hH ?_
      refine W_cnd ?_ ?_ <;> (try simp only [cnd_r]) <;> intro hc
      · refine goh trivial ?_
        refine ⟨j - (h + 1), [], sgSearchE es a (h + 1) j, by omega, leh trivial, h + 1, j, by omega, hj, rfl, fun k hk => ?_, hhi, rfl⟩
        have := hso.le (show k ≤ h by omega) (by omega)
        omega
      · refine goh trivial ?_
        exact ⟨h - i, [], sgSearchE es a i h, by omega, leh trivial, i, h, by omega, by omega, rfl, hlo, fun _ => by omega, rfl⟩
    · obtain rfl : i = j := by omega
      have e : lowE es a = i := lowE_eq hj hlo (by
        by_cases h : i < es.length
        · exact .inr (hhi h)
        · exact .inl (by omega))
      have e2 := thereE_eq es a e
      by_cases hi : i < es.length
      · have hb := hso.lo i hi
        refine goh trivial ?_
        refine ⟨by (simp only [go_sem, e, e2, ↓reduceIte, reduceCtorEq, Nat.reduceAdd, Nat.reduceLT, Nat.reduceLeDiff, Nat.reduceEqDiff]) <;> trivial, [], ?_⟩
        all_goals try simp only [go_sem, e, e2, inj_r, ↓reduceIte, reduceCtorEq, Nat.reduceAdd, Nat.reduceLT, Nat.reduceLeDiff, Nat.reduceEqDiff, Int.reduceEq]
        all_goals (repeat' refine And.intro ?_ ?_) <;> try exact shut7
        rw [if_pos (by omega), if_pos (by omega), Bool.eq_iff_iff, beq_iff_eq, decide_eq_true_eq]
        omega
      · refine goh trivial ?_
        refine ⟨by (simp only [go_sem, e, e2, ↓reduceIte, reduceCtorEq, Nat.reduceAdd, Nat.reduceLT, Nat.reduceLeDiff, Nat.reduceEqDiff]) <;> trivial, [], ?_⟩
        all_goals try simp only [go_sem, e, e2, inj_r, ↓reduceIte, reduceCtorEq, Nat.reduceAdd, Nat.reduceLT, Nat.reduceLeDiff, Nat.reduceEqDiff, Int.reduceEq]
        all_goals (repeat' refine And.intro ?_ ?_) <;> try exact shut7
        rw [if_neg (by omega), if_neg (by omega)]
  · simp [no, ifp] at hp
@[go_sem] noncomputable def ctPlaceE : Ct := ⟨false, [[some .ent]], fun args os => match args, os with
  | [.one (.isl .ent es), .one (.val (.int .i64 a))], [] => ifp (es.length ≤ 4000000 ∧ Asc es ∧ (-1000000 ≤ a ∧ a ≤ 1000000)) (.tup [vi (lowE es a), vb (thereE es a)])
  | _, _ => no⟩
theorem s_ddtPlace_e : EnterOk Tryz.prog 265 := ⟨_, Tryz.func265, rfl, by decide⟩
@[go_sem] def s_ddtPlace_lv : List (List Nat) := [[0, 1], [4, 5]]
@[go_sem] noncomputable def s_ddtPlace_K : Known := ((Known.nil).cons 288 ctSearchE s_searchE s_searchE_e).cons 289 ctCmpE s_ddtPlace1 s_ddtPlace1_e
set_option maxHeartbeats 8000000 in
theorem s_ddtPlace : Sound Tryz.prog 265 ctPlaceE := by
  have ke := s_ddtPlace_K.env []
  have kl : Lives s_ddtPlace_lv := trivial
  refine sound_intro (E := ⟨ti, s_ddtPlace_K.Γ, []⟩) ke Tryz.func265 Tryz.ntmps265 rfl (rs := [.tmp 4, .tmp 5]) rfl ?_
  intro args os hp
  unfold ctPlaceE at hp ⊢
  dsimp only at hp ⊢
  split at hp
  · rename_i es a
    refine ⟨by simp, fun φ0 w0 => ?_⟩
    obtain ⟨hlen, hso, ha⟩ : es.length ≤ 4000000 ∧ Asc es ∧ (-1000000 ≤ a ∧ a ≤ 1000000) := hp
    refine goh trivial ?_
    exact finh [] trivial
  · simp [no, ifp] at hp
end Go.Proofs.YtjedcphhajlnoaaGreatDoor
