import Derived.Test.YtjedcphhajlnoaaDoorProg
import Derived.WalkKit
import Derived.Ground.NamesProg
import Derived.Shelf.Small.Strs
import Derived.Test.YtjedcphhajlnoaaDoorM5
import Derived.Test.YtjedcphhajlnoaaDoorM7
import Derived.Test.YtjedcphhajlnoaaDoorM8
set_option linter.unusedSimpArgs false
set_option linter.unusedVariables false
set_option linter.unusedSectionVars false
/- Functions: a book and a name that are drawn. -/
namespace Go.Proofs.YtjedcphhajlnoaaDoor
open Go.RowKit

theorem brief_book (bs : List UInt8) {p : Int} (h1 : 0 ≤ p) (h2 : p ≤ 1000) : Brief (bookV bs p).1 ∧ (bookV bs p).1.length ≤ 7 ∧ p ≤ (bookV bs p).2 ∧ (bookV bs p).2 ≤ p + 600 := by
  obtain ⟨n, hn, hn2⟩ : ∃ n : Nat, (ET.int.at [0, 4, 10, 20, 35] (pickV bs p 5).toNat).toNat = n ∧ n ≤ 35 := by
    have := pickV_in bs p 5 (by omega) (by omega) (by omega)
    generalize (pickV bs p 5).toNat = i at *
    match i with
    | 0 => exact ⟨0, rfl, by omega⟩
    | 1 => exact ⟨4, rfl, by omega⟩
    | 2 => exact ⟨10, rfl, by omega⟩
    | 3 => exact ⟨20, rfl, by omega⟩
    | 4 => exact ⟨35, rfl, by omega⟩
    | _ + 5 => exact ⟨0, rfl, by omega⟩
  obtain ⟨k1, k2, k3, k4⟩ := brief_play bs (p := p + 1) (by omega) (by omega) n (by omega)
  obtain ⟨x, hx⟩ : ∃ x, playV bs (p + 1) n = x := ⟨_, rfl⟩
  have hV : playedV bs p = x := by unfold playedV; rw [hn]; exact hx
  rw [hx] at k1 k2 k3 k4
  unfold bookV
  rw [hV]
  split
  · exact ⟨k1, by omega, by omega, by omega⟩
  · generalize (pickV bs x.2 x.1.length).toNat = k
    have n1 : ∀ i, (ET.str.at [⟨#[110, 111, 110, 101]⟩, (x.1.getD k ET.bset.dflt).name, ⟨#[97]⟩] i).size ≤ 7 := at_size (by
      intro s hs
      simp only [List.mem_cons, List.not_mem_nil, or_false] at hs
      rcases hs with rfl | rfl | rfl
      · decide
      · exact (k1.at_ k).1
      · decide)
    unfold bendV
    split
    · exact ⟨brief_set k1 k (show 1 ≤ 7 by decide) (k1.at_ k).2, by rw [List.length_set]; omega, by simp only; omega, by simp only; omega⟩
    · split
      · exact ⟨brief_set k1 k (k1.at_ k).1 (k1.at_ k).2, by rw [List.length_set]; omega, by simp only; omega, by simp only; omega⟩
      · split
        · exact ⟨brief_set k1 k (k1.at_ k).1 (n1 _), by rw [List.length_set]; omega, by simp only; omega, by simp only; omega⟩
        · split
          · refine ⟨fun s hs => ?_, by rw [List.length_append, List.length_singleton]; omega, by simp only; omega, by simp only; omega⟩
            rcases List.mem_append.1 hs with hs | hs
            · exact k1 s hs
            · rw [List.mem_singleton] at hs; subst hs; exact k1.at_ k
          · split
            · exact ⟨brief_set k1 k (k1.at_ k).1 (k1.at_ k).2, by rw [List.length_set]; omega, by simp only; omega, by simp only; omega⟩
            · exact ⟨k1, by simp only; omega, by simp only; omega, by simp only; omega⟩
/-- A set's name that is drawn behind a book. -/
noncomputable def nameV (bs : List UInt8) (r : List BSet × Int) : ByteArray :=
  if 0 < r.1.length then
    if 0 < pickV bs r.2 5 then
      if same (r.1.getD (pickV bs (r.2 + 1) r.1.length).toNat ET.bset.dflt).from_ ⟨#[]⟩ = false ∧ pickV bs (r.2 + 2) 2 = 0 then (r.1.getD (pickV bs (r.2 + 1) r.1.length).toNat ET.bset.dflt).from_
      else (r.1.getD (pickV bs (r.2 + 1) r.1.length).toNat ET.bset.dflt).name
    else ET.str.at [⟨#[110, 111, 110, 101]⟩, ⟨#[]⟩, ⟨#[97]⟩] (pickV bs (r.2 + 1) 3).toNat
  else ET.str.at [⟨#[110, 111, 110, 101]⟩, ⟨#[]⟩, ⟨#[97]⟩] (pickV bs r.2 3).toNat
noncomputable def nBook (code : List UInt8) : List BSet := (bookV (code.take 2000) 0).1
noncomputable def nName (code : List UInt8) : ByteArray := nameV (code.take 2000) (bookV (code.take 2000) 0)
theorem named_brief (code : List UInt8) : Brief (nBook code) ∧ (nBook code).length ≤ 7 ∧ (nName code).size ≤ 7 := by
  obtain ⟨k1, k2, -, -⟩ := brief_book (code.take 2000) (p := 0) (by omega) (by omega)
  refine ⟨k1, k2, ?_⟩
  have n1 : ∀ i, (ET.str.at [⟨#[110, 111, 110, 101]⟩, ⟨#[]⟩, ⟨#[97]⟩] i).size ≤ 7 := at_size (by decide)
  unfold nName nameV
  repeat' split
  · exact (k1.at_ _).2
  · exact (k1.at_ _).1
  · exact n1 _
  · exact n1 _
@[go_sem] noncomputable def ctL15Named : Ct := ⟨false, [[some .byte]], fun args os => match args, os with
  | [.one (.isl .byte code)], [] => ⟨code.length ≤ 1048576, .tup [.agg [.osl .bset 0 0 (nBook code).length], vs (nName code)], [], [.arr .bset (nBook code)]⟩
  | _, _ => no⟩
theorem s_l15Named_e : EnterOk Tryd.prog 18 := ⟨_, Tryd.func18, rfl, by decide⟩
@[go_sem] def s_l15Named_lv : List (List Nat) := [[0, 2], [2, 4], [2, 4, 5], [2, 4, 5, 19], [2, 4, 5, 6], [2, 5, 6, 36], [2, 3], [2, 3], [2, 3]]
@[go_sem] noncomputable def s_l15Named_K : Known := ((((Known.nil).cons 40 ctOpen s_open s_open_e).cons 41 ctBookD s_bookD s_bookD_e).cons 42 ctPick s_pick s_pick_e).cons 43 ctOf s_of s_of_e
set_option maxHeartbeats 8000000 in
theorem s_l15Named : Sound Tryd.prog 18 ctL15Named := by
  have ke := s_l15Named_K.env []
  have kl : Lives s_l15Named_lv := trivial
  refine sound_intro (E := ⟨ti, s_l15Named_K.Γ, []⟩) ke Tryd.func18 Tryd.ntmps18 rfl (rs := [.cell 2 25, .tmp 3]) rfl ?_
  intro args os hp
  unfold ctL15Named at hp ⊢
  dsimp only at hp ⊢
  split at hp
  · rename_i code
    refine ⟨by simp, fun φ0 w0 => ?_⟩
    have hlen : code.length ≤ 1048576 := hp
    have hb : (code.take 2000).length ≤ 2000 := by rw [List.length_take]; omega
    obtain ⟨k1, k2, k3, k4⟩ := brief_book (code.take 2000) (p := 0) (by omega) (by omega)
    obtain ⟨x, hx⟩ : ∃ x, bookV (code.take 2000) 0 = x := ⟨_, rfl⟩
    have hB : nBook code = x.1 := by unfold nBook; rw [hx]
    have hN : nName code = nameV (code.take 2000) x := by unfold nName; rw [hx]
    rw [hx] at k1 k2 k3 k4
    obtain ⟨xs, q⟩ := x
    simp only at k1 k2 k3 k4 hB
    clear hp
    obtain ⟨bs, hbs⟩ : ∃ bs, code.take 2000 = bs := ⟨_, rfl⟩
    rw [hbs] at hb hx hN
    by_cases g1 : 0 < xs.length
    · have g1' : (xs.length : Int) > 0 := by omega
      have c1 := pickV_in bs q 5 (by omega) (by omega) (by omega)
      refine goh (And.intro hx (And.intro hbs g1')) ?_
      refine W_cnd ?_ ?_ <;> (try simp only [cnd_r]) <;> intro hc
      · have c2 := pickV_in bs (q + 1) xs.length (by omega) (by omega) (by omega)
        have hm2 : q + 1 + 1 = q + 2 := by omega
        obtain ⟨k, hk⟩ := Int.eq_ofNat_of_zero_le c2.1
        have hk2 : k < xs.length := by omega
        have c3 := pickV_in bs (q + 2) 2 (by omega) (by omega) (by omega)
        have hN2 : nName code = if same (xs.getD k ET.bset.dflt).from_ ⟨#[]⟩ = false ∧ pickV bs (q + 2) 2 = 0 then (xs.getD k ET.bset.dflt).from_ else (xs.getD k ET.bset.dflt).name := by
          rw [hN]; unfold nameV; simp only; rw [if_pos g1, if_pos (by simpa using hc), hk, Int.toNat_natCast]
        cases hs : same (xs.getD k ET.bset.dflt).from_ ⟨#[]⟩ with
        | true =>
          rw [if_neg (by rw [hs]; simp)] at hN2
          refine goh (And.intro hk (And.intro hm2 hs)) ?_
          refine W_cnd ?_ ?_ <;> intro hlit <;> try (cases hlit; done)
          refine goh trivial ?_
          exact finh [some 2] (And.intro hB hN2)
        | false =>
          refine goh (And.intro hk (And.intro hm2 hs)) ?_
          refine W_cnd ?_ ?_ <;> (try simp only [cnd_r]) <;> intro hd
          · rw [if_pos ⟨hs, by simpa using hd⟩] at hN2
            refine goh trivial ?_
            exact finh [some 2] (And.intro hB hN2)
          · simp only [beq_eq_false_iff_ne, ne_eq] at hd
            rw [if_neg (fun h => hd h.2)] at hN2
            refine goh trivial ?_
            exact finh [some 2] (And.intro hB hN2)
      · have hN2 : nName code = ET.str.at [⟨#[110, 111, 110, 101]⟩, ⟨#[]⟩, ⟨#[97]⟩] (pickV bs (q + 1) 3).toNat := by
          rw [hN]; unfold nameV; simp only; rw [if_pos g1, if_neg (by simpa using hc)]
        refine goh trivial ?_
        exact finh [some 2] (And.intro hB hN2)
    · have g1' : ¬ (xs.length : Int) > 0 := by omega
      have hN2 : nName code = ET.str.at [⟨#[110, 111, 110, 101]⟩, ⟨#[]⟩, ⟨#[97]⟩] (pickV bs q 3).toNat := by
        rw [hN]; unfold nameV; simp only; rw [if_neg g1]
      refine goh (And.intro hx (And.intro hbs g1')) ?_
      refine W_cnd ?_ ?_ <;> intro hlit <;> try (cases hlit; done)
      refine goh trivial ?_
      exact finh [some 2] (And.intro hB hN2)
  · simp [no] at hp
theorem s_drawTreeLine_e : EnterOk Tryd.prog 5 := ⟨_, Tryd.func5, rfl, by decide⟩
@[go_sem] def s_drawTreeLine_lv : List (List Nat) := [[0, 2], [2, 3]]
@[go_sem] noncomputable def s_drawTreeLine_K : Known := (Known.nil).cons 18 ctL15Named s_l15Named s_l15Named_e
set_option maxHeartbeats 8000000 in
theorem s_drawTreeLine : Sound Tryd.prog 5 ctL15Named := by
  have ke := s_drawTreeLine_K.env []
  have kl : Lives s_drawTreeLine_lv := trivial
  refine sound_intro (E := ⟨ti, s_drawTreeLine_K.Γ, []⟩) ke Tryd.func5 Tryd.ntmps5 rfl (rs := [.cell 2 25, .tmp 3]) rfl ?_
  intro args os hp
  unfold ctL15Named at hp ⊢
  dsimp only at hp ⊢
  split at hp
  · rename_i code
    refine ⟨by simp, fun φ0 w0 => ?_⟩
    have hlen : code.length ≤ 1048576 := hp
    refine goh trivial ?_
    exact finh [some 1] trivial
  · simp [no] at hp
end Go.Proofs.YtjedcphhajlnoaaDoor
/- Plain facts: halves, ascending places. -/
namespace Go.Proofs.YtjedcphhajlnoaaDoor
open Go.RowKit

theorem half (i j : Nat) (hi : i ≤ 4000000) (hj : j ≤ 4000000) : IntKind.i64.wrap ((IntKind.u64.wrap (IntKind.i64.wrap ((i : Int) + (j : Int)))).fdiv (2 ^ min 1 64)) = ((i + j) / 2 : Nat) := by
  rw [wrap_id ((i : Int) + j) (by omega) (by omega)]
  have hu : IntKind.u64.wrap ((i : Int) + j) = (i : Int) + j := by
    unfold IntKind.wrap
    simp [IntKind.signed, IntKind.bits]
    omega
  rw [hu, show ((2 : Int) ^ min 1 64) = 2 from rfl, Int.fdiv_eq_ediv_of_nonneg _ (by decide), wrap_id _ (by omega) (by omega)]
  omega
end Go.Proofs.YtjedcphhajlnoaaDoor
/-
  DERIVED: THE SHELF's CONTRACTS AT THIS DUMP, IN PLAIN WORDS (tools/lay-plain.mjs out of 'YtjedcphhajlnoaaDoorTSh2Q.lean', which tools/lay-shelf.mjs wrote): THE SAME DECLARATIONS UNDER THE SAME NAMES: 'import', 'namespace', 'open', 'def', 'theorem' AND NOTHING ELSE: no command of the shelf's: FOR A HAND-IN. Each laying: the table of numbers ('.._ren') and one theorem, a field a fact of the dump's own or the kernel's comparison; each contract: ONE APPLICATION.
-/
namespace Go.Proofs
open Go.Shelf
def Tryd.lays213_ren : Go.Shelf.Ren := ⟨fun | 213 => 69 | 265 => 84 | n => n, fun | 9 => 9 | 3 => 3 | n => n, fun | n => n⟩
theorem Tryd.lays213 : Go.Proofs.Lays.n213 Tryd.prog Tryd.lays213_ren := {
  mixed := by kernel_rfl
  f213 := Tryd.func69.trans (congrArg some (by kernel_rfl))
  f265 := Tryd.func84.trans (congrArg some (by kernel_rfl))
  t3 := Tryd.underlying3
  a3 := Tryd.isAgg3
  z3 := Tryd.sizeOf3
  v3 := Tryd.zeroValue3
  t9 := Tryd.underlying9
  a9 := Tryd.isAgg9
  z9 := Tryd.sizeOf9
  v9 := Tryd.zeroValue9 }
end Go.Proofs
/- Functions: where a set stands, the program's. -/
namespace Go.Proofs.YtjedcphhajlnoaaDoor
open Go.RowKit

def cmpB (a b : ByteArray) : Int := Lib.compareBytes a.data.toList b.data.toList
theorem cmp_less : ∀ x y : List UInt8, Lib.compareBytes x y < 0 ↔ Op.bytesLess x y = true
  | [], [] => by simp [Lib.compareBytes, Op.bytesLess]
  | [], _ :: _ => by simp [Lib.compareBytes, Op.bytesLess]
  | _ :: _, [] => by simp [Lib.compareBytes, Op.bytesLess]
  | a :: x, b :: y => by
    simp only [Lib.compareBytes, Op.bytesLess, Bool.or_eq_true, Bool.and_eq_true, decide_eq_true_eq, beq_iff_eq]
    by_cases h : a < b
    · simp [h]
    · by_cases h2 : b < a
      · have hne : a ≠ b := fun e => by subst e; exact h h2
        simp [h, h2, hne]
      · have e : a = b := by
          rw [UInt8.lt_iff_toNat_lt] at h h2
          exact UInt8.toNat_inj.1 (by omega)
        subst e
        simp [h, cmp_less x y]
theorem cmp_same : ∀ x y : List UInt8, Lib.compareBytes x y = 0 ↔ x = y
  | [], [] => by simp [Lib.compareBytes]
  | [], _ :: _ => by simp [Lib.compareBytes]
  | _ :: _, [] => by simp [Lib.compareBytes]
  | a :: x, b :: y => by
    simp only [Lib.compareBytes]
    by_cases h : a < b
    · have hne : a ≠ b := fun e => by
        subst e; rw [UInt8.lt_iff_toNat_lt] at h; omega
      simp [h, hne]
    · by_cases h2 : b < a
      · have hne : a ≠ b := fun e => by subst e; exact h h2
        simp [h, h2, hne]
      · have e : a = b := by
          rw [UInt8.lt_iff_toNat_lt] at h h2
          exact UInt8.toNat_inj.1 (by omega)
        subst e
        simp [h, cmp_same x y]
theorem cmpB_less (a b : ByteArray) : decide (cmpB a b < 0) = lessB a b := by
  rw [Bool.eq_iff_iff, decide_eq_true_eq]
  unfold cmpB lessB
  rw [cmp_less, ByteArray.toList_eq, ByteArray.toList_eq]
theorem cmpB_same (a b : ByteArray) : (cmpB a b == 0) = same a b := by
  rw [Bool.eq_iff_iff, beq_iff_eq, same_true]
  unfold cmpB
  rw [cmp_same]
  constructor
  · intro h
    obtain ⟨⟨a⟩⟩ := a
    obtain ⟨⟨b⟩⟩ := b
    simpa using h
  · rintro rfl; rfl
@[go_sem] def ctCmp : Ct := ⟨false, [], fun args os => match args, os with
  | [.one (.val (.string a)), .one (.val (.string b))], [] => is (vi (cmpB a b))
  | _, _ => no⟩
theorem s_cmpStr_e : EnterOk Tryd.prog 69 := ⟨_, Tryd.func69, rfl, by decide⟩
theorem s_cmpStr : Sound Tryd.prog 69 ctCmp := by
  refine sound_plain fun args os hp => ?_
  unfold ctCmp at hp ⊢
  dsimp only at hp ⊢
  split at hp
  · rename_i a b
    refine ⟨rfl, [.string a, .string b], .int .i64 (cmpB a b), rfl, rfl, fun w _ => ?_⟩
    refine (Any.bytealg_CompareString Tryd.lays213 a b w).mono ?_
    rintro e w' ⟨rfl, rfl⟩
    exact ⟨rfl, Below.refl _ _⟩
  · exact hp.elim
theorem s_compare_e : EnterOk Tryd.prog 52 := ⟨_, Tryd.func52, rfl, by decide⟩
@[go_sem] def s_compare_lv : List (List Nat) := [[0, 1], [4]]
@[go_sem] noncomputable def s_compare_K : Known := (Known.nil).cons 69 ctCmp s_cmpStr s_cmpStr_e
set_option maxHeartbeats 8000000 in
theorem s_compare : Sound Tryd.prog 52 ctCmp := by
  have ke := s_compare_K.env []
  have kl : Lives s_compare_lv := trivial
  refine sound_intro (E := ⟨ti, s_compare_K.Γ, []⟩) ke Tryd.func52 Tryd.ntmps52 rfl (rs := [.tmp 4]) rfl ?_
  intro args os hp
  unfold ctCmp at hp ⊢
  dsimp only at hp ⊢
  split at hp
  · rename_i a b
    refine ⟨by simp, fun φ0 w0 => ?_⟩
    refine goh trivial ?_
    exact finh [] trivial
  · simp [no, is] at hp
@[go_sem] def ctPlace1 : Ct := ⟨false, [], fun args os => match args, os with
  | [.agg cs, .one (.val (.string b))], [] => (match bsetOf cs with | some s => is (vi (cmpB s.name b)) | none => no)
  | _, _ => no⟩
theorem s_place1_e : EnterOk Tryd.prog 51 := ⟨_, Tryd.func51, rfl, by decide⟩
@[go_sem] def s_place1_lv : List (List Nat) := [[1, 2], [4]]
@[go_sem] noncomputable def s_place1_K : Known := (Known.nil).cons 52 ctCmp s_compare s_compare_e
set_option maxHeartbeats 8000000 in
theorem s_place1 : Sound Tryd.prog 51 ctPlace1 := by
  have ke := s_place1_K.env []
  have kl : Lives s_place1_lv := trivial
  refine sound_intro (E := ⟨ti, s_place1_K.Γ, []⟩) ke Tryd.func51 Tryd.ntmps51 rfl (rs := [.tmp 4]) rfl ?_
  intro args os hp
  unfold ctPlace1 at hp ⊢
  dsimp only at hp ⊢
  split at hp
  · rename_i cs b
    split at hp
    · rename_i s hs
      obtain rfl := bsetOf_some hs
      clear hs hp
      refine ⟨by simp, fun φ0 w0 => ?_⟩
      refine goh trivial ?_
      exact finh [] trivial
    · simp [no] at hp
  · simp [no] at hp
@[go_sem] noncomputable def ctSearch : Ct := ⟨false, [[some .bset]], fun args os => match args, os with
  | [.one (.isl .bset xs), .one (.val (.string name)), .one (.fn 51 [])], [] => ifp (xs.length ≤ 4000000 ∧ Sorted xs) (.tup [vi (lowN xs name), vb (thereB xs name)])
  | _, _ => no⟩
@[go_sem] def sgSearch (xs : List BSet) (name : ByteArray) (i j : Nat) : Sg := ⟨[(0, .one (.isl .bset xs)), (1, vs name), (2, .one (.fn 51 [])), (8, vi xs.length), (9, vi i), (10, vi j)], [], []⟩
theorem Sorted.high {xs : List BSet} (h : Sorted xs) (name : ByteArray) {i j : Nat} (hij : i ≤ j) (hj : j < xs.length) (hs : lessB (xs.getD i ET.bset.dflt).name name = false) : lessB (xs.getD j ET.bset.dflt).name name = false := by
  rcases Nat.eq_or_lt_of_le hij with rfl | hlt
  · exact hs
  · rw [← Bool.not_eq_true]
    intro h1
    have h2 := h.lt i (j - i - 1) (by omega)
    rw [show i + (j - i - 1) + 1 = j by omega] at h2
    rw [less_trans h2 h1] at hs; cases hs
theorem Sorted.low {xs : List BSet} (h : Sorted xs) (name : ByteArray) {i j : Nat} (hij : i ≤ j) (hj : j < xs.length) (hs : lessB (xs.getD j ET.bset.dflt).name name = true) : lessB (xs.getD i ET.bset.dflt).name name = true := by
  rw [← Bool.not_eq_false]
  intro h1
  rw [h.high name hij hj h1] at hs; cases hs
theorem s_search_e : EnterOk Tryd.prog 50 := ⟨_, Tryd.func50, rfl, by decide⟩
@[go_sem] def s_search_lv : List (List Nat) := [[0, 1, 2], [0, 1, 2, 8], [0, 1, 2, 8, 9, 10], [0, 1, 2, 8, 9, 10, 17], [0, 1, 2, 8, 9, 10, 11], [0, 1, 2, 8, 9, 10, 11, 31], [0, 1, 2, 8, 9, 10], [0, 1, 2, 8, 9, 10], [6, 7]]
@[go_sem] noncomputable def s_search_K : Known := (Known.nil).cons 51 ctPlace1 s_place1 s_place1_e
set_option maxHeartbeats 8000000 in
theorem s_search : Sound Tryd.prog 50 ctSearch := by
  have ke := s_search_K.env []
  have kl : Lives s_search_lv := trivial
  refine sound_intro (E := ⟨ti, s_search_K.Γ, []⟩) ke Tryd.func50 Tryd.ntmps50 rfl (rs := [.tmp 6, .tmp 7]) rfl ?_
  intro args os hp
  unfold ctSearch at hp ⊢
  dsimp only at hp ⊢
  split at hp
  · rename_i xs name
    refine ⟨by simp, fun φ0 w0 => ?_⟩
    obtain ⟨hlen, hso⟩ : xs.length ≤ 4000000 ∧ Sorted xs := hp
    refine goh trivial ?_
    refine W_le (σ' := sgSearch xs name 0 xs.length) [] (by
      simp only [go_sem, inj_r, ↓reduceIte, reduceCtorEq, Nat.reduceAdd, Nat.reduceLT, Nat.reduceLeDiff, Nat.reduceEqDiff, Int.reduceEq]
      all_goals (repeat' refine And.intro ?_ ?_) <;> try exact shut7
      ) ?_
    refine W_loop (fun q σ => ∃ i j : Nat, i ≤ j ∧ j ≤ xs.length ∧ q = j - i ∧ (∀ k, k < i → lessB (xs.getD k ET.bset.dflt).name name = true) ∧ (j < xs.length → lessB (xs.getD j ET.bset.dflt).name name = false) ∧ σ = sgSearch xs name i j) xs.length ⟨0, xs.length, by omega, by omega, by omega, by omega, by omega, rfl⟩ ?_
    rintro q σ ⟨i, j, hij, hj, rfl, hlo, hhi, rfl⟩
    unfold sgSearch
    refine goh trivial ?_
    refine W_cnd ?_ ?_ <;> (try simp only [cnd_r]) <;> intro hlt
    · have hH := half i j (by omega) (by omega)
      obtain ⟨h, hh⟩ : ∃ h, (i + j) / 2 = h := ⟨_, rfl⟩
      rw [hh] at hH
      repeat' first
        | with_reducible refine red ?_
        | refine W_seq ?_
        | (refine W_reg (s_search_K.env []) s_search_lv fun K' hK' => ?_
           simp only [go_sem, hH, cmpB_less, ↓reduceIte, ↓reduceDIte, reduceCtorEq, Nat.reduceAdd, Nat.reduceMul, Nat.reduceSub, Nat.reduceDiv, Nat.reduceMod, Nat.reduceLT, Nat.reduceLeDiff, Nat.reduceEqDiff, Nat.reduceBEq, Int.reduceToNat, Int.reduceLE, Int.reduceLT, Int.reduceEq, Int.reduceNe, Int.reduceNeg]
           (repeat' refine And.intro ?_ ?_) <;> try first | with_reducible refine hK' ?_ | exact shut6)
        | with_reducible refine blockG_o (by decide) ?_
      refine W_cond _ (by exact rfl) (by exact trivial) ?_ ?_ <;> intro hc
      · refine goh trivial ?_
        refine ⟨j - (h + 1), [], sgSearch xs name (h + 1) j, by omega, ?_, h + 1, j, by omega, hj, rfl, fun k hk => hso.low name (show k ≤ h by omega) (by omega) hc, hhi, rfl⟩
        exact leh trivial
      · refine goh trivial ?_
        refine ⟨h - i, [], sgSearch xs name i h, by omega, ?_, i, h, by omega, by omega, rfl, hlo, fun _ => hc, rfl⟩
        exact leh trivial
    · obtain rfl : i = j := by omega
      have e : lowN xs name = i := lowN_eq hj hlo (by
        by_cases h : i < xs.length
        · exact .inr (hhi h)
        · exact .inl (by omega))
      repeat' first
        | with_reducible refine red ?_
        | refine W_seq ?_
        | (refine W_reg (s_search_K.env []) s_search_lv fun K' hK' => ?_
           simp only [go_sem, cmpB_same, ↓reduceIte, ↓reduceDIte, reduceCtorEq, Nat.reduceAdd, Nat.reduceMul, Nat.reduceSub, Nat.reduceDiv, Nat.reduceMod, Nat.reduceLT, Nat.reduceLeDiff, Nat.reduceEqDiff, Nat.reduceBEq, Int.reduceToNat, Int.reduceLE, Int.reduceLT, Int.reduceEq, Int.reduceNe, Int.reduceNeg]
           (repeat' refine And.intro ?_ ?_) <;> try first | with_reducible refine hK' ?_ | exact shut6)
        | with_reducible refine blockG_o (by decide) ?_
      refine ⟨by (simp only [go_sem, e, ↓reduceIte, reduceCtorEq, Nat.reduceAdd, Nat.reduceLT, Nat.reduceLeDiff, Nat.reduceEqDiff]) <;> trivial, [], ?_⟩
      all_goals try simp only [go_sem, e, inj_r, ↓reduceIte, reduceCtorEq, Nat.reduceAdd, Nat.reduceLT, Nat.reduceLeDiff, Nat.reduceEqDiff, Int.reduceEq]
      all_goals (repeat' refine And.intro ?_ ?_) <;> try exact shut7
      unfold thereB
      rw [e]
      by_cases h : (i : Int) < xs.length
      · rw [if_pos h, decide_eq_true (show i < xs.length by omega), Bool.true_and]
      · rw [if_neg h, decide_eq_false (show ¬ i < xs.length by omega), Bool.false_and]
  · simp [no, ifp] at hp
end Go.Proofs.YtjedcphhajlnoaaDoor
/- Functions: a set and those from which it comes. -/
namespace Go.Proofs.YtjedcphhajlnoaaDoor
open Go.RowKit

noncomputable def lineN (xs : List BSet) : Nat → ByteArray → List ByteArray
  | 0, _ => []
  | n + 1, name => if thereB xs name = true then name :: lineN xs n (xs.getD (lowN xs name) ET.bset.dflt).from_ else []
theorem line_len (xs : List BSet) : ∀ (n : Nat) (name : ByteArray), (lineN xs n name).length ≤ n
  | 0, _ => Nat.le_refl _
  | n + 1, name => by
    unfold lineN
    split
    · have := line_len xs n (xs.getD (lowN xs name) ET.bset.dflt).from_
      simp only [List.length_cons]; omega
    · exact Nat.zero_le _
theorem line_none {xs : List BSet} {name : ByteArray} (h : thereB xs name = false) : ∀ n, lineN xs n name = []
  | 0 => rfl
  | n + 1 => by unfold lineN; rw [if_neg (by rw [h]; decide)]
/-- The way up from a name ends in so many rounds. -/
def Ends (xs : List BSet) (m : Nat) (name : ByteArray) : Prop := thereB xs name = true → leadsN xs m (xs.getD (lowN xs name) ET.bset.dflt) = true
theorem empty_none {xs : List BSet} (h : BookP xs) : thereB xs ⟨#[]⟩ = false := by
  rw [← Bool.not_eq_true]
  intro ht
  obtain ⟨h1, h2⟩ := there_lt ht
  have h3 := (h.each _ h1).name
  rw [h2] at h3
  exact absurd h3 (by decide)
theorem ends_next {xs : List BSet} (h : BookP xs) {m : Nat} {name : ByteArray} (he : Ends xs m name) (ht : thereB xs name = true) : ∃ k, m = k + 1 ∧ Ends xs k (xs.getD (lowN xs name) ET.bset.dflt).from_ := by
  have h1 := he ht
  cases m with
  | zero => simp [leadsN] at h1
  | succ k =>
    refine ⟨k, rfl, fun ht2 => ?_⟩
    unfold leadsN at h1
    by_cases hf : same (xs.getD (lowN xs name) ET.bset.dflt).from_ ⟨#[]⟩ = true
    · rw [same_true.1 hf, empty_none h] at ht2; cases ht2
    · rw [if_neg hf] at h1
      split at h1
      · cases h1
      · have hat := (at_low (book_sorted h) (xs.getD (lowN xs name) ET.bset.dflt).from_).1 ht2
        unfold setOf at h1
        rw [hat] at h1
        exact h1
theorem line_more {xs : List BSet} (h : BookP xs) : ∀ (m : Nat) (name : ByteArray), Ends xs m name → lineN xs (m + 1) name = lineN xs m name
  | m, name, he => by
    cases ht : thereB xs name with
    | false => rw [line_none ht, line_none ht]
    | true =>
      obtain ⟨k, rfl, h2⟩ := ends_next h he ht
      have ih := line_more h k _ h2
      show (if thereB xs name = true then name :: lineN xs (k + 1) _ else []) = (if thereB xs name = true then name :: lineN xs k _ else [])
      rw [if_pos ht, if_pos ht, ih]
theorem ends_first {xs : List BSet} (h : BookP xs) (name : ByteArray) : Ends xs xs.length name := fun ht => by
  obtain ⟨h1, -⟩ := there_lt ht
  have h2 := h.leads
  rw [List.any_eq_false] at h2
  have h3 := h2 (xs.getD (lowN xs name) ET.bset.dflt) (by simp [h1])
  simpa using h3
noncomputable def treeLine (xs : List BSet) (name : ByteArray) : List ByteArray := if bookB xs = true then lineN xs xs.length name else []
theorem treeLine_len (xs : List BSet) (name : ByteArray) : (treeLine xs name).length ≤ xs.length := by
  unfold treeLine
  split
  · exact line_len xs _ name
  · exact Nat.zero_le _
@[go_sem] noncomputable def ctPlace : Ct := ⟨false, [[some .bset]], fun args os => match args, os with
  | [.agg [.isl .bset xs], .one (.val (.string name))], [] => ifp (xs.length ≤ 4000000 ∧ Sorted xs) (.tup [vi (lowN xs name), vb (thereB xs name)])
  | _, _ => no⟩
theorem s_place_e : EnterOk Tryd.prog 20 := ⟨_, Tryd.func20, rfl, by decide⟩
@[go_sem] def s_place_lv : List (List Nat) := [[1, 2], [4, 5]]
@[go_sem] noncomputable def s_place_K : Known := ((Known.nil).cons 50 ctSearch s_search s_search_e).cons 51 ctPlace1 s_place1 s_place1_e
set_option maxHeartbeats 8000000 in
theorem s_place : Sound Tryd.prog 20 ctPlace := by
  have ke := s_place_K.env []
  have kl : Lives s_place_lv := trivial
  refine sound_intro (E := ⟨ti, s_place_K.Γ, []⟩) ke Tryd.func20 Tryd.ntmps20 rfl (rs := [.tmp 4, .tmp 5]) rfl ?_
  intro args os hp
  unfold ctPlace at hp ⊢
  dsimp only at hp ⊢
  split at hp
  · rename_i xs name
    refine ⟨by simp, fun φ0 w0 => ?_⟩
    obtain ⟨hlen, hso⟩ : xs.length ≤ 4000000 ∧ Sorted xs := hp
    refine goh trivial ?_
    exact finh [] trivial
  · simp [no, ifp] at hp
@[go_sem] noncomputable def ctTreeLine : Ct := ⟨false, [[some .bset]], fun args os => match args, os with
  | [.agg [.isl .bset xs], .one (.val (.string name))], [] => ⟨xs.length ≤ 4000000 ∧ ∀ i : Nat, (xs.getD i ET.bset.dflt).name.size ≤ 9223372036854775807, .one (.osl .str 0 0 (treeLine xs name).length), [], [.arr .str (treeLine xs name)]⟩
  | _, _ => no⟩
@[go_sem] noncomputable def sgTl (xs : List BSet) (name : ByteArray) (ys : List ByteArray) : Sg := ⟨[(1, vs name), (2, .one (.ptr 0 0)), (5, .one (.osl .str 1 0 ys.length))], [some (.cells [.isl .bset xs]), some (.arr .str ys)], []⟩
theorem s_treeLine_e : EnterOk Tryd.prog 6 := ⟨_, Tryd.func6, rfl, by decide⟩
@[go_sem] def s_treeLine_lv : List (List Nat) := [[1, 2], [1, 2, 10], [4], [1, 2, 5], [1, 2, 5, 6, 7], [1, 2, 5, 6, 18], [4], [2, 5, 6], [1, 2, 5]]
@[go_sem] noncomputable def s_treeLine_K : Known := ((Known.nil).cons 19 ctBookOk s_bookOk s_bookOk_e).cons 20 ctPlace s_place s_place_e
set_option maxHeartbeats 8000000 in
theorem s_treeLine : Sound Tryd.prog 6 ctTreeLine := by
  have ke := s_treeLine_K.env []
  have kl : Lives s_treeLine_lv := trivial
  refine sound_intro (E := ⟨ti, s_treeLine_K.Γ, []⟩) ke Tryd.func6 Tryd.ntmps6 rfl (rs := [.tmp 4]) rfl ?_
  intro args os hp
  unfold ctTreeLine at hp ⊢
  dsimp only at hp ⊢
  split at hp
  · rename_i xs name0
    refine ⟨by simp, fun φ0 w0 => ?_⟩
    obtain ⟨hlen, hsz⟩ : xs.length ≤ 4000000 ∧ ∀ i : Nat, (xs.getD i ET.bset.dflt).name.size ≤ 9223372036854775807 := hp
    refine goh trivial ?_
    refine W_cond _ (by exact rfl) (by exact trivial) ?_ ?_ <;> intro hc
    · have e : treeLine xs name0 = [] := by unfold treeLine; rw [if_neg (by simpa using hc)]
      refine goh trivial ?_
      exact finh [none] e
    · have hb : bookB xs = true := by simpa using hc
      have hB := bookB_true.1 hb
      have hso := book_sorted hB
      have et : treeLine xs name0 = lineN xs xs.length name0 := by unfold treeLine; rw [if_pos hb]
      refine goh trivial ?_
      refine W_le (σ' := sgTl xs name0 []) [some 0, none] (by
        simp only [go_sem, inj_r, ↓reduceIte, reduceCtorEq, Nat.reduceAdd, Nat.reduceLT, Nat.reduceLeDiff, Nat.reduceEqDiff, Int.reduceEq]
        all_goals (repeat' refine And.intro ?_ ?_) <;> try exact shut7
        ) ?_
      refine W_loop (fun q σ => ∃ (m : Nat) (name : ByteArray) (ys : List ByteArray), q = m ∧ ys.length + m = xs.length ∧ Ends xs m name ∧ ys ++ lineN xs m name = treeLine xs name0 ∧ σ = sgTl xs name ys) xs.length ⟨xs.length, name0, [], rfl, by simp, ends_first hB name0, by rw [et]; rfl, rfl⟩ ?_
      rintro q σ ⟨m, name, ys, rfl, hl, he, hy, rfl⟩
      unfold sgTl
      refine goh trivial ?_
      refine W_cond _ (by exact rfl) (by exact trivial) ?_ ?_ <;> intro ht
      · have ht2 : thereB xs name = false := by simpa using ht
        rw [line_none ht2, List.append_nil] at hy
        refine goh trivial ?_
        exact finh [some 1] hy
      · have ht2 : thereB xs name = true := by simpa using ht
        obtain ⟨k, rfl, he2⟩ := ends_next hB he ht2
        have hlow := (there_lt ht2).1
        have hy2 : (ys ++ [name]) ++ lineN xs k (xs.getD (lowN xs name) ET.bset.dflt).from_ = treeLine xs name0 := by
          rw [← hy]
          conv => rhs; unfold lineN
          rw [if_pos ht2, List.append_assoc]; rfl
        refine goh trivial ?_
        refine ⟨k, [some 0, some 3], sgTl xs (xs.getD (lowN xs name) ET.bset.dflt).from_ (ys ++ [name]), by omega, ?_, k, _, _, rfl, by rw [List.length_append, List.length_singleton]; omega, he2, hy2, rfl⟩
        exact leh trivial
  · simp [no] at hp
@[go_sem] noncomputable def sgSl (xs : List BSet) (name : ByteArray) (ys : List ByteArray) (i : Nat) : Sg := ⟨[(1, vs name), (2, .one (.ptr 0 0)), (5, .one (.osl .str 1 0 ys.length)), (6, vi i)], [some (.cells [.isl .bset xs]), some (.arr .str ys)], []⟩
theorem s_specTreeLine_e : EnterOk Tryd.prog 9 := ⟨_, Tryd.func9, rfl, by decide⟩
@[go_sem] def s_specTreeLine_lv : List (List Nat) := [[1, 2], [1, 2, 5], [1, 2, 5, 6], [1, 2, 5, 6, 18], [1, 2, 5, 6], [1, 2, 5, 6, 7, 8], [1, 2, 5, 6, 7, 28], [4], [2, 5, 6, 7], [1, 2, 5, 6], [4]]
@[go_sem] noncomputable def s_specTreeLine_K : Known := ((Known.nil).cons 12 ctBookOk s_specBookOk s_specBookOk_e).cons 22 ctAt s_l4At s_l4At_e
set_option maxHeartbeats 8000000 in
theorem s_specTreeLine : Sound Tryd.prog 9 ctTreeLine := by
  have ke := s_specTreeLine_K.env []
  have kl : Lives s_specTreeLine_lv := trivial
  refine sound_intro (E := ⟨ti, s_specTreeLine_K.Γ, []⟩) ke Tryd.func9 Tryd.ntmps9 rfl (rs := [.tmp 4]) rfl ?_
  intro args os hp
  unfold ctTreeLine at hp ⊢
  dsimp only at hp ⊢
  split at hp
  · rename_i xs name0
    refine ⟨by simp, fun φ0 w0 => ?_⟩
    obtain ⟨hlen, hsz⟩ : xs.length ≤ 4000000 ∧ ∀ i : Nat, (xs.getD i ET.bset.dflt).name.size ≤ 9223372036854775807 := hp
    refine goh trivial ?_
    refine W_le (σ' := sgSl xs name0 [] 0) [some 0, some 1] (by
      simp only [go_sem, inj_r, ↓reduceIte, reduceCtorEq, Nat.reduceAdd, Nat.reduceLT, Nat.reduceLeDiff, Nat.reduceEqDiff, Int.reduceEq]
      all_goals (repeat' refine And.intro ?_ ?_) <;> try exact shut7
      ) ?_
    cases hb : bookB xs with
    | false =>
      have e : treeLine xs name0 = [] := by unfold treeLine; rw [if_neg (by rw [hb]; decide)]
      refine W_loop (fun q σ => q = 0 ∧ σ = sgSl xs name0 [] 0) 0 ⟨rfl, rfl⟩ ?_
      rintro q σ ⟨rfl, rfl⟩
      unfold sgSl
      refine goh hb ?_
      refine W_cnd ?_ ?_ <;> intro hlit <;> try (cases hlit; done)
      refine goh trivial ?_
      exact finh [some 1] e
    | true =>
      have hB := bookB_true.1 hb
      have et : treeLine xs name0 = lineN xs (xs.length + 1) name0 := by unfold treeLine; rw [if_pos hb, line_more hB _ _ (ends_first hB name0)]
      refine W_loop (fun q σ => ∃ (i : Nat) (name : ByteArray) (ys : List ByteArray), q = xs.length + 1 - i ∧ i ≤ xs.length + 1 ∧ ys.length = i ∧ ys ++ lineN xs (xs.length + 1 - i) name = treeLine xs name0 ∧ σ = sgSl xs name ys i) (xs.length + 1) ⟨0, name0, [], rfl, by omega, rfl, by rw [et]; rfl, rfl⟩ ?_
      rintro q σ ⟨i, name, ys, rfl, hi, hl, hy, rfl⟩
      unfold sgSl
      refine goh hb ?_
      refine W_cnd ?_ ?_ <;> (try simp only [cnd_r]) <;> intro hlt
      · obtain ⟨k, hk⟩ : ∃ k, xs.length + 1 - i = k + 1 := ⟨xs.length - i, by omega⟩
        rw [hk] at hy
        refine goh trivial ?_
        refine W_cond _ (by exact rfl) (by exact trivial) ?_ ?_ <;> intro ht
        · have ht2 : thereB xs name = false := by simpa using ht
          rw [line_none ht2, List.append_nil] at hy
          refine goh trivial ?_
          refine ⟨by (simp only [go_sem, ← hy, ↓reduceIte, reduceCtorEq, Nat.reduceAdd, Nat.reduceLT, Nat.reduceLeDiff, Nat.reduceEqDiff]) <;> trivial, [some 1], ?_⟩
          all_goals try simp only [go_sem, ← hy, inj_r, ↓reduceIte, reduceCtorEq, Nat.reduceAdd, Nat.reduceLT, Nat.reduceLeDiff, Nat.reduceEqDiff, Int.reduceEq]
          all_goals (repeat' refine And.intro ?_ ?_) <;> try exact shut7
        · have ht2 : thereB xs name = true := by simpa using ht
          have hlow := (there_lt ht2).1
          have hy2 : (ys ++ [name]) ++ lineN xs k (xs.getD (lowN xs name) ET.bset.dflt).from_ = treeLine xs name0 := by
            rw [← hy]
            conv => rhs; unfold lineN
            rw [if_pos ht2, List.append_assoc]; rfl
          refine goh trivial ?_
          refine ⟨xs.length + 1 - (i + 1), [some 0, some 3], sgSl xs (xs.getD (lowN xs name) ET.bset.dflt).from_ (ys ++ [name]) (i + 1), by omega, ?_, i + 1, _, _, rfl, by omega, by rw [List.length_append, List.length_singleton, hl], by rw [show xs.length + 1 - (i + 1) = k by omega]; exact hy2, rfl⟩
          exact leh trivial
      · have h0 : xs.length + 1 - i = 0 := by omega
        rw [h0] at hy
        have hy2 : ys = treeLine xs name0 := by rw [← hy]; exact (List.append_nil _).symm
        refine goh trivial ?_
        refine ⟨by (simp only [go_sem, ← hy2, ↓reduceIte, reduceCtorEq, Nat.reduceAdd, Nat.reduceLT, Nat.reduceLeDiff, Nat.reduceEqDiff]) <;> trivial, [some 1], ?_⟩
        all_goals try simp only [go_sem, ← hy2, inj_r, ↓reduceIte, reduceCtorEq, Nat.reduceAdd, Nat.reduceLT, Nat.reduceLeDiff, Nat.reduceEqDiff, Int.reduceEq]
        all_goals (repeat' refine And.intro ?_ ?_) <;> try exact shut7
  · simp [no] at hp
end Go.Proofs.YtjedcphhajlnoaaDoor
/- Plain facts: what lies under a set. -/
namespace Go.Proofs.YtjedcphhajlnoaaDoor
open Go.RowKit

/-- All that comes from a set, and then itself: n deep. -/
noncomputable def underN (xs : List BSet) : Nat → ByteArray → List ByteArray
  | 0, _ => []
  | n + 1, name => (kidsOf xs name).flatMap (underN xs n) ++ [name]
/-- Less than n deep lies under a name. -/
def Hgt (xs : List BSet) : Nat → ByteArray → Prop
  | 0, _ => False
  | n + 1, name => ∀ k ∈ kidsOf xs name, Hgt xs n k
theorem flm_congr {α β : Type} {f g : α → List β} : ∀ {l : List α}, (∀ a ∈ l, f a = g a) → l.flatMap f = l.flatMap g
  | [], _ => rfl
  | a :: l, h => by
    rw [List.flatMap_cons, List.flatMap_cons, h a (by simp), flm_congr fun b hb => h b (by simp [hb])]
theorem under_more (xs : List BSet) : ∀ (n j : Nat) (name : ByteArray), Hgt xs n name → underN xs (n + j) name = underN xs n name
  | 0, _, _, h => h.elim
  | n + 1, j, name, h => by
    rw [show n + 1 + j = (n + j) + 1 by omega]
    show (kidsOf xs name).flatMap (underN xs (n + j)) ++ [name] = (kidsOf xs name).flatMap (underN xs n) ++ [name]
    rw [flm_congr fun k hk => under_more xs n j k (h k hk)]
theorem hgt_more (xs : List BSet) : ∀ (n j : Nat) (name : ByteArray), Hgt xs n name → Hgt xs (n + j) name
  | 0, _, _, h => h.elim
  | n + 1, j, name, h => by
    rw [show n + 1 + j = (n + j) + 1 by omega]
    exact fun k hk => hgt_more xs n j k (h k hk)
theorem kids_mem {xs : List BSet} {name k : ByteArray} (h : k ∈ kidsOf xs name) : ∃ j, j < xs.length ∧ (xs.getD j ET.bset.dflt).name = k ∧ (xs.getD j ET.bset.dflt).from_ = name := by
  unfold kidsOf at h
  rw [List.mem_map] at h
  obtain ⟨s, hs, rfl⟩ := h
  rw [List.mem_filter, same_true] at hs
  obtain ⟨hs, hf⟩ := hs
  obtain ⟨j, hj, rfl⟩ := List.getElem_of_mem hs
  have e : xs.getD j ET.bset.dflt = xs[j] := by simp [hj]
  exact ⟨j, hj, by rw [e], by rw [e]; exact hf⟩
theorem there_mem {xs : List BSet} (h : BookP xs) {j : Nat} (hj : j < xs.length) : lowN xs (xs.getD j ET.bset.dflt).name = j ∧ thereB xs (xs.getD j ET.bset.dflt).name = true := by
  have hso := book_sorted h
  have e : lowN xs (xs.getD j ET.bset.dflt).name = j := lowN_eq (by omega) (fun i hi => by
    have := hso.lt i (j - i - 1) (by omega)
    rwa [show i + (j - i - 1) + 1 = j by omega] at this) (.inr (less_irrefl _))
  refine ⟨e, ?_⟩
  unfold thereB
  rw [e, Bool.and_eq_true, decide_eq_true_eq, same_true]
  exact ⟨hj, rfl⟩
theorem hgt_of {xs : List BSet} (h : BookP xs) : ∀ (n : Nat) (name : ByteArray), xs.length < n + (lineN xs xs.length name).length → Hgt xs n name
  | 0, name, hd => by
    have := line_len xs xs.length name
    omega
  | n + 1, name, hd => fun k hk => by
    obtain ⟨j, hj, h1, h2⟩ := kids_mem hk
    obtain ⟨l1, l2⟩ := there_mem h hj
    rw [h1] at l1 l2
    obtain ⟨m, hm, he⟩ := ends_next h (ends_first h k) l2
    rw [l1, h2] at he
    have e1 : lineN xs xs.length k = k :: lineN xs m name := by
      rw [hm]
      show (if thereB xs k = true then k :: lineN xs m (xs.getD (lowN xs k) ET.bset.dflt).from_ else []) = _
      rw [if_pos l2, l1, h2]
    have e2 : lineN xs xs.length name = lineN xs m name := by rw [hm]; exact line_more h m name he
    refine hgt_of h n k ?_
    rw [e1, List.length_cons, ← e2]
    omega
theorem hgt_there {xs : List BSet} (h : BookP xs) {name : ByteArray} (ht : thereB xs name = true) : Hgt xs xs.length name := by
  refine hgt_of h _ _ ?_
  obtain ⟨k, hk, -⟩ := ends_next h (ends_first h name) ht
  have e1 : lineN xs xs.length name = name :: lineN xs k (xs.getD (lowN xs name) ET.bset.dflt).from_ := by
    rw [hk]
    show (if thereB xs name = true then _ else []) = _
    rw [if_pos ht]
  rw [e1, List.length_cons]; omega
def bnd : Nat → Nat
  | 0 => 0
  | n + 1 => 6 * bnd n + 1
theorem flm_len {α β : Type} {f : α → List β} {b : Nat} : ∀ {l : List α}, (∀ a ∈ l, (f a).length ≤ b) → (l.flatMap f).length ≤ l.length * b
  | [], _ => by simp
  | a :: l, h => by
    have h1 := h a (by simp)
    have h2 := flm_len (l := l) fun c hc => h c (by simp [hc])
    rw [List.flatMap_cons, List.length_append, List.length_cons, Nat.add_mul, Nat.one_mul]
    omega
theorem under_len {xs : List BSet} (h : xs.length ≤ 6) : ∀ (n : Nat) (name : ByteArray), (underN xs n name).length ≤ bnd n
  | 0, _ => Nat.le_refl _
  | n + 1, name => by
    have h1 := flm_len (l := kidsOf xs name) fun k _ => under_len h n k
    have h2 := kids_len xs name
    have h3 : (kidsOf xs name).length * bnd n ≤ 6 * bnd n := Nat.mul_le_mul_right _ (by omega)
    show ((kidsOf xs name).flatMap (underN xs n) ++ [name]).length ≤ 6 * bnd n + 1
    rw [List.length_append, List.length_singleton]; omega
theorem bnd_le : ∀ n, n ≤ 7 → bnd n ≤ 60000
  | 0, _ => by decide
  | 1, _ => by decide
  | 2, _ => by decide
  | 3, _ => by decide
  | 4, _ => by decide
  | 5, _ => by decide
  | 6, _ => by decide
  | 7, _ => by decide
  | n + 8, h => by omega
theorem flm_take {α β : Type} (f : α → List β) (l : List α) (i : Nat) (d : α) (h : i < l.length) : (l.take (i + 1)).flatMap f = (l.take i).flatMap f ++ f (l.getD i d) := by
  have e : l.getD i d = l[i] := by simp [h]
  rw [e, List.take_add_one, List.getElem?_eq_getElem h, List.flatMap_append]
  simp
end Go.Proofs.YtjedcphhajlnoaaDoor
/- Functions: all that comes from a set. -/
namespace Go.Proofs.YtjedcphhajlnoaaDoor
open Go.RowKit

@[go_sem] noncomputable def ctUnder (n : Nat) : Ct := ⟨false, [[some .bset]], fun args os => match args, os with
  | [.agg [.isl .bset xs], .one (.val (.string name))], [] => ⟨n ≤ 7 ∧ xs.length ≤ 6 ∧ Hgt xs n name, .one (.osl .str 0 0 (underN xs n name).length), [], [.arr .str (underN xs n name)]⟩
  | _, _ => no⟩
@[go_sem] noncomputable def sgUn (xs : List BSet) (name : ByteArray) (ys ks : List ByteArray) (i : Nat) : Sg := ⟨[(1, vs name), (2, .one (.ptr 0 0)), (5, .one (.osl .str 1 0 ys.length)), (10, .one (.osl .str 2 0 ks.length)), (11, vi ks.length), (12, vi i)], [some (.cells [.isl .bset xs]), some (.arr .str ys), some (.arr .str ks)], []⟩
theorem s_under_e : EnterOk Tryd.prog 21 := ⟨_, Tryd.func21, rfl, by decide⟩
@[go_sem] def s_under_lv : List (List Nat) := [[1, 2], [1, 2, 5], [1, 2, 5, 10, 11, 12], [1, 2, 5, 10, 11, 12, 13], [1, 2, 5, 7, 10, 11, 12], [1, 2, 5, 10, 11, 12], [1, 2, 5, 10, 11, 12], [4]]
@[go_sem] noncomputable def s_under_K (n : Nat) (ih : Sound Tryd.prog 21 (ctUnder n)) : Known := ((Known.nil).cons 24 ctKids s_kids s_kids_e).cons 21 (ctUnder n) ih s_under_e
set_option maxHeartbeats 8000000 in
theorem s_under_step (n : Nat) (ih : Sound Tryd.prog 21 (ctUnder n)) : Sound Tryd.prog 21 (ctUnder (n + 1)) := by
  have ke := (s_under_K n ih).env []
  have kl : Lives s_under_lv := trivial
  refine sound_intro (E := ⟨ti, (s_under_K n ih).Γ, []⟩) ke Tryd.func21 Tryd.ntmps21 rfl (rs := [.tmp 4]) rfl ?_
  intro args os hp
  unfold ctUnder at hp ⊢
  dsimp only at hp ⊢
  split at hp
  · rename_i xs name
    refine ⟨by simp, fun φ0 w0 => ?_⟩
    obtain ⟨hn7, hlen, hh⟩ : n + 1 ≤ 7 ∧ xs.length ≤ 6 ∧ Hgt xs (n + 1) name := hp
    have hb := bnd_le n (by omega)
    obtain ⟨ks, hks⟩ : ∃ ks, kidsOf xs name = ks := ⟨_, rfl⟩
    have hkl := kids_len xs name
    rw [hks] at hkl
    have hub : ∀ k, (underN xs n k).length ≤ 60000 := fun k => by have := under_len hlen n k; omega
    have hh2 : ∀ k ∈ ks, Hgt xs n k := fun k hk => hh k (by rw [hks]; exact hk)
    have et : underN xs (n + 1) name = ks.flatMap (underN xs n) ++ [name] := by rw [← hks]; rfl
    refine goh hks ?_
    refine W_le (σ' := sgUn xs name [] ks 0) [some 0, none, some 1] (by
      simp only [go_sem, inj_r, ↓reduceIte, reduceCtorEq, Nat.reduceAdd, Nat.reduceLT, Nat.reduceLeDiff, Nat.reduceEqDiff, Int.reduceEq]
      all_goals (repeat' refine And.intro ?_ ?_) <;> try exact shut7
      ) ?_
    refine W_loop (fun q σ => ∃ (i : Nat) (ys : List ByteArray), i ≤ ks.length ∧ q = ks.length - i ∧ ys = (ks.take i).flatMap (underN xs n) ∧ ys.length ≤ i * 60000 ∧ σ = sgUn xs name ys ks i) ks.length ⟨0, [], by omega, by omega, rfl, by simp, rfl⟩ ?_
    rintro q σ ⟨i, ys, hi, rfl, hy, hyl, rfl⟩
    unfold sgUn
    refine goh trivial ?_
    refine W_cnd ?_ ?_ <;> (try simp only [cnd_r]) <;> intro hlt
    · have hf := flm_take (underN xs n) ks i ET.str.dflt (by omega)
      rw [← hy] at hf
      have hu := hub (ks.getD i ET.str.dflt)
      have hg := hh2 (ks.getD i ET.str.dflt) (by simp [show i < ks.length by omega])
      refine goh trivial ?_
      refine ⟨ks.length - (i + 1), [some 0, some 4, some 2], sgUn xs name (ys ++ underN xs n (ks.getD i ET.str.dflt)) ks (i + 1), by omega, ?_, i + 1, _, by omega, rfl, hf.symm, by rw [List.length_append]; omega, rfl⟩
      exact leh trivial
    · rw [List.take_of_length_le (by omega)] at hy
      rw [← hy] at et
      refine goh trivial ?_
      exact finh [some 4] et
  · simp [no] at hp
theorem s_under_all : ∀ n, Sound Tryd.prog 21 (ctUnder n)
  | 0 => by
    intro args os hp
    exfalso
    unfold ctUnder at hp
    dsimp only at hp
    split at hp
    · exact hp.2.2
    · exact hp
  | n + 1 => s_under_step n (s_under_all n)
theorem s_under7 : Sound Tryd.prog 21 (ctUnder 7) := s_under_all 7
theorem s_under7_e : EnterOk Tryd.prog 21 := s_under_e
theorem kid_name {xs : List BSet} (h : BookP xs) {name k : ByteArray} (hk : k ∈ kidsOf xs name) : same k ⟨#[]⟩ = false := by
  obtain ⟨j, hj, h1, -⟩ := kids_mem hk
  have h2 := (h.each j hj).name
  rw [h1] at h2
  rw [same_false]
  rintro rfl
  exact absurd h2 (by decide)
@[go_sem] noncomputable def ctL15 (n : Nat) : Ct := ⟨false, [[some .bset]], fun args os => match args, os with
  | [.agg [.isl .bset xs], .one (.val (.string name)), .one (.val (.int .i64 deep))], [] => ⟨(deep + 1 = n ∧ 0 ≤ deep ∧ n ≤ 7) ∧ (xs.length ≤ 6 ∧ bookB xs = true ∧ same name ⟨#[]⟩ = false) ∧ ∀ i : Nat, (xs.getD i ET.bset.dflt).name.size ≤ 9223372036854775807, .one (.osl .str 0 0 (underN xs n name).length), [], [.arr .str (underN xs n name)]⟩
  | _, _ => no⟩
@[go_sem] noncomputable def sgL15 (xs : List BSet) (name : ByteArray) (deep : Int) (ys ks : List ByteArray) (i : Nat) : Sg := ⟨[(1, vs name), (2, vi deep), (3, .one (.ptr 0 0)), (7, .one (.osl .str 1 0 ys.length)), (8, .one (.osl .str 2 0 ks.length)), (9, vi i)], [some (.cells [.isl .bset xs]), some (.arr .str ys), some (.arr .str ks)], []⟩
theorem s_l15_e : EnterOk Tryd.prog 23 := ⟨_, Tryd.func23, rfl, by decide⟩
@[go_sem] def s_l15_lv : List (List Nat) := [[1, 2, 3], [1, 2, 3, 7], [1, 2, 3, 7, 8], [1, 2, 3, 7, 8, 9], [1, 2, 3, 7, 8, 9, 21], [1, 2, 3, 7, 8, 9], [1, 2, 3, 7, 8, 9], [6]]
@[go_sem] noncomputable def s_l15_K (n : Nat) (ih : Sound Tryd.prog 23 (ctL15 n)) : Known := ((Known.nil).cons 53 ctTreeKids s_specTreeKids s_specTreeKids_e).cons 23 (ctL15 n) ih s_l15_e
set_option maxHeartbeats 8000000 in
theorem s_l15_step (n : Nat) (ih : Sound Tryd.prog 23 (ctL15 n)) : Sound Tryd.prog 23 (ctL15 (n + 1)) := by
  have ke := (s_l15_K n ih).env []
  have kl : Lives s_l15_lv := trivial
  refine sound_intro (E := ⟨ti, (s_l15_K n ih).Γ, []⟩) ke Tryd.func23 Tryd.ntmps23 rfl (rs := [.tmp 6]) rfl ?_
  intro args os hp
  unfold ctL15 at hp ⊢
  dsimp only at hp ⊢
  split at hp
  · rename_i xs name deep
    refine ⟨by simp, fun φ0 w0 => ?_⟩
    obtain ⟨⟨hdeep, -, hn7⟩, ⟨hlen, hbk, hnm⟩, hsz⟩ : (deep + 1 = (n + 1 : Nat) ∧ 0 ≤ deep ∧ n + 1 ≤ 7) ∧ (xs.length ≤ 6 ∧ bookB xs = true ∧ same name ⟨#[]⟩ = false) ∧ ∀ i : Nat, (xs.getD i ET.bset.dflt).name.size ≤ 9223372036854775807 := hp
    have hB := bookB_true.1 hbk
    obtain rfl : deep = (n : Int) := by omega
    have hb := bnd_le n (by omega)
    have htk : treeKids xs name = kidsOf xs name := by unfold treeKids; rw [if_pos ⟨hbk, hnm⟩]
    obtain ⟨ks, hks⟩ : ∃ ks, kidsOf xs name = ks := ⟨_, rfl⟩
    have hkl := kids_len xs name
    rw [hks] at hkl htk
    have hub : ∀ k, (underN xs n k).length ≤ 60000 := fun k => by have := under_len hlen n k; omega
    have hkn : ∀ k ∈ ks, same k ⟨#[]⟩ = false := fun k hk => kid_name hB (by rw [hks]; exact hk)
    have et : underN xs (n + 1) name = ks.flatMap (underN xs n) ++ [name] := by rw [← hks]; rfl
    refine goh htk ?_
    refine W_le (σ' := sgL15 xs name n [] ks 0) [some 0, some 1, some 2] (by
      simp only [go_sem, inj_r, ↓reduceIte, reduceCtorEq, Nat.reduceAdd, Nat.reduceLT, Nat.reduceLeDiff, Nat.reduceEqDiff, Int.reduceEq]
      all_goals (repeat' refine And.intro ?_ ?_) <;> try exact shut7
      ) ?_
    rcases Nat.eq_zero_or_pos n with hz | hz
    · have hdp : decide ((n : Int) > 0) = false := by rw [decide_eq_false_iff_not]; omega
      have et2 : underN xs (n + 1) name = [] ++ [name] := by
        rw [et]
        congr 1
        have : ∀ l : List ByteArray, l.flatMap (underN xs n) = [] := fun l => by
          rw [hz]
          induction l with
          | nil => rfl
          | cons a l ih => rw [List.flatMap_cons, ih]; rfl
        exact this ks
      refine W_loop (fun q σ => q = 0 ∧ σ = sgL15 xs name n [] ks 0) 0 ⟨rfl, rfl⟩ ?_
      rintro q σ ⟨rfl, rfl⟩
      unfold sgL15
      refine goh hdp ?_
      refine W_cnd ?_ ?_ <;> (try simp only [cnd_r]) <;> intro hlt
      · exact absurd hlt.2 (by decide)
      · refine goh trivial ?_
        exact finh [some 4] et2
    · have hdp : decide ((n : Int) > 0) = true := by rw [decide_eq_true_eq]; omega
      have hw : IntKind.i64.wrap ((n : Int) - 1) = (n : Int) - 1 := wrap_id _ (by omega) (by omega)
      refine W_loop (fun q σ => ∃ (i : Nat) (ys : List ByteArray), i ≤ ks.length ∧ q = ks.length - i ∧ ys = (ks.take i).flatMap (underN xs n) ∧ ys.length ≤ i * 60000 ∧ σ = sgL15 xs name n ys ks i) ks.length ⟨0, [], by omega, by omega, rfl, by simp, rfl⟩ ?_
      rintro q σ ⟨i, ys, hi, rfl, hy, hyl, rfl⟩
      unfold sgL15
      refine goh hdp ?_
      refine W_cnd ?_ ?_ <;> (try simp only [cnd_r]) <;> intro hlt
      · have hf := flm_take (underN xs n) ks i ET.str.dflt (by omega)
        rw [← hy] at hf
        have hu := hub (ks.getD i ET.str.dflt)
        have hg := hkn (ks.getD i ET.str.dflt) (by simp [show i < ks.length by omega])
        refine goh hw ?_
        refine ⟨ks.length - (i + 1), [some 0, some 4, some 2], sgL15 xs name n (ys ++ underN xs n (ks.getD i ET.str.dflt)) ks (i + 1), by omega, ?_, i + 1, _, by omega, rfl, hf.symm, by rw [List.length_append]; omega, rfl⟩
        exact leh trivial
      · rw [List.take_of_length_le (by omega)] at hy
        rw [← hy] at et
        refine goh trivial ?_
        exact finh [some 4] et
  · simp [no] at hp
theorem s_l15_all : ∀ n, Sound Tryd.prog 23 (ctL15 n)
  | 0 => by
    intro args os hp
    exfalso
    unfold ctL15 at hp
    dsimp only at hp
    split at hp
    · rename_i xs name deep
      obtain ⟨⟨h, h1, -⟩, -⟩ := hp
      have h : deep + 1 = ((0 : Nat) : Int) := h
      omega
    · exact hp
  | n + 1 => s_l15_step n (s_l15_all n)
@[go_sem] noncomputable def ctL15t : Ct := ⟨false, [[some .bset]], fun args os => match args, os with
  | [.agg [.isl .bset xs], .one (.val (.string name)), .one (.val (.int .i64 deep))], [] => ⟨(deep = xs.length) ∧ (xs.length ≤ 6 ∧ bookB xs = true ∧ same name ⟨#[]⟩ = false) ∧ ∀ i : Nat, (xs.getD i ET.bset.dflt).name.size ≤ 9223372036854775807, .one (.osl .str 0 0 (underN xs (xs.length + 1) name).length), [], [.arr .str (underN xs (xs.length + 1) name)]⟩
  | _, _ => no⟩
theorem s_l15t : Sound Tryd.prog 23 ctL15t := by
  intro args os hp
  unfold ctL15t at hp ⊢
  dsimp only at hp ⊢
  split at hp
  · rename_i xs name deep
    obtain ⟨h1, h2, h3⟩ := hp
    have h4 := h2.1
    exact s_l15_all (xs.length + 1) _ [] ⟨⟨by omega, by omega, by omega⟩, h2, h3⟩
  · simp [no] at hp
theorem s_l15t_e : EnterOk Tryd.prog 23 := s_l15_e
end Go.Proofs.YtjedcphhajlnoaaDoor
/- Functions: TreeUnder and TreeAll. -/
namespace Go.Proofs.YtjedcphhajlnoaaDoor
open Go.RowKit

noncomputable def treeUnder (xs : List BSet) (name : ByteArray) : List ByteArray := if bookB xs = true ∧ thereB xs name = true then underN xs 7 name else []
theorem under_seven {xs : List BSet} (h : BookP xs) {name : ByteArray} (ht : thereB xs name = true) : Hgt xs 7 name := by
  have := hgt_more xs _ (7 - xs.length) name (hgt_there h ht)
  have hl := h.few
  rwa [show xs.length + (7 - xs.length) = 7 by omega] at this
theorem under_succ {xs : List BSet} (h : BookP xs) {name : ByteArray} (ht : thereB xs name = true) : underN xs (xs.length + 1) name = underN xs 7 name := by
  have hl := h.few
  have h1 := under_more xs _ 1 name (hgt_there h ht)
  have h2 := under_more xs _ (7 - xs.length) name (hgt_there h ht)
  rw [show xs.length + (7 - xs.length) = 7 by omega] at h2
  rw [h1, h2]
theorem treeUnder_len (xs : List BSet) (name : ByteArray) : (treeUnder xs name).length ≤ 60000 := by
  unfold treeUnder
  split
  · rename_i h
    have := under_len (bookB_true.1 h.1).few 7 name
    have := bnd_le 7 (by omega)
    omega
  · exact Nat.zero_le _
theorem there_name {xs : List BSet} (h : BookP xs) {name : ByteArray} (ht : thereB xs name = true) : same name ⟨#[]⟩ = false := by
  rw [same_false]
  rintro rfl
  unfold thereB at ht
  rw [Bool.and_eq_true, decide_eq_true_eq, same_true] at ht
  have h2 := (h.each _ ht.1).name
  rw [ht.2] at h2
  exact absurd h2 (by decide)
@[go_sem] noncomputable def ctTreeUnder : Ct := ⟨false, [[some .bset]], fun args os => match args, os with
  | [.agg [.isl .bset xs], .one (.val (.string name))], [] => ⟨xs.length ≤ 4000000 ∧ ∀ i : Nat, (xs.getD i ET.bset.dflt).name.size ≤ 9223372036854775807, .one (.osl .str 0 0 (treeUnder xs name).length), [], [.arr .str (treeUnder xs name)]⟩
  | _, _ => no⟩
theorem s_treeUnder_e : EnterOk Tryd.prog 7 := ⟨_, Tryd.func7, rfl, by decide⟩
@[go_sem] def s_treeUnder_lv : List (List Nat) := [[1, 2], [1, 2, 9], [4], [1, 2, 6], [1, 2, 17], [4], [4]]
@[go_sem] noncomputable def s_treeUnder_K : Known := (((Known.nil).cons 19 ctBookOk s_bookOk s_bookOk_e).cons 20 ctPlace s_place s_place_e).cons 21 (ctUnder 7) s_under7 s_under7_e
set_option maxHeartbeats 8000000 in
theorem s_treeUnder : Sound Tryd.prog 7 ctTreeUnder := by
  have ke := s_treeUnder_K.env []
  have kl : Lives s_treeUnder_lv := trivial
  refine sound_intro (E := ⟨ti, s_treeUnder_K.Γ, []⟩) ke Tryd.func7 Tryd.ntmps7 rfl (rs := [.tmp 4]) rfl ?_
  intro args os hp
  unfold ctTreeUnder at hp ⊢
  dsimp only at hp ⊢
  split at hp
  · rename_i xs name
    refine ⟨by simp, fun φ0 w0 => ?_⟩
    obtain ⟨hlen, hsz⟩ : xs.length ≤ 4000000 ∧ ∀ i : Nat, (xs.getD i ET.bset.dflt).name.size ≤ 9223372036854775807 := hp
    refine goh trivial ?_
    refine W_cond _ (by exact rfl) (by exact trivial) ?_ ?_ <;> intro hc
    · have e : treeUnder xs name = [] := by unfold treeUnder; rw [if_neg]; rintro ⟨h1, -⟩; rw [h1] at hc; simp at hc
      refine goh trivial ?_
      exact finh [none] e
    · have hb : bookB xs = true := by simpa using hc
      have hB := bookB_true.1 hb
      have hso := book_sorted hB
      have hfew := hB.few
      refine goh trivial ?_
      refine W_cond _ (by exact rfl) (by exact trivial) ?_ ?_ <;> intro ht
      · have e : treeUnder xs name = [] := by unfold treeUnder; rw [if_neg]; rintro ⟨-, h1⟩; rw [h1] at ht; simp at ht
        refine goh trivial ?_
        exact finh [none] e
      · have ht2 : thereB xs name = true := by simpa using ht
        have e : treeUnder xs name = underN xs 7 name := by unfold treeUnder; rw [if_pos ⟨hb, ht2⟩]
        have h7 := under_seven hB ht2
        refine goh trivial ?_
        exact finh [some 1] e
  · simp [no] at hp
theorem s_specTreeUnder_e : EnterOk Tryd.prog 10 := ⟨_, Tryd.func10, rfl, by decide⟩
@[go_sem] def s_specTreeUnder_lv : List (List Nat) := [[1, 2], [1, 2, 6], [1, 2, 19], [4], [4]]
@[go_sem] noncomputable def s_specTreeUnder_K : Known := (((Known.nil).cons 22 ctAt s_l4At s_l4At_e).cons 12 ctBookOk s_specBookOk s_specBookOk_e).cons 23 ctL15t s_l15t s_l15t_e
set_option maxHeartbeats 8000000 in
theorem s_specTreeUnder : Sound Tryd.prog 10 ctTreeUnder := by
  have ke := s_specTreeUnder_K.env []
  have kl : Lives s_specTreeUnder_lv := trivial
  refine sound_intro (E := ⟨ti, s_specTreeUnder_K.Γ, []⟩) ke Tryd.func10 Tryd.ntmps10 rfl (rs := [.tmp 4]) rfl ?_
  intro args os hp
  unfold ctTreeUnder at hp ⊢
  dsimp only at hp ⊢
  split at hp
  · rename_i xs name
    refine ⟨by simp, fun φ0 w0 => ?_⟩
    obtain ⟨hlen, hsz⟩ : xs.length ≤ 4000000 ∧ ∀ i : Nat, (xs.getD i ET.bset.dflt).name.size ≤ 9223372036854775807 := hp
    refine goh trivial ?_
    refine W_cond _ (by exact rfl) (by exact trivial) ?_ ?_ <;> intro hc
    · have e : treeUnder xs name = [] := by
        unfold treeUnder; rw [if_neg]; rintro ⟨h1, h2⟩; rw [h1, h2] at hc; simp at hc
      refine goh trivial ?_
      exact finh [some 1] e
    · obtain ⟨hb, ht2⟩ : bookB xs = true ∧ thereB xs name = true := by
        cases h1 : bookB xs <;> cases h2 : thereB xs name <;> simp [h1, h2] at hc ⊢
      have hB := bookB_true.1 hb
      have hfew := hB.few
      have hnm := there_name hB ht2
      have e : treeUnder xs name = underN xs (xs.length + 1) name := by unfold treeUnder; rw [if_pos ⟨hb, ht2⟩, under_succ hB ht2]
      refine goh trivial ?_
      exact finh [some 1] e
  · simp [no] at hp
noncomputable def treeAll (xs : List BSet) : List ByteArray := if bookB xs = true then (kidsOf xs ⟨#[]⟩).flatMap (underN xs 7) else []
theorem kid_there {xs : List BSet} (h : BookP xs) {name k : ByteArray} (hk : k ∈ kidsOf xs name) : thereB xs k = true := by
  obtain ⟨j, hj, h1, -⟩ := kids_mem hk
  have := (there_mem h hj).2
  rwa [h1] at this
theorem treeAll_len (xs : List BSet) : (treeAll xs).length ≤ 360000 := by
  unfold treeAll
  split
  · rename_i h
    have hf := (bookB_true.1 h).few
    have h1 := flm_len (l := kidsOf xs ⟨#[]⟩) (f := underN xs 7) (b := 60000) fun k _ => by
      have := under_len hf 7 k
      have := bnd_le 7 (by omega)
      omega
    have h2 := kids_len xs ⟨#[]⟩
    have h3 : (kidsOf xs ⟨#[]⟩).length * 60000 ≤ 6 * 60000 := Nat.mul_le_mul_right _ (by omega)
    omega
  · exact Nat.zero_le _
@[go_sem] noncomputable def ctTreeAll : Ct := ⟨false, [[some .bset]], fun args os => match args, os with
  | [.agg [.isl .bset xs]], [] => ⟨xs.length ≤ 4000000 ∧ ∀ i : Nat, (xs.getD i ET.bset.dflt).name.size ≤ 9223372036854775807, .one (.osl .str 0 0 (treeAll xs).length), [], [.arr .str (treeAll xs)]⟩
  | _, _ => no⟩
@[go_sem] noncomputable def sgTa (xs : List BSet) (ys ks : List ByteArray) (i : Nat) : Sg := ⟨[(1, .one (.ptr 0 0)), (3, .one (.osl .str 1 0 ys.length)), (10, .one (.osl .str 2 0 ks.length)), (11, vi ks.length), (12, vi i)], [some (.cells [.isl .bset xs]), some (.arr .str ys), some (.arr .str ks)], []⟩
@[go_sem] noncomputable def sgTb (xs : List BSet) (ys : List ByteArray) (i : Nat) : Sg := ⟨[(1, .one (.ptr 0 0)), (3, .one (.osl .str 1 0 ys.length)), (4, vi i)], [some (.cells [.isl .bset xs]), some (.arr .str ys)], []⟩
end Go.Proofs.YtjedcphhajlnoaaDoor
