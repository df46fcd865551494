import Derived.LaidMore
import Derived.Lay
import Derived.Lib.LaidTab
import Derived.Test.YtjedcphhajlnoaaDoorM7
import Derived.Test.YtjedcphhajlnoaaDoorM8
import Derived.Test.YtjedcphhajlnoaaDoorM12
set_option linter.unusedSimpArgs false
set_option linter.unusedVariables false
set_option linter.unusedSectionVars false
/- What stands in Go's tables: five of them. -/
namespace Go.Proofs.YtjedcphhajlnoaaDoor
open Go.ChangeShapes Go.WideShapes Go.ChangeAt Go.RowKit

set_option maxRecDepth 100000 in
theorem mapsR5 : mapsRowed Tryd.prog = true := by kernel_rfl
def laid5 : List (String × DataW Unit) := [("math/bits.deBruijn32tab", Rows.laid_math_bits_deBruijn32tab), ("math/bits.deBruijn64tab", Rows.laid_math_bits_deBruijn64tab), ("internal/strconv.uint64pow10", Rows.laid_internal_strconv_uint64pow10), ("unicode/utf8.acceptRanges", Rows.laid_unicode_utf8_acceptRanges), ("unicode/utf8.first", Rows.laid_unicode_utf8_first)]
set_option maxRecDepth 100000 in
/-- A world in which the tables lie. -/
theorem laid5_met (os : Os) (args : Array Value) : laidMetH Tryd.prog laid5 ((World.laidAll Tryd.prog os laid5).forCall (fun _ _ => 0) ⟨#[], args, []⟩).memory := by
  rw [MakeChecks.laidMetH_plain _ _ _ (by kernel_rfl)]
  exact laidMet_laidAll _ (by kernel_rfl) (by kernel_rfl)
set_option maxRecDepth 100000 in
theorem laid5_shaped (os : Os) : World.Shaped Tryd.prog (World.laidAll Tryd.prog os laid5) := World.shaped_of_ZipB (by kernel_rfl) (by kernel_rfl)
theorem laidVars_at {P : Program} {w : World} : ∀ {l : List (String × DataW Unit)} {ps : List MemPlace}, DataW.LaidVars P w l ps → ∀ {n : String} {d : DataW Unit}, (n, d) ∈ l →
    ∃ g t cs fuel p, P.globalNamed n = some g ∧ (P.globals[g]?).map (·.type) = some t ∧ w.var? P n = some cs ∧ DataW.trod (fun _ => ()) P w 0 (fun _ => true) false fuel t cs.toList = some (d, p)
  | [], _, _, n, d, hm => by cases hm
  | (n', d') :: r, ps, h, n, d, hm => by
    obtain ⟨g, t, cs, fuel, p, q, h1, h2, h3, h4, h5, -⟩ := h
    rcases List.mem_cons.1 hm with he | hm
    · cases he
      exact ⟨g, t, cs, fuel, p, h1, h2, h3, h4⟩
    · exact laidVars_at h5 hm
theorem var_heap {P : Program} {w : World} {n : String} {g : Nat} {cs : Array Value} (hg : P.globalNamed n = some g) (h : w.var? P n = some cs) : ∃ e f, w.heap[g]? = some (.cells cs e f) := by
  unfold World.var? at h
  rw [hg, Option.bind_some] at h
  split at h
  · rename_i c e f hc
    cases h
    exact ⟨e, f, hc⟩
  · cases h
set_option maxRecDepth 100000 in
theorem laid5_plain : (laid5.filter fun x => x.2.handleName?.isSome) = [] := by kernel_rfl
set_option maxRecDepth 100000 in
theorem pow10_laid : (Rows.laid_internal_strconv_uint64pow10 : DataW Unit) = Lib.tabData .u64 Lib.pow10Tab := by kernel_rfl
set_option maxRecDepth 100000 in
theorem glo_laid5 {W : World} (h : laidMetH Tryd.prog laid5 W) : GloOk0 W := by
  unfold laidMetH at h
  rw [laid5_plain] at h
  obtain ⟨ps, hv, -, -⟩ := h
  obtain ⟨g, t, cs, fuel, p, h1, h2, h3, h4⟩ := laidVars_at hv (n := "internal/strconv.uint64pow10") (d := Rows.laid_internal_strconv_uint64pow10) (by simp [laid5])
  intro q hq
  unfold gloL at hq
  simp only [List.mem_cons, List.not_mem_nil, or_false] at hq
  subst hq
  have hg : Tryd.prog.globalNamed "internal/strconv.uint64pow10" = some 1 := by kernel_rfl
  obtain rfl := Option.some.inj (hg.symm.trans h1)
  obtain ⟨e, f, h5⟩ := var_heap h1 h3
  refine ⟨cs, e, f, h5, ?_⟩
  rw [pow10_laid] at h4
  have ht : (Tryd.prog.globals[1]?).map (·.type) = some 121 := by kernel_rfl
  obtain rfl := Option.some.inj (ht.symm.trans h2)
  have h6 := Lib.cells_of_tab (n := 20) (e := 106) (by kernel_rfl) (by kernel_rfl) (by kernel_rfl) (by kernel_rfl) h4
  show cs = _
  rw [← h6]
end Go.Proofs.YtjedcphhajlnoaaDoor
/- What stands in Go's tables. -/
namespace Go.Proofs.YtjedcphhajlnoaaDoor
open Go.ChangeShapes Go.WideShapes Go.ChangeAt Go.RowKit

set_option maxRecDepth 100000 in
theorem mapsR : mapsRowed Tryd.prog = true := by kernel_rfl
def laidU : List (String × DataW Unit) := [("unicode/utf8.acceptRanges", Rows.laid_unicode_utf8_acceptRanges), ("unicode/utf8.first", Rows.laid_unicode_utf8_first)]
set_option maxRecDepth 100000 in
/-- A world in which the tables lie. -/
theorem laidU_met (os : Os) (args : Array Value) : laidMetH Tryd.prog laidU ((World.laidAll Tryd.prog os laidU).forCall (fun _ _ => 0) ⟨#[], args, []⟩).memory := by
  rw [MakeChecks.laidMetH_plain _ _ _ (by kernel_rfl)]
  exact laidMet_laidAll _ (by kernel_rfl) (by kernel_rfl)
set_option maxRecDepth 100000 in
theorem laidU_shaped (os : Os) : World.Shaped Tryd.prog (World.laidAll Tryd.prog os laidU) := World.shaped_of_ZipB (by kernel_rfl) (by kernel_rfl)
end Go.Proofs.YtjedcphhajlnoaaDoor
/- What is handed in to an exact law of books, as the walks see it; what stands in Go's tables. -/
namespace Go.Proofs.YtjedcphhajlnoaaDoor
open Go.ChangeShapes Go.WideShapes Go.ChangeAt Go.RowKit

def EK.wide : EK → Bool
  | .int .i64 => true
  | .int _ => false
  | _ => true
theorem eks_kinds : ∀ {ks : List EK} {vs : List Value}, ks.all EK.wide = true → EksOk ks vs → kindsOk (ks.map EK.tk) vs = true
  | [], [], _, _ => rfl
  | [], _ :: _, _, h => h.elim
  | _ :: _, [], _, h => h.elim
  | k :: ks, v :: vs, hw, ⟨h, h2⟩ => by
    rw [List.all_cons, Bool.and_eq_true] at hw
    have ih := eks_kinds hw.2 h2
    cases k with
    | int q =>
      obtain ⟨n, rfl, -⟩ := h
      cases q <;> simp [EK.wide] at hw
      simpa [kindsOk, EK.tk] using ih
    | str => obtain ⟨n, rfl, -⟩ := h; simpa [kindsOk, EK.tk] using ih
    | bool => obtain ⟨n, rfl⟩ := h; simpa [kindsOk, EK.tk] using ih
theorem eks_bset {vs : List Value} (h : EksOk ET.bset.eks vs) : ∃ x, ET.bset.cells x = vs := ⟨_, bset_cells (eks_kinds (by decide) h)⟩
theorem dflt_in : inB1 ET.bset.dflt := ⟨Nat.zero_le _, Nat.zero_le _, ⟨Nat.zero_le _, Nat.zero_le _, Nat.zero_le _, Nat.zero_le _, Nat.zero_le _, Nat.zero_le _, Nat.zero_le _, Nat.zero_le _⟩⟩
theorem str_in {x : ByteArray} (h : EkOk .str (.string x)) : x.size ≤ 9223372036854775807 := by
  obtain ⟨s, hs, h2⟩ := h
  have : x = s := by injection hs
  rw [this]; exact h2
theorem bset_all {xs : List BSet} (h : ∀ i, i < xs.length → EksOk ET.bset.eks (ET.bset.cells (xs.getD i ET.bset.dflt))) (i : Nat) : inB1 (xs.getD i ET.bset.dflt) := by
  rcases Nat.lt_or_ge i xs.length with hi | hi
  · obtain ⟨h1, -, h2, x0, x1, x2, x3, x4, x5, x6, x7, -⟩ := h i hi
    exact ⟨str_in h1, str_in h2, ⟨str_in x0, str_in x1, str_in x2, str_in x3, str_in x4, str_in x5, str_in x6, str_in x7⟩⟩
  · rw [List.getD_eq_getElem?_getD, List.getElem?_eq_none hi]; exact dflt_in
section
variable {H : Type} {enc : TypeId × Value → H} {P : Program} {w : World} {base : Nat} {sp : Nat → Bool} {held : Bool} {t : TypeId} {v : Value} {d : DataW H} {ps : List MemPlace}
theorem arg_book (n : Nat) (hsh : shapeL P n t = some [.sl ET.bset.eks]) (hu : (match P.underlying t with | some (.struct _) => true | some (.array _ _) => true | _ => false) = true) (hv : Value.okWide P w .any base t v) (h : DataW.Trod enc P w 0 sp held t v d ps) :
    ∃ xs, inB xs ∧ VR0 w (.agg [.isl .bset xs]) v := by
  obtain ⟨fuel, hf⟩ := h
  obtain ⟨cs, rfl⟩ := okWide_agg base hu hv
  have hns := value_noSpot hv
  obtain ⟨x, e1, h1⟩ := lks_one (open_l n t _ hsh _ _ _ hf)
  rw [e1] at hns
  have hcs : cs.toList = [x] := by simpa [Value.cells] using e1
  obtain ⟨xs, a1, a2, a3⟩ := sl_open h1 (hns x (by simp)) rfl (by decide) fun vs h => eks_bset h
  refine ⟨xs, ⟨a2, bset_all a3⟩, ?_⟩
  simp only [VR]
  exact ⟨cs, rfl, by rw [hcs]; exact ⟨isSl_R a1, trivial⟩⟩
end
end Go.Proofs.YtjedcphhajlnoaaDoor
