import Derived.LaidMore
import Derived.Lay
import Derived.Lib.LaidTab
import Derived.Test.YtmnbgppmfbnamaaGreatDoorM4
import Derived.Test.YtmnbgppmfbnamaaGreatDoorM6
import Derived.Test.YtmnbgppmfbnamaaGreatDoorM13
import Derived.Test.YtmnbgppmfbnamaaGreatDoorM14
import Derived.Test.YtmnbgppmfbnamaaGreatDoorM24
set_option linter.unusedSimpArgs false
set_option linter.unusedVariables false
set_option linter.unusedSectionVars false
/- What is handed in to an exact law, as the walks see it. -/
namespace Go.Proofs.YtmnbgppmfbnamaaGreatDoor
open Go.ChangeShapes Go.WideShapes Go.ChangeAt Go.RowKit

abbrev VR0 (w : World) (x : TV) (v : Value) : Prop := VR phi0 (tabOf []) w x v
theorem isSl_R {w : World} {t : ET} {v : Value} {xs : List t.α} (h : IsSl w t v xs) : CR phi0 (tabOf []) w (.isl t xs) v := by
  obtain ⟨a, cap, h1, h2, h3, h4, h5⟩ := h
  simp only [CR]
  exact ⟨a, cap, h1, h2, h3, h4, fun hne => by
    obtain ⟨b, o, h6, h7, h8⟩ := h5 hne
    exact ⟨b, o, h6, ⟨h7, not_own0, fun hf => hf⟩, h8⟩⟩
theorem str_all {xs : List ByteArray} (h : ∀ i, i < xs.length → EksOk ET.str.eks (ET.str.cells (xs.getD i ET.str.dflt))) (i : Nat) : (xs.getD i ET.str.dflt).size ≤ 9223372036854775807 := by
  rcases Nat.lt_or_ge i xs.length with hi | hi
  · obtain ⟨⟨s, hs, h2⟩, -⟩ := h i hi
    have : xs.getD i ET.str.dflt = s := by injection hs
    rw [this]; exact h2
  · rw [List.getD_eq_getElem?_getD, List.getElem?_eq_none hi]; exact Nat.zero_le _
theorem late_all {xs : List Late} (h : ∀ i, i < xs.length → EksOk ET.late.eks (ET.late.cells (xs.getD i ET.late.dflt))) (i : Nat) : (xs.getD i ET.late.dflt).text.size ≤ 9223372036854775807 := by
  rcases Nat.lt_or_ge i xs.length with hi | hi
  · obtain ⟨-, -, ⟨s, hs, h2⟩, -⟩ := h i hi
    have : (xs.getD i ET.late.dflt).text = s := by injection hs
    rw [this]; exact h2
  · rw [List.getD_eq_getElem?_getD, List.getElem?_eq_none hi]; exact Nat.zero_le _
section
variable {H : Type} {enc : TypeId × Value → H} {P : Program} {w : World} {base : Nat} {sp : Nat → Bool} {held : Bool} {t : TypeId} {v : Value} {d : DataW H} {ps : List MemPlace}
theorem lks_one {k : LK} {cs : List Value} (h : LksOk w [k] cs) : ∃ x, cs = [x] ∧ LkOk w k x := by
  cases cs with
  | nil => exact h.elim
  | cons x r => cases r with
    | nil => exact ⟨x, rfl, h.1⟩
    | cons y r => exact h.2.elim
theorem lks_cons {k : LK} {ks : List LK} {cs : List Value} (h : LksOk w (k :: ks) cs) : ∃ x r, cs = x :: r ∧ LkOk w k x ∧ LksOk w ks r := by
  cases cs with
  | nil => exact h.elim
  | cons x r => exact ⟨x, r, rfl, h.1, h.2⟩
theorem lks_nil {cs : List Value} (h : LksOk w [] cs) : cs = [] := by
  cases cs with
  | nil => rfl
  | cons x r => exact h.elim
theorem okWide_agg (n : Nat) (hu : (match P.underlying t with | some (.struct _) => true | some (.array _ _) => true | _ => false) = true) (h : Value.okWide P w .any n t v) : ∃ cs, v = .agg cs := by
  unfold Value.okWide at h
  split at h
  · obtain ⟨cs, h1, -⟩ := h; exact ⟨cs, h1⟩
  · obtain ⟨cs, h1, -⟩ := h; exact ⟨cs, h1⟩
  · rename_i h1 h2
    split at hu
    · rename_i fs e; exact (h1 fs e).elim
    · rename_i a b e; exact (h2 a b e).elim
    · cases hu
theorem arg_int (ht : P.underlying t = some (.int .i64)) (hv : Value.okWide P w .any base t v) : ∃ n, VR0 w (.one (.val (.int .i64 n))) v := by
  obtain ⟨n, rfl⟩ := okWide_int ht hv
  exact ⟨n, by simp only [VR, CR]⟩
theorem arg_str (ht : P.underlying t = some .string) (hv : Value.okWide P w .any base t v) (h : DataW.Trod enc P w 0 sp held t v d ps) : ∃ s, s.size ≤ 9223372036854775807 ∧ VR0 w (.one (.val (.string s))) v := by
  obtain ⟨fuel, hf⟩ := h
  obtain ⟨s, hc, -, hs⟩ := DataW.trod_string ht hf
  obtain ⟨u, rfl⟩ := okWide_string ht hv
  simp [Value.cells] at hc
  subst hc
  exact ⟨u, hs, by simp only [VR, CR]⟩
theorem arg_ints (n : Nat) (hsh : shapeL P n t = some [.sl ET.int.eks]) {e : TypeId} (ht : P.underlying t = some (.slice e)) (hv : Value.okWide P w .any base t v) (h : DataW.Trod enc P w 0 sp held t v d ps) : ∃ xs : List Int, xs.length ≤ 9223372036854775807 ∧ VR0 w (.one (.isl .int xs)) v := by
  obtain ⟨fuel, hf⟩ := h
  obtain ⟨a, len, cap, rfl⟩ := okWide_slice ht hv
  obtain ⟨x, hx, h1⟩ := lks_one (open_l n t _ hsh _ _ _ hf)
  have hns := value_noSpot hv
  simp [Value.cells] at hx hns
  subst hx
  obtain ⟨xs, h2, h3, -⟩ := sl_open h1 hns rfl (by decide) fun vs h => eks_int h
  exact ⟨xs, h3, isSl_R h2⟩
theorem arg_disk (n : Nat) (hsh : shapeL P n t = some [.sl ET.str.eks, .sl ET.str.eks, .sl ET.late.eks]) (hu : (match P.underlying t with | some (.struct _) => true | some (.array _ _) => true | _ => false) = true) (hv : Value.okWide P w .any base t v) (h : DataW.Trod enc P w 0 sp held t v d ps) :
    ∃ a b l, (Dk.mk a b l).inn ∧ VR0 w (.agg [.isl .str a, .isl .str b, .isl .late l]) v := by
  obtain ⟨fuel, hf⟩ := h
  obtain ⟨cs, rfl⟩ := okWide_agg base hu hv
  have hns := value_noSpot hv
  have h0 := open_l n t _ hsh _ _ _ hf
  obtain ⟨x, _, e1, h1, h0⟩ := lks_cons h0
  obtain ⟨y, _, rfl, h2, h0⟩ := lks_cons h0
  obtain ⟨z, _, rfl, h3, h0⟩ := lks_cons h0
  obtain rfl := lks_nil h0
  rw [e1] at hns
  have hcs : cs.toList = [x, y, z] := by simpa [Value.cells] using e1
  obtain ⟨a, a1, a2, a3⟩ := sl_open h1 (hns x (by simp)) rfl (by decide) fun vs h => eks_str h
  obtain ⟨b, b1, b2, b3⟩ := sl_open h2 (hns y (by simp)) rfl (by decide) fun vs h => eks_str h
  obtain ⟨l, l1, l2, l3⟩ := sl_open h3 (hns z (by simp)) rfl (by decide) fun vs h => eks_late h
  refine ⟨a, b, l, ⟨⟨a2, str_all a3⟩, ⟨b2, str_all b3⟩, ⟨l2, late_all l3⟩⟩, ?_⟩
  simp only [VR]
  exact ⟨cs, rfl, by rw [hcs]; exact ⟨isSl_R a1, isSl_R b1, isSl_R l1, trivial⟩⟩
theorem arg_ptr (n : Nat) (hsh : shapeL P n t = some [.e (.int .i64), .e (.int .i64), .e (.int .i64)]) (hu : (match P.underlying t with | some (.struct _) => true | some (.array _ _) => true | _ => false) = true) (hv : Value.okWide P w .any base t v) (h : DataW.Trod enc P w 0 sp held t v d ps) :
    ∃ a b c, VR0 w (.agg [.val (.int .i64 a), .val (.int .i64 b), .val (.int .i64 c)]) v := by
  obtain ⟨fuel, hf⟩ := h
  obtain ⟨cs, rfl⟩ := okWide_agg base hu hv
  have h0 := open_l n t _ hsh _ _ _ hf
  obtain ⟨_, _, e1, ⟨a, rfl, -⟩, h1⟩ := lks_cons h0
  obtain ⟨_, _, rfl, ⟨b, rfl, -⟩, h2⟩ := lks_cons h1
  obtain ⟨_, _, rfl, ⟨c, rfl, -⟩, h3⟩ := lks_cons h2
  obtain rfl := lks_nil h3
  have hcs : cs.toList = [.int .i64 a, .int .i64 b, .int .i64 c] := by simpa [Value.cells] using e1
  refine ⟨a, b, c, ?_⟩
  simp only [VR]
  exact ⟨cs, rfl, by rw [hcs]; exact ⟨rfl, rfl, rfl, trivial⟩⟩
end
/-- What a contract says that hands over nothing: the answer, and that all is as it was. -/
theorem lawN {f : FuncId} {ct : Ct} (h : Sound Tryz.prog f ct) {w : World} {vs : List Value} {args : List TV} (hs : ct.spec args [] = ifp True (vb true) ∨ ∃ p, p ∧ ct.spec args [] = ifp p (vb true)) (hr : VRs phi0 (tabOf []) w args vs) (hg : GloOk0 w) :
    Calls Tryz.prog f vs.toArray w fun e w' => e = .returned (.bool true) ∧ Below w.heap.size w w' := by
  have hpre : (ct.spec args []).pre ∧ (ct.spec args []).v = vb true := by
    rcases hs with hs | ⟨p, hp, hs⟩
    · rw [hs]; exact ⟨trivial, rfl⟩
    · rw [hs]; exact ⟨hp, rfl⟩
  refine (h args [] hpre.1 phi0 w vs (rel0 w hg) hr fun _ _ => rfl).mono ?_
  rintro e w' hp
  obtain ⟨r, φ', rfl, hv, hbl⟩ := post_below hp
  rw [hpre.2] at hv
  simp only [vb, VR, CR] at hv
  subst hv
  exact ⟨rfl, hbl⟩
end Go.Proofs.YtmnbgppmfbnamaaGreatDoor
/- What stands in Go's tables: five of them. -/
namespace Go.Proofs.YtmnbgppmfbnamaaGreatDoor
open Go.ChangeShapes Go.WideShapes Go.ChangeAt Go.RowKit

set_option maxRecDepth 100000 in
theorem mapsR5 : mapsRowed Tryz.prog = true := by kernel_rfl
def laid5 : List (String × DataW Unit) := [("math/bits.deBruijn32tab", Rows.laid_math_bits_deBruijn32tab), ("math/bits.deBruijn64tab", Rows.laid_math_bits_deBruijn64tab), ("internal/strconv.uint64pow10", Rows.laid_internal_strconv_uint64pow10), ("unicode/utf8.acceptRanges", Rows.laid_unicode_utf8_acceptRanges), ("unicode/utf8.first", Rows.laid_unicode_utf8_first)]
set_option maxRecDepth 100000 in
/-- A world in which the tables lie. -/
theorem laid5_met (os : Os) (args : Array Value) : laidMetH Tryz.prog laid5 ((World.laidAll Tryz.prog os laid5).forCall (fun _ _ => 0) ⟨#[], args, []⟩).memory := by
  rw [MakeChecks.laidMetH_plain _ _ _ (by kernel_rfl)]
  exact laidMet_laidAll _ (by kernel_rfl) (by kernel_rfl)
set_option maxRecDepth 100000 in
theorem laid5_shaped (os : Os) : World.Shaped Tryz.prog (World.laidAll Tryz.prog os laid5) := World.shaped_of_ZipB (by kernel_rfl) (by kernel_rfl)
theorem laidVars_at {P : Program} {w : World} : ∀ {l : List (String × DataW Unit)} {ps : List MemPlace}, DataW.LaidVars P w l ps → ∀ {n : String} {d : DataW Unit}, (n, d) ∈ l →
    ∃ g t cs fuel p, P.globalNamed n = some g ∧ (P.globals[g]?).map (·.type) = some t ∧ w.var? P n = some cs ∧ DataW.trod (fun _ => ()) P w 0 (fun _ => true) false fuel t cs.toList = some (d, p)
  | [], _, _, n, d, hm => by cases hm
  | (n', d') :: r, ps, h, n, d, hm => by
    obtain ⟨g, t, cs, fuel, p, q, h1, h2, h3, h4, h5, -⟩ := h
    rcases List.mem_cons.1 hm with he | hm
    · cases he
      exact ⟨g, t, cs, fuel, p, h1, h2, h3, h4⟩
    · exact laidVars_at h5 hm
theorem var_heap {P : Program} {w : World} {n : String} {g : Nat} {cs : Array Value} (hg : P.globalNamed n = some g) (h : w.var? P n = some cs) : ∃ e f, w.heap[g]? = some (.cells cs e f) := by
  unfold World.var? at h
  rw [hg, Option.bind_some] at h
  split at h
  · rename_i c e f hc
    cases h
    exact ⟨e, f, hc⟩
  · cases h
set_option maxRecDepth 100000 in
theorem laid5_plain : (laid5.filter fun x => x.2.handleName?.isSome) = [] := by kernel_rfl
set_option maxRecDepth 100000 in
theorem pow10_laid : (Rows.laid_internal_strconv_uint64pow10 : DataW Unit) = Lib.tabData .u64 Lib.pow10Tab := by kernel_rfl
set_option maxRecDepth 100000 in
theorem glo_laid5 {W : World} (h : laidMetH Tryz.prog laid5 W) : GloOk0 W := by
  unfold laidMetH at h
  rw [laid5_plain] at h
  obtain ⟨ps, hv, -, -⟩ := h
  obtain ⟨g, t, cs, fuel, p, h1, h2, h3, h4⟩ := laidVars_at hv (n := "internal/strconv.uint64pow10") (d := Rows.laid_internal_strconv_uint64pow10) (by simp [laid5])
  intro q hq
  unfold gloL at hq
  simp only [List.mem_cons, List.not_mem_nil, or_false] at hq
  subst hq
  have hg : Tryz.prog.globalNamed "internal/strconv.uint64pow10" = some 3 := by kernel_rfl
  obtain rfl := Option.some.inj (hg.symm.trans h1)
  obtain ⟨e, f, h5⟩ := var_heap h1 h3
  refine ⟨cs, e, f, h5, ?_⟩
  rw [pow10_laid] at h4
  have ht : (Tryz.prog.globals[3]?).map (·.type) = some 304 := by kernel_rfl
  obtain rfl := Option.some.inj (ht.symm.trans h2)
  have h6 := Lib.cells_of_tab (n := 20) (e := 273) (by kernel_rfl) (by kernel_rfl) (by kernel_rfl) (by kernel_rfl) h4
  show cs = _
  rw [← h6]
end Go.Proofs.YtmnbgppmfbnamaaGreatDoor
/- What is handed in to an exact law of pools, as the walks see it. -/
namespace Go.Proofs.YtmnbgppmfbnamaaGreatDoor
open Go.ChangeShapes Go.WideShapes Go.ChangeAt Go.RowKit

def EK.wide : EK → Bool
  | .int .i64 => true
  | .int _ => false
  | _ => true
theorem eks_kinds : ∀ {ks : List EK} {vs : List Value}, ks.all EK.wide = true → EksOk ks vs → kindsOk (ks.map EK.tk) vs = true
  | [], [], _, _ => rfl
  | [], _ :: _, _, h => h.elim
  | _ :: _, [], _, h => h.elim
  | k :: ks, v :: vs, hw, ⟨h, h2⟩ => by
    rw [List.all_cons, Bool.and_eq_true] at hw
    have ih := eks_kinds hw.2 h2
    cases k with
    | int q =>
      obtain ⟨n, rfl, -⟩ := h
      cases q <;> simp [EK.wide] at hw
      simpa [kindsOk, EK.tk] using ih
    | str => obtain ⟨n, rfl, -⟩ := h; simpa [kindsOk, EK.tk] using ih
    | bool => obtain ⟨n, rfl⟩ := h; simpa [kindsOk, EK.tk] using ih
theorem eks_cset {vs : List Value} (h : EksOk ET.cset.eks vs) : ∃ x, ET.cset.cells x = vs := ⟨_, cset_cells (eks_kinds (by decide) h)⟩
theorem eks_ent {vs : List Value} (h : EksOk ET.ent.eks vs) : ∃ x, ET.ent.cells x = vs := by
  obtain ⟨_, _, rfl, ⟨a, rfl, _⟩, h1⟩ := eks_cons h
  obtain ⟨_, _, rfl, ⟨b, rfl, _⟩, h2⟩ := eks_cons h1
  obtain ⟨_, _, rfl, ⟨c, rfl, _⟩, h3⟩ := eks_cons h2
  obtain rfl := eks_nil h3
  exact ⟨⟨a, b, c⟩, rfl⟩
theorem cset_all {xs : List CSet} (h : ∀ i, i < xs.length → EksOk ET.cset.eks (ET.cset.cells (xs.getD i ET.cset.dflt))) (i : Nat) : (xs.getD i ET.cset.dflt).name.size ≤ 9223372036854775807 ∧ (xs.getD i ET.cset.dflt).from_.size ≤ 9223372036854775807 := by
  rcases Nat.lt_or_ge i xs.length with hi | hi
  · obtain ⟨⟨s, hs, h2⟩, -, ⟨f, hf, hf2⟩, -⟩ := h i hi
    have e1 : (xs.getD i ET.cset.dflt).name = s := by injection hs
    have e2 : (xs.getD i ET.cset.dflt).from_ = f := by injection hf
    rw [e1, e2]; exact ⟨h2, hf2⟩
  · rw [List.getD_eq_getElem?_getD, List.getElem?_eq_none hi]; exact ⟨Nat.zero_le _, Nat.zero_le _⟩
section
variable {H : Type} {enc : TypeId × Value → H} {P : Program} {w : World} {base : Nat} {sp : Nat → Bool} {held : Bool} {t : TypeId} {v : Value} {d : DataW H} {ps : List MemPlace}
theorem arg_pool (n : Nat) (hsh : shapeL P n t = some [.sl ET.str.eks, .sl ET.str.eks, .sl ET.late.eks, .e (.int .i64), .sl ET.cset.eks, .sl ET.ent.eks, .sl ET.ptr.eks, .e .bool, .sl ET.int.eks, .e (.int .i64), .e .bool]) (hu : (match P.underlying t with | some (.struct _) => true | some (.array _ _) => true | _ => false) = true) (hv : Value.okWide P w .any base t v) (h : DataW.Trod enc P w 0 sp held t v d ps) :
    ∃ a b l x cs es ps' y zs u o, (Pl.mk ⟨a, b, l⟩ ⟨x, cs, es, ps', y, zs, u⟩ o).inn ∧ VR0 w (.agg [.isl .str a, .isl .str b, .isl .late l, .val (.int .i64 x), .isl .cset cs, .isl .ent es, .isl .ptr ps', .val (.bool y), .isl .int zs, .val (.int .i64 u), .val (.bool o)]) v := by
  obtain ⟨fuel, hf⟩ := h
  obtain ⟨vs, rfl⟩ := okWide_agg base hu hv
  have hns := value_noSpot hv
  have h0 := open_l n t _ hsh _ _ _ hf
  obtain ⟨v1, _, e1, h1, g1⟩ := lks_cons h0
  obtain ⟨v2, _, rfl, h2, g2⟩ := lks_cons g1
  obtain ⟨v3, _, rfl, h3, g3⟩ := lks_cons g2
  obtain ⟨_, _, rfl, ⟨x, rfl, -⟩, g4⟩ := lks_cons g3
  obtain ⟨v5, _, rfl, h5, g5⟩ := lks_cons g4
  obtain ⟨v6, _, rfl, h6, g6⟩ := lks_cons g5
  obtain ⟨v7, _, rfl, h7, g7⟩ := lks_cons g6
  obtain ⟨_, _, rfl, ⟨y, rfl⟩, g8⟩ := lks_cons g7
  obtain ⟨v9, _, rfl, h9, g9⟩ := lks_cons g8
  obtain ⟨_, _, rfl, ⟨u, rfl, -⟩, g10⟩ := lks_cons g9
  obtain ⟨_, _, rfl, ⟨o, rfl⟩, g11⟩ := lks_cons g10
  obtain rfl := lks_nil g11
  rw [e1] at hns
  have hcs : vs.toList = [v1, v2, v3, .int .i64 x, v5, v6, v7, .bool y, v9, .int .i64 u, .bool o] := by simpa [Value.cells] using e1
  obtain ⟨a, a1, a2, a3⟩ := sl_open h1 (hns v1 (by simp)) rfl (by decide) fun vs h => eks_str h
  obtain ⟨b, b1, b2, b3⟩ := sl_open h2 (hns v2 (by simp)) rfl (by decide) fun vs h => eks_str h
  obtain ⟨l, l1, l2, l3⟩ := sl_open h3 (hns v3 (by simp)) rfl (by decide) fun vs h => eks_late h
  obtain ⟨cs, c1, c2, c3⟩ := sl_open h5 (hns v5 (by simp)) rfl (by decide) fun vs h => eks_cset h
  obtain ⟨es, s1, s2, -⟩ := sl_open h6 (hns v6 (by simp)) rfl (by decide) fun vs h => eks_ent h
  obtain ⟨qs, p1, p2, -⟩ := sl_open h7 (hns v7 (by simp)) rfl (by decide) fun vs h => eks_ptr h
  obtain ⟨zs, z1, z2, -⟩ := sl_open h9 (hns v9 (by simp)) rfl (by decide) fun vs h => eks_int h
  refine ⟨a, b, l, x, cs, es, qs, y, zs, u, o, ⟨⟨⟨a2, str_all a3⟩, ⟨b2, str_all b3⟩, ⟨l2, late_all l3⟩⟩, ⟨⟨c2, cset_all c3⟩, s2, p2, z2⟩⟩, ?_⟩
  simp only [VR]
  exact ⟨vs, rfl, by rw [hcs]; exact ⟨isSl_R a1, isSl_R b1, isSl_R l1, rfl, isSl_R c1, isSl_R s1, isSl_R p1, rfl, isSl_R z1, rfl, rfl, trivial⟩⟩
end
end Go.Proofs.YtmnbgppmfbnamaaGreatDoor
