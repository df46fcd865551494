import Derived.Test.YtjedcphhajlnoaaGreatDoorM14
import Derived.Test.YtjedcphhajlnoaaGreatDoorM16
set_option linter.unusedSimpArgs false
set_option linter.unusedVariables false
set_option linter.unusedSectionVars false
/- What is handed in to an exact law of pools, as the walks see it. -/
namespace Go.Proofs.YtjedcphhajlnoaaGreatDoor
open Go.ChangeShapes Go.WideShapes Go.ChangeAt Go.RowKit

def EK.wide : EK → Bool
  | .int .i64 => true
  | .int _ => false
  | _ => true
theorem eks_kinds : ∀ {ks : List EK} {vs : List Value}, ks.all EK.wide = true → EksOk ks vs → kindsOk (ks.map EK.tk) vs = true
  | [], [], _, _ => rfl
  | [], _ :: _, _, h => h.elim
  | _ :: _, [], _, h => h.elim
  | k :: ks, v :: vs, hw, ⟨h, h2⟩ => by
    rw [List.all_cons, Bool.and_eq_true] at hw
    have ih := eks_kinds hw.2 h2
    cases k with
    | int q =>
      obtain ⟨n, rfl, -⟩ := h
      cases q <;> simp [EK.wide] at hw
      simpa [kindsOk, EK.tk] using ih
    | str => obtain ⟨n, rfl, -⟩ := h; simpa [kindsOk, EK.tk] using ih
    | bool => obtain ⟨n, rfl⟩ := h; simpa [kindsOk, EK.tk] using ih
theorem eks_cset {vs : List Value} (h : EksOk ET.cset.eks vs) : ∃ x, ET.cset.cells x = vs := ⟨_, cset_cells (eks_kinds (by decide) h)⟩
theorem eks_ent {vs : List Value} (h : EksOk ET.ent.eks vs) : ∃ x, ET.ent.cells x = vs := by
  obtain ⟨_, _, rfl, ⟨a, rfl, _⟩, h1⟩ := eks_cons h
  obtain ⟨_, _, rfl, ⟨b, rfl, _⟩, h2⟩ := eks_cons h1
  obtain ⟨_, _, rfl, ⟨c, rfl, _⟩, h3⟩ := eks_cons h2
  obtain rfl := eks_nil h3
  exact ⟨⟨a, b, c⟩, rfl⟩
theorem cset_all {xs : List CSet} (h : ∀ i, i < xs.length → EksOk ET.cset.eks (ET.cset.cells (xs.getD i ET.cset.dflt))) (i : Nat) : (xs.getD i ET.cset.dflt).name.size ≤ 9223372036854775807 ∧ (xs.getD i ET.cset.dflt).from_.size ≤ 9223372036854775807 := by
  rcases Nat.lt_or_ge i xs.length with hi | hi
  · obtain ⟨⟨s, hs, h2⟩, -, ⟨f, hf, hf2⟩, -⟩ := h i hi
    have e1 : (xs.getD i ET.cset.dflt).name = s := by injection hs
    have e2 : (xs.getD i ET.cset.dflt).from_ = f := by injection hf
    rw [e1, e2]; exact ⟨h2, hf2⟩
  · rw [List.getD_eq_getElem?_getD, List.getElem?_eq_none hi]; exact ⟨Nat.zero_le _, Nat.zero_le _⟩
section
variable {H : Type} {enc : TypeId × Value → H} {P : Program} {w : World} {base : Nat} {sp : Nat → Bool} {held : Bool} {t : TypeId} {v : Value} {d : DataW H} {ps : List MemPlace}
theorem arg_pool (n : Nat) (hsh : shapeL P n t = some [.sl ET.str.eks, .sl ET.str.eks, .sl ET.late.eks, .e (.int .i64), .sl ET.cset.eks, .sl ET.ent.eks, .sl ET.ptr.eks, .e .bool, .sl ET.int.eks, .e (.int .i64), .e .bool]) (hu : (match P.underlying t with | some (.struct _) => true | some (.array _ _) => true | _ => false) = true) (hv : Value.okWide P w .any base t v) (h : DataW.Trod enc P w 0 sp held t v d ps) :
    ∃ a b l x cs es ps' y zs u o, (Pl.mk ⟨a, b, l⟩ ⟨x, cs, es, ps', y, zs, u⟩ o).inn ∧ VR0 w (.agg [.isl .str a, .isl .str b, .isl .late l, .val (.int .i64 x), .isl .cset cs, .isl .ent es, .isl .ptr ps', .val (.bool y), .isl .int zs, .val (.int .i64 u), .val (.bool o)]) v := by
  obtain ⟨fuel, hf⟩ := h
  obtain ⟨vs, rfl⟩ := okWide_agg base hu hv
  have hns := value_noSpot hv
  have h0 := open_l n t _ hsh _ _ _ hf
  obtain ⟨v1, _, e1, h1, g1⟩ := lks_cons h0
  obtain ⟨v2, _, rfl, h2, g2⟩ := lks_cons g1
  obtain ⟨v3, _, rfl, h3, g3⟩ := lks_cons g2
  obtain ⟨_, _, rfl, ⟨x, rfl, -⟩, g4⟩ := lks_cons g3
  obtain ⟨v5, _, rfl, h5, g5⟩ := lks_cons g4
  obtain ⟨v6, _, rfl, h6, g6⟩ := lks_cons g5
  obtain ⟨v7, _, rfl, h7, g7⟩ := lks_cons g6
  obtain ⟨_, _, rfl, ⟨y, rfl⟩, g8⟩ := lks_cons g7
  obtain ⟨v9, _, rfl, h9, g9⟩ := lks_cons g8
  obtain ⟨_, _, rfl, ⟨u, rfl, -⟩, g10⟩ := lks_cons g9
  obtain ⟨_, _, rfl, ⟨o, rfl⟩, g11⟩ := lks_cons g10
  obtain rfl := lks_nil g11
  rw [e1] at hns
  have hcs : vs.toList = [v1, v2, v3, .int .i64 x, v5, v6, v7, .bool y, v9, .int .i64 u, .bool o] := by simpa [Value.cells] using e1
  obtain ⟨a, a1, a2, a3⟩ := sl_open h1 (hns v1 (by simp)) rfl (by decide) fun vs h => eks_str h
  obtain ⟨b, b1, b2, b3⟩ := sl_open h2 (hns v2 (by simp)) rfl (by decide) fun vs h => eks_str h
  obtain ⟨l, l1, l2, l3⟩ := sl_open h3 (hns v3 (by simp)) rfl (by decide) fun vs h => eks_late h
  obtain ⟨cs, c1, c2, c3⟩ := sl_open h5 (hns v5 (by simp)) rfl (by decide) fun vs h => eks_cset h
  obtain ⟨es, s1, s2, -⟩ := sl_open h6 (hns v6 (by simp)) rfl (by decide) fun vs h => eks_ent h
  obtain ⟨qs, p1, p2, -⟩ := sl_open h7 (hns v7 (by simp)) rfl (by decide) fun vs h => eks_ptr h
  obtain ⟨zs, z1, z2, -⟩ := sl_open h9 (hns v9 (by simp)) rfl (by decide) fun vs h => eks_int h
  refine ⟨a, b, l, x, cs, es, qs, y, zs, u, o, ⟨⟨⟨a2, str_all a3⟩, ⟨b2, str_all b3⟩, ⟨l2, late_all l3⟩⟩, ⟨⟨c2, cset_all c3⟩, s2, p2, z2⟩⟩, ?_⟩
  simp only [VR]
  exact ⟨vs, rfl, by rw [hcs]; exact ⟨isSl_R a1, isSl_R b1, isSl_R l1, rfl, isSl_R c1, isSl_R s1, isSl_R p1, rfl, isSl_R z1, rfl, rfl, trivial⟩⟩
end
end Go.Proofs.YtjedcphhajlnoaaGreatDoor
