/- For all arguments the law of the last commit, FnExactRiseBest, answers true and leaves its arguments as they were; Go's own tables of utf8 lie as the program's text lays them (the card ties them). -/
import Derived.Test.YtjedcphhajlnoaaGreatDoorTie
import Derived.Test.YtjedcphhajlnoaaGreatDoorCards
import Derived.Test.YtjedcphhajlnoaaGreatDoorM0
import Derived.Test.YtjedcphhajlnoaaGreatDoorM1
import Derived.Test.YtjedcphhajlnoaaGreatDoorM2
import Derived.Test.YtjedcphhajlnoaaGreatDoorM3
import Derived.Test.YtjedcphhajlnoaaGreatDoorM4
import Derived.Test.YtjedcphhajlnoaaGreatDoorM5
import Derived.Test.YtjedcphhajlnoaaGreatDoorM6
import Derived.Test.YtjedcphhajlnoaaGreatDoorM7
import Derived.Test.YtjedcphhajlnoaaGreatDoorM8
import Derived.Test.YtjedcphhajlnoaaGreatDoorM9
import Derived.Test.YtjedcphhajlnoaaGreatDoorM10
import Derived.Test.YtjedcphhajlnoaaGreatDoorM11
import Derived.Test.YtjedcphhajlnoaaGreatDoorM12
import Derived.Test.YtjedcphhajlnoaaGreatDoorM13
import Derived.Test.YtjedcphhajlnoaaGreatDoorM14
import Derived.Test.YtjedcphhajlnoaaGreatDoorM16
import Derived.Test.YtjedcphhajlnoaaGreatDoorM17
set_option linter.unusedSectionVars false
set_option linter.unusedSimpArgs false
set_option linter.unusedVariables false
namespace Go.Proofs.YtjedcphhajlnoaaGreatDoor
open Go.ChangeShapes Go.WideShapes Go.ChangeAt Go.RowKit
set_option maxRecDepth 100000 in
theorem FnExactRiseBest_lifted (os : Os) (started : os.Started) (H : Type) (enc : TypeId × Value → H) :
    ReturnsInHanded {} Tryz.checked os 7 .any (fun w args => (Rows.fnExactRiseBestSpec.pre enc Tryz.prog Tryz.f7 [] false w args ∧ laidMetH Tryz.prog laid7 w) ∧ sizedMet enc Tryz.prog Tryz.f7 (OpenSpec.ofChange Rows.fnExactRiseBestSpec) false w args)
      (Rows.fnExactRiseBestSpec.post enc Tryz.prog Tryz.f7 false true false false) := by
  refine handed_and_shaped (C := Tryz.checked) (X := fun w _ => laidMetH Tryz.prog laid7 w) (fun _ _ _ hh h => h.of_heap hh) own started (by kernel_rfl) Tryz.func7
    (ChangeSpec.witness_shaped (enc := enc) (C := Tryz.checked) (os := os) (X := fun w _ => laidMetH Tryz.prog laid7 w) false (World.laidAll Tryz.prog os laid7) #[.agg #[.slice none 0 0, .slice none 0 0, .slice none 0 0]] 8 rfl (laid7_shaped os) (by kernel_rfl) (by kernel_rfl) (by kernel_rfl) (laid7_met os _)) ?_
  intro W base args ds gs before hval0 hW _ _ hL _
  have hval : ∀ (j : Nat) t v, Tryz.f7.params[j]? = some t → args[j]? = some v → Value.okWide Tryz.prog W .any base t v := hval0
  have hW' := hW
  obtain ⟨p, q, hA0, hV, rfl, hfz, hnd⟩ := hW
  have hA : DataW.TrodAll enc Tryz.prog W 0 (fun _ => true) true Tryz.f7.params.toList args.toList ds p := hA0
  rw [Tryz.params7] at hA hval
  obtain ⟨v0, vs0, d0, ds0, p0, q0, hargs, rfl, rfl, h0, r0⟩ := trodAll_cons hA
  obtain ⟨rfl, rfl, rfl⟩ := trodAll_nil r0
  obtain rfl : args = #[v0] := by cases args; simp_all
  obtain ⟨rfl, rfl⟩ := trodVars_none hV
  have k0 := h0
  have lt0 : ∀ x ∈ p0, x.block < W.heap.size := by obtain ⟨m, hm⟩ := k0; exact DataW.trod_lt m _ _ _ hm
  obtain ⟨a0, b0, l0, i0, r0⟩ := arg_disk (H := H) 6 (by kernel_rfl) (by kernel_rfl) (hval 0 26 v0 rfl rfl) k0
  clear hA0 hval0
  refine (lawN s_xBest (vs := [v0]) (args := [.agg [.isl .str a0, .isl .str b0, .isl .late l0]]) (.inr ⟨_, i0, rfl⟩) (by simp only [VRs]; exact ⟨r0, trivial⟩) (glo_laid7 hL.1 hL.2)).mono fun e W' ⟨he, bel⟩ => ?_
  subst he
  exact ⟨_, rfl, _, _, _, [], _, [], hW', trodAll_mk1 (shut_bool Tryz.underlying4 _), (trodAll_cons_mk (Below.trod laidOut (by kernel_rfl) (of_decide_eq_true (by kernel_rfl)) k0 bel lt0) trodAll_mk0), rfl, bel.frame _, fun h => by cases h⟩
set_option maxRecDepth 100000 in
theorem FnExactRiseBest_j1 : (Rows.fnExactRiseBestRow.inPlace == Tryz.prog.inPlace 7) = true := by kernel_rfl
set_option maxRecDepth 100000 in
theorem FnExactRiseBest_j2 : (Rows.fnExactRiseBestRow.unfollowed == Tryz.prog.unfollowed 7) = true := by kernel_rfl
set_option maxRecDepth 100000 in
theorem FnExactRiseBest_j3 : (Rows.fnExactRiseBestRow.recurses == Tryz.prog.recurses 7) = true := by kernel_rfl
set_option maxRecDepth 100000 in
theorem FnExactRiseBest_j4 : (Rows.fnExactRiseBestRow.named == Tryz.prog.varsNamed 7) = true := by kernel_rfl
set_option maxRecDepth 100000 in
theorem FnExactRiseBest_closed : joinedFacts Tryz.prog 7 Tryz.f7 Rows.fnExactRiseBestSpec Rows.fnExactRiseBestRow = true := by
  unfold joinedFacts
  rw [FnExactRiseBest_j1, FnExactRiseBest_j2, FnExactRiseBest_j3, FnExactRiseBest_j4, laidOut, mapsR7]
  kernel_rfl
theorem FnExactRiseBest_row : Rows.FnExactRiseBestSaid :=
  OpenClaim.holds_of_wide 7 Tryz.f7 rfl rfl rfl rfl rfl rfl rfl ⟨rfl, rfl, rfl, rfl, rfl⟩ rfl rfl rfl rfl rfl (by kernel_rfl) Tryz.func7 FnExactRiseBest_closed
    (of_decide_eq_true (by kernel_rfl)) (by unfold Func.isWrapper; first | (rw [if_pos (by decide +kernel)]; kernel_rfl) | (rw [if_neg (by decide +kernel)]; exact ⟨rfl, rfl⟩))
    (fun os started H enc _ => FnExactRiseBest_lifted os started H enc)
set_option maxRecDepth 100000 in
theorem FnExactRiseBest_c1 : Rows.fnExactRiseBestRow.wfByText (OpenSpec.ofChange Rows.fnExactRiseBestSpec) = true := by kernel_rfl
set_option maxRecDepth 100000 in
theorem FnExactRiseBest_c2 : Tryz.pinned.checked.prog.mainIs = some (Rows.fnExactRiseBestCard.stood.harness.1, Rows.fnExactRiseBestCard.stood.harness.2.toList) := by kernel_rfl
set_option maxRecDepth 100000 in
theorem FnExactRiseBest_c3 : Rows.fnExactRiseBestCard.stood.looks = Tryz.pinned.checked.prog.looks [] := by kernel_rfl
set_option maxRecDepth 100000 in
theorem FnExactRiseBest_c4 : ([26].all fun u => !Tryz.prog.wantsStandIn u) = true := by kernel_rfl
set_option maxRecDepth 100000 in
theorem FnExactRiseBest_c5 : false = Rows.fnExactRiseBestRow.goesBy Tryz.pinned.checked.prog := by kernel_rfl
set_option maxRecDepth 100000 in
theorem FnExactRiseBest_c6 : Tryz.prog.funcNamed Rows.fnExactRiseBestRow.func = some 7 := by kernel_rfl
theorem FnExactRiseBest_holds : Rows.FnExactRiseBestCardSaid :=
  Claim7.holds_tied_plain_at .later [] Rows.fnExactRiseBestCard.laidKinds true Rows.fnExactRiseBestCard.stood.harness Rows.fnExactRiseBestCard.stood.looks
    FnExactRiseBest_row (fun _ h => by cases h) FnExactRiseBest_c1 (fun _ h => by cases h) fnExactRiseBest_row_tie rfl ⟨rfl, rfl⟩ FnExactRiseBest_c2 rfl
    (fun f fn hf hfn => by
      obtain rfl : f = 7 := Option.some.inj (FnExactRiseBest_c6.symm.trans hf) |>.symm
      obtain rfl : fn = Tryz.f7 := (Option.some.inj (Tryz.func7.symm.trans hfn)).symm
      exact ⟨FnExactRiseBest_c3, fun j t ht => by
        rw [Tryz.params7] at ht
        have hm : t ∈ [26] := by simpa using Array.mem_of_getElem? ht
        exact (show Tryz.prog.wantsStandIn t = false by simpa using List.all_eq_true.1 FnExactRiseBest_c4 t hm)⟩)
    FnExactRiseBest_c5
#print axioms FnExactRiseBest_holds
end Go.Proofs.YtjedcphhajlnoaaGreatDoor
