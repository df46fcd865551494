/- For all arguments the law of LogFind answers true and leaves its arguments as they were; Go's own tables of utf8 lie as the program's text lays them (the card ties them). -/
import Derived.Test.YtmnbgppmfbnamaaGreatDoorTie
import Derived.Test.YtmnbgppmfbnamaaGreatDoorCards
import Derived.Test.YtmnbgppmfbnamaaGreatDoorM0
import Derived.Test.YtmnbgppmfbnamaaGreatDoorM1
import Derived.Test.YtmnbgppmfbnamaaGreatDoorM2
import Derived.Test.YtmnbgppmfbnamaaGreatDoorM3
import Derived.Test.YtmnbgppmfbnamaaGreatDoorM4
import Derived.Test.YtmnbgppmfbnamaaGreatDoorM5
import Derived.Test.YtmnbgppmfbnamaaGreatDoorM6
import Derived.Test.YtmnbgppmfbnamaaGreatDoorM7
import Derived.Test.YtmnbgppmfbnamaaGreatDoorM8
import Derived.Test.YtmnbgppmfbnamaaGreatDoorM9
import Derived.Test.YtmnbgppmfbnamaaGreatDoorM10
import Derived.Test.YtmnbgppmfbnamaaGreatDoorM11
import Derived.Test.YtmnbgppmfbnamaaGreatDoorM12
import Derived.Test.YtmnbgppmfbnamaaGreatDoorM13
import Derived.Test.YtmnbgppmfbnamaaGreatDoorM14
import Derived.Test.YtmnbgppmfbnamaaGreatDoorM15
import Derived.Test.YtmnbgppmfbnamaaGreatDoorM16
import Derived.Test.YtmnbgppmfbnamaaGreatDoorM17
import Derived.Test.YtmnbgppmfbnamaaGreatDoorM18
import Derived.Test.YtmnbgppmfbnamaaGreatDoorM19
import Derived.Test.YtmnbgppmfbnamaaGreatDoorM20
import Derived.Test.YtmnbgppmfbnamaaGreatDoorM21
import Derived.Test.YtmnbgppmfbnamaaGreatDoorM22
set_option linter.unusedSectionVars false
set_option linter.unusedSimpArgs false
set_option linter.unusedVariables false
namespace Go.Proofs.YtmnbgppmfbnamaaGreatDoor
open Go.ChangeShapes Go.WideShapes Go.ChangeAt Go.RowKit
set_option maxRecDepth 100000 in
theorem FnExactLogFind_lifted (os : Os) (started : os.Started) (H : Type) (enc : TypeId × Value → H) :
    ReturnsInHanded {} Tryz.checked os 4 .any (fun w args => (Rows.fnExactLogFindSpec.pre enc Tryz.prog Tryz.f4 [] false w args ∧ laidMetH Tryz.prog laid7 w) ∧ sizedMet enc Tryz.prog Tryz.f4 (OpenSpec.ofChange Rows.fnExactLogFindSpec) false w args)
      (Rows.fnExactLogFindSpec.post enc Tryz.prog Tryz.f4 false true false false) := by
  refine handed_and_shaped (C := Tryz.checked) (X := fun w _ => laidMetH Tryz.prog laid7 w) (fun _ _ _ hh h => h.of_heap hh) own started (by kernel_rfl) Tryz.func4
    (ChangeSpec.witness_shaped (enc := enc) (C := Tryz.checked) (os := os) (X := fun w _ => laidMetH Tryz.prog laid7 w) false (World.laidAll Tryz.prog os laid7) #[.agg #[.slice none 0 0, .slice none 0 0, .slice none 0 0], .int .i64 0] 8 rfl (laid7_shaped os) (by kernel_rfl) (by kernel_rfl) (by kernel_rfl) (laid7_met os _)) ?_
  intro W base args ds gs before hval0 hW _ _ hL _
  have hval : ∀ (j : Nat) t v, Tryz.f4.params[j]? = some t → args[j]? = some v → Value.okWide Tryz.prog W .any base t v := hval0
  have hW' := hW
  obtain ⟨p, q, hA0, hV, rfl, hfz, hnd⟩ := hW
  have hA : DataW.TrodAll enc Tryz.prog W 0 (fun _ => true) true Tryz.f4.params.toList args.toList ds p := hA0
  rw [Tryz.params4] at hA hval
  obtain ⟨v0, vs0, d0, ds0, p0, q0, hargs, rfl, rfl, h0, r0⟩ := trodAll_cons hA
  obtain ⟨v1, vs1, d1, ds1, p1, q1, rfl, rfl, rfl, h1, r1⟩ := trodAll_cons r0
  obtain ⟨rfl, rfl, rfl⟩ := trodAll_nil r1
  obtain rfl : args = #[v0, v1] := by cases args; simp_all
  obtain ⟨rfl, rfl⟩ := trodVars_none hV
  have k0 := h0
  have lt0 : ∀ x ∈ p0, x.block < W.heap.size := by obtain ⟨m, hm⟩ := k0; exact DataW.trod_lt m _ _ _ hm
  obtain ⟨a0, b0, l0, i0, r0⟩ := arg_disk (H := H) 6 (by kernel_rfl) (by kernel_rfl) (hval 0 46 v0 rfl rfl) k0
  have k1 := h1
  have lt1 : ∀ x ∈ p1, x.block < W.heap.size := by obtain ⟨m, hm⟩ := k1; exact DataW.trod_lt m _ _ _ hm
  obtain ⟨n1, r1⟩ := arg_int Tryz.underlying3 (hval 1 3 v1 rfl rfl)
  clear hA0 hval0
  refine (lawN s_xLogFind (vs := [v0, v1]) (args := [.agg [.isl .str a0, .isl .str b0, .isl .late l0], .one (.val (.int .i64 n1))]) (.inr ⟨_, i0, rfl⟩) (by simp only [VRs]; exact ⟨r0, r1, trivial⟩) (glo_laid7 hL.1 hL.2)).mono fun e W' ⟨he, bel⟩ => ?_
  subst he
  exact ⟨_, rfl, _, _, _, [], _, [], hW', trodAll_mk1 (shut_bool Tryz.underlying4 _), (trodAll_cons_mk (Below.trod laidOut (by kernel_rfl) (of_decide_eq_true (by kernel_rfl)) k0 bel lt0) (trodAll_cons_mk (Below.trod laidOut (by kernel_rfl) (of_decide_eq_true (by kernel_rfl)) k1 bel lt1) trodAll_mk0)), rfl, bel.frame _, fun h => by cases h⟩
set_option maxRecDepth 100000 in
theorem FnExactLogFind_j1 : (Rows.fnExactLogFindRow.inPlace == Tryz.prog.inPlace 4) = true := by kernel_rfl
set_option maxRecDepth 100000 in
theorem FnExactLogFind_j2 : (Rows.fnExactLogFindRow.unfollowed == Tryz.prog.unfollowed 4) = true := by kernel_rfl
set_option maxRecDepth 100000 in
theorem FnExactLogFind_j3 : (Rows.fnExactLogFindRow.recurses == Tryz.prog.recurses 4) = true := by kernel_rfl
set_option maxRecDepth 100000 in
theorem FnExactLogFind_j4 : (Rows.fnExactLogFindRow.named == Tryz.prog.varsNamed 4) = true := by kernel_rfl
set_option maxRecDepth 100000 in
theorem FnExactLogFind_closed : joinedFacts Tryz.prog 4 Tryz.f4 Rows.fnExactLogFindSpec Rows.fnExactLogFindRow = true := by
  unfold joinedFacts
  rw [FnExactLogFind_j1, FnExactLogFind_j2, FnExactLogFind_j3, FnExactLogFind_j4, laidOut, mapsR7]
  kernel_rfl
theorem FnExactLogFind_row : Rows.FnExactLogFindSaid :=
  OpenClaim.holds_of_wide 4 Tryz.f4 rfl rfl rfl rfl rfl rfl rfl ⟨rfl, rfl, rfl, rfl, rfl⟩ rfl rfl rfl rfl rfl (by kernel_rfl) Tryz.func4 FnExactLogFind_closed
    (of_decide_eq_true (by kernel_rfl)) (by unfold Func.isWrapper; first | (rw [if_pos (by decide +kernel)]; kernel_rfl) | (rw [if_neg (by decide +kernel)]; exact ⟨rfl, rfl⟩))
    (fun os started H enc _ => FnExactLogFind_lifted os started H enc)
set_option maxRecDepth 100000 in
theorem FnExactLogFind_c1 : Rows.fnExactLogFindRow.wfByText (OpenSpec.ofChange Rows.fnExactLogFindSpec) = true := by kernel_rfl
set_option maxRecDepth 100000 in
theorem FnExactLogFind_c2 : Tryz.pinned.checked.prog.mainIs = some (Rows.fnExactLogFindCard.stood.harness.1, Rows.fnExactLogFindCard.stood.harness.2.toList) := by kernel_rfl
set_option maxRecDepth 100000 in
theorem FnExactLogFind_c3 : Rows.fnExactLogFindCard.stood.looks = Tryz.pinned.checked.prog.looks [] := by kernel_rfl
set_option maxRecDepth 100000 in
theorem FnExactLogFind_c4 : ([46, 3].all fun u => !Tryz.prog.wantsStandIn u) = true := by kernel_rfl
set_option maxRecDepth 100000 in
theorem FnExactLogFind_c5 : false = Rows.fnExactLogFindRow.goesBy Tryz.pinned.checked.prog := by kernel_rfl
set_option maxRecDepth 100000 in
theorem FnExactLogFind_c6 : Tryz.prog.funcNamed Rows.fnExactLogFindRow.func = some 4 := by kernel_rfl
theorem FnExactLogFind_holds : Rows.FnExactLogFindCardSaid :=
  Claim7.holds_tied_plain_at .later [] Rows.fnExactLogFindCard.laidKinds true Rows.fnExactLogFindCard.stood.harness Rows.fnExactLogFindCard.stood.looks
    FnExactLogFind_row (fun _ h => by cases h) FnExactLogFind_c1 (fun _ h => by cases h) fnExactLogFind_row_tie rfl ⟨rfl, rfl⟩ FnExactLogFind_c2 rfl
    (fun f fn hf hfn => by
      obtain rfl : f = 4 := Option.some.inj (FnExactLogFind_c6.symm.trans hf) |>.symm
      obtain rfl : fn = Tryz.f4 := (Option.some.inj (Tryz.func4.symm.trans hfn)).symm
      exact ⟨FnExactLogFind_c3, fun j t ht => by
        rw [Tryz.params4] at ht
        have hm : t ∈ [46, 3] := by simpa using Array.mem_of_getElem? ht
        exact (show Tryz.prog.wantsStandIn t = false by simpa using List.all_eq_true.1 FnExactLogFind_c4 t hm)⟩)
    FnExactLogFind_c5
#print axioms FnExactLogFind_holds
end Go.Proofs.YtmnbgppmfbnamaaGreatDoor
