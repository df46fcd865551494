/- For all arguments the law of records, FnLogBack, answers true and leaves its arguments as they were; Go's own tables of utf8 lie as the program's text lays them (the card ties them). -/
import Derived.Test.YtmnbgppmfbnamaaGreatDoorTie
import Derived.Test.YtmnbgppmfbnamaaGreatDoorCards
import Derived.Test.YtmnbgppmfbnamaaGreatDoorM0
import Derived.Test.YtmnbgppmfbnamaaGreatDoorM1
import Derived.Test.YtmnbgppmfbnamaaGreatDoorM2
import Derived.Test.YtmnbgppmfbnamaaGreatDoorM3
import Derived.Test.YtmnbgppmfbnamaaGreatDoorM4
import Derived.Test.YtmnbgppmfbnamaaGreatDoorM5
import Derived.Test.YtmnbgppmfbnamaaGreatDoorM6
import Derived.Test.YtmnbgppmfbnamaaGreatDoorM7
import Derived.Test.YtmnbgppmfbnamaaGreatDoorM8
import Derived.Test.YtmnbgppmfbnamaaGreatDoorM9
import Derived.Test.YtmnbgppmfbnamaaGreatDoorM10
import Derived.Test.YtmnbgppmfbnamaaGreatDoorM11
import Derived.Test.YtmnbgppmfbnamaaGreatDoorM12
import Derived.Test.YtmnbgppmfbnamaaGreatDoorM13
import Derived.Test.YtmnbgppmfbnamaaGreatDoorM14
import Derived.Test.YtmnbgppmfbnamaaGreatDoorM15
import Derived.Test.YtmnbgppmfbnamaaGreatDoorM16
import Derived.Test.YtmnbgppmfbnamaaGreatDoorM17
import Derived.Test.YtmnbgppmfbnamaaGreatDoorM18
import Derived.Test.YtmnbgppmfbnamaaGreatDoorM19
import Derived.Test.YtmnbgppmfbnamaaGreatDoorM20
import Derived.Test.YtmnbgppmfbnamaaGreatDoorM21
set_option linter.unusedSectionVars false
set_option linter.unusedSimpArgs false
set_option linter.unusedVariables false
namespace Go.Proofs.YtmnbgppmfbnamaaGreatDoor
open Go.ChangeShapes Go.WideShapes Go.ChangeAt Go.RowKit
set_option maxRecDepth 100000 in
theorem FnLogBack_lifted (os : Os) (started : os.Started) (H : Type) (enc : TypeId × Value → H) :
    ReturnsInHanded {} Tryz.checked os 3 .any (fun w args => (Rows.fnLogBackSpec.pre enc Tryz.prog Tryz.f3 [] false w args ∧ laidMetH Tryz.prog laid7 w) ∧ sizedMet enc Tryz.prog Tryz.f3 (OpenSpec.ofChange Rows.fnLogBackSpec) false w args)
      (Rows.fnLogBackSpec.post enc Tryz.prog Tryz.f3 false true false false) := by
  refine handed_and_shaped (C := Tryz.checked) (X := fun w _ => laidMetH Tryz.prog laid7 w) (fun _ _ _ hh h => h.of_heap hh) own started (by kernel_rfl) Tryz.func3
    (ChangeSpec.witness_shaped (enc := enc) (C := Tryz.checked) (os := os) (X := fun w _ => laidMetH Tryz.prog laid7 w) false (World.laidAll Tryz.prog os laid7) #[.slice none 0 0, .slice none 0 0] 8 rfl (laid7_shaped os) (by kernel_rfl) (by kernel_rfl) (by kernel_rfl) (laid7_met os _)) ?_
  intro W base args ds gs before hval0 hW _ _ hL _
  have hval : ∀ (j : Nat) t v, Tryz.f3.params[j]? = some t → args[j]? = some v → Value.okWide Tryz.prog W .any base t v := hval0
  have hW' := hW
  obtain ⟨p, q, hA0, hV, rfl, hfz, hnd⟩ := hW
  have hA : DataW.TrodAll enc Tryz.prog W 0 (fun _ => true) true Tryz.f3.params.toList args.toList ds p := hA0
  rw [Tryz.params3] at hA hval
  obtain ⟨v0, vs0, d0, ds0, p0, q0, hargs, rfl, rfl, h0, r0⟩ := trodAll_cons hA
  obtain ⟨v1, vs1, d1, ds1, p1, q1, rfl, rfl, rfl, h1, r1⟩ := trodAll_cons r0
  obtain ⟨rfl, rfl, rfl⟩ := trodAll_nil r1
  obtain rfl : args = #[v0, v1] := by cases args; simp_all
  obtain ⟨rfl, rfl⟩ := trodVars_none hV
  have k0 := h0
  have lt0 : ∀ x ∈ p0, x.block < W.heap.size := by obtain ⟨m, hm⟩ := k0; exact DataW.trod_lt m _ _ _ hm
  obtain ⟨x0, i0⟩ : ∃ bs, IsBytes W v0 bs := by obtain ⟨fuel, hf⟩ := k0; exact bytes_open Tryz.underlying22 Tryz.underlying5 (by kernel_rfl) (hval 0 22 v0 rfl rfl) hf
  have k1 := h1
  have lt1 : ∀ x ∈ p1, x.block < W.heap.size := by obtain ⟨m, hm⟩ := k1; exact DataW.trod_lt m _ _ _ hm
  obtain ⟨x1, i1⟩ : ∃ bs, IsBytes W v1 bs := by obtain ⟨fuel, hf⟩ := k1; exact bytes_open Tryz.underlying22 Tryz.underlying5 (by kernel_rfl) (hval 1 22 v1 rfl rfl) hf
  clear hA0 hval0
  refine (law2 s_lawLog i0 i1 (glo_laid7 hL.1 hL.2)).mono fun e W' ⟨he, bel⟩ => ?_
  subst he
  exact ⟨_, rfl, _, _, _, [], _, [], hW', trodAll_mk1 (shut_bool Tryz.underlying4 _), (trodAll_cons_mk (Below.trod laidOut (by kernel_rfl) (of_decide_eq_true (by kernel_rfl)) k0 bel lt0) (trodAll_cons_mk (Below.trod laidOut (by kernel_rfl) (of_decide_eq_true (by kernel_rfl)) k1 bel lt1) trodAll_mk0)), rfl, bel.frame _, fun h => by cases h⟩
set_option maxRecDepth 100000 in
theorem FnLogBack_j1 : (Rows.fnLogBackRow.inPlace == Tryz.prog.inPlace 3) = true := by kernel_rfl
set_option maxRecDepth 100000 in
theorem FnLogBack_j2 : (Rows.fnLogBackRow.unfollowed == Tryz.prog.unfollowed 3) = true := by kernel_rfl
set_option maxRecDepth 100000 in
theorem FnLogBack_j3 : (Rows.fnLogBackRow.recurses == Tryz.prog.recurses 3) = true := by kernel_rfl
set_option maxRecDepth 100000 in
theorem FnLogBack_j4 : (Rows.fnLogBackRow.named == Tryz.prog.varsNamed 3) = true := by kernel_rfl
set_option maxRecDepth 100000 in
theorem FnLogBack_closed : joinedFacts Tryz.prog 3 Tryz.f3 Rows.fnLogBackSpec Rows.fnLogBackRow = true := by
  unfold joinedFacts
  rw [FnLogBack_j1, FnLogBack_j2, FnLogBack_j3, FnLogBack_j4, laidOut, mapsR7]
  kernel_rfl
theorem FnLogBack_row : Rows.FnLogBackSaid :=
  OpenClaim.holds_of_wide 3 Tryz.f3 rfl rfl rfl rfl rfl rfl rfl ⟨rfl, rfl, rfl, rfl, rfl⟩ rfl rfl rfl rfl rfl (by kernel_rfl) Tryz.func3 FnLogBack_closed
    (of_decide_eq_true (by kernel_rfl)) (by unfold Func.isWrapper; first | (rw [if_pos (by decide +kernel)]; kernel_rfl) | (rw [if_neg (by decide +kernel)]; exact ⟨rfl, rfl⟩))
    (fun os started H enc _ => FnLogBack_lifted os started H enc)
set_option maxRecDepth 100000 in
theorem FnLogBack_c1 : Rows.fnLogBackRow.wfByText (OpenSpec.ofChange Rows.fnLogBackSpec) = true := by kernel_rfl
set_option maxRecDepth 100000 in
theorem FnLogBack_c2 : Tryz.pinned.checked.prog.mainIs = some (Rows.fnLogBackCard.stood.harness.1, Rows.fnLogBackCard.stood.harness.2.toList) := by kernel_rfl
set_option maxRecDepth 100000 in
theorem FnLogBack_c3 : Rows.fnLogBackCard.stood.looks = Tryz.pinned.checked.prog.looks [] := by kernel_rfl
set_option maxRecDepth 100000 in
theorem FnLogBack_c4 : ([22, 22].all fun u => !Tryz.prog.wantsStandIn u) = true := by kernel_rfl
set_option maxRecDepth 100000 in
theorem FnLogBack_c5 : false = Rows.fnLogBackRow.goesBy Tryz.pinned.checked.prog := by kernel_rfl
set_option maxRecDepth 100000 in
theorem FnLogBack_c6 : Tryz.prog.funcNamed Rows.fnLogBackRow.func = some 3 := by kernel_rfl
theorem FnLogBack_holds : Rows.FnLogBackCardSaid :=
  Claim7.holds_tied_plain_at .later [] Rows.fnLogBackCard.laidKinds true Rows.fnLogBackCard.stood.harness Rows.fnLogBackCard.stood.looks
    FnLogBack_row (fun _ h => by cases h) FnLogBack_c1 (fun _ h => by cases h) fnLogBack_row_tie rfl ⟨rfl, rfl⟩ FnLogBack_c2 rfl
    (fun f fn hf hfn => by
      obtain rfl : f = 3 := Option.some.inj (FnLogBack_c6.symm.trans hf) |>.symm
      obtain rfl : fn = Tryz.f3 := (Option.some.inj (Tryz.func3.symm.trans hfn)).symm
      exact ⟨FnLogBack_c3, fun j t ht => by
        rw [Tryz.params3] at ht
        have hm : t ∈ [22, 22] := by simpa using Array.mem_of_getElem? ht
        exact (show Tryz.prog.wantsStandIn t = false by simpa using List.all_eq_true.1 FnLogBack_c4 t hm)⟩)
    FnLogBack_c5
#print axioms FnLogBack_holds
end Go.Proofs.YtmnbgppmfbnamaaGreatDoor
