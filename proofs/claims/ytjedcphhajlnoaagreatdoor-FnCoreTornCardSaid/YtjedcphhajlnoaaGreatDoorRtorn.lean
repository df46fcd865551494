/- For all arguments the law of torn root pointers, FnCoreTorn, answers true and leaves its arguments as they were; Go's own tables of utf8 lie as the program's text lays them (the card ties them). -/
import Derived.Test.YtjedcphhajlnoaaGreatDoorTie
import Derived.Test.YtjedcphhajlnoaaGreatDoorCards
import Derived.Test.YtjedcphhajlnoaaGreatDoorM0
import Derived.Test.YtjedcphhajlnoaaGreatDoorM1
import Derived.Test.YtjedcphhajlnoaaGreatDoorM2
import Derived.Test.YtjedcphhajlnoaaGreatDoorM3
import Derived.Test.YtjedcphhajlnoaaGreatDoorM4
import Derived.Test.YtjedcphhajlnoaaGreatDoorM5
import Derived.Test.YtjedcphhajlnoaaGreatDoorM6
import Derived.Test.YtjedcphhajlnoaaGreatDoorM7
import Derived.Test.YtjedcphhajlnoaaGreatDoorM8
import Derived.Test.YtjedcphhajlnoaaGreatDoorM9
import Derived.Test.YtjedcphhajlnoaaGreatDoorM10
import Derived.Test.YtjedcphhajlnoaaGreatDoorM11
import Derived.Test.YtjedcphhajlnoaaGreatDoorM12
import Derived.Test.YtjedcphhajlnoaaGreatDoorM13
import Derived.Test.YtjedcphhajlnoaaGreatDoorM14
import Derived.Test.YtjedcphhajlnoaaGreatDoorM15
import Derived.Test.YtjedcphhajlnoaaGreatDoorM16
set_option linter.unusedSectionVars false
set_option linter.unusedSimpArgs false
set_option linter.unusedVariables false
namespace Go.Proofs.YtjedcphhajlnoaaGreatDoor
open Go.ChangeShapes Go.WideShapes Go.ChangeAt Go.RowKit
set_option maxRecDepth 100000 in
theorem FnCoreTorn_lifted (os : Os) (started : os.Started) (H : Type) (enc : TypeId × Value → H) :
    ReturnsInHanded {} Tryz.checked os 6 .any (fun w args => (Rows.fnCoreTornSpec.pre enc Tryz.prog Tryz.f6 [] false w args ∧ laidMetH Tryz.prog laid7 w) ∧ sizedMet enc Tryz.prog Tryz.f6 (OpenSpec.ofChange Rows.fnCoreTornSpec) false w args)
      (Rows.fnCoreTornSpec.post enc Tryz.prog Tryz.f6 false true false false) := by
  refine handed_and_shaped (C := Tryz.checked) (X := fun w _ => laidMetH Tryz.prog laid7 w) (fun _ _ _ hh h => h.of_heap hh) own started (by kernel_rfl) Tryz.func6
    (ChangeSpec.witness_shaped (enc := enc) (C := Tryz.checked) (os := os) (X := fun w _ => laidMetH Tryz.prog laid7 w) false (World.laidAll Tryz.prog os laid7) #[.slice none 0 0, .slice none 0 0] 8 rfl (laid7_shaped os) (by kernel_rfl) (by kernel_rfl) (by kernel_rfl) (laid7_met os _)) ?_
  intro W base args ds gs before hval0 hW _ _ hL _
  have hval : ∀ (j : Nat) t v, Tryz.f6.params[j]? = some t → args[j]? = some v → Value.okWide Tryz.prog W .any base t v := hval0
  have hW' := hW
  obtain ⟨p, q, hA0, hV, rfl, hfz, hnd⟩ := hW
  have hA : DataW.TrodAll enc Tryz.prog W 0 (fun _ => true) true Tryz.f6.params.toList args.toList ds p := hA0
  rw [Tryz.params6] at hA hval
  obtain ⟨v0, vs0, d0, ds0, p0, q0, hargs, rfl, rfl, h0, r0⟩ := trodAll_cons hA
  obtain ⟨v1, vs1, d1, ds1, p1, q1, rfl, rfl, rfl, h1, r1⟩ := trodAll_cons r0
  obtain ⟨rfl, rfl, rfl⟩ := trodAll_nil r1
  obtain rfl : args = #[v0, v1] := by cases args; simp_all
  obtain ⟨rfl, rfl⟩ := trodVars_none hV
  have k0 := h0
  have lt0 : ∀ x ∈ p0, x.block < W.heap.size := by obtain ⟨m, hm⟩ := k0; exact DataW.trod_lt m _ _ _ hm
  obtain ⟨x0, i0⟩ : ∃ bs, IsBytes W v0 bs := by obtain ⟨fuel, hf⟩ := k0; exact bytes_open Tryz.underlying53 Tryz.underlying5 (by kernel_rfl) (hval 0 53 v0 rfl rfl) hf
  have k1 := h1
  have lt1 : ∀ x ∈ p1, x.block < W.heap.size := by obtain ⟨m, hm⟩ := k1; exact DataW.trod_lt m _ _ _ hm
  obtain ⟨x1, i1⟩ : ∃ bs, IsBytes W v1 bs := by obtain ⟨fuel, hf⟩ := k1; exact bytes_open Tryz.underlying53 Tryz.underlying5 (by kernel_rfl) (hval 1 53 v1 rfl rfl) hf
  clear hA0 hval0
  refine (law2 s_lawTorn i0 i1 (glo_laid7 hL.1 hL.2)).mono fun e W' ⟨he, bel⟩ => ?_
  subst he
  exact ⟨_, rfl, _, _, _, [], _, [], hW', trodAll_mk1 (shut_bool Tryz.underlying4 _), (trodAll_cons_mk (Below.trod laidOut (by kernel_rfl) (of_decide_eq_true (by kernel_rfl)) k0 bel lt0) (trodAll_cons_mk (Below.trod laidOut (by kernel_rfl) (of_decide_eq_true (by kernel_rfl)) k1 bel lt1) trodAll_mk0)), rfl, bel.frame _, fun h => by cases h⟩
set_option maxRecDepth 100000 in
theorem FnCoreTorn_j1 : (Rows.fnCoreTornRow.inPlace == Tryz.prog.inPlace 6) = true := by kernel_rfl
set_option maxRecDepth 100000 in
theorem FnCoreTorn_j2 : (Rows.fnCoreTornRow.unfollowed == Tryz.prog.unfollowed 6) = true := by kernel_rfl
set_option maxRecDepth 100000 in
theorem FnCoreTorn_j3 : (Rows.fnCoreTornRow.recurses == Tryz.prog.recurses 6) = true := by kernel_rfl
set_option maxRecDepth 100000 in
theorem FnCoreTorn_j4 : (Rows.fnCoreTornRow.named == Tryz.prog.varsNamed 6) = true := by kernel_rfl
set_option maxRecDepth 100000 in
theorem FnCoreTorn_closed : joinedFacts Tryz.prog 6 Tryz.f6 Rows.fnCoreTornSpec Rows.fnCoreTornRow = true := by
  unfold joinedFacts
  rw [FnCoreTorn_j1, FnCoreTorn_j2, FnCoreTorn_j3, FnCoreTorn_j4, laidOut, mapsR7]
  kernel_rfl
theorem FnCoreTorn_row : Rows.FnCoreTornSaid :=
  OpenClaim.holds_of_wide 6 Tryz.f6 rfl rfl rfl rfl rfl rfl rfl ⟨rfl, rfl, rfl, rfl, rfl⟩ rfl rfl rfl rfl rfl (by kernel_rfl) Tryz.func6 FnCoreTorn_closed
    (of_decide_eq_true (by kernel_rfl)) (by unfold Func.isWrapper; first | (rw [if_pos (by decide +kernel)]; kernel_rfl) | (rw [if_neg (by decide +kernel)]; exact ⟨rfl, rfl⟩))
    (fun os started H enc _ => FnCoreTorn_lifted os started H enc)
set_option maxRecDepth 100000 in
theorem FnCoreTorn_c1 : Rows.fnCoreTornRow.wfByText (OpenSpec.ofChange Rows.fnCoreTornSpec) = true := by kernel_rfl
set_option maxRecDepth 100000 in
theorem FnCoreTorn_c2 : Tryz.pinned.checked.prog.mainIs = some (Rows.fnCoreTornCard.stood.harness.1, Rows.fnCoreTornCard.stood.harness.2.toList) := by kernel_rfl
set_option maxRecDepth 100000 in
theorem FnCoreTorn_c3 : Rows.fnCoreTornCard.stood.looks = Tryz.pinned.checked.prog.looks [] := by kernel_rfl
set_option maxRecDepth 100000 in
theorem FnCoreTorn_c4 : ([53, 53].all fun u => !Tryz.prog.wantsStandIn u) = true := by kernel_rfl
set_option maxRecDepth 100000 in
theorem FnCoreTorn_c5 : false = Rows.fnCoreTornRow.goesBy Tryz.pinned.checked.prog := by kernel_rfl
set_option maxRecDepth 100000 in
theorem FnCoreTorn_c6 : Tryz.prog.funcNamed Rows.fnCoreTornRow.func = some 6 := by kernel_rfl
theorem FnCoreTorn_holds : Rows.FnCoreTornCardSaid :=
  Claim7.holds_tied_plain_at .later [] Rows.fnCoreTornCard.laidKinds true Rows.fnCoreTornCard.stood.harness Rows.fnCoreTornCard.stood.looks
    FnCoreTorn_row (fun _ h => by cases h) FnCoreTorn_c1 (fun _ h => by cases h) fnCoreTorn_row_tie rfl ⟨rfl, rfl⟩ FnCoreTorn_c2 rfl
    (fun f fn hf hfn => by
      obtain rfl : f = 6 := Option.some.inj (FnCoreTorn_c6.symm.trans hf) |>.symm
      obtain rfl : fn = Tryz.f6 := (Option.some.inj (Tryz.func6.symm.trans hfn)).symm
      exact ⟨FnCoreTorn_c3, fun j t ht => by
        rw [Tryz.params6] at ht
        have hm : t ∈ [53, 53] := by simpa using Array.mem_of_getElem? ht
        exact (show Tryz.prog.wantsStandIn t = false by simpa using List.all_eq_true.1 FnCoreTorn_c4 t hm)⟩)
    FnCoreTorn_c5
#print axioms FnCoreTorn_holds
end Go.Proofs.YtjedcphhajlnoaaGreatDoor
