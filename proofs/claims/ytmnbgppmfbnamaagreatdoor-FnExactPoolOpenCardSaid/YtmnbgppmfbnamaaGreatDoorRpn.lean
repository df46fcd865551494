/- For all arguments the law of PoolOpen answers true and leaves its arguments as they were; Go's own tables of utf8 lie as the program's text lays them (the card ties them). -/
import Derived.Test.YtmnbgppmfbnamaaGreatDoorTie
import Derived.Test.YtmnbgppmfbnamaaGreatDoorCards
import Derived.Test.YtmnbgppmfbnamaaGreatDoorM0
import Derived.Test.YtmnbgppmfbnamaaGreatDoorM1
import Derived.Test.YtmnbgppmfbnamaaGreatDoorM2
import Derived.Test.YtmnbgppmfbnamaaGreatDoorM3
import Derived.Test.YtmnbgppmfbnamaaGreatDoorM4
import Derived.Test.YtmnbgppmfbnamaaGreatDoorM5
import Derived.Test.YtmnbgppmfbnamaaGreatDoorM6
import Derived.Test.YtmnbgppmfbnamaaGreatDoorM7
import Derived.Test.YtmnbgppmfbnamaaGreatDoorM8
import Derived.Test.YtmnbgppmfbnamaaGreatDoorM9
import Derived.Test.YtmnbgppmfbnamaaGreatDoorM10
import Derived.Test.YtmnbgppmfbnamaaGreatDoorM11
import Derived.Test.YtmnbgppmfbnamaaGreatDoorM12
import Derived.Test.YtmnbgppmfbnamaaGreatDoorM13
import Derived.Test.YtmnbgppmfbnamaaGreatDoorM14
import Derived.Test.YtmnbgppmfbnamaaGreatDoorM15
import Derived.Test.YtmnbgppmfbnamaaGreatDoorM16
import Derived.Test.YtmnbgppmfbnamaaGreatDoorM17
import Derived.Test.YtmnbgppmfbnamaaGreatDoorM18
import Derived.Test.YtmnbgppmfbnamaaGreatDoorM19
import Derived.Test.YtmnbgppmfbnamaaGreatDoorM20
import Derived.Test.YtmnbgppmfbnamaaGreatDoorM24
import Derived.Test.YtmnbgppmfbnamaaGreatDoorM25
set_option linter.unusedSectionVars false
set_option linter.unusedSimpArgs false
set_option linter.unusedVariables false
namespace Go.Proofs.YtmnbgppmfbnamaaGreatDoor
open Go.ChangeShapes Go.WideShapes Go.ChangeAt Go.RowKit
set_option maxRecDepth 100000 in
theorem FnExactPoolOpen_lifted (os : Os) (started : os.Started) (H : Type) (enc : TypeId × Value → H) :
    ReturnsInHanded {} Tryz.checked os 7 .any (fun w args => (Rows.fnExactPoolOpenSpec.pre enc Tryz.prog Tryz.f7 [] false w args ∧ laidMetH Tryz.prog laid5 w) ∧ sizedMet enc Tryz.prog Tryz.f7 (OpenSpec.ofChange Rows.fnExactPoolOpenSpec) false w args)
      (Rows.fnExactPoolOpenSpec.post enc Tryz.prog Tryz.f7 false true false false) := by
  refine returnsInHanded_of_change_and (C := Tryz.checked) (X := fun w _ => laidMetH Tryz.prog laid5 w) (fun _ _ _ hh h => h.of_heap hh) own started (by kernel_rfl) Tryz.func7
    (ChangeSpec.witness_shaped (enc := enc) (C := Tryz.checked) (os := os) (X := fun w _ => laidMetH Tryz.prog laid5 w) false (World.laidAll Tryz.prog os laid5) #[.int .i64 0] 8 rfl (laid5_shaped os) (by kernel_rfl) (by kernel_rfl) (by kernel_rfl) (laid5_met os _)) ?_
  intro W base args ds gs before hval0 hW _ _ hL _
  have hval : ∀ (j : Nat) t v, Tryz.f7.params[j]? = some t → args[j]? = some v → Value.okWide Tryz.prog W .any base t v := hval0
  have hW' := hW
  obtain ⟨p, q, hA0, hV, rfl, hfz, hnd⟩ := hW
  have hA : DataW.TrodAll enc Tryz.prog W 0 (fun _ => true) true Tryz.f7.params.toList args.toList ds p := hA0
  rw [Tryz.params7] at hA hval
  obtain ⟨v0, vs0, d0, ds0, p0, q0, hargs, rfl, rfl, h0, r0⟩ := trodAll_cons hA
  obtain ⟨rfl, rfl, rfl⟩ := trodAll_nil r0
  obtain rfl : args = #[v0] := by cases args; simp_all
  obtain ⟨rfl, rfl⟩ := trodVars_none hV
  have k0 := h0
  have lt0 : ∀ x ∈ p0, x.block < W.heap.size := by obtain ⟨m, hm⟩ := k0; exact DataW.trod_lt m _ _ _ hm
  obtain ⟨n0, r0⟩ := arg_int Tryz.underlying3 (hval 0 3 v0 rfl rfl)
  clear hA0 hval0
  refine (lawN s_xPoolOpen (vs := [v0]) (args := [.one (.val (.int .i64 n0))]) (.inr ⟨_, ⟨⟩, rfl⟩) (by simp only [VRs]; exact ⟨r0, trivial⟩) (glo_laid5 hL)).mono fun e W' ⟨he, bel⟩ => ?_
  subst he
  exact ⟨_, rfl, _, _, _, [], _, [], hW', trodAll_mk1 (shut_bool Tryz.underlying4 _), (trodAll_cons_mk (Below.trod laidOut (by kernel_rfl) (of_decide_eq_true (by kernel_rfl)) k0 bel lt0) trodAll_mk0), rfl, bel.frame _, fun h => by cases h⟩
set_option maxRecDepth 100000 in
theorem FnExactPoolOpen_j1 : (Rows.fnExactPoolOpenRow.inPlace == Tryz.prog.inPlace 7) = true := by kernel_rfl
set_option maxRecDepth 100000 in
theorem FnExactPoolOpen_j2 : (Rows.fnExactPoolOpenRow.unfollowed == Tryz.prog.unfollowed 7) = true := by kernel_rfl
set_option maxRecDepth 100000 in
theorem FnExactPoolOpen_j3 : (Rows.fnExactPoolOpenRow.recurses == Tryz.prog.recurses 7) = true := by kernel_rfl
set_option maxRecDepth 100000 in
theorem FnExactPoolOpen_j4 : (Rows.fnExactPoolOpenRow.named == Tryz.prog.varsNamed 7) = true := by kernel_rfl
set_option maxRecDepth 100000 in
theorem FnExactPoolOpen_closed : joinedFacts Tryz.prog 7 Tryz.f7 Rows.fnExactPoolOpenSpec Rows.fnExactPoolOpenRow = true := by
  unfold joinedFacts
  rw [FnExactPoolOpen_j1, FnExactPoolOpen_j2, FnExactPoolOpen_j3, FnExactPoolOpen_j4, laidOut, mapsR5]
  kernel_rfl
theorem FnExactPoolOpen_row : Rows.FnExactPoolOpenSaid :=
  OpenClaim.holds_of_wide 7 Tryz.f7 rfl rfl rfl rfl rfl rfl rfl ⟨rfl, rfl, rfl, rfl, rfl⟩ rfl rfl rfl rfl rfl (by kernel_rfl) Tryz.func7 FnExactPoolOpen_closed
    (of_decide_eq_true (by kernel_rfl)) (by unfold Func.isWrapper; first | (rw [if_pos (by decide +kernel)]; kernel_rfl) | (rw [if_neg (by decide +kernel)]; exact ⟨rfl, rfl⟩))
    (fun os started H enc _ => FnExactPoolOpen_lifted os started H enc)
set_option maxRecDepth 100000 in
theorem FnExactPoolOpen_c1 : Rows.fnExactPoolOpenRow.wfByText (OpenSpec.ofChange Rows.fnExactPoolOpenSpec) = true := by kernel_rfl
set_option maxRecDepth 100000 in
theorem FnExactPoolOpen_c2 : Tryz.pinned.checked.prog.mainIs = some (Rows.fnExactPoolOpenCard.stood.harness.1, Rows.fnExactPoolOpenCard.stood.harness.2.toList) := by kernel_rfl
set_option maxRecDepth 100000 in
theorem FnExactPoolOpen_c3 : Rows.fnExactPoolOpenCard.stood.looks = Tryz.pinned.checked.prog.looks [] := by kernel_rfl
set_option maxRecDepth 100000 in
theorem FnExactPoolOpen_c4 : ([3].all fun u => !Tryz.prog.wantsStandIn u) = true := by kernel_rfl
set_option maxRecDepth 100000 in
theorem FnExactPoolOpen_c5 : false = Rows.fnExactPoolOpenRow.goesBy Tryz.pinned.checked.prog := by kernel_rfl
set_option maxRecDepth 100000 in
theorem FnExactPoolOpen_c6 : Tryz.prog.funcNamed Rows.fnExactPoolOpenRow.func = some 7 := by kernel_rfl
theorem FnExactPoolOpen_holds : Rows.FnExactPoolOpenCardSaid :=
  Claim7.holds_tied_plain_at .later [] Rows.fnExactPoolOpenCard.laidKinds true Rows.fnExactPoolOpenCard.stood.harness Rows.fnExactPoolOpenCard.stood.looks
    FnExactPoolOpen_row (fun _ h => by cases h) FnExactPoolOpen_c1 (fun _ h => by cases h) fnExactPoolOpen_row_tie rfl ⟨rfl, rfl⟩ FnExactPoolOpen_c2 rfl
    (fun f fn hf hfn => by
      obtain rfl : f = 7 := Option.some.inj (FnExactPoolOpen_c6.symm.trans hf) |>.symm
      obtain rfl : fn = Tryz.f7 := (Option.some.inj (Tryz.func7.symm.trans hfn)).symm
      exact ⟨FnExactPoolOpen_c3, fun j t ht => by
        rw [Tryz.params7] at ht
        have hm : t ∈ [3] := by simpa using Array.mem_of_getElem? ht
        exact (show Tryz.prog.wantsStandIn t = false by simpa using List.all_eq_true.1 FnExactPoolOpen_c4 t hm)⟩)
    FnExactPoolOpen_c5
#print axioms FnExactPoolOpen_holds
end Go.Proofs.YtmnbgppmfbnamaaGreatDoor
