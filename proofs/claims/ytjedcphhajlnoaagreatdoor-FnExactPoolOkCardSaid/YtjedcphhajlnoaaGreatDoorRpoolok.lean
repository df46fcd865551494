/- For all arguments the law of valid pools answers true and leaves its arguments as they were; Go's own tables of utf8 lie as the program's text lays them (the card ties them). -/
import Derived.Test.YtjedcphhajlnoaaGreatDoorTie
import Derived.Test.YtjedcphhajlnoaaGreatDoorCards
import Derived.Test.YtjedcphhajlnoaaGreatDoorM0
import Derived.Test.YtjedcphhajlnoaaGreatDoorM1
import Derived.Test.YtjedcphhajlnoaaGreatDoorM2
import Derived.Test.YtjedcphhajlnoaaGreatDoorM3
import Derived.Test.YtjedcphhajlnoaaGreatDoorM4
import Derived.Test.YtjedcphhajlnoaaGreatDoorM5
import Derived.Test.YtjedcphhajlnoaaGreatDoorM6
import Derived.Test.YtjedcphhajlnoaaGreatDoorM7
import Derived.Test.YtjedcphhajlnoaaGreatDoorM8
import Derived.Test.YtjedcphhajlnoaaGreatDoorM9
import Derived.Test.YtjedcphhajlnoaaGreatDoorM10
import Derived.Test.YtjedcphhajlnoaaGreatDoorM11
import Derived.Test.YtjedcphhajlnoaaGreatDoorM12
import Derived.Test.YtjedcphhajlnoaaGreatDoorM13
import Derived.Test.YtjedcphhajlnoaaGreatDoorM14
set_option linter.unusedSectionVars false
set_option linter.unusedSimpArgs false
set_option linter.unusedVariables false
namespace Go.Proofs.YtjedcphhajlnoaaGreatDoor
open Go.ChangeShapes Go.WideShapes Go.ChangeAt Go.RowKit
set_option maxRecDepth 100000 in
theorem FnExactPoolOk_lifted (os : Os) (started : os.Started) (H : Type) (enc : TypeId × Value → H) :
    ReturnsInHanded {} Tryz.checked os 3 .any (fun w args => (Rows.fnExactPoolOkSpec.pre enc Tryz.prog Tryz.f3 [] false w args ∧ laidMetH Tryz.prog laidU w) ∧ sizedMet enc Tryz.prog Tryz.f3 (OpenSpec.ofChange Rows.fnExactPoolOkSpec) false w args)
      (Rows.fnExactPoolOkSpec.post enc Tryz.prog Tryz.f3 false true false false) := by
  refine returnsInHanded_of_change_and (C := Tryz.checked) (X := fun w _ => laidMetH Tryz.prog laidU w) (fun _ _ _ hh h => h.of_heap hh) own started (by kernel_rfl) Tryz.func3
    (ChangeSpec.witness_shaped (enc := enc) (C := Tryz.checked) (os := os) (X := fun w _ => laidMetH Tryz.prog laidU w) false (World.laidAll Tryz.prog os laidU) #[.agg #[.slice none 0 0, .slice none 0 0, .slice none 0 0, .int .i64 0, .slice none 0 0, .slice none 0 0, .slice none 0 0, .bool false, .slice none 0 0, .int .i64 0, .bool false]] 8 rfl (laidU_shaped os) (by kernel_rfl) (by kernel_rfl) (by kernel_rfl) (laidU_met os _)) ?_
  intro W base args ds gs before hval0 hW _ _ hL _
  have hval : ∀ (j : Nat) t v, Tryz.f3.params[j]? = some t → args[j]? = some v → Value.okWide Tryz.prog W .any base t v := hval0
  have hW' := hW
  obtain ⟨p, q, hA0, hV, rfl, hfz, hnd⟩ := hW
  have hA : DataW.TrodAll enc Tryz.prog W 0 (fun _ => true) true Tryz.f3.params.toList args.toList ds p := hA0
  rw [Tryz.params3] at hA hval
  obtain ⟨v0, vs0, d0, ds0, p0, q0, hargs, rfl, rfl, h0, r0⟩ := trodAll_cons hA
  obtain ⟨rfl, rfl, rfl⟩ := trodAll_nil r0
  obtain rfl : args = #[v0] := by cases args; simp_all
  obtain ⟨rfl, rfl⟩ := trodVars_none hV
  have k0 := h0
  have lt0 : ∀ x ∈ p0, x.block < W.heap.size := by obtain ⟨m, hm⟩ := k0; exact DataW.trod_lt m _ _ _ hm
  obtain ⟨a0, b0, l0, x0, cs0, es0, qs0, y0, zs0, u0, o0, i0, r0⟩ := arg_pool (H := H) 8 (by kernel_rfl) (by kernel_rfl) (hval 0 34 v0 rfl rfl) k0
  clear hA0 hval0 hL
  refine (lawN s_xPoolOk (vs := [v0]) (args := [.agg [.isl .str a0, .isl .str b0, .isl .late l0, .val (.int .i64 x0), .isl .cset cs0, .isl .ent es0, .isl .ptr qs0, .val (.bool y0), .isl .int zs0, .val (.int .i64 u0), .val (.bool o0)]]) (.inr ⟨_, i0, rfl⟩) (by simp only [VRs]; exact ⟨r0, trivial⟩) (glo_none rfl W)).mono fun e W' ⟨he, bel⟩ => ?_
  subst he
  exact ⟨_, rfl, _, _, _, [], _, [], hW', trodAll_mk1 (shut_bool Tryz.underlying4 _), (trodAll_cons_mk (Below.trod laidOut (by kernel_rfl) (of_decide_eq_true (by kernel_rfl)) k0 bel lt0) trodAll_mk0), rfl, bel.frame _, fun h => by cases h⟩
set_option maxRecDepth 100000 in
theorem FnExactPoolOk_j1 : (Rows.fnExactPoolOkRow.inPlace == Tryz.prog.inPlace 3) = true := by kernel_rfl
set_option maxRecDepth 100000 in
theorem FnExactPoolOk_j2 : (Rows.fnExactPoolOkRow.unfollowed == Tryz.prog.unfollowed 3) = true := by kernel_rfl
set_option maxRecDepth 100000 in
theorem FnExactPoolOk_j3 : (Rows.fnExactPoolOkRow.recurses == Tryz.prog.recurses 3) = true := by kernel_rfl
set_option maxRecDepth 100000 in
theorem FnExactPoolOk_j4 : (Rows.fnExactPoolOkRow.named == Tryz.prog.varsNamed 3) = true := by kernel_rfl
set_option maxRecDepth 100000 in
theorem FnExactPoolOk_closed : joinedFacts Tryz.prog 3 Tryz.f3 Rows.fnExactPoolOkSpec Rows.fnExactPoolOkRow = true := by
  unfold joinedFacts
  rw [FnExactPoolOk_j1, FnExactPoolOk_j2, FnExactPoolOk_j3, FnExactPoolOk_j4, laidOut, mapsR]
  kernel_rfl
theorem FnExactPoolOk_row : Rows.FnExactPoolOkSaid :=
  OpenClaim.holds_of_wide 3 Tryz.f3 rfl rfl rfl rfl rfl rfl rfl ⟨rfl, rfl, rfl, rfl, rfl⟩ rfl rfl rfl rfl rfl (by kernel_rfl) Tryz.func3 FnExactPoolOk_closed
    (of_decide_eq_true (by kernel_rfl)) (by unfold Func.isWrapper; first | (rw [if_pos (by decide +kernel)]; kernel_rfl) | (rw [if_neg (by decide +kernel)]; exact ⟨rfl, rfl⟩))
    (fun os started H enc _ => FnExactPoolOk_lifted os started H enc)
set_option maxRecDepth 100000 in
theorem FnExactPoolOk_c1 : Rows.fnExactPoolOkRow.wfByText (OpenSpec.ofChange Rows.fnExactPoolOkSpec) = true := by kernel_rfl
set_option maxRecDepth 100000 in
theorem FnExactPoolOk_c2 : Tryz.pinned.checked.prog.mainIs = some (Rows.fnExactPoolOkCard.stood.harness.1, Rows.fnExactPoolOkCard.stood.harness.2.toList) := by kernel_rfl
set_option maxRecDepth 100000 in
theorem FnExactPoolOk_c3 : Rows.fnExactPoolOkCard.stood.looks = Tryz.pinned.checked.prog.looks [] := by kernel_rfl
set_option maxRecDepth 100000 in
theorem FnExactPoolOk_c4 : ([34].all fun u => !Tryz.prog.wantsStandIn u) = true := by kernel_rfl
set_option maxRecDepth 100000 in
theorem FnExactPoolOk_c5 : false = Rows.fnExactPoolOkRow.goesBy Tryz.pinned.checked.prog := by kernel_rfl
set_option maxRecDepth 100000 in
theorem FnExactPoolOk_c6 : Tryz.prog.funcNamed Rows.fnExactPoolOkRow.func = some 3 := by kernel_rfl
theorem FnExactPoolOk_holds : Rows.FnExactPoolOkCardSaid :=
  Claim7.holds_tied_plain_at .later [] Rows.fnExactPoolOkCard.laidKinds true Rows.fnExactPoolOkCard.stood.harness Rows.fnExactPoolOkCard.stood.looks
    FnExactPoolOk_row (fun _ h => by cases h) FnExactPoolOk_c1 (fun _ h => by cases h) fnExactPoolOk_row_tie rfl ⟨rfl, rfl⟩ FnExactPoolOk_c2 rfl
    (fun f fn hf hfn => by
      obtain rfl : f = 3 := Option.some.inj (FnExactPoolOk_c6.symm.trans hf) |>.symm
      obtain rfl : fn = Tryz.f3 := (Option.some.inj (Tryz.func3.symm.trans hfn)).symm
      exact ⟨FnExactPoolOk_c3, fun j t ht => by
        rw [Tryz.params3] at ht
        have hm : t ∈ [34] := by simpa using Array.mem_of_getElem? ht
        exact (show Tryz.prog.wantsStandIn t = false by simpa using List.all_eq_true.1 FnExactPoolOk_c4 t hm)⟩)
    FnExactPoolOk_c5
#print axioms FnExactPoolOk_holds
end Go.Proofs.YtjedcphhajlnoaaGreatDoor
