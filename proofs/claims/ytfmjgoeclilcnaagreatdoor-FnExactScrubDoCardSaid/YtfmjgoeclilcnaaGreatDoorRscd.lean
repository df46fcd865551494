/- For all arguments the law of ScrubDo answers true and leaves its arguments as they were; Go's own tables of utf8 lie as the program's text lays them (the card ties them). -/
import Derived.Test.YtfmjgoeclilcnaaGreatDoorTie
import Derived.Test.YtfmjgoeclilcnaaGreatDoorCards
import Derived.Test.YtfmjgoeclilcnaaGreatDoorM0
import Derived.Test.YtfmjgoeclilcnaaGreatDoorM1
import Derived.Test.YtfmjgoeclilcnaaGreatDoorM2
import Derived.Test.YtfmjgoeclilcnaaGreatDoorM3
import Derived.Test.YtfmjgoeclilcnaaGreatDoorM4
import Derived.Test.YtfmjgoeclilcnaaGreatDoorM5
import Derived.Test.YtfmjgoeclilcnaaGreatDoorM6
import Derived.Test.YtfmjgoeclilcnaaGreatDoorM7
import Derived.Test.YtfmjgoeclilcnaaGreatDoorM8
import Derived.Test.YtfmjgoeclilcnaaGreatDoorM9
import Derived.Test.YtfmjgoeclilcnaaGreatDoorM10
import Derived.Test.YtfmjgoeclilcnaaGreatDoorM11
import Derived.Test.YtfmjgoeclilcnaaGreatDoorM12
import Derived.Test.YtfmjgoeclilcnaaGreatDoorM13
import Derived.Test.YtfmjgoeclilcnaaGreatDoorM14
import Derived.Test.YtfmjgoeclilcnaaGreatDoorM15
import Derived.Test.YtfmjgoeclilcnaaGreatDoorM16
import Derived.Test.YtfmjgoeclilcnaaGreatDoorM17
import Derived.Test.YtfmjgoeclilcnaaGreatDoorM18
import Derived.Test.YtfmjgoeclilcnaaGreatDoorM19
import Derived.Test.YtfmjgoeclilcnaaGreatDoorM20
set_option linter.unusedSimpArgs false
set_option linter.unusedVariables false
set_option linter.unusedSectionVars false
namespace Go.Proofs.YtfmjgoeclilcnaaGreatDoor
open Go.ChangeShapes Go.WideShapes Go.ChangeAt Go.RowKit
set_option maxRecDepth 100000 in
theorem FnExactScrubDo_lifted (os : Os) (started : os.Started) (H : Type) (enc : TypeId × Value → H) :
  ReturnsInHanded {} Tryz.checked os 3 .any (fun w args => (Rows.fnExactScrubDoSpec.pre enc Tryz.prog Tryz.f3 [] false w args ∧ laidMetH Tryz.prog laid7 w) ∧ sizedMet enc Tryz.prog Tryz.f3 (OpenSpec.ofChange Rows.fnExactScrubDoSpec) false w args)
   (Rows.fnExactScrubDoSpec.post enc Tryz.prog Tryz.f3 false true false false) := by
 refine handed_and_shaped (C := Tryz.checked) (X := fun w _ => laidMetH Tryz.prog laid7 w) (fun _ _ _ hh h => h.of_heap hh) own started (by kernel_rfl) Tryz.func3
  (ChangeSpec.witness_shaped (enc := enc) (C := Tryz.checked) (os := os) (X := fun w _ => laidMetH Tryz.prog laid7 w) false (World.laidAll Tryz.prog os laid7) #[.agg #[.slice none 0 0, .slice none 0 0, .slice none 0 0, .int .i64 0, .slice none 0 0, .slice none 0 0, .slice none 0 0, .bool false, .slice none 0 0, .int .i64 0, .bool false]] 8 rfl (laid7_shaped os) (by kernel_rfl) (by kernel_rfl) (by kernel_rfl) (laid7_met os _)) ?_
 intro W base args ds gs before hval0 hW _ _ hL _
 have hval : ∀ (j : Nat) t v, Tryz.f3.params[j]? = some t → args[j]? = some v → Value.okWide Tryz.prog W .any base t v := hval0
 have hW' := hW
 obtain ⟨p, q, hA0, hV, rfl, hfz, hnd⟩ := hW
 have hA : DataW.TrodAll enc Tryz.prog W 0 (fun _ => true) true Tryz.f3.params.toList args.toList ds p := hA0
 rw [Tryz.params3] at hA hval
 obtain ⟨v0, vs0, d0, ds0, p0, q0, hargs, rfl, rfl, h0, r0⟩ := trodAll_cons hA
 obtain ⟨rfl, rfl, rfl⟩ := trodAll_nil r0
 obtain rfl : args = #[v0] := by cases args; simp_all
 obtain ⟨rfl, rfl⟩ := trodVars_none hV
 have k0 := h0
 have lt0 : ∀ x ∈ p0, x.block < W.heap.size := by obtain ⟨m, hm⟩ := k0; exact DataW.trod_lt m _ _ _ hm
 obtain ⟨a0, b0, l0, x0, cs0, es0, qs0, y0, zs0, u0, o0, i0, r0⟩ := arg_pool (H := H) 8 (by kernel_rfl) (by kernel_rfl) (hval 0 34 v0 rfl rfl) k0
 clear hA0 hval0
 refine (lawN s_xScrubDo (vs := [v0]) (args := [.agg [.isl .str a0, .isl .str b0, .isl .late l0, .val (.int .i64 x0), .isl .cset cs0, .isl .ent es0, .isl .ptr qs0, .val (.bool y0), .isl .int zs0, .val (.int .i64 u0), .val (.bool o0)]]) (.inr ⟨_, i0, rfl⟩) (by simp only [VRs]; exact ⟨r0, trivial⟩) (glo_laid7 hL.1 hL.2)).mono fun e W' ⟨he, bel⟩ => ?_
 subst he
 exact ⟨_, rfl, _, _, _, [], _, [], hW', trodAll_mk1 (shut_bool Tryz.underlying4 _), (trodAll_cons_mk (Below.trod laidOut (by kernel_rfl) (of_decide_eq_true (by kernel_rfl)) k0 bel lt0) trodAll_mk0), rfl, bel.frame _, fun h => by cases h⟩
set_option maxRecDepth 100000 in
theorem FnExactScrubDo_j1 : (Rows.fnExactScrubDoRow.inPlace == Tryz.prog.inPlace 3) = true := by kernel_rfl
set_option maxRecDepth 100000 in
theorem FnExactScrubDo_j2 : (Rows.fnExactScrubDoRow.unfollowed == Tryz.prog.unfollowed 3) = true := by kernel_rfl
set_option maxRecDepth 100000 in
theorem FnExactScrubDo_j3 : (Rows.fnExactScrubDoRow.recurses == Tryz.prog.recurses 3) = true := by kernel_rfl
set_option maxRecDepth 100000 in
theorem FnExactScrubDo_j4 : (Rows.fnExactScrubDoRow.named == Tryz.prog.varsNamed 3) = true := by kernel_rfl
set_option maxRecDepth 100000 in
theorem FnExactScrubDo_closed : joinedFacts Tryz.prog 3 Tryz.f3 Rows.fnExactScrubDoSpec Rows.fnExactScrubDoRow = true := by
 unfold joinedFacts
 rw [FnExactScrubDo_j1, FnExactScrubDo_j2, FnExactScrubDo_j3, FnExactScrubDo_j4, laidOut, mapsR7]
 kernel_rfl
theorem FnExactScrubDo_row : Rows.FnExactScrubDoSaid :=
 OpenClaim.holds_of_wide 3 Tryz.f3 rfl rfl rfl rfl rfl rfl rfl ⟨rfl, rfl, rfl, rfl, rfl⟩ rfl rfl rfl rfl rfl (by kernel_rfl) Tryz.func3 FnExactScrubDo_closed
  (of_decide_eq_true (by kernel_rfl)) (by unfold Func.isWrapper; first | (rw [if_pos (by decide +kernel)]; kernel_rfl) | (rw [if_neg (by decide +kernel)]; exact ⟨rfl, rfl⟩))
  (fun os started H enc _ => FnExactScrubDo_lifted os started H enc)
set_option maxRecDepth 100000 in
theorem FnExactScrubDo_c1 : Rows.fnExactScrubDoRow.wfByText (OpenSpec.ofChange Rows.fnExactScrubDoSpec) = true := by kernel_rfl
set_option maxRecDepth 100000 in
theorem FnExactScrubDo_c2 : Tryz.pinned.checked.prog.mainIs = some (Rows.fnExactScrubDoCard.stood.harness.1, Rows.fnExactScrubDoCard.stood.harness.2.toList) := by kernel_rfl
set_option maxRecDepth 100000 in
theorem FnExactScrubDo_c3 : Rows.fnExactScrubDoCard.stood.looks = Tryz.pinned.checked.prog.looks [] := by kernel_rfl
set_option maxRecDepth 100000 in
theorem FnExactScrubDo_c4 : ([34].all fun u => !Tryz.prog.wantsStandIn u) = true := by kernel_rfl
set_option maxRecDepth 100000 in
theorem FnExactScrubDo_c5 : false = Rows.fnExactScrubDoRow.goesBy Tryz.pinned.checked.prog := by kernel_rfl
set_option maxRecDepth 100000 in
theorem FnExactScrubDo_c6 : Tryz.prog.funcNamed Rows.fnExactScrubDoRow.func = some 3 := by kernel_rfl
theorem FnExactScrubDo_holds : Rows.FnExactScrubDoCardSaid :=
 Claim7.holds_tied_plain_at .later [] Rows.fnExactScrubDoCard.laidKinds true Rows.fnExactScrubDoCard.stood.harness Rows.fnExactScrubDoCard.stood.looks
  FnExactScrubDo_row (fun _ h => by cases h) FnExactScrubDo_c1 (fun _ h => by cases h) fnExactScrubDo_row_tie rfl ⟨rfl, rfl⟩ FnExactScrubDo_c2 rfl
  (fun f fn hf hfn => by
   obtain rfl : f = 3 := Option.some.inj (FnExactScrubDo_c6.symm.trans hf) |>.symm
   obtain rfl : fn = Tryz.f3 := (Option.some.inj (Tryz.func3.symm.trans hfn)).symm
   exact ⟨FnExactScrubDo_c3, fun j t ht => by
    rw [Tryz.params3] at ht
    have hm : t ∈ [34] := by simpa using Array.mem_of_getElem? ht
    exact (show Tryz.prog.wantsStandIn t = false by simpa using List.all_eq_true.1 FnExactScrubDo_c4 t hm)⟩)
  FnExactScrubDo_c5
#print axioms FnExactScrubDo_holds
end Go.Proofs.YtfmjgoeclilcnaaGreatDoor
