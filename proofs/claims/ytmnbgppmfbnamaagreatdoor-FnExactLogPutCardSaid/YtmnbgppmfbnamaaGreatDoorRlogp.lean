/- For all arguments the law of LogPut answers true and leaves its arguments as they were; Go's own tables of utf8 lie as the program's text lays them (the card ties them). -/
import Derived.Test.YtmnbgppmfbnamaaGreatDoorTie
import Derived.Test.YtmnbgppmfbnamaaGreatDoorCards
import Derived.Test.YtmnbgppmfbnamaaGreatDoorM0
import Derived.Test.YtmnbgppmfbnamaaGreatDoorM1
import Derived.Test.YtmnbgppmfbnamaaGreatDoorM2
import Derived.Test.YtmnbgppmfbnamaaGreatDoorM3
import Derived.Test.YtmnbgppmfbnamaaGreatDoorM4
import Derived.Test.YtmnbgppmfbnamaaGreatDoorM5
import Derived.Test.YtmnbgppmfbnamaaGreatDoorM6
import Derived.Test.YtmnbgppmfbnamaaGreatDoorM7
import Derived.Test.YtmnbgppmfbnamaaGreatDoorM8
import Derived.Test.YtmnbgppmfbnamaaGreatDoorM9
import Derived.Test.YtmnbgppmfbnamaaGreatDoorM10
import Derived.Test.YtmnbgppmfbnamaaGreatDoorM11
import Derived.Test.YtmnbgppmfbnamaaGreatDoorM12
import Derived.Test.YtmnbgppmfbnamaaGreatDoorM13
import Derived.Test.YtmnbgppmfbnamaaGreatDoorM14
import Derived.Test.YtmnbgppmfbnamaaGreatDoorM15
import Derived.Test.YtmnbgppmfbnamaaGreatDoorM16
import Derived.Test.YtmnbgppmfbnamaaGreatDoorM17
import Derived.Test.YtmnbgppmfbnamaaGreatDoorM18
import Derived.Test.YtmnbgppmfbnamaaGreatDoorM23
import Derived.Test.YtmnbgppmfbnamaaGreatDoorM24
set_option linter.unusedSectionVars false
set_option linter.unusedSimpArgs false
set_option linter.unusedVariables false
namespace Go.Proofs.YtmnbgppmfbnamaaGreatDoor
open Go.ChangeShapes Go.WideShapes Go.ChangeAt Go.RowKit
set_option maxRecDepth 100000 in
theorem FnExactLogPut_lifted (os : Os) (started : os.Started) (H : Type) (enc : TypeId × Value → H) :
    ReturnsInHanded {} Tryz.checked os 5 .any (fun w args => (Rows.fnExactLogPutSpec.pre enc Tryz.prog Tryz.f5 [] false w args ∧ laidMetH Tryz.prog laid5 w) ∧ sizedMet enc Tryz.prog Tryz.f5 (OpenSpec.ofChange Rows.fnExactLogPutSpec) false w args)
      (Rows.fnExactLogPutSpec.post enc Tryz.prog Tryz.f5 false true false false) := by
  refine returnsInHanded_of_change_and (C := Tryz.checked) (X := fun w _ => laidMetH Tryz.prog laid5 w) (fun _ _ _ hh h => h.of_heap hh) own started (by kernel_rfl) Tryz.func5
    (ChangeSpec.witness_shaped (enc := enc) (C := Tryz.checked) (os := os) (X := fun w _ => laidMetH Tryz.prog laid5 w) false (World.laidAll Tryz.prog os laid5) #[.agg #[.slice none 0 0, .slice none 0 0, .slice none 0 0], .agg #[.int .i64 0, .slice none 0 0, .slice none 0 0, .slice none 0 0, .bool false, .slice none 0 0, .int .i64 0], .agg #[.int .i64 0, .string ⟨#[]⟩, .string ⟨#[]⟩, .int .i64 0, .string ⟨#[]⟩]] 8 rfl (laid5_shaped os) (by kernel_rfl) (by kernel_rfl) (by kernel_rfl) (laid5_met os _)) ?_
  intro W base args ds gs before hval0 hW _ _ hL _
  have hval : ∀ (j : Nat) t v, Tryz.f5.params[j]? = some t → args[j]? = some v → Value.okWide Tryz.prog W .any base t v := hval0
  have hW' := hW
  obtain ⟨p, q, hA0, hV, rfl, hfz, hnd⟩ := hW
  have hA : DataW.TrodAll enc Tryz.prog W 0 (fun _ => true) true Tryz.f5.params.toList args.toList ds p := hA0
  rw [Tryz.params5] at hA hval
  obtain ⟨v0, vs0, d0, ds0, p0, q0, hargs, rfl, rfl, h0, r0⟩ := trodAll_cons hA
  obtain ⟨v1, vs1, d1, ds1, p1, q1, rfl, rfl, rfl, h1, r1⟩ := trodAll_cons r0
  obtain ⟨v2, vs2, d2, ds2, p2, q2, rfl, rfl, rfl, h2, r2⟩ := trodAll_cons r1
  obtain ⟨rfl, rfl, rfl⟩ := trodAll_nil r2
  obtain rfl : args = #[v0, v1, v2] := by cases args; simp_all
  obtain ⟨rfl, rfl⟩ := trodVars_none hV
  have k0 := h0
  have lt0 : ∀ x ∈ p0, x.block < W.heap.size := by obtain ⟨m, hm⟩ := k0; exact DataW.trod_lt m _ _ _ hm
  obtain ⟨a0, b0, l0, i0, r0⟩ := arg_disk (H := H) 6 (by kernel_rfl) (by kernel_rfl) (hval 0 46 v0 rfl rfl) k0
  have k1 := h1
  have lt1 : ∀ x ∈ p1, x.block < W.heap.size := by obtain ⟨m, hm⟩ := k1; exact DataW.trod_lt m _ _ _ hm
  obtain ⟨x1, cs1, es1, qs1, y1, zs1, u1, i1, r1⟩ := arg_core (H := H) 8 (by kernel_rfl) (by kernel_rfl) (hval 1 60 v1 rfl rfl) k1
  have k2 := h2
  have lt2 : ∀ x ∈ p2, x.block < W.heap.size := by obtain ⟨m, hm⟩ := k2; exact DataW.trod_lt m _ _ _ hm
  obtain ⟨a2, b2, c2, e2, f2, i2, r2⟩ := arg_bop (H := H) 8 (by kernel_rfl) (by kernel_rfl) (hval 2 61 v2 rfl rfl) k2
  clear hA0 hval0
  refine (lawN s_xLogPut (vs := [v0, v1, v2]) (args := [.agg [.isl .str a0, .isl .str b0, .isl .late l0], .agg [.val (.int .i64 x1), .isl .cset cs1, .isl .ent es1, .isl .ptr qs1, .val (.bool y1), .isl .int zs1, .val (.int .i64 u1)], .agg [.val (.int .i64 a2), .val (.string b2), .val (.string c2), .val (.int .i64 e2), .val (.string f2)]]) (.inr ⟨_, ⟨i0, i1, i2⟩, rfl⟩) (by simp only [VRs]; exact ⟨r0, r1, r2, trivial⟩) (glo_laid5 hL)).mono fun e W' ⟨he, bel⟩ => ?_
  subst he
  exact ⟨_, rfl, _, _, _, [], _, [], hW', trodAll_mk1 (shut_bool Tryz.underlying4 _), (trodAll_cons_mk (Below.trod laidOut (by kernel_rfl) (of_decide_eq_true (by kernel_rfl)) k0 bel lt0) (trodAll_cons_mk (Below.trod laidOut (by kernel_rfl) (of_decide_eq_true (by kernel_rfl)) k1 bel lt1) (trodAll_cons_mk (Below.trod laidOut (by kernel_rfl) (of_decide_eq_true (by kernel_rfl)) k2 bel lt2) trodAll_mk0))), rfl, bel.frame _, fun h => by cases h⟩
set_option maxRecDepth 100000 in
theorem FnExactLogPut_j1 : (Rows.fnExactLogPutRow.inPlace == Tryz.prog.inPlace 5) = true := by kernel_rfl
set_option maxRecDepth 100000 in
theorem FnExactLogPut_j2 : (Rows.fnExactLogPutRow.unfollowed == Tryz.prog.unfollowed 5) = true := by kernel_rfl
set_option maxRecDepth 100000 in
theorem FnExactLogPut_j3 : (Rows.fnExactLogPutRow.recurses == Tryz.prog.recurses 5) = true := by kernel_rfl
set_option maxRecDepth 100000 in
theorem FnExactLogPut_j4 : (Rows.fnExactLogPutRow.named == Tryz.prog.varsNamed 5) = true := by kernel_rfl
set_option maxRecDepth 100000 in
theorem FnExactLogPut_closed : joinedFacts Tryz.prog 5 Tryz.f5 Rows.fnExactLogPutSpec Rows.fnExactLogPutRow = true := by
  unfold joinedFacts
  rw [FnExactLogPut_j1, FnExactLogPut_j2, FnExactLogPut_j3, FnExactLogPut_j4, laidOut, mapsR5]
  kernel_rfl
theorem FnExactLogPut_row : Rows.FnExactLogPutSaid :=
  OpenClaim.holds_of_wide 5 Tryz.f5 rfl rfl rfl rfl rfl rfl rfl ⟨rfl, rfl, rfl, rfl, rfl⟩ rfl rfl rfl rfl rfl (by kernel_rfl) Tryz.func5 FnExactLogPut_closed
    (of_decide_eq_true (by kernel_rfl)) (by unfold Func.isWrapper; first | (rw [if_pos (by decide +kernel)]; kernel_rfl) | (rw [if_neg (by decide +kernel)]; exact ⟨rfl, rfl⟩))
    (fun os started H enc _ => FnExactLogPut_lifted os started H enc)
set_option maxRecDepth 100000 in
theorem FnExactLogPut_c1 : Rows.fnExactLogPutRow.wfByText (OpenSpec.ofChange Rows.fnExactLogPutSpec) = true := by kernel_rfl
set_option maxRecDepth 100000 in
theorem FnExactLogPut_c2 : Tryz.pinned.checked.prog.mainIs = some (Rows.fnExactLogPutCard.stood.harness.1, Rows.fnExactLogPutCard.stood.harness.2.toList) := by kernel_rfl
set_option maxRecDepth 100000 in
theorem FnExactLogPut_c3 : Rows.fnExactLogPutCard.stood.looks = Tryz.pinned.checked.prog.looks [] := by kernel_rfl
set_option maxRecDepth 100000 in
theorem FnExactLogPut_c4 : ([46, 60, 61].all fun u => !Tryz.prog.wantsStandIn u) = true := by kernel_rfl
set_option maxRecDepth 100000 in
theorem FnExactLogPut_c5 : false = Rows.fnExactLogPutRow.goesBy Tryz.pinned.checked.prog := by kernel_rfl
set_option maxRecDepth 100000 in
theorem FnExactLogPut_c6 : Tryz.prog.funcNamed Rows.fnExactLogPutRow.func = some 5 := by kernel_rfl
theorem FnExactLogPut_holds : Rows.FnExactLogPutCardSaid :=
  Claim7.holds_tied_plain_at .later [] Rows.fnExactLogPutCard.laidKinds true Rows.fnExactLogPutCard.stood.harness Rows.fnExactLogPutCard.stood.looks
    FnExactLogPut_row (fun _ h => by cases h) FnExactLogPut_c1 (fun _ h => by cases h) fnExactLogPut_row_tie rfl ⟨rfl, rfl⟩ FnExactLogPut_c2 rfl
    (fun f fn hf hfn => by
      obtain rfl : f = 5 := Option.some.inj (FnExactLogPut_c6.symm.trans hf) |>.symm
      obtain rfl : fn = Tryz.f5 := (Option.some.inj (Tryz.func5.symm.trans hfn)).symm
      exact ⟨FnExactLogPut_c3, fun j t ht => by
        rw [Tryz.params5] at ht
        have hm : t ∈ [46, 60, 61] := by simpa using Array.mem_of_getElem? ht
        exact (show Tryz.prog.wantsStandIn t = false by simpa using List.all_eq_true.1 FnExactLogPut_c4 t hm)⟩)
    FnExactLogPut_c5
#print axioms FnExactLogPut_holds
end Go.Proofs.YtmnbgppmfbnamaaGreatDoor
