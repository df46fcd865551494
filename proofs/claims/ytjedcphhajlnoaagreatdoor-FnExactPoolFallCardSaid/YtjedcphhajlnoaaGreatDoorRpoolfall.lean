/- For all arguments the law of a fallen pool answers true and leaves its arguments as they were; Go's own tables of utf8 lie as the program's text lays them (the card ties them). -/
import Derived.Test.YtjedcphhajlnoaaGreatDoorTie
import Derived.Test.YtjedcphhajlnoaaGreatDoorCards
import Derived.Test.YtjedcphhajlnoaaGreatDoorM0
import Derived.Test.YtjedcphhajlnoaaGreatDoorM1
import Derived.Test.YtjedcphhajlnoaaGreatDoorM2
import Derived.Test.YtjedcphhajlnoaaGreatDoorM3
import Derived.Test.YtjedcphhajlnoaaGreatDoorM4
import Derived.Test.YtjedcphhajlnoaaGreatDoorM5
import Derived.Test.YtjedcphhajlnoaaGreatDoorM6
import Derived.Test.YtjedcphhajlnoaaGreatDoorM7
import Derived.Test.YtjedcphhajlnoaaGreatDoorM8
import Derived.Test.YtjedcphhajlnoaaGreatDoorM9
import Derived.Test.YtjedcphhajlnoaaGreatDoorM10
import Derived.Test.YtjedcphhajlnoaaGreatDoorM11
import Derived.Test.YtjedcphhajlnoaaGreatDoorM12
import Derived.Test.YtjedcphhajlnoaaGreatDoorM13
import Derived.Test.YtjedcphhajlnoaaGreatDoorM14
import Derived.Test.YtjedcphhajlnoaaGreatDoorM15
import Derived.Test.YtjedcphhajlnoaaGreatDoorM16
set_option linter.unusedSectionVars false
set_option linter.unusedSimpArgs false
set_option linter.unusedVariables false
namespace Go.Proofs.YtjedcphhajlnoaaGreatDoor
open Go.ChangeShapes Go.WideShapes Go.ChangeAt Go.RowKit
set_option maxRecDepth 100000 in
theorem FnExactPoolFall_lifted (os : Os) (started : os.Started) (H : Type) (enc : TypeId × Value → H) :
    ReturnsInHanded {} Tryz.checked os 9 .any (fun w args => (Rows.fnExactPoolFallSpec.pre enc Tryz.prog Tryz.f9 [] false w args ∧ laidMetH Tryz.prog laidU w) ∧ sizedMet enc Tryz.prog Tryz.f9 (OpenSpec.ofChange Rows.fnExactPoolFallSpec) false w args)
      (Rows.fnExactPoolFallSpec.post enc Tryz.prog Tryz.f9 false true false false) := by
  refine returnsInHanded_of_change_and (C := Tryz.checked) (X := fun w _ => laidMetH Tryz.prog laidU w) (fun _ _ _ hh h => h.of_heap hh) own started (by kernel_rfl) Tryz.func9
    (ChangeSpec.witness_shaped (enc := enc) (C := Tryz.checked) (os := os) (X := fun w _ => laidMetH Tryz.prog laidU w) false (World.laidAll Tryz.prog os laidU) #[.agg #[.slice none 0 0, .slice none 0 0, .slice none 0 0, .int .i64 0, .slice none 0 0, .slice none 0 0, .slice none 0 0, .bool false, .slice none 0 0, .int .i64 0, .bool false], .slice none 0 0] 8 rfl (laidU_shaped os) (by kernel_rfl) (by kernel_rfl) (by kernel_rfl) (laidU_met os _)) ?_
  intro W base args ds gs before hval0 hW _ _ hL _
  have hval : ∀ (j : Nat) t v, Tryz.f9.params[j]? = some t → args[j]? = some v → Value.okWide Tryz.prog W .any base t v := hval0
  have hW' := hW
  obtain ⟨p, q, hA0, hV, rfl, hfz, hnd⟩ := hW
  have hA : DataW.TrodAll enc Tryz.prog W 0 (fun _ => true) true Tryz.f9.params.toList args.toList ds p := hA0
  rw [Tryz.params9] at hA hval
  obtain ⟨v0, vs0, d0, ds0, p0, q0, hargs, rfl, rfl, h0, r0⟩ := trodAll_cons hA
  obtain ⟨v1, vs1, d1, ds1, p1, q1, rfl, rfl, rfl, h1, r1⟩ := trodAll_cons r0
  obtain ⟨rfl, rfl, rfl⟩ := trodAll_nil r1
  obtain rfl : args = #[v0, v1] := by cases args; simp_all
  obtain ⟨rfl, rfl⟩ := trodVars_none hV
  have k0 := h0
  have lt0 : ∀ x ∈ p0, x.block < W.heap.size := by obtain ⟨m, hm⟩ := k0; exact DataW.trod_lt m _ _ _ hm
  obtain ⟨a0, b0, l0, x0, cs0, es0, qs0, y0, zs0, u0, o0, i0, r0⟩ := arg_pool (H := H) 8 (by kernel_rfl) (by kernel_rfl) (hval 0 34 v0 rfl rfl) k0
  have k1 := h1
  have lt1 : ∀ x ∈ p1, x.block < W.heap.size := by obtain ⟨m, hm⟩ := k1; exact DataW.trod_lt m _ _ _ hm
  obtain ⟨x1, i1, r1⟩ := arg_ints (H := H) 6 (by kernel_rfl) Tryz.underlying30 (hval 1 30 v1 rfl rfl) k1
  clear hA0 hval0 hL
  refine (lawN s_xPoolFall (vs := [v0, v1]) (args := [.agg [.isl .str a0, .isl .str b0, .isl .late l0, .val (.int .i64 x0), .isl .cset cs0, .isl .ent es0, .isl .ptr qs0, .val (.bool y0), .isl .int zs0, .val (.int .i64 u0), .val (.bool o0)], .one (.isl .int x1)]) (.inr ⟨_, ⟨i0, i1⟩, rfl⟩) (by simp only [VRs]; exact ⟨r0, r1, trivial⟩) (glo_none rfl W)).mono fun e W' ⟨he, bel⟩ => ?_
  subst he
  exact ⟨_, rfl, _, _, _, [], _, [], hW', trodAll_mk1 (shut_bool Tryz.underlying4 _), (trodAll_cons_mk (Below.trod laidOut (by kernel_rfl) (of_decide_eq_true (by kernel_rfl)) k0 bel lt0) (trodAll_cons_mk (Below.trod laidOut (by kernel_rfl) (of_decide_eq_true (by kernel_rfl)) k1 bel lt1) trodAll_mk0)), rfl, bel.frame _, fun h => by cases h⟩
set_option maxRecDepth 100000 in
theorem FnExactPoolFall_j1 : (Rows.fnExactPoolFallRow.inPlace == Tryz.prog.inPlace 9) = true := by kernel_rfl
set_option maxRecDepth 100000 in
theorem FnExactPoolFall_j2 : (Rows.fnExactPoolFallRow.unfollowed == Tryz.prog.unfollowed 9) = true := by kernel_rfl
set_option maxRecDepth 100000 in
theorem FnExactPoolFall_j3 : (Rows.fnExactPoolFallRow.recurses == Tryz.prog.recurses 9) = true := by kernel_rfl
set_option maxRecDepth 100000 in
theorem FnExactPoolFall_j4 : (Rows.fnExactPoolFallRow.named == Tryz.prog.varsNamed 9) = true := by kernel_rfl
set_option maxRecDepth 100000 in
theorem FnExactPoolFall_closed : joinedFacts Tryz.prog 9 Tryz.f9 Rows.fnExactPoolFallSpec Rows.fnExactPoolFallRow = true := by
  unfold joinedFacts
  rw [FnExactPoolFall_j1, FnExactPoolFall_j2, FnExactPoolFall_j3, FnExactPoolFall_j4, laidOut, mapsR]
  kernel_rfl
theorem FnExactPoolFall_row : Rows.FnExactPoolFallSaid :=
  OpenClaim.holds_of_wide 9 Tryz.f9 rfl rfl rfl rfl rfl rfl rfl ⟨rfl, rfl, rfl, rfl, rfl⟩ rfl rfl rfl rfl rfl (by kernel_rfl) Tryz.func9 FnExactPoolFall_closed
    (of_decide_eq_true (by kernel_rfl)) (by unfold Func.isWrapper; first | (rw [if_pos (by decide +kernel)]; kernel_rfl) | (rw [if_neg (by decide +kernel)]; exact ⟨rfl, rfl⟩))
    (fun os started H enc _ => FnExactPoolFall_lifted os started H enc)
set_option maxRecDepth 100000 in
theorem FnExactPoolFall_c1 : Rows.fnExactPoolFallRow.wfByText (OpenSpec.ofChange Rows.fnExactPoolFallSpec) = true := by kernel_rfl
set_option maxRecDepth 100000 in
theorem FnExactPoolFall_c2 : Tryz.pinned.checked.prog.mainIs = some (Rows.fnExactPoolFallCard.stood.harness.1, Rows.fnExactPoolFallCard.stood.harness.2.toList) := by kernel_rfl
set_option maxRecDepth 100000 in
theorem FnExactPoolFall_c3 : Rows.fnExactPoolFallCard.stood.looks = Tryz.pinned.checked.prog.looks [] := by kernel_rfl
set_option maxRecDepth 100000 in
theorem FnExactPoolFall_c4 : ([34, 30].all fun u => !Tryz.prog.wantsStandIn u) = true := by kernel_rfl
set_option maxRecDepth 100000 in
theorem FnExactPoolFall_c5 : false = Rows.fnExactPoolFallRow.goesBy Tryz.pinned.checked.prog := by kernel_rfl
set_option maxRecDepth 100000 in
theorem FnExactPoolFall_c6 : Tryz.prog.funcNamed Rows.fnExactPoolFallRow.func = some 9 := by kernel_rfl
theorem FnExactPoolFall_holds : Rows.FnExactPoolFallCardSaid :=
  Claim7.holds_tied_plain_at .later [] Rows.fnExactPoolFallCard.laidKinds true Rows.fnExactPoolFallCard.stood.harness Rows.fnExactPoolFallCard.stood.looks
    FnExactPoolFall_row (fun _ h => by cases h) FnExactPoolFall_c1 (fun _ h => by cases h) fnExactPoolFall_row_tie rfl ⟨rfl, rfl⟩ FnExactPoolFall_c2 rfl
    (fun f fn hf hfn => by
      obtain rfl : f = 9 := Option.some.inj (FnExactPoolFall_c6.symm.trans hf) |>.symm
      obtain rfl : fn = Tryz.f9 := (Option.some.inj (Tryz.func9.symm.trans hfn)).symm
      exact ⟨FnExactPoolFall_c3, fun j t ht => by
        rw [Tryz.params9] at ht
        have hm : t ∈ [34, 30] := by simpa using Array.mem_of_getElem? ht
        exact (show Tryz.prog.wantsStandIn t = false by simpa using List.all_eq_true.1 FnExactPoolFall_c4 t hm)⟩)
    FnExactPoolFall_c5
#print axioms FnExactPoolFall_holds
end Go.Proofs.YtjedcphhajlnoaaGreatDoor
