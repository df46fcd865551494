/- For all arguments the law of ancestry, FnTreeLine, answers true and leaves its arguments as they were; Go's own tables of utf8 lie as the program's text lays them (the card ties them). -/
import Derived.Test.YtjedcphhajlnoaaDoorTie
import Derived.Test.YtjedcphhajlnoaaDoorCards
import Derived.Test.YtjedcphhajlnoaaDoorM0
import Derived.Test.YtjedcphhajlnoaaDoorM1
import Derived.Test.YtjedcphhajlnoaaDoorM2
import Derived.Test.YtjedcphhajlnoaaDoorM3
import Derived.Test.YtjedcphhajlnoaaDoorM4
import Derived.Test.YtjedcphhajlnoaaDoorM5
import Derived.Test.YtjedcphhajlnoaaDoorM6
import Derived.Test.YtjedcphhajlnoaaDoorM7
import Derived.Test.YtjedcphhajlnoaaDoorM8
import Derived.Test.YtjedcphhajlnoaaDoorM9
import Derived.Test.YtjedcphhajlnoaaDoorM10
set_option linter.unusedSectionVars false
set_option linter.unusedSimpArgs false
set_option linter.unusedVariables false
namespace Go.Proofs.YtjedcphhajlnoaaDoor
open Go.ChangeShapes Go.WideShapes Go.ChangeAt Go.RowKit
set_option maxRecDepth 100000 in
theorem FnTreeLine_lifted (os : Os) (started : os.Started) (H : Type) (enc : TypeId × Value → H) :
    ReturnsInHanded {} Tryd.checked os 3 .any (fun w args => (Rows.fnTreeLineSpec.pre enc Tryd.prog Tryd.f3 [] false w args ∧ laidMetH Tryd.prog laidU w) ∧ sizedMet enc Tryd.prog Tryd.f3 (OpenSpec.ofChange Rows.fnTreeLineSpec) false w args)
      (Rows.fnTreeLineSpec.post enc Tryd.prog Tryd.f3 false true false false) := by
  refine returnsInHanded_of_change_and (C := Tryd.checked) (X := fun w _ => laidMetH Tryd.prog laidU w) (fun _ _ _ hh h => h.of_heap hh) own started (by kernel_rfl) Tryd.func3
    (ChangeSpec.witness_shaped (enc := enc) (C := Tryd.checked) (os := os) (X := fun w _ => laidMetH Tryd.prog laidU w) false (World.laidAll Tryd.prog os laidU) #[.slice none 0 0] 8 rfl (laidU_shaped os) (by kernel_rfl) (by kernel_rfl) (by kernel_rfl) (laidU_met os _)) ?_
  intro W base args ds gs before hval0 hW _ _ hL _
  have hval : ∀ (j : Nat) t v, Tryd.f3.params[j]? = some t → args[j]? = some v → Value.okWide Tryd.prog W .any base t v := hval0
  have hW' := hW
  obtain ⟨p, q, hA0, hV, rfl, hfz, hnd⟩ := hW
  have hA : DataW.TrodAll enc Tryd.prog W 0 (fun _ => true) true Tryd.f3.params.toList args.toList ds p := hA0
  rw [Tryd.params3] at hA hval
  obtain ⟨v0, vs0, d0, ds0, p0, q0, hargs, rfl, rfl, h0, r0⟩ := trodAll_cons hA
  obtain ⟨rfl, rfl, rfl⟩ := trodAll_nil r0
  obtain rfl : args = #[v0] := by cases args; simp_all
  obtain ⟨rfl, rfl⟩ := trodVars_none hV
  have k0 := h0
  have lt0 : ∀ x ∈ p0, x.block < W.heap.size := by obtain ⟨m, hm⟩ := k0; exact DataW.trod_lt m _ _ _ hm
  obtain ⟨x0, i0⟩ : ∃ bs, IsBytes W v0 bs := by obtain ⟨fuel, hf⟩ := k0; exact bytes_open Tryd.underlying22 Tryd.underlying5 (by kernel_rfl) (hval 0 22 v0 rfl rfl) hf
  clear hA0 hval0 hL
  refine (law1 s_lawTreeLine i0 (glo_none rfl W)).mono fun e W' ⟨he, bel⟩ => ?_
  subst he
  exact ⟨_, rfl, _, _, _, [], _, [], hW', trodAll_mk1 (shut_bool Tryd.underlying4 _), (trodAll_cons_mk (Below.trod laidOut (by kernel_rfl) (of_decide_eq_true (by kernel_rfl)) k0 bel lt0) trodAll_mk0), rfl, bel.frame _, fun h => by cases h⟩
set_option maxRecDepth 100000 in
theorem FnTreeLine_j1 : (Rows.fnTreeLineRow.inPlace == Tryd.prog.inPlace 3) = true := by kernel_rfl
set_option maxRecDepth 100000 in
theorem FnTreeLine_j2 : (Rows.fnTreeLineRow.unfollowed == Tryd.prog.unfollowed 3) = true := by kernel_rfl
set_option maxRecDepth 100000 in
theorem FnTreeLine_j3 : (Rows.fnTreeLineRow.recurses == Tryd.prog.recurses 3) = true := by kernel_rfl
set_option maxRecDepth 100000 in
theorem FnTreeLine_j4 : (Rows.fnTreeLineRow.named == Tryd.prog.varsNamed 3) = true := by kernel_rfl
set_option maxRecDepth 100000 in
theorem FnTreeLine_closed : joinedFacts Tryd.prog 3 Tryd.f3 Rows.fnTreeLineSpec Rows.fnTreeLineRow = true := by
  unfold joinedFacts
  rw [FnTreeLine_j1, FnTreeLine_j2, FnTreeLine_j3, FnTreeLine_j4, laidOut, mapsR]
  kernel_rfl
theorem FnTreeLine_row : Rows.FnTreeLineSaid :=
  OpenClaim.holds_of_wide 3 Tryd.f3 rfl rfl rfl rfl rfl rfl rfl ⟨rfl, rfl, rfl, rfl, rfl⟩ rfl rfl rfl rfl rfl (by kernel_rfl) Tryd.func3 FnTreeLine_closed
    (of_decide_eq_true (by kernel_rfl)) (by unfold Func.isWrapper; first | (rw [if_pos (by decide +kernel)]; kernel_rfl) | (rw [if_neg (by decide +kernel)]; exact ⟨rfl, rfl⟩))
    (fun os started H enc _ => FnTreeLine_lifted os started H enc)
set_option maxRecDepth 100000 in
theorem FnTreeLine_c1 : Rows.fnTreeLineRow.wfByText (OpenSpec.ofChange Rows.fnTreeLineSpec) = true := by kernel_rfl
set_option maxRecDepth 100000 in
theorem FnTreeLine_c2 : Tryd.pinned.checked.prog.mainIs = some (Rows.fnTreeLineCard.stood.harness.1, Rows.fnTreeLineCard.stood.harness.2.toList) := by kernel_rfl
set_option maxRecDepth 100000 in
theorem FnTreeLine_c3 : Rows.fnTreeLineCard.stood.looks = Tryd.pinned.checked.prog.looks [] := by kernel_rfl
set_option maxRecDepth 100000 in
theorem FnTreeLine_c4 : ([22].all fun u => !Tryd.prog.wantsStandIn u) = true := by kernel_rfl
set_option maxRecDepth 100000 in
theorem FnTreeLine_c5 : false = Rows.fnTreeLineRow.goesBy Tryd.pinned.checked.prog := by kernel_rfl
set_option maxRecDepth 100000 in
theorem FnTreeLine_c6 : Tryd.prog.funcNamed Rows.fnTreeLineRow.func = some 3 := by kernel_rfl
theorem FnTreeLine_holds : Rows.FnTreeLineCardSaid :=
  Claim7.holds_tied_plain_at .later [] Rows.fnTreeLineCard.laidKinds true Rows.fnTreeLineCard.stood.harness Rows.fnTreeLineCard.stood.looks
    FnTreeLine_row (fun _ h => by cases h) FnTreeLine_c1 (fun _ h => by cases h) fnTreeLine_row_tie rfl ⟨rfl, rfl⟩ FnTreeLine_c2 rfl
    (fun f fn hf hfn => by
      obtain rfl : f = 3 := Option.some.inj (FnTreeLine_c6.symm.trans hf) |>.symm
      obtain rfl : fn = Tryd.f3 := (Option.some.inj (Tryd.func3.symm.trans hfn)).symm
      exact ⟨FnTreeLine_c3, fun j t ht => by
        rw [Tryd.params3] at ht
        have hm : t ∈ [22] := by simpa using Array.mem_of_getElem? ht
        exact (show Tryd.prog.wantsStandIn t = false by simpa using List.all_eq_true.1 FnTreeLine_c4 t hm)⟩)
    FnTreeLine_c5
#print axioms FnTreeLine_holds
end Go.Proofs.YtjedcphhajlnoaaDoor
