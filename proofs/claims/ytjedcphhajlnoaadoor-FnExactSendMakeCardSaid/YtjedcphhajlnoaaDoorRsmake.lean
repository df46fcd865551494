/- For all arguments the law of what is sent, FnExactSendMake, answers true and leaves its arguments as they were; Go's own tables of utf8 lie as the program's text lays them (the card ties them). -/
import Derived.Test.YtjedcphhajlnoaaDoorTie
import Derived.Test.YtjedcphhajlnoaaDoorCards
import Derived.Test.YtjedcphhajlnoaaDoorM0
import Derived.Test.YtjedcphhajlnoaaDoorM1
import Derived.Test.YtjedcphhajlnoaaDoorM2
import Derived.Test.YtjedcphhajlnoaaDoorM3
import Derived.Test.YtjedcphhajlnoaaDoorM4
import Derived.Test.YtjedcphhajlnoaaDoorM5
import Derived.Test.YtjedcphhajlnoaaDoorM6
import Derived.Test.YtjedcphhajlnoaaDoorM7
import Derived.Test.YtjedcphhajlnoaaDoorM8
import Derived.Test.YtjedcphhajlnoaaDoorM9
import Derived.Test.YtjedcphhajlnoaaDoorM10
import Derived.Test.YtjedcphhajlnoaaDoorM12
import Derived.Test.YtjedcphhajlnoaaDoorM13
set_option linter.unusedSectionVars false
set_option linter.unusedSimpArgs false
set_option linter.unusedVariables false
namespace Go.Proofs.YtjedcphhajlnoaaDoor
open Go.ChangeShapes Go.WideShapes Go.ChangeAt Go.RowKit
set_option maxRecDepth 100000 in
theorem FnExactSendMake_lifted (os : Os) (started : os.Started) (H : Type) (enc : TypeId × Value → H) :
    ReturnsInHanded {} Tryd.checked os 4 .any (fun w args => (Rows.fnExactSendMakeSpec.pre enc Tryd.prog Tryd.f4 [] false w args ∧ laidMetH Tryd.prog laid5 w) ∧ sizedMet enc Tryd.prog Tryd.f4 (OpenSpec.ofChange Rows.fnExactSendMakeSpec) false w args)
      (Rows.fnExactSendMakeSpec.post enc Tryd.prog Tryd.f4 false true false false) := by
  refine returnsInHanded_of_change_and (C := Tryd.checked) (X := fun w _ => laidMetH Tryd.prog laid5 w) (fun _ _ _ hh h => h.of_heap hh) own started (by kernel_rfl) Tryd.func4
    (ChangeSpec.witness_shaped (enc := enc) (C := Tryd.checked) (os := os) (X := fun w _ => laidMetH Tryd.prog laid5 w) false (World.laidAll Tryd.prog os laid5) #[.agg #[.slice none 0 0], .string ⟨#[]⟩, .string ⟨#[]⟩] 8 rfl (laid5_shaped os) (by kernel_rfl) (by kernel_rfl) (by kernel_rfl) (laid5_met os _)) ?_
  intro W base args ds gs before hval0 hW _ _ hL _
  have hval : ∀ (j : Nat) t v, Tryd.f4.params[j]? = some t → args[j]? = some v → Value.okWide Tryd.prog W .any base t v := hval0
  have hW' := hW
  obtain ⟨p, q, hA0, hV, rfl, hfz, hnd⟩ := hW
  have hA : DataW.TrodAll enc Tryd.prog W 0 (fun _ => true) true Tryd.f4.params.toList args.toList ds p := hA0
  rw [Tryd.params4] at hA hval
  obtain ⟨v0, vs0, d0, ds0, p0, q0, hargs, rfl, rfl, h0, r0⟩ := trodAll_cons hA
  obtain ⟨v1, vs1, d1, ds1, p1, q1, rfl, rfl, rfl, h1, r1⟩ := trodAll_cons r0
  obtain ⟨v2, vs2, d2, ds2, p2, q2, rfl, rfl, rfl, h2, r2⟩ := trodAll_cons r1
  obtain ⟨rfl, rfl, rfl⟩ := trodAll_nil r2
  obtain rfl : args = #[v0, v1, v2] := by cases args; simp_all
  obtain ⟨rfl, rfl⟩ := trodVars_none hV
  have k0 := h0
  have lt0 : ∀ x ∈ p0, x.block < W.heap.size := by obtain ⟨m, hm⟩ := k0; exact DataW.trod_lt m _ _ _ hm
  obtain ⟨x0, i0, r0⟩ := arg_book (H := H) 8 (by kernel_rfl) (by kernel_rfl) (hval 0 38 v0 rfl rfl) k0
  have k1 := h1
  have lt1 : ∀ x ∈ p1, x.block < W.heap.size := by obtain ⟨m, hm⟩ := k1; exact DataW.trod_lt m _ _ _ hm
  obtain ⟨s1, i1, r1⟩ := arg_str (H := H) Tryd.underlying9 (hval 1 9 v1 rfl rfl) k1
  have k2 := h2
  have lt2 : ∀ x ∈ p2, x.block < W.heap.size := by obtain ⟨m, hm⟩ := k2; exact DataW.trod_lt m _ _ _ hm
  obtain ⟨s2, i2, r2⟩ := arg_str (H := H) Tryd.underlying9 (hval 2 9 v2 rfl rfl) k2
  clear hA0 hval0
  refine (lawN s_xMake (vs := [v0, v1, v2]) (args := [.agg [.isl .bset x0], .one (.val (.string s1)), .one (.val (.string s2))]) (.inr ⟨_, ⟨i0, i1, i2⟩, rfl⟩) (by simp only [VRs]; exact ⟨r0, r1, r2, trivial⟩) (glo_laid5 hL)).mono fun e W' ⟨he, bel⟩ => ?_
  subst he
  exact ⟨_, rfl, _, _, _, [], _, [], hW', trodAll_mk1 (shut_bool Tryd.underlying4 _), (trodAll_cons_mk (Below.trod laidOut (by kernel_rfl) (of_decide_eq_true (by kernel_rfl)) k0 bel lt0) (trodAll_cons_mk (Below.trod laidOut (by kernel_rfl) (of_decide_eq_true (by kernel_rfl)) k1 bel lt1) (trodAll_cons_mk (Below.trod laidOut (by kernel_rfl) (of_decide_eq_true (by kernel_rfl)) k2 bel lt2) trodAll_mk0))), rfl, bel.frame _, fun h => by cases h⟩
set_option maxRecDepth 100000 in
theorem FnExactSendMake_j1 : (Rows.fnExactSendMakeRow.inPlace == Tryd.prog.inPlace 4) = true := by kernel_rfl
set_option maxRecDepth 100000 in
theorem FnExactSendMake_j2 : (Rows.fnExactSendMakeRow.unfollowed == Tryd.prog.unfollowed 4) = true := by kernel_rfl
set_option maxRecDepth 100000 in
theorem FnExactSendMake_j3 : (Rows.fnExactSendMakeRow.recurses == Tryd.prog.recurses 4) = true := by kernel_rfl
set_option maxRecDepth 100000 in
theorem FnExactSendMake_j4 : (Rows.fnExactSendMakeRow.named == Tryd.prog.varsNamed 4) = true := by kernel_rfl
set_option maxRecDepth 100000 in
theorem FnExactSendMake_closed : joinedFacts Tryd.prog 4 Tryd.f4 Rows.fnExactSendMakeSpec Rows.fnExactSendMakeRow = true := by
  unfold joinedFacts
  rw [FnExactSendMake_j1, FnExactSendMake_j2, FnExactSendMake_j3, FnExactSendMake_j4, laidOut, mapsR5]
  kernel_rfl
theorem FnExactSendMake_row : Rows.FnExactSendMakeSaid :=
  OpenClaim.holds_of_wide 4 Tryd.f4 rfl rfl rfl rfl rfl rfl rfl ⟨rfl, rfl, rfl, rfl, rfl⟩ rfl rfl rfl rfl rfl (by kernel_rfl) Tryd.func4 FnExactSendMake_closed
    (of_decide_eq_true (by kernel_rfl)) (by unfold Func.isWrapper; first | (rw [if_pos (by decide +kernel)]; kernel_rfl) | (rw [if_neg (by decide +kernel)]; exact ⟨rfl, rfl⟩))
    (fun os started H enc _ => FnExactSendMake_lifted os started H enc)
set_option maxRecDepth 100000 in
theorem FnExactSendMake_c1 : Rows.fnExactSendMakeRow.wfByText (OpenSpec.ofChange Rows.fnExactSendMakeSpec) = true := by kernel_rfl
set_option maxRecDepth 100000 in
theorem FnExactSendMake_c2 : Tryd.pinned.checked.prog.mainIs = some (Rows.fnExactSendMakeCard.stood.harness.1, Rows.fnExactSendMakeCard.stood.harness.2.toList) := by kernel_rfl
set_option maxRecDepth 100000 in
theorem FnExactSendMake_c3 : Rows.fnExactSendMakeCard.stood.looks = Tryd.pinned.checked.prog.looks [] := by kernel_rfl
set_option maxRecDepth 100000 in
theorem FnExactSendMake_c4 : ([38, 9, 9].all fun u => !Tryd.prog.wantsStandIn u) = true := by kernel_rfl
set_option maxRecDepth 100000 in
theorem FnExactSendMake_c5 : false = Rows.fnExactSendMakeRow.goesBy Tryd.pinned.checked.prog := by kernel_rfl
set_option maxRecDepth 100000 in
theorem FnExactSendMake_c6 : Tryd.prog.funcNamed Rows.fnExactSendMakeRow.func = some 4 := by kernel_rfl
theorem FnExactSendMake_holds : Rows.FnExactSendMakeCardSaid :=
  Claim7.holds_tied_plain_at .later [] Rows.fnExactSendMakeCard.laidKinds true Rows.fnExactSendMakeCard.stood.harness Rows.fnExactSendMakeCard.stood.looks
    FnExactSendMake_row (fun _ h => by cases h) FnExactSendMake_c1 (fun _ h => by cases h) fnExactSendMake_row_tie rfl ⟨rfl, rfl⟩ FnExactSendMake_c2 rfl
    (fun f fn hf hfn => by
      obtain rfl : f = 4 := Option.some.inj (FnExactSendMake_c6.symm.trans hf) |>.symm
      obtain rfl : fn = Tryd.f4 := (Option.some.inj (Tryd.func4.symm.trans hfn)).symm
      exact ⟨FnExactSendMake_c3, fun j t ht => by
        rw [Tryd.params4] at ht
        have hm : t ∈ [38, 9, 9] := by simpa using Array.mem_of_getElem? ht
        exact (show Tryd.prog.wantsStandIn t = false by simpa using List.all_eq_true.1 FnExactSendMake_c4 t hm)⟩)
    FnExactSendMake_c5
#print axioms FnExactSendMake_holds
end Go.Proofs.YtjedcphhajlnoaaDoor
