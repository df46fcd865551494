/- For all arguments the law of the same pool, FnExactPoolSame, answers true and leaves its arguments as they were: no condition. -/
import Derived.Test.YtfmeopnankeaeaaTEpool
import Derived.Test.YtfmeopnankeaeaaTTiy
set_option linter.unusedSectionVars false
set_option linter.unusedSimpArgs false
set_option linter.unusedVariables false
namespace Go.Proofs.Ytfmeopnankeaeaa
open Go.ChangeShapes Go.WideShapes Go.ChangeAt Go.RowKit
set_option maxRecDepth 100000 in
theorem FnExactPoolSame_lifted (os : Os) (started : os.Started) (H : Type) (enc : TypeId × Value → H) :
    ReturnsInHanded {} Try.checked os 9 .any (Rows.fnExactPoolSameSpec.pre6 enc Try.prog Try.f9 Rows.fnExactPoolSameRow.domain false) (Rows.fnExactPoolSameSpec.post enc Try.prog Try.f9 false true false false) := by
  refine returnsInHanded_of_change (C := Try.checked) own started (by kernel_rfl) Try.func9
    (ChangeSpec.witness6 (enc := enc) (C := Try.checked) false ⟨#[], #[.agg #[.slice none 0 0, .slice none 0 0, .slice none 0 0, .int .i64 0, .slice none 0 0, .slice none 0 0, .slice none 0 0, .bool false, .slice none 0 0, .int .i64 0, .bool false], .agg #[.slice none 0 0, .slice none 0 0, .slice none 0 0, .int .i64 0, .slice none 0 0, .slice none 0 0, .slice none 0 0, .bool false, .slice none 0 0, .int .i64 0, .bool false]], []⟩ 8 (by kernel_rfl) (by kernel_rfl) (by kernel_rfl) (by kernel_rfl)) ?_
  intro W base args ds gs before hval0 hW hcnd _
  have hval : ∀ (j : Nat) t v, Try.f9.params[j]? = some t → args[j]? = some v → Value.okWide Try.prog W .any base t v := hval0
  have hW' := hW
  obtain ⟨p, q, hA0, hV, rfl, hfz, hnd⟩ := hW
  have hA : DataW.TrodAll enc Try.prog W 0 (fun _ => true) true Try.f9.params.toList args.toList ds p := hA0
  rw [Try.params9] at hA hval
  obtain ⟨v0, vs0, d0, ds0, p0, q0, hargs, rfl, rfl, h0, r0⟩ := trodAll_cons hA
  obtain ⟨v1, vs1, d1, ds1, p1, q1, rfl, rfl, rfl, h1, r1⟩ := trodAll_cons r0
  obtain ⟨rfl, rfl, rfl⟩ := trodAll_nil r1
  obtain rfl : args = #[v0, v1] := by cases args; simp_all
  obtain ⟨rfl, rfl⟩ := trodVars_none hV
  have k0 := h0
  have lt0 : ∀ x ∈ p0, x.block < W.heap.size := by obtain ⟨m, hm⟩ := k0; exact DataW.trod_lt m _ _ _ hm
  obtain ⟨a0, b0, l0, x0, cs0, es0, qs0, y0, zs0, u0, o0, i0, r0⟩ := arg_pool (H := H) 8 (by kernel_rfl) (by kernel_rfl) (hval 0 62 v0 rfl rfl) k0
  have k1 := h1
  have lt1 : ∀ x ∈ p1, x.block < W.heap.size := by obtain ⟨m, hm⟩ := k1; exact DataW.trod_lt m _ _ _ hm
  obtain ⟨a1, b1, l1, x1, cs1, es1, qs1, y1, zs1, u1, o1, i1, r1⟩ := arg_pool (H := H) 8 (by kernel_rfl) (by kernel_rfl) (hval 1 62 v1 rfl rfl) k1
  clear hA0 hval0
  refine (lawN s_xPoolSame (vs := [v0, v1]) (args := [.agg [.isl .str a0, .isl .str b0, .isl .late l0, .val (.int .i64 x0), .isl .cset cs0, .isl .ent es0, .isl .ptr qs0, .val (.bool y0), .isl .int zs0, .val (.int .i64 u0), .val (.bool o0)], .agg [.isl .str a1, .isl .str b1, .isl .late l1, .val (.int .i64 x1), .isl .cset cs1, .isl .ent es1, .isl .ptr qs1, .val (.bool y1), .isl .int zs1, .val (.int .i64 u1), .val (.bool o1)]]) (.inr ⟨_, ⟨i0, i1⟩, rfl⟩) (by simp only [VRs]; exact ⟨r0, r1, trivial⟩)).mono fun e W' ⟨he, bel⟩ => ?_
  subst he
  exact ⟨_, rfl, _, _, _, [], _, [], hW', trodAll_mk1 (shut_bool Try.underlying4 _), (trodAll_cons_mk (Below.trod laidOut (by kernel_rfl) (of_decide_eq_true (by kernel_rfl)) k0 bel lt0) (trodAll_cons_mk (Below.trod laidOut (by kernel_rfl) (of_decide_eq_true (by kernel_rfl)) k1 bel lt1) trodAll_mk0)), rfl, bel.frame _, fun h => by cases h⟩
theorem FnExactPoolSame_holds : Rows.FnExactPoolSameSaid :=
  OpenClaim.holds_of_wide 9 Try.f9 rfl rfl rfl rfl rfl rfl rfl ⟨rfl, rfl, rfl, rfl, rfl⟩ rfl rfl rfl rfl rfl (by kernel_rfl) Try.func9 (by kernel_rfl)
    (of_decide_eq_true (by kernel_rfl)) (by unfold Func.isWrapper; first | (rw [if_pos (by decide +kernel)]; kernel_rfl) | (rw [if_neg (by decide +kernel)]; exact ⟨rfl, rfl⟩))
    (fun os started H enc _ => FnExactPoolSame_lifted os started H enc)
#print axioms FnExactPoolSame_holds
end Go.Proofs.Ytfmeopnankeaeaa
