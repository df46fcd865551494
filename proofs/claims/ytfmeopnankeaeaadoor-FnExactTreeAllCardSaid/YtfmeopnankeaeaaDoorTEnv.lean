/- The seat's types hold what the evaluator's table says. -/
import Derived.Test.YtfmeopnankeaeaaDoorTTypes
import Derived.Test.YtfmeopnankeaeaaDoorTC
import Derived.Test.YtfmeopnankeaeaaDoorTDeep
set_option linter.unusedSimpArgs false
set_option linter.unusedVariables false
set_option linter.unusedSectionVars false
namespace Go.Proofs.YtfmeopnankeaeaaDoor
open Go.RowKit
theorem part_one {P : Program} {t : TypeId} {x : TI} (h : TIok P t x) (ha : x.agg = false) (w : World) {cs : Array Value} {off : Nat} {v : Value} (hv : cs[off]? = some v) : (Go.part t cs off).run P w = .ok v w := by
  simp only [Go.part, Sem.run_bind, h.run_isAgg, ha, Result.andThen_ok, Bool.false_eq_true, if_false, hv, Sem.run_pure]
theorem kinds_iii {xs : List Value} (h : kindsOk [.int .i64, .int .i64, .int .i64] xs = true) : ∃ a b c, xs = [.int .i64 a, .int .i64 b, .int .i64 c] := by
  match xs, h with
  | [.int .i64 a, .int .i64 b, .int .i64 c], _ => exact ⟨a, b, c, rfl⟩
theorem kinds_iis {xs : List Value} (h : kindsOk [.int .i64, .int .i64, .str] xs = true) : ∃ a b c, xs = [.int .i64 a, .int .i64 b, .string c] := by
  match xs, h with
  | [.int .i64 a, .int .i64 b, .string c], _ => exact ⟨a, b, c, rfl⟩
theorem andThen_ok' {α β : Type} (a : α) (w : World) (f : α → World → Result β) : (Result.ok a w).andThen f = f a w := rfl
theorem ok_1 : TIok Tryd.prog 1 (ti 1) := ⟨⟨((Tryd.prog.info? 1).getD default), by kernel_rfl, by kernel_rfl, by kernel_rfl, (.nilFunc), by kernel_rfl, rfl, (fun h => by cases h), (fun _ => rfl)⟩, rfl, trivial, ⟨_, Tryd.underlying1, rfl⟩, fun e ks h => by cases h⟩
theorem ok_2 : TIok Tryd.prog 2 (ti 2) := ⟨⟨((Tryd.prog.info? 2).getD default), by kernel_rfl, by kernel_rfl, by kernel_rfl, (.int .i64 0), by kernel_rfl, rfl, (fun h => by cases h), (fun _ => rfl)⟩, rfl, Tryd.underlying2, ⟨_, Tryd.underlying2, rfl⟩, fun e ks h => by cases h⟩
theorem ok_3 : TIok Tryd.prog 3 (ti 3) := ⟨⟨((Tryd.prog.info? 3).getD default), by kernel_rfl, by kernel_rfl, by kernel_rfl, (.int .i64 0), by kernel_rfl, rfl, (fun h => by cases h), (fun _ => rfl)⟩, rfl, Tryd.underlying3, ⟨_, Tryd.underlying3, rfl⟩, fun e ks h hk => by cases h; cases hk⟩
theorem ok_4 : TIok Tryd.prog 4 (ti 4) := ⟨⟨((Tryd.prog.info? 4).getD default), by kernel_rfl, by kernel_rfl, by kernel_rfl, (.bool false), by kernel_rfl, rfl, (fun h => by cases h), (fun _ => rfl)⟩, rfl, Tryd.underlying4, ⟨_, Tryd.underlying4, rfl⟩, fun e ks h => by cases h⟩
theorem ok_5 : TIok Tryd.prog 5 (ti 5) := ⟨⟨((Tryd.prog.info? 5).getD default), by kernel_rfl, by kernel_rfl, by kernel_rfl, (.int .u8 0), by kernel_rfl, rfl, (fun h => by cases h), (fun _ => rfl)⟩, rfl, Tryd.underlying5, ⟨_, Tryd.underlying5, rfl⟩, fun e ks h hk => by cases h; cases hk⟩
theorem ok_6 : TIok Tryd.prog 6 (ti 6) := ⟨⟨((Tryd.prog.info? 6).getD default), by kernel_rfl, by kernel_rfl, by kernel_rfl, (.int .u8 0), by kernel_rfl, rfl, (fun h => by cases h), (fun _ => rfl)⟩, rfl, Tryd.underlying6, ⟨_, Tryd.underlying6, rfl⟩, fun e ks h => by cases h⟩
theorem ok_7 : TIok Tryd.prog 7 (ti 7) := ⟨⟨((Tryd.prog.info? 7).getD default), by kernel_rfl, by kernel_rfl, by kernel_rfl, (.agg #[.int .i64 0, .int .i64 0, .bool false, .int .u8 0]), by kernel_rfl, rfl, (fun _ => ⟨_, rfl⟩), (fun h => by cases h)⟩, rfl, ⟨_, Tryd.underlying7, rfl⟩, ⟨_, Tryd.underlying7, rfl⟩, fun e ks h => by cases h⟩
theorem ok_8 : TIok Tryd.prog 8 (ti 8) := ⟨⟨((Tryd.prog.info? 8).getD default), by kernel_rfl, by kernel_rfl, by kernel_rfl, (.agg #[.int .i64 0, .int .i64 0, .bool false, .int .u8 0]), by kernel_rfl, rfl, (fun _ => ⟨_, rfl⟩), (fun h => by cases h)⟩, rfl, ⟨_, Tryd.underlying8, rfl⟩, ⟨_, Tryd.underlying8, rfl⟩, fun e ks h => by cases h⟩
theorem ok_9 : TIok Tryd.prog 9 (ti 9) := ⟨⟨((Tryd.prog.info? 9).getD default), by kernel_rfl, by kernel_rfl, by kernel_rfl, (.string ⟨#[]⟩), by kernel_rfl, rfl, (fun h => by cases h), (fun _ => rfl)⟩, rfl, Tryd.underlying9, ⟨_, Tryd.underlying9, rfl⟩, fun e ks h hk => by cases h; cases hk⟩
theorem ok_10 : TIok Tryd.prog 10 (ti 10) := ⟨⟨((Tryd.prog.info? 10).getD default), by kernel_rfl, by kernel_rfl, by kernel_rfl, (.string ⟨#[]⟩), by kernel_rfl, rfl, (fun h => by cases h), (fun _ => rfl)⟩, rfl, Tryd.underlying10, ⟨_, Tryd.underlying10, rfl⟩, fun e ks h => by cases h⟩
theorem ok_11 : TIok Tryd.prog 11 (ti 11) := ⟨⟨((Tryd.prog.info? 11).getD default), by kernel_rfl, by kernel_rfl, by kernel_rfl, (.string ⟨#[]⟩), by kernel_rfl, rfl, (fun h => by cases h), (fun _ => rfl)⟩, rfl, Tryd.underlying11, ⟨_, Tryd.underlying11, rfl⟩, fun e ks h => by cases h⟩
theorem ok_12 : TIok Tryd.prog 12 (ti 12) := ⟨⟨((Tryd.prog.info? 12).getD default), by kernel_rfl, by kernel_rfl, by kernel_rfl, (.int .u64 0), by kernel_rfl, rfl, (fun h => by cases h), (fun _ => rfl)⟩, rfl, Tryd.underlying12, ⟨_, Tryd.underlying12, rfl⟩, fun e ks h => by cases h⟩
theorem ok_13 : TIok Tryd.prog 13 (ti 13) := ⟨⟨((Tryd.prog.info? 13).getD default), by kernel_rfl, by kernel_rfl, by kernel_rfl, (.agg #[.string ⟨#[]⟩, .int .u64 0]), by kernel_rfl, rfl, (fun _ => ⟨_, rfl⟩), (fun h => by cases h)⟩, rfl, ⟨_, Tryd.underlying13, rfl⟩, ⟨_, Tryd.underlying13, rfl⟩, fun e ks h => by cases h⟩
theorem ok_14 : TIok Tryd.prog 14 (ti 14) := ⟨⟨((Tryd.prog.info? 14).getD default), by kernel_rfl, by kernel_rfl, by kernel_rfl, (.agg #[.string ⟨#[]⟩, .int .u64 0]), by kernel_rfl, rfl, (fun _ => ⟨_, rfl⟩), (fun h => by cases h)⟩, rfl, ⟨_, Tryd.underlying14, rfl⟩, ⟨_, Tryd.underlying14, rfl⟩, fun e ks h => by cases h⟩
theorem ok_15 : TIok Tryd.prog 15 (ti 15) := ⟨⟨((Tryd.prog.info? 15).getD default), by kernel_rfl, by kernel_rfl, by kernel_rfl, (.pointer none), by kernel_rfl, rfl, (fun h => by cases h), (fun _ => rfl)⟩, rfl, Tryd.underlying15, ⟨_, Tryd.underlying15, rfl⟩, fun e ks h => by cases h⟩
theorem ok_16 : TIok Tryd.prog 16 (ti 16) := ⟨⟨((Tryd.prog.info? 16).getD default), by kernel_rfl, by kernel_rfl, by kernel_rfl, (.pointer none), by kernel_rfl, rfl, (fun h => by cases h), (fun _ => rfl)⟩, rfl, Tryd.underlying16, ⟨_, Tryd.underlying16, rfl⟩, fun e ks h => by cases h⟩
theorem ok_17 : TIok Tryd.prog 17 (ti 17) := ⟨⟨((Tryd.prog.info? 17).getD default), by kernel_rfl, by kernel_rfl, by kernel_rfl, (.pointer none), by kernel_rfl, rfl, (fun h => by cases h), (fun _ => rfl)⟩, rfl, Tryd.underlying17, ⟨_, Tryd.underlying17, rfl⟩, fun e ks h => by cases h⟩
theorem ok_18 : TIok Tryd.prog 18 (ti 18) := ⟨⟨((Tryd.prog.info? 18).getD default), by kernel_rfl, by kernel_rfl, by kernel_rfl, (.agg #[.pointer none]), by kernel_rfl, rfl, (fun _ => ⟨_, rfl⟩), (fun h => by cases h)⟩, rfl, ⟨_, Tryd.underlying18, rfl⟩, ⟨_, Tryd.underlying18, rfl⟩, fun e ks h => by cases h⟩
theorem ok_19 : TIok Tryd.prog 19 (ti 19) := ⟨⟨((Tryd.prog.info? 19).getD default), by kernel_rfl, by kernel_rfl, by kernel_rfl, (.agg #[.pointer none]), by kernel_rfl, rfl, (fun _ => ⟨_, rfl⟩), (fun h => by cases h)⟩, rfl, ⟨_, Tryd.underlying19, rfl⟩, ⟨_, Tryd.underlying19, rfl⟩, fun e ks h => by cases h⟩
theorem ok_20 : TIok Tryd.prog 20 (ti 20) := ⟨⟨((Tryd.prog.info? 20).getD default), by kernel_rfl, by kernel_rfl, by kernel_rfl, (.nilIface), by kernel_rfl, rfl, (fun h => by cases h), (fun _ => rfl)⟩, rfl, ⟨_, Tryd.underlying20⟩, ⟨_, Tryd.underlying20, rfl⟩, fun e ks h => by cases h⟩
theorem ok_21 : TIok Tryd.prog 21 (ti 21) := ⟨⟨((Tryd.prog.info? 21).getD default), by kernel_rfl, by kernel_rfl, by kernel_rfl, (.int .i32 0), by kernel_rfl, rfl, (fun h => by cases h), (fun _ => rfl)⟩, rfl, Tryd.underlying21, ⟨_, Tryd.underlying21, rfl⟩, fun e ks h => by cases h⟩
theorem ok_22 : TIok Tryd.prog 22 (ti 22) := ⟨⟨((Tryd.prog.info? 22).getD default), by kernel_rfl, by kernel_rfl, by kernel_rfl, (.slice none 0 0), by kernel_rfl, rfl, (fun h => by cases h), (fun _ => rfl)⟩, rfl, Tryd.underlying22, ⟨_, Tryd.underlying22, rfl⟩, fun e ks h => by cases h⟩
theorem ok_23 : TIok Tryd.prog 23 (ti 23) := ⟨⟨((Tryd.prog.info? 23).getD default), by kernel_rfl, by kernel_rfl, by kernel_rfl, (.agg #[.slice none 0 0]), by kernel_rfl, rfl, (fun _ => ⟨_, rfl⟩), (fun h => by cases h)⟩, rfl, ⟨_, Tryd.underlying23, rfl⟩, ⟨_, Tryd.underlying23, rfl⟩, fun e ks h => by cases h⟩
theorem ok_24 : TIok Tryd.prog 24 (ti 24) := ⟨⟨((Tryd.prog.info? 24).getD default), by kernel_rfl, by kernel_rfl, by kernel_rfl, (.agg #[.slice none 0 0]), by kernel_rfl, rfl, (fun _ => ⟨_, rfl⟩), (fun h => by cases h)⟩, rfl, ⟨_, Tryd.underlying24, rfl⟩, ⟨_, Tryd.underlying24, rfl⟩, fun e ks h => by cases h⟩
theorem ok_25 : TIok Tryd.prog 25 (ti 25) := ⟨⟨((Tryd.prog.info? 25).getD default), by kernel_rfl, by kernel_rfl, by kernel_rfl, (.nilFunc), by kernel_rfl, rfl, (fun h => by cases h), (fun _ => rfl)⟩, rfl, trivial, ⟨_, Tryd.underlying25, rfl⟩, fun e ks h => by cases h⟩
theorem ok_26 : TIok Tryd.prog 26 (ti 26) := ⟨⟨((Tryd.prog.info? 26).getD default), by kernel_rfl, by kernel_rfl, by kernel_rfl, (.slice none 0 0), by kernel_rfl, rfl, (fun h => by cases h), (fun _ => rfl)⟩, rfl, Tryd.underlying26, ⟨_, Tryd.underlying26, rfl⟩, fun e ks h => by cases h⟩
theorem ok_27 : TIok Tryd.prog 27 (ti 27) := ⟨⟨((Tryd.prog.info? 27).getD default), by kernel_rfl, by kernel_rfl, by kernel_rfl, (.nilFunc), by kernel_rfl, rfl, (fun h => by cases h), (fun _ => rfl)⟩, rfl, trivial, ⟨_, Tryd.underlying27, rfl⟩, fun e ks h => by cases h⟩
theorem ok_28 : TIok Tryd.prog 28 (ti 28) := ⟨⟨((Tryd.prog.info? 28).getD default), by kernel_rfl, by kernel_rfl, by kernel_rfl, (.slice none 0 0), by kernel_rfl, rfl, (fun h => by cases h), (fun _ => rfl)⟩, rfl, Tryd.underlying28, ⟨_, Tryd.underlying28, rfl⟩, fun e ks h => by cases h⟩
theorem ok_29 : TIok Tryd.prog 29 (ti 29) := ⟨⟨((Tryd.prog.info? 29).getD default), by kernel_rfl, by kernel_rfl, by kernel_rfl, (.agg #[.slice none 0 0]), by kernel_rfl, rfl, (fun _ => ⟨_, rfl⟩), (fun h => by cases h)⟩, rfl, ⟨_, Tryd.underlying29, rfl⟩, ⟨_, Tryd.underlying29, rfl⟩, fun e ks h => by cases h⟩
theorem ok_30 : TIok Tryd.prog 30 (ti 30) := ⟨⟨((Tryd.prog.info? 30).getD default), by kernel_rfl, by kernel_rfl, by kernel_rfl, (.agg #[.slice none 0 0]), by kernel_rfl, rfl, (fun _ => ⟨_, rfl⟩), (fun h => by cases h)⟩, rfl, ⟨_, Tryd.underlying30, rfl⟩, ⟨_, Tryd.underlying30, rfl⟩, fun e ks h => by cases h⟩
theorem ok_31 : TIok Tryd.prog 31 (ti 31) := ⟨⟨((Tryd.prog.info? 31).getD default), by kernel_rfl, by kernel_rfl, by kernel_rfl, (.nilFunc), by kernel_rfl, rfl, (fun h => by cases h), (fun _ => rfl)⟩, rfl, trivial, ⟨_, Tryd.underlying31, rfl⟩, fun e ks h => by cases h⟩
theorem ok_32 : TIok Tryd.prog 32 (ti 32) := ⟨⟨((Tryd.prog.info? 32).getD default), by kernel_rfl, by kernel_rfl, by kernel_rfl, (.nilFunc), by kernel_rfl, rfl, (fun h => by cases h), (fun _ => rfl)⟩, rfl, trivial, ⟨_, Tryd.underlying32, rfl⟩, fun e ks h => by cases h⟩
theorem ok_33 : TIok Tryd.prog 33 (ti 33) := ⟨⟨((Tryd.prog.info? 33).getD default), by kernel_rfl, by kernel_rfl, by kernel_rfl, (.nilFunc), by kernel_rfl, rfl, (fun h => by cases h), (fun _ => rfl)⟩, rfl, trivial, ⟨_, Tryd.underlying33, rfl⟩, fun e ks h => by cases h⟩
theorem ok_34 : TIok Tryd.prog 34 (ti 34) := ⟨⟨((Tryd.prog.info? 34).getD default), by kernel_rfl, by kernel_rfl, by kernel_rfl, (.nilFunc), by kernel_rfl, rfl, (fun h => by cases h), (fun _ => rfl)⟩, rfl, trivial, ⟨_, Tryd.underlying34, rfl⟩, fun e ks h => by cases h⟩
theorem ok_35 : TIok Tryd.prog 35 (ti 35) := ⟨⟨((Tryd.prog.info? 35).getD default), by kernel_rfl, by kernel_rfl, by kernel_rfl, (.nilFunc), by kernel_rfl, rfl, (fun h => by cases h), (fun _ => rfl)⟩, rfl, trivial, ⟨_, Tryd.underlying35, rfl⟩, fun e ks h => by cases h⟩
theorem ok_36 : TIok Tryd.prog 36 (ti 36) := ⟨⟨((Tryd.prog.info? 36).getD default), by kernel_rfl, by kernel_rfl, by kernel_rfl, (.nilFunc), by kernel_rfl, rfl, (fun h => by cases h), (fun _ => rfl)⟩, rfl, trivial, ⟨_, Tryd.underlying36, rfl⟩, fun e ks h => by cases h⟩
theorem ok_37 : TIok Tryd.prog 37 (ti 37) := ⟨⟨((Tryd.prog.info? 37).getD default), by kernel_rfl, by kernel_rfl, by kernel_rfl, (.nilFunc), by kernel_rfl, rfl, (fun h => by cases h), (fun _ => rfl)⟩, rfl, trivial, ⟨_, Tryd.underlying37, rfl⟩, fun e ks h => by cases h⟩
theorem ok_38 : TIok Tryd.prog 38 (ti 38) := ⟨⟨((Tryd.prog.info? 38).getD default), by kernel_rfl, by kernel_rfl, by kernel_rfl, (.nilFunc), by kernel_rfl, rfl, (fun h => by cases h), (fun _ => rfl)⟩, rfl, trivial, ⟨_, Tryd.underlying38, rfl⟩, fun e ks h => by cases h⟩
theorem ok_39 : TIok Tryd.prog 39 (ti 39) := ⟨⟨((Tryd.prog.info? 39).getD default), by kernel_rfl, by kernel_rfl, by kernel_rfl, (.slice none 0 0), by kernel_rfl, rfl, (fun h => by cases h), (fun _ => rfl)⟩, rfl, Tryd.underlying39, ⟨_, Tryd.underlying39, rfl⟩, fun e ks h => by cases h⟩
theorem ok_40 : TIok Tryd.prog 40 (ti 40) := ⟨⟨((Tryd.prog.info? 40).getD default), by kernel_rfl, by kernel_rfl, by kernel_rfl, (.nilFunc), by kernel_rfl, rfl, (fun h => by cases h), (fun _ => rfl)⟩, rfl, trivial, ⟨_, Tryd.underlying40, rfl⟩, fun e ks h => by cases h⟩
theorem ok_41 : TIok Tryd.prog 41 (ti 41) := ⟨⟨((Tryd.prog.info? 41).getD default), by kernel_rfl, by kernel_rfl, by kernel_rfl, (.nilFunc), by kernel_rfl, rfl, (fun h => by cases h), (fun _ => rfl)⟩, rfl, trivial, ⟨_, Tryd.underlying41, rfl⟩, fun e ks h => by cases h⟩
theorem ok_42 : TIok Tryd.prog 42 (ti 42) := ⟨⟨((Tryd.prog.info? 42).getD default), by kernel_rfl, by kernel_rfl, by kernel_rfl, (.nilFunc), by kernel_rfl, rfl, (fun h => by cases h), (fun _ => rfl)⟩, rfl, trivial, ⟨_, Tryd.underlying42, rfl⟩, fun e ks h => by cases h⟩
theorem ok_43 : TIok Tryd.prog 43 (ti 43) := ⟨⟨((Tryd.prog.info? 43).getD default), by kernel_rfl, by kernel_rfl, by kernel_rfl, (.nilFunc), by kernel_rfl, rfl, (fun h => by cases h), (fun _ => rfl)⟩, rfl, trivial, ⟨_, Tryd.underlying43, rfl⟩, fun e ks h => by cases h⟩
theorem ok_44 : TIok Tryd.prog 44 (ti 44) := ⟨⟨((Tryd.prog.info? 44).getD default), by kernel_rfl, by kernel_rfl, by kernel_rfl, (.nilFunc), by kernel_rfl, rfl, (fun h => by cases h), (fun _ => rfl)⟩, rfl, trivial, ⟨_, Tryd.underlying44, rfl⟩, fun e ks h => by cases h⟩
theorem ok_45 : TIok Tryd.prog 45 (ti 45) := ⟨⟨((Tryd.prog.info? 45).getD default), by kernel_rfl, by kernel_rfl, by kernel_rfl, (.nilFunc), by kernel_rfl, rfl, (fun h => by cases h), (fun _ => rfl)⟩, rfl, trivial, ⟨_, Tryd.underlying45, rfl⟩, fun e ks h => by cases h⟩
theorem ok_46 : TIok Tryd.prog 46 (ti 46) := ⟨⟨((Tryd.prog.info? 46).getD default), by kernel_rfl, by kernel_rfl, by kernel_rfl, (.agg #[.string ⟨#[]⟩, .string ⟨#[]⟩, .string ⟨#[]⟩, .string ⟨#[]⟩, .string ⟨#[]⟩, .string ⟨#[]⟩, .string ⟨#[]⟩, .string ⟨#[]⟩]), by kernel_rfl, rfl, (fun _ => ⟨_, rfl⟩), (fun h => by cases h)⟩, rfl, Tryd.underlying46, ⟨_, Tryd.underlying46, rfl⟩, fun e ks h => by cases h⟩
theorem ok_47 : TIok Tryd.prog 47 (ti 47) := ⟨⟨((Tryd.prog.info? 47).getD default), by kernel_rfl, by kernel_rfl, by kernel_rfl, (.agg #[.string ⟨#[]⟩, .int .i64 0, .string ⟨#[]⟩, .string ⟨#[]⟩, .string ⟨#[]⟩, .string ⟨#[]⟩, .string ⟨#[]⟩, .string ⟨#[]⟩, .string ⟨#[]⟩, .string ⟨#[]⟩, .string ⟨#[]⟩]), by kernel_rfl, rfl, (fun _ => ⟨_, rfl⟩), (fun h => by cases h)⟩, rfl, ⟨_, Tryd.underlying47, rfl⟩, ⟨_, Tryd.underlying47, rfl⟩, fun e ks h => by cases h⟩
theorem eqk_48 : EqOk Tryd.prog 48 [.str, .int .i64, .str, .str, .str, .str, .str, .str, .str, .str, .str] := eqOk_deep [.str, .int .i64, .str, .str, .str, .str, .str, .str, .str, .str, .str] rfl (by kernel_rfl) (by kernel_rfl) (by kernel_rfl)
theorem ok_48 : TIok Tryd.prog 48 (ti 48) := ⟨⟨((Tryd.prog.info? 48).getD default), by kernel_rfl, by kernel_rfl, by kernel_rfl, (.agg #[.string ⟨#[]⟩, .int .i64 0, .string ⟨#[]⟩, .string ⟨#[]⟩, .string ⟨#[]⟩, .string ⟨#[]⟩, .string ⟨#[]⟩, .string ⟨#[]⟩, .string ⟨#[]⟩, .string ⟨#[]⟩, .string ⟨#[]⟩]), by kernel_rfl, rfl, (fun _ => ⟨_, rfl⟩), (fun h => by cases h)⟩, rfl, ⟨_, Tryd.underlying48, rfl⟩, ⟨_, Tryd.underlying48, rfl⟩, fun e ks h hk => by cases h; cases hk; exact eqk_48⟩
theorem ok_49 : TIok Tryd.prog 49 (ti 49) := ⟨⟨((Tryd.prog.info? 49).getD default), by kernel_rfl, by kernel_rfl, by kernel_rfl, (.nilFunc), by kernel_rfl, rfl, (fun h => by cases h), (fun _ => rfl)⟩, rfl, trivial, ⟨_, Tryd.underlying49, rfl⟩, fun e ks h => by cases h⟩
theorem ok_50 : TIok Tryd.prog 50 (ti 50) := ⟨⟨((Tryd.prog.info? 50).getD default), by kernel_rfl, by kernel_rfl, by kernel_rfl, (.nilFunc), by kernel_rfl, rfl, (fun h => by cases h), (fun _ => rfl)⟩, rfl, trivial, ⟨_, Tryd.underlying50, rfl⟩, fun e ks h => by cases h⟩
theorem ok_51 : TIok Tryd.prog 51 (ti 51) := ⟨⟨((Tryd.prog.info? 51).getD default), by kernel_rfl, by kernel_rfl, by kernel_rfl, (.nilFunc), by kernel_rfl, rfl, (fun h => by cases h), (fun _ => rfl)⟩, rfl, trivial, ⟨_, Tryd.underlying51, rfl⟩, fun e ks h => by cases h⟩
theorem ok_52 : TIok Tryd.prog 52 (ti 52) := ⟨⟨((Tryd.prog.info? 52).getD default), by kernel_rfl, by kernel_rfl, by kernel_rfl, (.nilFunc), by kernel_rfl, rfl, (fun h => by cases h), (fun _ => rfl)⟩, rfl, trivial, ⟨_, Tryd.underlying52, rfl⟩, fun e ks h => by cases h⟩
theorem ok_53 : TIok Tryd.prog 53 (ti 53) := ⟨⟨((Tryd.prog.info? 53).getD default), by kernel_rfl, by kernel_rfl, by kernel_rfl, (.nilFunc), by kernel_rfl, rfl, (fun h => by cases h), (fun _ => rfl)⟩, rfl, trivial, ⟨_, Tryd.underlying53, rfl⟩, fun e ks h => by cases h⟩
theorem ok_55 : TIok Tryd.prog 55 (ti 55) := ⟨⟨((Tryd.prog.info? 55).getD default), by kernel_rfl, by kernel_rfl, by kernel_rfl, (.nilFunc), by kernel_rfl, rfl, (fun h => by cases h), (fun _ => rfl)⟩, rfl, trivial, ⟨_, Tryd.underlying55, rfl⟩, fun e ks h => by cases h⟩
theorem ok_56 : TIok Tryd.prog 56 (ti 56) := ⟨⟨((Tryd.prog.info? 56).getD default), by kernel_rfl, by kernel_rfl, by kernel_rfl, (.nilFunc), by kernel_rfl, rfl, (fun h => by cases h), (fun _ => rfl)⟩, rfl, trivial, ⟨_, Tryd.underlying56, rfl⟩, fun e ks h => by cases h⟩
theorem ok_58 : TIok Tryd.prog 58 (ti 58) := ⟨⟨((Tryd.prog.info? 58).getD default), by kernel_rfl, by kernel_rfl, by kernel_rfl, (.nilFunc), by kernel_rfl, rfl, (fun h => by cases h), (fun _ => rfl)⟩, rfl, trivial, ⟨_, Tryd.underlying58, rfl⟩, fun e ks h => by cases h⟩
theorem ok_59 : TIok Tryd.prog 59 (ti 59) := ⟨⟨((Tryd.prog.info? 59).getD default), by kernel_rfl, by kernel_rfl, by kernel_rfl, (.nilFunc), by kernel_rfl, rfl, (fun h => by cases h), (fun _ => rfl)⟩, rfl, trivial, ⟨_, Tryd.underlying59, rfl⟩, fun e ks h => by cases h⟩
theorem ok_60 : TIok Tryd.prog 60 (ti 60) := ⟨⟨((Tryd.prog.info? 60).getD default), by kernel_rfl, by kernel_rfl, by kernel_rfl, (.nilFunc), by kernel_rfl, rfl, (fun h => by cases h), (fun _ => rfl)⟩, rfl, trivial, ⟨_, Tryd.underlying60, rfl⟩, fun e ks h => by cases h⟩
theorem ok_61 : TIok Tryd.prog 61 (ti 61) := ⟨⟨((Tryd.prog.info? 61).getD default), by kernel_rfl, by kernel_rfl, by kernel_rfl, (.nilFunc), by kernel_rfl, rfl, (fun h => by cases h), (fun _ => rfl)⟩, rfl, trivial, ⟨_, Tryd.underlying61, rfl⟩, fun e ks h => by cases h⟩
theorem eqk_62 : EqOk Tryd.prog 62 [.str, .int .i64, .str, .str, .str, .str, .str, .str, .str, .str, .str] := eqOk_deep [.str, .int .i64, .str, .str, .str, .str, .str, .str, .str, .str, .str] rfl (by kernel_rfl) (by kernel_rfl) (by kernel_rfl)
theorem ok_62 : TIok Tryd.prog 62 (ti 62) := ⟨⟨((Tryd.prog.info? 62).getD default), by kernel_rfl, by kernel_rfl, by kernel_rfl, (.agg #[.string ⟨#[]⟩, .int .i64 0, .string ⟨#[]⟩, .string ⟨#[]⟩, .string ⟨#[]⟩, .string ⟨#[]⟩, .string ⟨#[]⟩, .string ⟨#[]⟩, .string ⟨#[]⟩, .string ⟨#[]⟩, .string ⟨#[]⟩]), by kernel_rfl, rfl, (fun _ => ⟨_, rfl⟩), (fun h => by cases h)⟩, rfl, ⟨_, Tryd.underlying62, rfl⟩, ⟨_, Tryd.underlying62, rfl⟩, fun e ks h hk => by cases h; cases hk; exact eqk_62⟩
theorem ok_63 : TIok Tryd.prog 63 (ti 63) := ⟨⟨((Tryd.prog.info? 63).getD default), by kernel_rfl, by kernel_rfl, by kernel_rfl, (.nilFunc), by kernel_rfl, rfl, (fun h => by cases h), (fun _ => rfl)⟩, rfl, trivial, ⟨_, Tryd.underlying63, rfl⟩, fun e ks h => by cases h⟩
theorem ok_64 : TIok Tryd.prog 64 (ti 64) := ⟨⟨((Tryd.prog.info? 64).getD default), by kernel_rfl, by kernel_rfl, by kernel_rfl, (.nilFunc), by kernel_rfl, rfl, (fun h => by cases h), (fun _ => rfl)⟩, rfl, trivial, ⟨_, Tryd.underlying64, rfl⟩, fun e ks h => by cases h⟩
theorem ok_65 : TIok Tryd.prog 65 (ti 65) := ⟨⟨((Tryd.prog.info? 65).getD default), by kernel_rfl, by kernel_rfl, by kernel_rfl, (.nilFunc), by kernel_rfl, rfl, (fun h => by cases h), (fun _ => rfl)⟩, rfl, trivial, ⟨_, Tryd.underlying65, rfl⟩, fun e ks h => by cases h⟩
theorem ok_66 : TIok Tryd.prog 66 (ti 66) := ⟨⟨((Tryd.prog.info? 66).getD default), by kernel_rfl, by kernel_rfl, by kernel_rfl, (.nilFunc), by kernel_rfl, rfl, (fun h => by cases h), (fun _ => rfl)⟩, rfl, trivial, ⟨_, Tryd.underlying66, rfl⟩, fun e ks h => by cases h⟩
theorem ok_67 : TIok Tryd.prog 67 (ti 67) := ⟨⟨((Tryd.prog.info? 67).getD default), by kernel_rfl, by kernel_rfl, by kernel_rfl, (.nilFunc), by kernel_rfl, rfl, (fun h => by cases h), (fun _ => rfl)⟩, rfl, trivial, ⟨_, Tryd.underlying67, rfl⟩, fun e ks h => by cases h⟩
theorem ok_68 : TIok Tryd.prog 68 (ti 68) := ⟨⟨((Tryd.prog.info? 68).getD default), by kernel_rfl, by kernel_rfl, by kernel_rfl, (.nilFunc), by kernel_rfl, rfl, (fun h => by cases h), (fun _ => rfl)⟩, rfl, trivial, ⟨_, Tryd.underlying68, rfl⟩, fun e ks h => by cases h⟩
theorem ok_69 : TIok Tryd.prog 69 (ti 69) := ⟨⟨((Tryd.prog.info? 69).getD default), by kernel_rfl, by kernel_rfl, by kernel_rfl, (.nilFunc), by kernel_rfl, rfl, (fun h => by cases h), (fun _ => rfl)⟩, rfl, trivial, ⟨_, Tryd.underlying69, rfl⟩, fun e ks h => by cases h⟩
theorem ok_70 : TIok Tryd.prog 70 (ti 70) := ⟨⟨((Tryd.prog.info? 70).getD default), by kernel_rfl, by kernel_rfl, by kernel_rfl, (.slice none 0 0), by kernel_rfl, rfl, (fun h => by cases h), (fun _ => rfl)⟩, rfl, Tryd.underlying70, ⟨_, Tryd.underlying70, rfl⟩, fun e ks h => by cases h⟩
theorem ok_71 : TIok Tryd.prog 71 (ti 71) := ⟨⟨((Tryd.prog.info? 71).getD default), by kernel_rfl, by kernel_rfl, by kernel_rfl, (.nilFunc), by kernel_rfl, rfl, (fun h => by cases h), (fun _ => rfl)⟩, rfl, trivial, ⟨_, Tryd.underlying71, rfl⟩, fun e ks h => by cases h⟩
theorem ok_72 : TIok Tryd.prog 72 (ti 72) := ⟨⟨((Tryd.prog.info? 72).getD default), by kernel_rfl, by kernel_rfl, by kernel_rfl, (.nilFunc), by kernel_rfl, rfl, (fun h => by cases h), (fun _ => rfl)⟩, rfl, trivial, ⟨_, Tryd.underlying72, rfl⟩, fun e ks h => by cases h⟩
theorem ok_73 : TIok Tryd.prog 73 (ti 73) := ⟨⟨((Tryd.prog.info? 73).getD default), by kernel_rfl, by kernel_rfl, by kernel_rfl, (.nilFunc), by kernel_rfl, rfl, (fun h => by cases h), (fun _ => rfl)⟩, rfl, trivial, ⟨_, Tryd.underlying73, rfl⟩, fun e ks h => by cases h⟩
theorem ok_74 : TIok Tryd.prog 74 (ti 74) := ⟨⟨((Tryd.prog.info? 74).getD default), by kernel_rfl, by kernel_rfl, by kernel_rfl, (.nilFunc), by kernel_rfl, rfl, (fun h => by cases h), (fun _ => rfl)⟩, rfl, trivial, ⟨_, Tryd.underlying74, rfl⟩, fun e ks h => by cases h⟩
theorem ok_75 : TIok Tryd.prog 75 (ti 75) := ⟨⟨((Tryd.prog.info? 75).getD default), by kernel_rfl, by kernel_rfl, by kernel_rfl, (.nilFunc), by kernel_rfl, rfl, (fun h => by cases h), (fun _ => rfl)⟩, rfl, trivial, ⟨_, Tryd.underlying75, rfl⟩, fun e ks h => by cases h⟩
theorem ok_76 : TIok Tryd.prog 76 (ti 76) := ⟨⟨((Tryd.prog.info? 76).getD default), by kernel_rfl, by kernel_rfl, by kernel_rfl, (.nilFunc), by kernel_rfl, rfl, (fun h => by cases h), (fun _ => rfl)⟩, rfl, trivial, ⟨_, Tryd.underlying76, rfl⟩, fun e ks h => by cases h⟩
theorem ok_77 : TIok Tryd.prog 77 (ti 77) := ⟨⟨((Tryd.prog.info? 77).getD default), by kernel_rfl, by kernel_rfl, by kernel_rfl, (.nilFunc), by kernel_rfl, rfl, (fun h => by cases h), (fun _ => rfl)⟩, rfl, trivial, ⟨_, Tryd.underlying77, rfl⟩, fun e ks h => by cases h⟩
theorem ok_78 : TIok Tryd.prog 78 (ti 78) := ⟨⟨((Tryd.prog.info? 78).getD default), by kernel_rfl, by kernel_rfl, by kernel_rfl, (.nilFunc), by kernel_rfl, rfl, (fun h => by cases h), (fun _ => rfl)⟩, rfl, trivial, ⟨_, Tryd.underlying78, rfl⟩, fun e ks h => by cases h⟩
theorem ok_79 : TIok Tryd.prog 79 (ti 79) := ⟨⟨((Tryd.prog.info? 79).getD default), by kernel_rfl, by kernel_rfl, by kernel_rfl, (.nilFunc), by kernel_rfl, rfl, (fun h => by cases h), (fun _ => rfl)⟩, rfl, trivial, ⟨_, Tryd.underlying79, rfl⟩, fun e ks h => by cases h⟩
theorem ok_80 : TIok Tryd.prog 80 (ti 80) := ⟨⟨((Tryd.prog.info? 80).getD default), by kernel_rfl, by kernel_rfl, by kernel_rfl, (.nilFunc), by kernel_rfl, rfl, (fun h => by cases h), (fun _ => rfl)⟩, rfl, trivial, ⟨_, Tryd.underlying80, rfl⟩, fun e ks h => by cases h⟩
theorem ok_81 : TIok Tryd.prog 81 (ti 81) := ⟨⟨((Tryd.prog.info? 81).getD default), by kernel_rfl, by kernel_rfl, by kernel_rfl, (.int .u64 0), by kernel_rfl, rfl, (fun h => by cases h), (fun _ => rfl)⟩, rfl, Tryd.underlying81, ⟨_, Tryd.underlying81, rfl⟩, fun e ks h => by cases h⟩
theorem ok_82 : TIok Tryd.prog 82 (ti 82) := ⟨⟨((Tryd.prog.info? 82).getD default), by kernel_rfl, by kernel_rfl, by kernel_rfl, (.nilFunc), by kernel_rfl, rfl, (fun h => by cases h), (fun _ => rfl)⟩, rfl, trivial, ⟨_, Tryd.underlying82, rfl⟩, fun e ks h => by cases h⟩
theorem ok_86 : TIok Tryd.prog 86 (ti 86) := ⟨⟨((Tryd.prog.info? 86).getD default), by kernel_rfl, by kernel_rfl, by kernel_rfl, (.nilFunc), by kernel_rfl, rfl, (fun h => by cases h), (fun _ => rfl)⟩, rfl, trivial, ⟨_, Tryd.underlying86, rfl⟩, fun e ks h => by cases h⟩
theorem ok_87 : TIok Tryd.prog 87 (ti 87) := ⟨⟨((Tryd.prog.info? 87).getD default), by kernel_rfl, by kernel_rfl, by kernel_rfl, (.nilFunc), by kernel_rfl, rfl, (fun h => by cases h), (fun _ => rfl)⟩, rfl, trivial, ⟨_, Tryd.underlying87, rfl⟩, fun e ks h => by cases h⟩
theorem ok_88 : TIok Tryd.prog 88 (ti 88) := ⟨⟨((Tryd.prog.info? 88).getD default), by kernel_rfl, by kernel_rfl, by kernel_rfl, (.pointer none), by kernel_rfl, rfl, (fun h => by cases h), (fun _ => rfl)⟩, rfl, Tryd.underlying88, ⟨_, Tryd.underlying88, rfl⟩, fun e ks h => by cases h⟩
theorem ok_89 : TIok Tryd.prog 89 (ti 89) := ⟨⟨((Tryd.prog.info? 89).getD default), by kernel_rfl, by kernel_rfl, by kernel_rfl, (.nilFunc), by kernel_rfl, rfl, (fun h => by cases h), (fun _ => rfl)⟩, rfl, trivial, ⟨_, Tryd.underlying89, rfl⟩, fun e ks h => by cases h⟩
theorem ok_91 : TIok Tryd.prog 91 (ti 91) := ⟨⟨((Tryd.prog.info? 91).getD default), by kernel_rfl, by kernel_rfl, by kernel_rfl, (.nilFunc), by kernel_rfl, rfl, (fun h => by cases h), (fun _ => rfl)⟩, rfl, trivial, ⟨_, Tryd.underlying91, rfl⟩, fun e ks h => by cases h⟩
theorem ok_92 : TIok Tryd.prog 92 (ti 92) := ⟨⟨((Tryd.prog.info? 92).getD default), by kernel_rfl, by kernel_rfl, by kernel_rfl, (.nilFunc), by kernel_rfl, rfl, (fun h => by cases h), (fun _ => rfl)⟩, rfl, trivial, ⟨_, Tryd.underlying92, rfl⟩, fun e ks h => by cases h⟩
theorem ok_93 : TIok Tryd.prog 93 (ti 93) := ⟨⟨((Tryd.prog.info? 93).getD default), by kernel_rfl, by kernel_rfl, by kernel_rfl, (.nilFunc), by kernel_rfl, rfl, (fun h => by cases h), (fun _ => rfl)⟩, rfl, trivial, ⟨_, Tryd.underlying93, rfl⟩, fun e ks h => by cases h⟩
theorem ok_95 : TIok Tryd.prog 95 (ti 95) := ⟨⟨((Tryd.prog.info? 95).getD default), by kernel_rfl, by kernel_rfl, by kernel_rfl, (.agg #[.int .u8 0, .int .u8 0]), by kernel_rfl, rfl, (fun _ => ⟨_, rfl⟩), (fun h => by cases h)⟩, rfl, ⟨_, Tryd.underlying95, rfl⟩, ⟨_, Tryd.underlying95, rfl⟩, fun e ks h => by cases h⟩
theorem ok_96 : TIok Tryd.prog 96 (ti 96) := ⟨⟨((Tryd.prog.info? 96).getD default), by kernel_rfl, by kernel_rfl, by kernel_rfl, (.agg #[.int .u8 0, .int .u8 0]), by kernel_rfl, rfl, (fun _ => ⟨_, rfl⟩), (fun h => by cases h)⟩, rfl, ⟨_, Tryd.underlying96, rfl⟩, ⟨_, Tryd.underlying96, rfl⟩, fun e ks h => by cases h⟩
theorem ok_97 : TIok Tryd.prog 97 (ti 97) := ⟨⟨((Tryd.prog.info? 97).getD default), by kernel_rfl, by kernel_rfl, by kernel_rfl, (.agg #[.int .u8 0, .int .u8 0, .int .u8 0, .int .u8 0, .int .u8 0, .int .u8 0, .int .u8 0, .int .u8 0, .int .u8 0, .int .u8 0, .int .u8 0, .int .u8 0, .int .u8 0, .int .u8 0, .int .u8 0, .int .u8 0, .int .u8 0, .int .u8 0, .int .u8 0, .int .u8 0, .int .u8 0, .int .u8 0, .int .u8 0, .int .u8 0, .int .u8 0, .int .u8 0, .int .u8 0, .int .u8 0, .int .u8 0, .int .u8 0, .int .u8 0, .int .u8 0]), by kernel_rfl, rfl, (fun _ => ⟨_, rfl⟩), (fun h => by cases h)⟩, rfl, Tryd.underlying97, ⟨_, Tryd.underlying97, rfl⟩, fun e ks h => by cases h⟩
theorem ok_98 : TIok Tryd.prog 98 (ti 98) := ⟨⟨((Tryd.prog.info? 98).getD default), by kernel_rfl, by kernel_rfl, by kernel_rfl, (.nilFunc), by kernel_rfl, rfl, (fun h => by cases h), (fun _ => rfl)⟩, rfl, trivial, ⟨_, Tryd.underlying98, rfl⟩, fun e ks h => by cases h⟩
theorem ok_99 : TIok Tryd.prog 99 (ti 99) := ⟨⟨((Tryd.prog.info? 99).getD default), by kernel_rfl, by kernel_rfl, by kernel_rfl, (.nilFunc), by kernel_rfl, rfl, (fun h => by cases h), (fun _ => rfl)⟩, rfl, trivial, ⟨_, Tryd.underlying99, rfl⟩, fun e ks h => by cases h⟩
theorem ok_100 : TIok Tryd.prog 100 (ti 100) := ⟨⟨((Tryd.prog.info? 100).getD default), by kernel_rfl, by kernel_rfl, by kernel_rfl, (.nilFunc), by kernel_rfl, rfl, (fun h => by cases h), (fun _ => rfl)⟩, rfl, trivial, ⟨_, Tryd.underlying100, rfl⟩, fun e ks h => by cases h⟩
theorem ok_101 : TIok Tryd.prog 101 (ti 101) := ⟨⟨((Tryd.prog.info? 101).getD default), by kernel_rfl, by kernel_rfl, by kernel_rfl, (.nilFunc), by kernel_rfl, rfl, (fun h => by cases h), (fun _ => rfl)⟩, rfl, trivial, ⟨_, Tryd.underlying101, rfl⟩, fun e ks h => by cases h⟩
theorem ok_102 : TIok Tryd.prog 102 (ti 102) := ⟨⟨((Tryd.prog.info? 102).getD default), by kernel_rfl, by kernel_rfl, by kernel_rfl, (.agg #[.pointer none, .pointer none, .pointer none, .string ⟨#[]⟩]), by kernel_rfl, rfl, (fun _ => ⟨_, rfl⟩), (fun h => by cases h)⟩, rfl, ⟨_, Tryd.underlying102, rfl⟩, ⟨_, Tryd.underlying102, rfl⟩, fun e ks h => by cases h⟩
theorem ok_103 : TIok Tryd.prog 103 (ti 103) := ⟨⟨((Tryd.prog.info? 103).getD default), by kernel_rfl, by kernel_rfl, by kernel_rfl, (.agg #[.pointer none, .pointer none, .pointer none, .string ⟨#[]⟩]), by kernel_rfl, rfl, (fun _ => ⟨_, rfl⟩), (fun h => by cases h)⟩, rfl, ⟨_, Tryd.underlying103, rfl⟩, ⟨_, Tryd.underlying103, rfl⟩, fun e ks h => by cases h⟩
theorem ok_104 : TIok Tryd.prog 104 (ti 104) := ⟨⟨((Tryd.prog.info? 104).getD default), by kernel_rfl, by kernel_rfl, by kernel_rfl, (.agg #[]), by kernel_rfl, rfl, (fun _ => ⟨_, rfl⟩), (fun h => by cases h)⟩, rfl, Tryd.underlying104, ⟨_, Tryd.underlying104, rfl⟩, fun e ks h => by cases h⟩
theorem ok_105 : TIok Tryd.prog 105 (ti 105) := ⟨⟨((Tryd.prog.info? 105).getD default), by kernel_rfl, by kernel_rfl, by kernel_rfl, (.agg #[]), by kernel_rfl, rfl, (fun _ => ⟨_, rfl⟩), (fun h => by cases h)⟩, rfl, ⟨_, Tryd.underlying105, rfl⟩, ⟨_, Tryd.underlying105, rfl⟩, fun e ks h => by cases h⟩
theorem ok_106 : TIok Tryd.prog 106 (ti 106) := ⟨⟨((Tryd.prog.info? 106).getD default), by kernel_rfl, by kernel_rfl, by kernel_rfl, (.agg #[]), by kernel_rfl, rfl, (fun _ => ⟨_, rfl⟩), (fun h => by cases h)⟩, rfl, ⟨_, Tryd.underlying106, rfl⟩, ⟨_, Tryd.underlying106, rfl⟩, fun e ks h => by cases h⟩
theorem ok_107 : TIok Tryd.prog 107 (ti 107) := ⟨⟨((Tryd.prog.info? 107).getD default), by kernel_rfl, by kernel_rfl, by kernel_rfl, (.nilFunc), by kernel_rfl, rfl, (fun h => by cases h), (fun _ => rfl)⟩, rfl, trivial, ⟨_, Tryd.underlying107, rfl⟩, fun e ks h => by cases h⟩
theorem ok_108 : TIok Tryd.prog 108 (ti 108) := ⟨⟨((Tryd.prog.info? 108).getD default), by kernel_rfl, by kernel_rfl, by kernel_rfl, (.int .u32 0), by kernel_rfl, rfl, (fun h => by cases h), (fun _ => rfl)⟩, rfl, Tryd.underlying108, ⟨_, Tryd.underlying108, rfl⟩, fun e ks h => by cases h⟩
theorem ok_109 : TIok Tryd.prog 109 (ti 109) := ⟨⟨((Tryd.prog.info? 109).getD default), by kernel_rfl, by kernel_rfl, by kernel_rfl, (.int .u8 0), by kernel_rfl, rfl, (fun h => by cases h), (fun _ => rfl)⟩, rfl, Tryd.underlying109, ⟨_, Tryd.underlying109, rfl⟩, fun e ks h => by cases h⟩
theorem ok_110 : TIok Tryd.prog 110 (ti 110) := ⟨⟨((Tryd.prog.info? 110).getD default), by kernel_rfl, by kernel_rfl, by kernel_rfl, (.int .u8 0), by kernel_rfl, rfl, (fun h => by cases h), (fun _ => rfl)⟩, rfl, Tryd.underlying110, ⟨_, Tryd.underlying110, rfl⟩, fun e ks h => by cases h⟩
theorem ok_111 : TIok Tryd.prog 111 (ti 111) := ⟨⟨((Tryd.prog.info? 111).getD default), by kernel_rfl, by kernel_rfl, by kernel_rfl, (.nilFunc), by kernel_rfl, rfl, (fun h => by cases h), (fun _ => rfl)⟩, rfl, trivial, ⟨_, Tryd.underlying111, rfl⟩, fun e ks h => by cases h⟩
theorem ok_112 : TIok Tryd.prog 112 (ti 112) := ⟨⟨((Tryd.prog.info? 112).getD default), by kernel_rfl, by kernel_rfl, by kernel_rfl, (.pointer none), by kernel_rfl, rfl, (fun h => by cases h), (fun _ => rfl)⟩, rfl, Tryd.underlying112, ⟨_, Tryd.underlying112, rfl⟩, fun e ks h => by cases h⟩
theorem ok_113 : TIok Tryd.prog 113 (ti 113) := ⟨⟨((Tryd.prog.info? 113).getD default), by kernel_rfl, by kernel_rfl, by kernel_rfl, (.int .i32 0), by kernel_rfl, rfl, (fun h => by cases h), (fun _ => rfl)⟩, rfl, Tryd.underlying113, ⟨_, Tryd.underlying113, rfl⟩, fun e ks h => by cases h⟩
theorem ok_114 : TIok Tryd.prog 114 (ti 114) := ⟨⟨((Tryd.prog.info? 114).getD default), by kernel_rfl, by kernel_rfl, by kernel_rfl, (.int .i32 0), by kernel_rfl, rfl, (fun h => by cases h), (fun _ => rfl)⟩, rfl, Tryd.underlying114, ⟨_, Tryd.underlying114, rfl⟩, fun e ks h => by cases h⟩
theorem ok_115 : TIok Tryd.prog 115 (ti 115) := ⟨⟨((Tryd.prog.info? 115).getD default), by kernel_rfl, by kernel_rfl, by kernel_rfl, (.agg #[.int .u64 0, .int .u64 0, .int .u32 0, .int .u8 0, .int .u8 0, .int .u8 0, .int .u8 0, .nilFunc, .pointer none, .int .i32 0, .int .i32 0]), by kernel_rfl, rfl, (fun _ => ⟨_, rfl⟩), (fun h => by cases h)⟩, rfl, ⟨_, Tryd.underlying115, rfl⟩, ⟨_, Tryd.underlying115, rfl⟩, fun e ks h => by cases h⟩
theorem ok_116 : TIok Tryd.prog 116 (ti 116) := ⟨⟨((Tryd.prog.info? 116).getD default), by kernel_rfl, by kernel_rfl, by kernel_rfl, (.agg #[.int .u64 0, .int .u64 0, .int .u32 0, .int .u8 0, .int .u8 0, .int .u8 0, .int .u8 0, .nilFunc, .pointer none, .int .i32 0, .int .i32 0]), by kernel_rfl, rfl, (fun _ => ⟨_, rfl⟩), (fun h => by cases h)⟩, rfl, ⟨_, Tryd.underlying116, rfl⟩, ⟨_, Tryd.underlying116, rfl⟩, fun e ks h => by cases h⟩
theorem ok_117 : TIok Tryd.prog 117 (ti 117) := ⟨⟨((Tryd.prog.info? 117).getD default), by kernel_rfl, by kernel_rfl, by kernel_rfl, (.nilFunc), by kernel_rfl, rfl, (fun h => by cases h), (fun _ => rfl)⟩, rfl, trivial, ⟨_, Tryd.underlying117, rfl⟩, fun e ks h => by cases h⟩
theorem ti_ok (t : TypeId) (h : (ti t).k ≠ .other ∨ 0 < (ti t).sz) : TIok Tryd.prog t (ti t) := by
  unfold ti at h
  split at h
  · exact ok_1
  · exact ok_2
  · exact ok_3
  · exact ok_4
  · exact ok_5
  · exact ok_6
  · exact ok_7
  · exact ok_8
  · exact ok_9
  · exact ok_10
  · exact ok_11
  · exact ok_12
  · exact ok_13
  · exact ok_14
  · exact ok_15
  · exact ok_16
  · exact ok_17
  · exact ok_18
  · exact ok_19
  · exact ok_20
  · exact ok_21
  · exact ok_22
  · exact ok_23
  · exact ok_24
  · exact ok_25
  · exact ok_26
  · exact ok_27
  · exact ok_28
  · exact ok_29
  · exact ok_30
  · exact ok_31
  · exact ok_32
  · exact ok_33
  · exact ok_34
  · exact ok_35
  · exact ok_36
  · exact ok_37
  · exact ok_38
  · exact ok_39
  · exact ok_40
  · exact ok_41
  · exact ok_42
  · exact ok_43
  · exact ok_44
  · exact ok_45
  · exact ok_46
  · exact ok_47
  · exact ok_48
  · exact ok_49
  · exact ok_50
  · exact ok_51
  · exact ok_52
  · exact ok_53
  · exact ok_55
  · exact ok_56
  · exact ok_58
  · exact ok_59
  · exact ok_60
  · exact ok_61
  · exact ok_62
  · exact ok_63
  · exact ok_64
  · exact ok_65
  · exact ok_66
  · exact ok_67
  · exact ok_68
  · exact ok_69
  · exact ok_70
  · exact ok_71
  · exact ok_72
  · exact ok_73
  · exact ok_74
  · exact ok_75
  · exact ok_76
  · exact ok_77
  · exact ok_78
  · exact ok_79
  · exact ok_80
  · exact ok_81
  · exact ok_82
  · exact ok_86
  · exact ok_87
  · exact ok_88
  · exact ok_89
  · exact ok_91
  · exact ok_92
  · exact ok_93
  · exact ok_95
  · exact ok_96
  · exact ok_97
  · exact ok_98
  · exact ok_99
  · exact ok_100
  · exact ok_101
  · exact ok_102
  · exact ok_103
  · exact ok_104
  · exact ok_105
  · exact ok_106
  · exact ok_107
  · exact ok_108
  · exact ok_109
  · exact ok_110
  · exact ok_111
  · exact ok_112
  · exact ok_113
  · exact ok_114
  · exact ok_115
  · exact ok_116
  · exact ok_117
  · simp at h
/-- What is known of the functions so far. -/
structure Known where
  Γ : FuncId → Option Ct
  ok : ∀ g ct, Γ g = some ct → Sound Tryd.prog g ct ∧ EnterOk Tryd.prog g
def Known.nil : Known := ⟨fun _ => none, fun _ _ h => by cases h⟩
def Known.cons (K : Known) (f : FuncId) (ct : Ct) (h : Sound Tryd.prog f ct) (he : EnterOk Tryd.prog f) : Known :=
  ⟨fun g => if g = f then some ct else K.Γ g, fun g c hg => by
    split at hg
    · rename_i he'; cases hg; subst he'; exact ⟨h, he⟩
    · exact K.ok g c hg⟩
theorem Known.env (K : Known) (sk : List Nat) : EnvOk Tryd.prog ⟨ti, K.Γ, sk⟩ := ⟨fun t h => ti_ok t h, K.ok⟩
end Go.Proofs.YtfmeopnankeaeaaDoor
