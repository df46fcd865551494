/- The seat's types hold what the evaluator's table says. -/
import Derived.Test.YtfmeopnankeaeaaTTypes
import Derived.Test.YtfmeopnankeaeaaTC
import Derived.Test.YtfmeopnankeaeaaTDeep
set_option linter.unusedSimpArgs false
set_option linter.unusedVariables false
set_option linter.unusedSectionVars false
namespace Go.Proofs.Ytfmeopnankeaeaa
open Go.RowKit
theorem part_one {P : Program} {t : TypeId} {x : TI} (h : TIok P t x) (ha : x.agg = false) (w : World) {cs : Array Value} {off : Nat} {v : Value} (hv : cs[off]? = some v) : (Go.part t cs off).run P w = .ok v w := by
  simp only [Go.part, Sem.run_bind, h.run_isAgg, ha, Result.andThen_ok, Bool.false_eq_true, if_false, hv, Sem.run_pure]
theorem kinds_iii {xs : List Value} (h : kindsOk [.int .i64, .int .i64, .int .i64] xs = true) : ∃ a b c, xs = [.int .i64 a, .int .i64 b, .int .i64 c] := by
  match xs, h with
  | [.int .i64 a, .int .i64 b, .int .i64 c], _ => exact ⟨a, b, c, rfl⟩
theorem kinds_iis {xs : List Value} (h : kindsOk [.int .i64, .int .i64, .str] xs = true) : ∃ a b c, xs = [.int .i64 a, .int .i64 b, .string c] := by
  match xs, h with
  | [.int .i64 a, .int .i64 b, .string c], _ => exact ⟨a, b, c, rfl⟩
theorem andThen_ok' {α β : Type} (a : α) (w : World) (f : α → World → Result β) : (Result.ok a w).andThen f = f a w := rfl
theorem ok_1 : TIok Try.prog 1 (ti 1) := ⟨⟨((Try.prog.info? 1).getD default), by kernel_rfl, by kernel_rfl, by kernel_rfl, (.nilFunc), by kernel_rfl, rfl, (fun h => by cases h), (fun _ => rfl)⟩, rfl, trivial, ⟨_, Try.underlying1, rfl⟩, fun e ks h => by cases h⟩
theorem ok_2 : TIok Try.prog 2 (ti 2) := ⟨⟨((Try.prog.info? 2).getD default), by kernel_rfl, by kernel_rfl, by kernel_rfl, (.int .i64 0), by kernel_rfl, rfl, (fun h => by cases h), (fun _ => rfl)⟩, rfl, Try.underlying2, ⟨_, Try.underlying2, rfl⟩, fun e ks h => by cases h⟩
theorem ok_3 : TIok Try.prog 3 (ti 3) := ⟨⟨((Try.prog.info? 3).getD default), by kernel_rfl, by kernel_rfl, by kernel_rfl, (.int .i64 0), by kernel_rfl, rfl, (fun h => by cases h), (fun _ => rfl)⟩, rfl, Try.underlying3, ⟨_, Try.underlying3, rfl⟩, fun e ks h hk => by cases h; cases hk⟩
theorem ok_4 : TIok Try.prog 4 (ti 4) := ⟨⟨((Try.prog.info? 4).getD default), by kernel_rfl, by kernel_rfl, by kernel_rfl, (.bool false), by kernel_rfl, rfl, (fun h => by cases h), (fun _ => rfl)⟩, rfl, Try.underlying4, ⟨_, Try.underlying4, rfl⟩, fun e ks h => by cases h⟩
theorem ok_5 : TIok Try.prog 5 (ti 5) := ⟨⟨((Try.prog.info? 5).getD default), by kernel_rfl, by kernel_rfl, by kernel_rfl, (.int .u8 0), by kernel_rfl, rfl, (fun h => by cases h), (fun _ => rfl)⟩, rfl, Try.underlying5, ⟨_, Try.underlying5, rfl⟩, fun e ks h hk => by cases h; cases hk⟩
theorem ok_6 : TIok Try.prog 6 (ti 6) := ⟨⟨((Try.prog.info? 6).getD default), by kernel_rfl, by kernel_rfl, by kernel_rfl, (.int .u8 0), by kernel_rfl, rfl, (fun h => by cases h), (fun _ => rfl)⟩, rfl, Try.underlying6, ⟨_, Try.underlying6, rfl⟩, fun e ks h => by cases h⟩
theorem ok_7 : TIok Try.prog 7 (ti 7) := ⟨⟨((Try.prog.info? 7).getD default), by kernel_rfl, by kernel_rfl, by kernel_rfl, (.agg #[.int .i64 0, .int .i64 0, .bool false, .int .u8 0]), by kernel_rfl, rfl, (fun _ => ⟨_, rfl⟩), (fun h => by cases h)⟩, rfl, ⟨_, Try.underlying7, rfl⟩, ⟨_, Try.underlying7, rfl⟩, fun e ks h => by cases h⟩
theorem ok_8 : TIok Try.prog 8 (ti 8) := ⟨⟨((Try.prog.info? 8).getD default), by kernel_rfl, by kernel_rfl, by kernel_rfl, (.agg #[.int .i64 0, .int .i64 0, .bool false, .int .u8 0]), by kernel_rfl, rfl, (fun _ => ⟨_, rfl⟩), (fun h => by cases h)⟩, rfl, ⟨_, Try.underlying8, rfl⟩, ⟨_, Try.underlying8, rfl⟩, fun e ks h => by cases h⟩
theorem ok_9 : TIok Try.prog 9 (ti 9) := ⟨⟨((Try.prog.info? 9).getD default), by kernel_rfl, by kernel_rfl, by kernel_rfl, (.string ⟨#[]⟩), by kernel_rfl, rfl, (fun h => by cases h), (fun _ => rfl)⟩, rfl, Try.underlying9, ⟨_, Try.underlying9, rfl⟩, fun e ks h hk => by cases h; cases hk⟩
theorem ok_10 : TIok Try.prog 10 (ti 10) := ⟨⟨((Try.prog.info? 10).getD default), by kernel_rfl, by kernel_rfl, by kernel_rfl, (.string ⟨#[]⟩), by kernel_rfl, rfl, (fun h => by cases h), (fun _ => rfl)⟩, rfl, Try.underlying10, ⟨_, Try.underlying10, rfl⟩, fun e ks h => by cases h⟩
theorem ok_11 : TIok Try.prog 11 (ti 11) := ⟨⟨((Try.prog.info? 11).getD default), by kernel_rfl, by kernel_rfl, by kernel_rfl, (.string ⟨#[]⟩), by kernel_rfl, rfl, (fun h => by cases h), (fun _ => rfl)⟩, rfl, Try.underlying11, ⟨_, Try.underlying11, rfl⟩, fun e ks h => by cases h⟩
theorem ok_12 : TIok Try.prog 12 (ti 12) := ⟨⟨((Try.prog.info? 12).getD default), by kernel_rfl, by kernel_rfl, by kernel_rfl, (.int .u64 0), by kernel_rfl, rfl, (fun h => by cases h), (fun _ => rfl)⟩, rfl, Try.underlying12, ⟨_, Try.underlying12, rfl⟩, fun e ks h => by cases h⟩
theorem ok_13 : TIok Try.prog 13 (ti 13) := ⟨⟨((Try.prog.info? 13).getD default), by kernel_rfl, by kernel_rfl, by kernel_rfl, (.agg #[.string ⟨#[]⟩, .int .u64 0]), by kernel_rfl, rfl, (fun _ => ⟨_, rfl⟩), (fun h => by cases h)⟩, rfl, ⟨_, Try.underlying13, rfl⟩, ⟨_, Try.underlying13, rfl⟩, fun e ks h => by cases h⟩
theorem ok_14 : TIok Try.prog 14 (ti 14) := ⟨⟨((Try.prog.info? 14).getD default), by kernel_rfl, by kernel_rfl, by kernel_rfl, (.agg #[.string ⟨#[]⟩, .int .u64 0]), by kernel_rfl, rfl, (fun _ => ⟨_, rfl⟩), (fun h => by cases h)⟩, rfl, ⟨_, Try.underlying14, rfl⟩, ⟨_, Try.underlying14, rfl⟩, fun e ks h => by cases h⟩
theorem ok_15 : TIok Try.prog 15 (ti 15) := ⟨⟨((Try.prog.info? 15).getD default), by kernel_rfl, by kernel_rfl, by kernel_rfl, (.pointer none), by kernel_rfl, rfl, (fun h => by cases h), (fun _ => rfl)⟩, rfl, Try.underlying15, ⟨_, Try.underlying15, rfl⟩, fun e ks h => by cases h⟩
theorem ok_16 : TIok Try.prog 16 (ti 16) := ⟨⟨((Try.prog.info? 16).getD default), by kernel_rfl, by kernel_rfl, by kernel_rfl, (.pointer none), by kernel_rfl, rfl, (fun h => by cases h), (fun _ => rfl)⟩, rfl, Try.underlying16, ⟨_, Try.underlying16, rfl⟩, fun e ks h => by cases h⟩
theorem ok_17 : TIok Try.prog 17 (ti 17) := ⟨⟨((Try.prog.info? 17).getD default), by kernel_rfl, by kernel_rfl, by kernel_rfl, (.pointer none), by kernel_rfl, rfl, (fun h => by cases h), (fun _ => rfl)⟩, rfl, Try.underlying17, ⟨_, Try.underlying17, rfl⟩, fun e ks h => by cases h⟩
theorem ok_18 : TIok Try.prog 18 (ti 18) := ⟨⟨((Try.prog.info? 18).getD default), by kernel_rfl, by kernel_rfl, by kernel_rfl, (.agg #[.pointer none]), by kernel_rfl, rfl, (fun _ => ⟨_, rfl⟩), (fun h => by cases h)⟩, rfl, ⟨_, Try.underlying18, rfl⟩, ⟨_, Try.underlying18, rfl⟩, fun e ks h => by cases h⟩
theorem ok_19 : TIok Try.prog 19 (ti 19) := ⟨⟨((Try.prog.info? 19).getD default), by kernel_rfl, by kernel_rfl, by kernel_rfl, (.agg #[.pointer none]), by kernel_rfl, rfl, (fun _ => ⟨_, rfl⟩), (fun h => by cases h)⟩, rfl, ⟨_, Try.underlying19, rfl⟩, ⟨_, Try.underlying19, rfl⟩, fun e ks h => by cases h⟩
theorem ok_20 : TIok Try.prog 20 (ti 20) := ⟨⟨((Try.prog.info? 20).getD default), by kernel_rfl, by kernel_rfl, by kernel_rfl, (.nilIface), by kernel_rfl, rfl, (fun h => by cases h), (fun _ => rfl)⟩, rfl, ⟨_, Try.underlying20⟩, ⟨_, Try.underlying20, rfl⟩, fun e ks h => by cases h⟩
theorem ok_21 : TIok Try.prog 21 (ti 21) := ⟨⟨((Try.prog.info? 21).getD default), by kernel_rfl, by kernel_rfl, by kernel_rfl, (.int .i32 0), by kernel_rfl, rfl, (fun h => by cases h), (fun _ => rfl)⟩, rfl, Try.underlying21, ⟨_, Try.underlying21, rfl⟩, fun e ks h => by cases h⟩
theorem ok_22 : TIok Try.prog 22 (ti 22) := ⟨⟨((Try.prog.info? 22).getD default), by kernel_rfl, by kernel_rfl, by kernel_rfl, (.slice none 0 0), by kernel_rfl, rfl, (fun h => by cases h), (fun _ => rfl)⟩, rfl, Try.underlying22, ⟨_, Try.underlying22, rfl⟩, fun e ks h => by cases h⟩
theorem ok_23 : TIok Try.prog 23 (ti 23) := ⟨⟨((Try.prog.info? 23).getD default), by kernel_rfl, by kernel_rfl, by kernel_rfl, (.agg #[.slice none 0 0, .slice none 0 0]), by kernel_rfl, rfl, (fun _ => ⟨_, rfl⟩), (fun h => by cases h)⟩, rfl, Try.underlying23, ⟨_, Try.underlying23, rfl⟩, fun e ks h => by cases h⟩
theorem ok_24 : TIok Try.prog 24 (ti 24) := ⟨⟨((Try.prog.info? 24).getD default), by kernel_rfl, by kernel_rfl, by kernel_rfl, (.slice none 0 0), by kernel_rfl, rfl, (fun h => by cases h), (fun _ => rfl)⟩, rfl, Try.underlying24, ⟨_, Try.underlying24, rfl⟩, fun e ks h => by cases h⟩
theorem ok_25 : TIok Try.prog 25 (ti 25) := ⟨⟨((Try.prog.info? 25).getD default), by kernel_rfl, by kernel_rfl, by kernel_rfl, (.agg #[.slice none 0 0, .slice none 0 0, .slice none 0 0]), by kernel_rfl, rfl, (fun _ => ⟨_, rfl⟩), (fun h => by cases h)⟩, rfl, ⟨_, Try.underlying25, rfl⟩, ⟨_, Try.underlying25, rfl⟩, fun e ks h => by cases h⟩
theorem ok_26 : TIok Try.prog 26 (ti 26) := ⟨⟨((Try.prog.info? 26).getD default), by kernel_rfl, by kernel_rfl, by kernel_rfl, (.agg #[.slice none 0 0, .slice none 0 0, .slice none 0 0]), by kernel_rfl, rfl, (fun _ => ⟨_, rfl⟩), (fun h => by cases h)⟩, rfl, ⟨_, Try.underlying26, rfl⟩, ⟨_, Try.underlying26, rfl⟩, fun e ks h => by cases h⟩
theorem ok_27 : TIok Try.prog 27 (ti 27) := ⟨⟨((Try.prog.info? 27).getD default), by kernel_rfl, by kernel_rfl, by kernel_rfl, (.nilFunc), by kernel_rfl, rfl, (fun h => by cases h), (fun _ => rfl)⟩, rfl, trivial, ⟨_, Try.underlying27, rfl⟩, fun e ks h => by cases h⟩
theorem ok_28 : TIok Try.prog 28 (ti 28) := ⟨⟨((Try.prog.info? 28).getD default), by kernel_rfl, by kernel_rfl, by kernel_rfl, (.slice none 0 0), by kernel_rfl, rfl, (fun h => by cases h), (fun _ => rfl)⟩, rfl, Try.underlying28, ⟨_, Try.underlying28, rfl⟩, fun e ks h => by cases h⟩
theorem ok_29 : TIok Try.prog 29 (ti 29) := ⟨⟨((Try.prog.info? 29).getD default), by kernel_rfl, by kernel_rfl, by kernel_rfl, (.agg #[.slice none 0 0, .slice none 0 0, .slice none 0 0]), by kernel_rfl, rfl, (fun _ => ⟨_, rfl⟩), (fun h => by cases h)⟩, rfl, ⟨_, Try.underlying29, rfl⟩, ⟨_, Try.underlying29, rfl⟩, fun e ks h => by cases h⟩
theorem ok_30 : TIok Try.prog 30 (ti 30) := ⟨⟨((Try.prog.info? 30).getD default), by kernel_rfl, by kernel_rfl, by kernel_rfl, (.agg #[.slice none 0 0, .slice none 0 0, .slice none 0 0]), by kernel_rfl, rfl, (fun _ => ⟨_, rfl⟩), (fun h => by cases h)⟩, rfl, ⟨_, Try.underlying30, rfl⟩, ⟨_, Try.underlying30, rfl⟩, fun e ks h => by cases h⟩
theorem ok_31 : TIok Try.prog 31 (ti 31) := ⟨⟨((Try.prog.info? 31).getD default), by kernel_rfl, by kernel_rfl, by kernel_rfl, (.nilFunc), by kernel_rfl, rfl, (fun h => by cases h), (fun _ => rfl)⟩, rfl, trivial, ⟨_, Try.underlying31, rfl⟩, fun e ks h => by cases h⟩
theorem ok_32 : TIok Try.prog 32 (ti 32) := ⟨⟨((Try.prog.info? 32).getD default), by kernel_rfl, by kernel_rfl, by kernel_rfl, (.nilFunc), by kernel_rfl, rfl, (fun h => by cases h), (fun _ => rfl)⟩, rfl, trivial, ⟨_, Try.underlying32, rfl⟩, fun e ks h => by cases h⟩
theorem ok_33 : TIok Try.prog 33 (ti 33) := ⟨⟨((Try.prog.info? 33).getD default), by kernel_rfl, by kernel_rfl, by kernel_rfl, (.nilFunc), by kernel_rfl, rfl, (fun h => by cases h), (fun _ => rfl)⟩, rfl, trivial, ⟨_, Try.underlying33, rfl⟩, fun e ks h => by cases h⟩
theorem ok_34 : TIok Try.prog 34 (ti 34) := ⟨⟨((Try.prog.info? 34).getD default), by kernel_rfl, by kernel_rfl, by kernel_rfl, (.nilFunc), by kernel_rfl, rfl, (fun h => by cases h), (fun _ => rfl)⟩, rfl, trivial, ⟨_, Try.underlying34, rfl⟩, fun e ks h => by cases h⟩
theorem ok_35 : TIok Try.prog 35 (ti 35) := ⟨⟨((Try.prog.info? 35).getD default), by kernel_rfl, by kernel_rfl, by kernel_rfl, (.nilFunc), by kernel_rfl, rfl, (fun h => by cases h), (fun _ => rfl)⟩, rfl, trivial, ⟨_, Try.underlying35, rfl⟩, fun e ks h => by cases h⟩
theorem ok_36 : TIok Try.prog 36 (ti 36) := ⟨⟨((Try.prog.info? 36).getD default), by kernel_rfl, by kernel_rfl, by kernel_rfl, (.nilFunc), by kernel_rfl, rfl, (fun h => by cases h), (fun _ => rfl)⟩, rfl, trivial, ⟨_, Try.underlying36, rfl⟩, fun e ks h => by cases h⟩
theorem ok_37 : TIok Try.prog 37 (ti 37) := ⟨⟨((Try.prog.info? 37).getD default), by kernel_rfl, by kernel_rfl, by kernel_rfl, (.nilFunc), by kernel_rfl, rfl, (fun h => by cases h), (fun _ => rfl)⟩, rfl, trivial, ⟨_, Try.underlying37, rfl⟩, fun e ks h => by cases h⟩
theorem ok_39 : TIok Try.prog 39 (ti 39) := ⟨⟨((Try.prog.info? 39).getD default), by kernel_rfl, by kernel_rfl, by kernel_rfl, (.nilFunc), by kernel_rfl, rfl, (fun h => by cases h), (fun _ => rfl)⟩, rfl, trivial, ⟨_, Try.underlying39, rfl⟩, fun e ks h => by cases h⟩
theorem ok_40 : TIok Try.prog 40 (ti 40) := ⟨⟨((Try.prog.info? 40).getD default), by kernel_rfl, by kernel_rfl, by kernel_rfl, (.nilFunc), by kernel_rfl, rfl, (fun h => by cases h), (fun _ => rfl)⟩, rfl, trivial, ⟨_, Try.underlying40, rfl⟩, fun e ks h => by cases h⟩
theorem ok_41 : TIok Try.prog 41 (ti 41) := ⟨⟨((Try.prog.info? 41).getD default), by kernel_rfl, by kernel_rfl, by kernel_rfl, (.nilFunc), by kernel_rfl, rfl, (fun h => by cases h), (fun _ => rfl)⟩, rfl, trivial, ⟨_, Try.underlying41, rfl⟩, fun e ks h => by cases h⟩
theorem ok_42 : TIok Try.prog 42 (ti 42) := ⟨⟨((Try.prog.info? 42).getD default), by kernel_rfl, by kernel_rfl, by kernel_rfl, (.nilFunc), by kernel_rfl, rfl, (fun h => by cases h), (fun _ => rfl)⟩, rfl, trivial, ⟨_, Try.underlying42, rfl⟩, fun e ks h => by cases h⟩
theorem ok_43 : TIok Try.prog 43 (ti 43) := ⟨⟨((Try.prog.info? 43).getD default), by kernel_rfl, by kernel_rfl, by kernel_rfl, (.slice none 0 0), by kernel_rfl, rfl, (fun h => by cases h), (fun _ => rfl)⟩, rfl, Try.underlying43, ⟨_, Try.underlying43, rfl⟩, fun e ks h => by cases h⟩
theorem ok_44 : TIok Try.prog 44 (ti 44) := ⟨⟨((Try.prog.info? 44).getD default), by kernel_rfl, by kernel_rfl, by kernel_rfl, (.nilFunc), by kernel_rfl, rfl, (fun h => by cases h), (fun _ => rfl)⟩, rfl, trivial, ⟨_, Try.underlying44, rfl⟩, fun e ks h => by cases h⟩
theorem ok_45 : TIok Try.prog 45 (ti 45) := ⟨⟨((Try.prog.info? 45).getD default), by kernel_rfl, by kernel_rfl, by kernel_rfl, (.nilFunc), by kernel_rfl, rfl, (fun h => by cases h), (fun _ => rfl)⟩, rfl, trivial, ⟨_, Try.underlying45, rfl⟩, fun e ks h => by cases h⟩
theorem ok_46 : TIok Try.prog 46 (ti 46) := ⟨⟨((Try.prog.info? 46).getD default), by kernel_rfl, by kernel_rfl, by kernel_rfl, (.nilFunc), by kernel_rfl, rfl, (fun h => by cases h), (fun _ => rfl)⟩, rfl, trivial, ⟨_, Try.underlying46, rfl⟩, fun e ks h => by cases h⟩
theorem ok_47 : TIok Try.prog 47 (ti 47) := ⟨⟨((Try.prog.info? 47).getD default), by kernel_rfl, by kernel_rfl, by kernel_rfl, (.nilFunc), by kernel_rfl, rfl, (fun h => by cases h), (fun _ => rfl)⟩, rfl, trivial, ⟨_, Try.underlying47, rfl⟩, fun e ks h => by cases h⟩
theorem ok_48 : TIok Try.prog 48 (ti 48) := ⟨⟨((Try.prog.info? 48).getD default), by kernel_rfl, by kernel_rfl, by kernel_rfl, (.nilFunc), by kernel_rfl, rfl, (fun h => by cases h), (fun _ => rfl)⟩, rfl, trivial, ⟨_, Try.underlying48, rfl⟩, fun e ks h => by cases h⟩
theorem ok_49 : TIok Try.prog 49 (ti 49) := ⟨⟨((Try.prog.info? 49).getD default), by kernel_rfl, by kernel_rfl, by kernel_rfl, (.agg #[.int .i64 0, .int .i64 0, .int .i64 0]), by kernel_rfl, rfl, (fun _ => ⟨_, rfl⟩), (fun h => by cases h)⟩, rfl, ⟨_, Try.underlying49, rfl⟩, ⟨_, Try.underlying49, rfl⟩, fun e ks h => by cases h⟩
theorem eqk_50 : EqOk Try.prog 50 [.int .i64, .int .i64, .int .i64] := eqOk_deep [.int .i64, .int .i64, .int .i64] rfl (by kernel_rfl) (by kernel_rfl) (by kernel_rfl)
theorem ok_50 : TIok Try.prog 50 (ti 50) := ⟨⟨((Try.prog.info? 50).getD default), by kernel_rfl, by kernel_rfl, by kernel_rfl, (.agg #[.int .i64 0, .int .i64 0, .int .i64 0]), by kernel_rfl, rfl, (fun _ => ⟨_, rfl⟩), (fun h => by cases h)⟩, rfl, ⟨_, Try.underlying50, rfl⟩, ⟨_, Try.underlying50, rfl⟩, fun e ks h hk => by cases h; cases hk; exact eqk_50⟩
theorem ok_52 : TIok Try.prog 52 (ti 52) := ⟨⟨((Try.prog.info? 52).getD default), by kernel_rfl, by kernel_rfl, by kernel_rfl, (.nilFunc), by kernel_rfl, rfl, (fun h => by cases h), (fun _ => rfl)⟩, rfl, trivial, ⟨_, Try.underlying52, rfl⟩, fun e ks h => by cases h⟩
theorem eqk_53 : EqOk Try.prog 53 [.int .i64, .int .i64, .int .i64] := eqOk_deep [.int .i64, .int .i64, .int .i64] rfl (by kernel_rfl) (by kernel_rfl) (by kernel_rfl)
theorem ok_53 : TIok Try.prog 53 (ti 53) := ⟨⟨((Try.prog.info? 53).getD default), by kernel_rfl, by kernel_rfl, by kernel_rfl, (.agg #[.int .i64 0, .int .i64 0, .int .i64 0]), by kernel_rfl, rfl, (fun _ => ⟨_, rfl⟩), (fun h => by cases h)⟩, rfl, ⟨_, Try.underlying53, rfl⟩, ⟨_, Try.underlying53, rfl⟩, fun e ks h hk => by cases h; cases hk; exact eqk_53⟩
theorem ok_54 : TIok Try.prog 54 (ti 54) := ⟨⟨((Try.prog.info? 54).getD default), by kernel_rfl, by kernel_rfl, by kernel_rfl, (.nilFunc), by kernel_rfl, rfl, (fun h => by cases h), (fun _ => rfl)⟩, rfl, trivial, ⟨_, Try.underlying54, rfl⟩, fun e ks h => by cases h⟩
theorem ok_55 : TIok Try.prog 55 (ti 55) := ⟨⟨((Try.prog.info? 55).getD default), by kernel_rfl, by kernel_rfl, by kernel_rfl, (.nilFunc), by kernel_rfl, rfl, (fun h => by cases h), (fun _ => rfl)⟩, rfl, trivial, ⟨_, Try.underlying55, rfl⟩, fun e ks h => by cases h⟩
theorem ok_56 : TIok Try.prog 56 (ti 56) := ⟨⟨((Try.prog.info? 56).getD default), by kernel_rfl, by kernel_rfl, by kernel_rfl, (.slice none 0 0), by kernel_rfl, rfl, (fun h => by cases h), (fun _ => rfl)⟩, rfl, Try.underlying56, ⟨_, Try.underlying56, rfl⟩, fun e ks h => by cases h⟩
theorem ok_57 : TIok Try.prog 57 (ti 57) := ⟨⟨((Try.prog.info? 57).getD default), by kernel_rfl, by kernel_rfl, by kernel_rfl, (.slice none 0 0), by kernel_rfl, rfl, (fun h => by cases h), (fun _ => rfl)⟩, rfl, Try.underlying57, ⟨_, Try.underlying57, rfl⟩, fun e ks h => by cases h⟩
theorem ok_58 : TIok Try.prog 58 (ti 58) := ⟨⟨((Try.prog.info? 58).getD default), by kernel_rfl, by kernel_rfl, by kernel_rfl, (.slice none 0 0), by kernel_rfl, rfl, (fun h => by cases h), (fun _ => rfl)⟩, rfl, Try.underlying58, ⟨_, Try.underlying58, rfl⟩, fun e ks h => by cases h⟩
theorem ok_59 : TIok Try.prog 59 (ti 59) := ⟨⟨((Try.prog.info? 59).getD default), by kernel_rfl, by kernel_rfl, by kernel_rfl, (.agg #[.int .i64 0, .slice none 0 0, .slice none 0 0, .slice none 0 0, .bool false, .slice none 0 0, .int .i64 0]), by kernel_rfl, rfl, (fun _ => ⟨_, rfl⟩), (fun h => by cases h)⟩, rfl, ⟨_, Try.underlying59, rfl⟩, ⟨_, Try.underlying59, rfl⟩, fun e ks h => by cases h⟩
theorem ok_60 : TIok Try.prog 60 (ti 60) := ⟨⟨((Try.prog.info? 60).getD default), by kernel_rfl, by kernel_rfl, by kernel_rfl, (.agg #[.int .i64 0, .slice none 0 0, .slice none 0 0, .slice none 0 0, .bool false, .slice none 0 0, .int .i64 0]), by kernel_rfl, rfl, (fun _ => ⟨_, rfl⟩), (fun h => by cases h)⟩, rfl, ⟨_, Try.underlying60, rfl⟩, ⟨_, Try.underlying60, rfl⟩, fun e ks h => by cases h⟩
theorem ok_61 : TIok Try.prog 61 (ti 61) := ⟨⟨((Try.prog.info? 61).getD default), by kernel_rfl, by kernel_rfl, by kernel_rfl, (.agg #[.slice none 0 0, .slice none 0 0, .slice none 0 0, .int .i64 0, .slice none 0 0, .slice none 0 0, .slice none 0 0, .bool false, .slice none 0 0, .int .i64 0, .bool false]), by kernel_rfl, rfl, (fun _ => ⟨_, rfl⟩), (fun h => by cases h)⟩, rfl, ⟨_, Try.underlying61, rfl⟩, ⟨_, Try.underlying61, rfl⟩, fun e ks h => by cases h⟩
theorem ok_62 : TIok Try.prog 62 (ti 62) := ⟨⟨((Try.prog.info? 62).getD default), by kernel_rfl, by kernel_rfl, by kernel_rfl, (.agg #[.slice none 0 0, .slice none 0 0, .slice none 0 0, .int .i64 0, .slice none 0 0, .slice none 0 0, .slice none 0 0, .bool false, .slice none 0 0, .int .i64 0, .bool false]), by kernel_rfl, rfl, (fun _ => ⟨_, rfl⟩), (fun h => by cases h)⟩, rfl, ⟨_, Try.underlying62, rfl⟩, ⟨_, Try.underlying62, rfl⟩, fun e ks h => by cases h⟩
theorem ok_63 : TIok Try.prog 63 (ti 63) := ⟨⟨((Try.prog.info? 63).getD default), by kernel_rfl, by kernel_rfl, by kernel_rfl, (.nilFunc), by kernel_rfl, rfl, (fun h => by cases h), (fun _ => rfl)⟩, rfl, trivial, ⟨_, Try.underlying63, rfl⟩, fun e ks h => by cases h⟩
theorem ok_64 : TIok Try.prog 64 (ti 64) := ⟨⟨((Try.prog.info? 64).getD default), by kernel_rfl, by kernel_rfl, by kernel_rfl, (.nilFunc), by kernel_rfl, rfl, (fun h => by cases h), (fun _ => rfl)⟩, rfl, trivial, ⟨_, Try.underlying64, rfl⟩, fun e ks h => by cases h⟩
theorem ok_65 : TIok Try.prog 65 (ti 65) := ⟨⟨((Try.prog.info? 65).getD default), by kernel_rfl, by kernel_rfl, by kernel_rfl, (.slice none 0 0), by kernel_rfl, rfl, (fun h => by cases h), (fun _ => rfl)⟩, rfl, Try.underlying65, ⟨_, Try.underlying65, rfl⟩, fun e ks h => by cases h⟩
theorem ok_66 : TIok Try.prog 66 (ti 66) := ⟨⟨((Try.prog.info? 66).getD default), by kernel_rfl, by kernel_rfl, by kernel_rfl, (.slice none 0 0), by kernel_rfl, rfl, (fun h => by cases h), (fun _ => rfl)⟩, rfl, Try.underlying66, ⟨_, Try.underlying66, rfl⟩, fun e ks h => by cases h⟩
theorem ok_67 : TIok Try.prog 67 (ti 67) := ⟨⟨((Try.prog.info? 67).getD default), by kernel_rfl, by kernel_rfl, by kernel_rfl, (.slice none 0 0), by kernel_rfl, rfl, (fun h => by cases h), (fun _ => rfl)⟩, rfl, Try.underlying67, ⟨_, Try.underlying67, rfl⟩, fun e ks h => by cases h⟩
theorem ok_68 : TIok Try.prog 68 (ti 68) := ⟨⟨((Try.prog.info? 68).getD default), by kernel_rfl, by kernel_rfl, by kernel_rfl, (.agg #[.int .i64 0, .slice none 0 0, .slice none 0 0, .slice none 0 0, .bool false, .slice none 0 0, .int .i64 0]), by kernel_rfl, rfl, (fun _ => ⟨_, rfl⟩), (fun h => by cases h)⟩, rfl, ⟨_, Try.underlying68, rfl⟩, ⟨_, Try.underlying68, rfl⟩, fun e ks h => by cases h⟩
theorem ok_69 : TIok Try.prog 69 (ti 69) := ⟨⟨((Try.prog.info? 69).getD default), by kernel_rfl, by kernel_rfl, by kernel_rfl, (.agg #[.int .i64 0, .slice none 0 0, .slice none 0 0, .slice none 0 0, .bool false, .slice none 0 0, .int .i64 0]), by kernel_rfl, rfl, (fun _ => ⟨_, rfl⟩), (fun h => by cases h)⟩, rfl, ⟨_, Try.underlying69, rfl⟩, ⟨_, Try.underlying69, rfl⟩, fun e ks h => by cases h⟩
theorem ok_70 : TIok Try.prog 70 (ti 70) := ⟨⟨((Try.prog.info? 70).getD default), by kernel_rfl, by kernel_rfl, by kernel_rfl, (.agg #[.slice none 0 0, .slice none 0 0, .slice none 0 0, .int .i64 0, .slice none 0 0, .slice none 0 0, .slice none 0 0, .bool false, .slice none 0 0, .int .i64 0, .bool false]), by kernel_rfl, rfl, (fun _ => ⟨_, rfl⟩), (fun h => by cases h)⟩, rfl, ⟨_, Try.underlying70, rfl⟩, ⟨_, Try.underlying70, rfl⟩, fun e ks h => by cases h⟩
theorem ok_71 : TIok Try.prog 71 (ti 71) := ⟨⟨((Try.prog.info? 71).getD default), by kernel_rfl, by kernel_rfl, by kernel_rfl, (.agg #[.slice none 0 0, .slice none 0 0, .slice none 0 0, .int .i64 0, .slice none 0 0, .slice none 0 0, .slice none 0 0, .bool false, .slice none 0 0, .int .i64 0, .bool false]), by kernel_rfl, rfl, (fun _ => ⟨_, rfl⟩), (fun h => by cases h)⟩, rfl, ⟨_, Try.underlying71, rfl⟩, ⟨_, Try.underlying71, rfl⟩, fun e ks h => by cases h⟩
theorem ok_72 : TIok Try.prog 72 (ti 72) := ⟨⟨((Try.prog.info? 72).getD default), by kernel_rfl, by kernel_rfl, by kernel_rfl, (.nilFunc), by kernel_rfl, rfl, (fun h => by cases h), (fun _ => rfl)⟩, rfl, trivial, ⟨_, Try.underlying72, rfl⟩, fun e ks h => by cases h⟩
theorem ok_73 : TIok Try.prog 73 (ti 73) := ⟨⟨((Try.prog.info? 73).getD default), by kernel_rfl, by kernel_rfl, by kernel_rfl, (.nilFunc), by kernel_rfl, rfl, (fun h => by cases h), (fun _ => rfl)⟩, rfl, trivial, ⟨_, Try.underlying73, rfl⟩, fun e ks h => by cases h⟩
theorem ok_74 : TIok Try.prog 74 (ti 74) := ⟨⟨((Try.prog.info? 74).getD default), by kernel_rfl, by kernel_rfl, by kernel_rfl, (.nilFunc), by kernel_rfl, rfl, (fun h => by cases h), (fun _ => rfl)⟩, rfl, trivial, ⟨_, Try.underlying74, rfl⟩, fun e ks h => by cases h⟩
theorem ok_75 : TIok Try.prog 75 (ti 75) := ⟨⟨((Try.prog.info? 75).getD default), by kernel_rfl, by kernel_rfl, by kernel_rfl, (.nilFunc), by kernel_rfl, rfl, (fun h => by cases h), (fun _ => rfl)⟩, rfl, trivial, ⟨_, Try.underlying75, rfl⟩, fun e ks h => by cases h⟩
theorem ok_76 : TIok Try.prog 76 (ti 76) := ⟨⟨((Try.prog.info? 76).getD default), by kernel_rfl, by kernel_rfl, by kernel_rfl, (.nilFunc), by kernel_rfl, rfl, (fun h => by cases h), (fun _ => rfl)⟩, rfl, trivial, ⟨_, Try.underlying76, rfl⟩, fun e ks h => by cases h⟩
theorem ok_77 : TIok Try.prog 77 (ti 77) := ⟨⟨((Try.prog.info? 77).getD default), by kernel_rfl, by kernel_rfl, by kernel_rfl, (.nilFunc), by kernel_rfl, rfl, (fun h => by cases h), (fun _ => rfl)⟩, rfl, trivial, ⟨_, Try.underlying77, rfl⟩, fun e ks h => by cases h⟩
theorem ok_78 : TIok Try.prog 78 (ti 78) := ⟨⟨((Try.prog.info? 78).getD default), by kernel_rfl, by kernel_rfl, by kernel_rfl, (.slice none 0 0), by kernel_rfl, rfl, (fun h => by cases h), (fun _ => rfl)⟩, rfl, Try.underlying78, ⟨_, Try.underlying78, rfl⟩, fun e ks h => by cases h⟩
theorem ok_79 : TIok Try.prog 79 (ti 79) := ⟨⟨((Try.prog.info? 79).getD default), by kernel_rfl, by kernel_rfl, by kernel_rfl, (.nilFunc), by kernel_rfl, rfl, (fun h => by cases h), (fun _ => rfl)⟩, rfl, trivial, ⟨_, Try.underlying79, rfl⟩, fun e ks h => by cases h⟩
theorem ok_80 : TIok Try.prog 80 (ti 80) := ⟨⟨((Try.prog.info? 80).getD default), by kernel_rfl, by kernel_rfl, by kernel_rfl, (.nilFunc), by kernel_rfl, rfl, (fun h => by cases h), (fun _ => rfl)⟩, rfl, trivial, ⟨_, Try.underlying80, rfl⟩, fun e ks h => by cases h⟩
theorem ok_81 : TIok Try.prog 81 (ti 81) := ⟨⟨((Try.prog.info? 81).getD default), by kernel_rfl, by kernel_rfl, by kernel_rfl, (.nilFunc), by kernel_rfl, rfl, (fun h => by cases h), (fun _ => rfl)⟩, rfl, trivial, ⟨_, Try.underlying81, rfl⟩, fun e ks h => by cases h⟩
theorem ok_82 : TIok Try.prog 82 (ti 82) := ⟨⟨((Try.prog.info? 82).getD default), by kernel_rfl, by kernel_rfl, by kernel_rfl, (.nilFunc), by kernel_rfl, rfl, (fun h => by cases h), (fun _ => rfl)⟩, rfl, trivial, ⟨_, Try.underlying82, rfl⟩, fun e ks h => by cases h⟩
theorem ok_83 : TIok Try.prog 83 (ti 83) := ⟨⟨((Try.prog.info? 83).getD default), by kernel_rfl, by kernel_rfl, by kernel_rfl, (.nilFunc), by kernel_rfl, rfl, (fun h => by cases h), (fun _ => rfl)⟩, rfl, trivial, ⟨_, Try.underlying83, rfl⟩, fun e ks h => by cases h⟩
theorem ok_84 : TIok Try.prog 84 (ti 84) := ⟨⟨((Try.prog.info? 84).getD default), by kernel_rfl, by kernel_rfl, by kernel_rfl, (.nilFunc), by kernel_rfl, rfl, (fun h => by cases h), (fun _ => rfl)⟩, rfl, trivial, ⟨_, Try.underlying84, rfl⟩, fun e ks h => by cases h⟩
theorem ok_85 : TIok Try.prog 85 (ti 85) := ⟨⟨((Try.prog.info? 85).getD default), by kernel_rfl, by kernel_rfl, by kernel_rfl, (.nilFunc), by kernel_rfl, rfl, (fun h => by cases h), (fun _ => rfl)⟩, rfl, trivial, ⟨_, Try.underlying85, rfl⟩, fun e ks h => by cases h⟩
theorem ok_86 : TIok Try.prog 86 (ti 86) := ⟨⟨((Try.prog.info? 86).getD default), by kernel_rfl, by kernel_rfl, by kernel_rfl, (.nilFunc), by kernel_rfl, rfl, (fun h => by cases h), (fun _ => rfl)⟩, rfl, trivial, ⟨_, Try.underlying86, rfl⟩, fun e ks h => by cases h⟩
theorem ok_87 : TIok Try.prog 87 (ti 87) := ⟨⟨((Try.prog.info? 87).getD default), by kernel_rfl, by kernel_rfl, by kernel_rfl, (.agg #[.int .i64 0, .int .i64 0, .string ⟨#[]⟩]), by kernel_rfl, rfl, (fun _ => ⟨_, rfl⟩), (fun h => by cases h)⟩, rfl, ⟨_, Try.underlying87, rfl⟩, ⟨_, Try.underlying87, rfl⟩, fun e ks h => by cases h⟩
theorem eqk_88 : EqOk Try.prog 88 [.int .i64, .int .i64, .str] := eqOk_deep [.int .i64, .int .i64, .str] rfl (by kernel_rfl) (by kernel_rfl) (by kernel_rfl)
theorem ok_88 : TIok Try.prog 88 (ti 88) := ⟨⟨((Try.prog.info? 88).getD default), by kernel_rfl, by kernel_rfl, by kernel_rfl, (.agg #[.int .i64 0, .int .i64 0, .string ⟨#[]⟩]), by kernel_rfl, rfl, (fun _ => ⟨_, rfl⟩), (fun h => by cases h)⟩, rfl, ⟨_, Try.underlying88, rfl⟩, ⟨_, Try.underlying88, rfl⟩, fun e ks h hk => by cases h; cases hk; exact eqk_88⟩
theorem ok_89 : TIok Try.prog 89 (ti 89) := ⟨⟨((Try.prog.info? 89).getD default), by kernel_rfl, by kernel_rfl, by kernel_rfl, (.nilFunc), by kernel_rfl, rfl, (fun h => by cases h), (fun _ => rfl)⟩, rfl, trivial, ⟨_, Try.underlying89, rfl⟩, fun e ks h => by cases h⟩
theorem ok_90 : TIok Try.prog 90 (ti 90) := ⟨⟨((Try.prog.info? 90).getD default), by kernel_rfl, by kernel_rfl, by kernel_rfl, (.nilFunc), by kernel_rfl, rfl, (fun h => by cases h), (fun _ => rfl)⟩, rfl, trivial, ⟨_, Try.underlying90, rfl⟩, fun e ks h => by cases h⟩
theorem ok_91 : TIok Try.prog 91 (ti 91) := ⟨⟨((Try.prog.info? 91).getD default), by kernel_rfl, by kernel_rfl, by kernel_rfl, (.nilFunc), by kernel_rfl, rfl, (fun h => by cases h), (fun _ => rfl)⟩, rfl, trivial, ⟨_, Try.underlying91, rfl⟩, fun e ks h => by cases h⟩
theorem ok_92 : TIok Try.prog 92 (ti 92) := ⟨⟨((Try.prog.info? 92).getD default), by kernel_rfl, by kernel_rfl, by kernel_rfl, (.pointer none), by kernel_rfl, rfl, (fun h => by cases h), (fun _ => rfl)⟩, rfl, Try.underlying92, ⟨_, Try.underlying92, rfl⟩, fun e ks h => by cases h⟩
theorem ok_93 : TIok Try.prog 93 (ti 93) := ⟨⟨((Try.prog.info? 93).getD default), by kernel_rfl, by kernel_rfl, by kernel_rfl, (.nilFunc), by kernel_rfl, rfl, (fun h => by cases h), (fun _ => rfl)⟩, rfl, trivial, ⟨_, Try.underlying93, rfl⟩, fun e ks h => by cases h⟩
theorem ok_95 : TIok Try.prog 95 (ti 95) := ⟨⟨((Try.prog.info? 95).getD default), by kernel_rfl, by kernel_rfl, by kernel_rfl, (.nilFunc), by kernel_rfl, rfl, (fun h => by cases h), (fun _ => rfl)⟩, rfl, trivial, ⟨_, Try.underlying95, rfl⟩, fun e ks h => by cases h⟩
theorem ok_96 : TIok Try.prog 96 (ti 96) := ⟨⟨((Try.prog.info? 96).getD default), by kernel_rfl, by kernel_rfl, by kernel_rfl, (.nilFunc), by kernel_rfl, rfl, (fun h => by cases h), (fun _ => rfl)⟩, rfl, trivial, ⟨_, Try.underlying96, rfl⟩, fun e ks h => by cases h⟩
theorem ok_97 : TIok Try.prog 97 (ti 97) := ⟨⟨((Try.prog.info? 97).getD default), by kernel_rfl, by kernel_rfl, by kernel_rfl, (.nilFunc), by kernel_rfl, rfl, (fun h => by cases h), (fun _ => rfl)⟩, rfl, trivial, ⟨_, Try.underlying97, rfl⟩, fun e ks h => by cases h⟩
theorem ok_98 : TIok Try.prog 98 (ti 98) := ⟨⟨((Try.prog.info? 98).getD default), by kernel_rfl, by kernel_rfl, by kernel_rfl, (.nilFunc), by kernel_rfl, rfl, (fun h => by cases h), (fun _ => rfl)⟩, rfl, trivial, ⟨_, Try.underlying98, rfl⟩, fun e ks h => by cases h⟩
theorem ok_99 : TIok Try.prog 99 (ti 99) := ⟨⟨((Try.prog.info? 99).getD default), by kernel_rfl, by kernel_rfl, by kernel_rfl, (.nilFunc), by kernel_rfl, rfl, (fun h => by cases h), (fun _ => rfl)⟩, rfl, trivial, ⟨_, Try.underlying99, rfl⟩, fun e ks h => by cases h⟩
theorem ok_100 : TIok Try.prog 100 (ti 100) := ⟨⟨((Try.prog.info? 100).getD default), by kernel_rfl, by kernel_rfl, by kernel_rfl, (.nilFunc), by kernel_rfl, rfl, (fun h => by cases h), (fun _ => rfl)⟩, rfl, trivial, ⟨_, Try.underlying100, rfl⟩, fun e ks h => by cases h⟩
theorem ok_101 : TIok Try.prog 101 (ti 101) := ⟨⟨((Try.prog.info? 101).getD default), by kernel_rfl, by kernel_rfl, by kernel_rfl, (.nilFunc), by kernel_rfl, rfl, (fun h => by cases h), (fun _ => rfl)⟩, rfl, trivial, ⟨_, Try.underlying101, rfl⟩, fun e ks h => by cases h⟩
theorem eqk_102 : EqOk Try.prog 102 [.int .i64, .int .i64, .str] := eqOk_deep [.int .i64, .int .i64, .str] rfl (by kernel_rfl) (by kernel_rfl) (by kernel_rfl)
theorem ok_102 : TIok Try.prog 102 (ti 102) := ⟨⟨((Try.prog.info? 102).getD default), by kernel_rfl, by kernel_rfl, by kernel_rfl, (.agg #[.int .i64 0, .int .i64 0, .string ⟨#[]⟩]), by kernel_rfl, rfl, (fun _ => ⟨_, rfl⟩), (fun h => by cases h)⟩, rfl, ⟨_, Try.underlying102, rfl⟩, ⟨_, Try.underlying102, rfl⟩, fun e ks h hk => by cases h; cases hk; exact eqk_102⟩
theorem ok_103 : TIok Try.prog 103 (ti 103) := ⟨⟨((Try.prog.info? 103).getD default), by kernel_rfl, by kernel_rfl, by kernel_rfl, (.nilFunc), by kernel_rfl, rfl, (fun h => by cases h), (fun _ => rfl)⟩, rfl, trivial, ⟨_, Try.underlying103, rfl⟩, fun e ks h => by cases h⟩
theorem ok_104 : TIok Try.prog 104 (ti 104) := ⟨⟨((Try.prog.info? 104).getD default), by kernel_rfl, by kernel_rfl, by kernel_rfl, (.nilFunc), by kernel_rfl, rfl, (fun h => by cases h), (fun _ => rfl)⟩, rfl, trivial, ⟨_, Try.underlying104, rfl⟩, fun e ks h => by cases h⟩
theorem ok_105 : TIok Try.prog 105 (ti 105) := ⟨⟨((Try.prog.info? 105).getD default), by kernel_rfl, by kernel_rfl, by kernel_rfl, (.nilFunc), by kernel_rfl, rfl, (fun h => by cases h), (fun _ => rfl)⟩, rfl, trivial, ⟨_, Try.underlying105, rfl⟩, fun e ks h => by cases h⟩
theorem ok_106 : TIok Try.prog 106 (ti 106) := ⟨⟨((Try.prog.info? 106).getD default), by kernel_rfl, by kernel_rfl, by kernel_rfl, (.nilFunc), by kernel_rfl, rfl, (fun h => by cases h), (fun _ => rfl)⟩, rfl, trivial, ⟨_, Try.underlying106, rfl⟩, fun e ks h => by cases h⟩
theorem ok_107 : TIok Try.prog 107 (ti 107) := ⟨⟨((Try.prog.info? 107).getD default), by kernel_rfl, by kernel_rfl, by kernel_rfl, (.nilFunc), by kernel_rfl, rfl, (fun h => by cases h), (fun _ => rfl)⟩, rfl, trivial, ⟨_, Try.underlying107, rfl⟩, fun e ks h => by cases h⟩
theorem ok_108 : TIok Try.prog 108 (ti 108) := ⟨⟨((Try.prog.info? 108).getD default), by kernel_rfl, by kernel_rfl, by kernel_rfl, (.nilFunc), by kernel_rfl, rfl, (fun h => by cases h), (fun _ => rfl)⟩, rfl, trivial, ⟨_, Try.underlying108, rfl⟩, fun e ks h => by cases h⟩
theorem ok_109 : TIok Try.prog 109 (ti 109) := ⟨⟨((Try.prog.info? 109).getD default), by kernel_rfl, by kernel_rfl, by kernel_rfl, (.nilFunc), by kernel_rfl, rfl, (fun h => by cases h), (fun _ => rfl)⟩, rfl, trivial, ⟨_, Try.underlying109, rfl⟩, fun e ks h => by cases h⟩
theorem ok_110 : TIok Try.prog 110 (ti 110) := ⟨⟨((Try.prog.info? 110).getD default), by kernel_rfl, by kernel_rfl, by kernel_rfl, (.nilFunc), by kernel_rfl, rfl, (fun h => by cases h), (fun _ => rfl)⟩, rfl, trivial, ⟨_, Try.underlying110, rfl⟩, fun e ks h => by cases h⟩
theorem ok_111 : TIok Try.prog 111 (ti 111) := ⟨⟨((Try.prog.info? 111).getD default), by kernel_rfl, by kernel_rfl, by kernel_rfl, (.nilFunc), by kernel_rfl, rfl, (fun h => by cases h), (fun _ => rfl)⟩, rfl, trivial, ⟨_, Try.underlying111, rfl⟩, fun e ks h => by cases h⟩
theorem ok_112 : TIok Try.prog 112 (ti 112) := ⟨⟨((Try.prog.info? 112).getD default), by kernel_rfl, by kernel_rfl, by kernel_rfl, (.nilFunc), by kernel_rfl, rfl, (fun h => by cases h), (fun _ => rfl)⟩, rfl, trivial, ⟨_, Try.underlying112, rfl⟩, fun e ks h => by cases h⟩
theorem ok_113 : TIok Try.prog 113 (ti 113) := ⟨⟨((Try.prog.info? 113).getD default), by kernel_rfl, by kernel_rfl, by kernel_rfl, (.pointer none), by kernel_rfl, rfl, (fun h => by cases h), (fun _ => rfl)⟩, rfl, Try.underlying113, ⟨_, Try.underlying113, rfl⟩, fun e ks h => by cases h⟩
theorem ok_115 : TIok Try.prog 115 (ti 115) := ⟨⟨((Try.prog.info? 115).getD default), by kernel_rfl, by kernel_rfl, by kernel_rfl, (.nilFunc), by kernel_rfl, rfl, (fun h => by cases h), (fun _ => rfl)⟩, rfl, trivial, ⟨_, Try.underlying115, rfl⟩, fun e ks h => by cases h⟩
theorem ok_116 : TIok Try.prog 116 (ti 116) := ⟨⟨((Try.prog.info? 116).getD default), by kernel_rfl, by kernel_rfl, by kernel_rfl, (.nilFunc), by kernel_rfl, rfl, (fun h => by cases h), (fun _ => rfl)⟩, rfl, trivial, ⟨_, Try.underlying116, rfl⟩, fun e ks h => by cases h⟩
theorem ok_117 : TIok Try.prog 117 (ti 117) := ⟨⟨((Try.prog.info? 117).getD default), by kernel_rfl, by kernel_rfl, by kernel_rfl, (.nilFunc), by kernel_rfl, rfl, (fun h => by cases h), (fun _ => rfl)⟩, rfl, trivial, ⟨_, Try.underlying117, rfl⟩, fun e ks h => by cases h⟩
theorem ok_118 : TIok Try.prog 118 (ti 118) := ⟨⟨((Try.prog.info? 118).getD default), by kernel_rfl, by kernel_rfl, by kernel_rfl, (.nilFunc), by kernel_rfl, rfl, (fun h => by cases h), (fun _ => rfl)⟩, rfl, trivial, ⟨_, Try.underlying118, rfl⟩, fun e ks h => by cases h⟩
theorem ok_119 : TIok Try.prog 119 (ti 119) := ⟨⟨((Try.prog.info? 119).getD default), by kernel_rfl, by kernel_rfl, by kernel_rfl, (.nilFunc), by kernel_rfl, rfl, (fun h => by cases h), (fun _ => rfl)⟩, rfl, trivial, ⟨_, Try.underlying119, rfl⟩, fun e ks h => by cases h⟩
theorem ok_120 : TIok Try.prog 120 (ti 120) := ⟨⟨((Try.prog.info? 120).getD default), by kernel_rfl, by kernel_rfl, by kernel_rfl, (.nilFunc), by kernel_rfl, rfl, (fun h => by cases h), (fun _ => rfl)⟩, rfl, trivial, ⟨_, Try.underlying120, rfl⟩, fun e ks h => by cases h⟩
theorem ok_121 : TIok Try.prog 121 (ti 121) := ⟨⟨((Try.prog.info? 121).getD default), by kernel_rfl, by kernel_rfl, by kernel_rfl, (.nilFunc), by kernel_rfl, rfl, (fun h => by cases h), (fun _ => rfl)⟩, rfl, trivial, ⟨_, Try.underlying121, rfl⟩, fun e ks h => by cases h⟩
theorem ok_122 : TIok Try.prog 122 (ti 122) := ⟨⟨((Try.prog.info? 122).getD default), by kernel_rfl, by kernel_rfl, by kernel_rfl, (.nilFunc), by kernel_rfl, rfl, (fun h => by cases h), (fun _ => rfl)⟩, rfl, trivial, ⟨_, Try.underlying122, rfl⟩, fun e ks h => by cases h⟩
theorem ok_123 : TIok Try.prog 123 (ti 123) := ⟨⟨((Try.prog.info? 123).getD default), by kernel_rfl, by kernel_rfl, by kernel_rfl, (.agg #[.int .i64 0, .int .i64 0, .int .i64 0, .int .i64 0, .int .i64 0, .int .i64 0, .int .i64 0, .int .i64 0, .int .i64 0, .int .i64 0, .int .i64 0, .int .i64 0, .int .i64 0, .int .i64 0, .int .i64 0, .int .i64 0, .int .i64 0, .int .i64 0, .int .i64 0, .int .i64 0, .int .i64 0, .int .i64 0, .int .i64 0, .int .i64 0]), by kernel_rfl, rfl, (fun _ => ⟨_, rfl⟩), (fun h => by cases h)⟩, rfl, Try.underlying123, ⟨_, Try.underlying123, rfl⟩, fun e ks h => by cases h⟩
theorem ok_124 : TIok Try.prog 124 (ti 124) := ⟨⟨((Try.prog.info? 124).getD default), by kernel_rfl, by kernel_rfl, by kernel_rfl, (.agg #[.string ⟨#[]⟩, .int .i64 0, .string ⟨#[]⟩, .int .i64 0, .int .i64 0, .int .i64 0, .int .i64 0, .int .i64 0, .int .i64 0, .int .i64 0, .int .i64 0, .int .i64 0, .int .i64 0, .int .i64 0, .int .i64 0, .int .i64 0, .int .i64 0, .int .i64 0, .int .i64 0, .int .i64 0, .int .i64 0, .int .i64 0, .int .i64 0, .int .i64 0, .int .i64 0, .int .i64 0, .int .i64 0, .int .i64 0, .int .i64 0, .int .i64 0, .bool false]), by kernel_rfl, rfl, (fun _ => ⟨_, rfl⟩), (fun h => by cases h)⟩, rfl, ⟨_, Try.underlying124, rfl⟩, ⟨_, Try.underlying124, rfl⟩, fun e ks h => by cases h⟩
theorem eqk_125 : EqOk Try.prog 125 [.str, .int .i64, .str, .int .i64, .int .i64, .int .i64, .int .i64, .int .i64, .int .i64, .int .i64, .int .i64, .int .i64, .int .i64, .int .i64, .int .i64, .int .i64, .int .i64, .int .i64, .int .i64, .int .i64, .int .i64, .int .i64, .int .i64, .int .i64, .int .i64, .int .i64, .int .i64, .int .i64, .int .i64, .int .i64, .bool] := eqOk_deep [.str, .int .i64, .str, .int .i64, .int .i64, .int .i64, .int .i64, .int .i64, .int .i64, .int .i64, .int .i64, .int .i64, .int .i64, .int .i64, .int .i64, .int .i64, .int .i64, .int .i64, .int .i64, .int .i64, .int .i64, .int .i64, .int .i64, .int .i64, .int .i64, .int .i64, .int .i64, .int .i64, .int .i64, .int .i64, .bool] rfl (by kernel_rfl) (by kernel_rfl) (by kernel_rfl)
theorem ok_125 : TIok Try.prog 125 (ti 125) := ⟨⟨((Try.prog.info? 125).getD default), by kernel_rfl, by kernel_rfl, by kernel_rfl, (.agg #[.string ⟨#[]⟩, .int .i64 0, .string ⟨#[]⟩, .int .i64 0, .int .i64 0, .int .i64 0, .int .i64 0, .int .i64 0, .int .i64 0, .int .i64 0, .int .i64 0, .int .i64 0, .int .i64 0, .int .i64 0, .int .i64 0, .int .i64 0, .int .i64 0, .int .i64 0, .int .i64 0, .int .i64 0, .int .i64 0, .int .i64 0, .int .i64 0, .int .i64 0, .int .i64 0, .int .i64 0, .int .i64 0, .int .i64 0, .int .i64 0, .int .i64 0, .bool false]), by kernel_rfl, rfl, (fun _ => ⟨_, rfl⟩), (fun h => by cases h)⟩, rfl, ⟨_, Try.underlying125, rfl⟩, ⟨_, Try.underlying125, rfl⟩, fun e ks h hk => by cases h; cases hk; exact eqk_125⟩
theorem ok_126 : TIok Try.prog 126 (ti 126) := ⟨⟨((Try.prog.info? 126).getD default), by kernel_rfl, by kernel_rfl, by kernel_rfl, (.agg #[.int .i64 0, .int .i64 0, .int .i64 0]), by kernel_rfl, rfl, (fun _ => ⟨_, rfl⟩), (fun h => by cases h)⟩, rfl, ⟨_, Try.underlying126, rfl⟩, ⟨_, Try.underlying126, rfl⟩, fun e ks h => by cases h⟩
theorem eqk_127 : EqOk Try.prog 127 [.int .i64, .int .i64, .int .i64] := eqOk_deep [.int .i64, .int .i64, .int .i64] rfl (by kernel_rfl) (by kernel_rfl) (by kernel_rfl)
theorem ok_127 : TIok Try.prog 127 (ti 127) := ⟨⟨((Try.prog.info? 127).getD default), by kernel_rfl, by kernel_rfl, by kernel_rfl, (.agg #[.int .i64 0, .int .i64 0, .int .i64 0]), by kernel_rfl, rfl, (fun _ => ⟨_, rfl⟩), (fun h => by cases h)⟩, rfl, ⟨_, Try.underlying127, rfl⟩, ⟨_, Try.underlying127, rfl⟩, fun e ks h hk => by cases h; cases hk; exact eqk_127⟩
theorem ok_128 : TIok Try.prog 128 (ti 128) := ⟨⟨((Try.prog.info? 128).getD default), by kernel_rfl, by kernel_rfl, by kernel_rfl, (.nilFunc), by kernel_rfl, rfl, (fun h => by cases h), (fun _ => rfl)⟩, rfl, trivial, ⟨_, Try.underlying128, rfl⟩, fun e ks h => by cases h⟩
theorem ok_129 : TIok Try.prog 129 (ti 129) := ⟨⟨((Try.prog.info? 129).getD default), by kernel_rfl, by kernel_rfl, by kernel_rfl, (.nilFunc), by kernel_rfl, rfl, (fun h => by cases h), (fun _ => rfl)⟩, rfl, trivial, ⟨_, Try.underlying129, rfl⟩, fun e ks h => by cases h⟩
theorem ok_130 : TIok Try.prog 130 (ti 130) := ⟨⟨((Try.prog.info? 130).getD default), by kernel_rfl, by kernel_rfl, by kernel_rfl, (.nilFunc), by kernel_rfl, rfl, (fun h => by cases h), (fun _ => rfl)⟩, rfl, trivial, ⟨_, Try.underlying130, rfl⟩, fun e ks h => by cases h⟩
theorem ok_131 : TIok Try.prog 131 (ti 131) := ⟨⟨((Try.prog.info? 131).getD default), by kernel_rfl, by kernel_rfl, by kernel_rfl, (.nilFunc), by kernel_rfl, rfl, (fun h => by cases h), (fun _ => rfl)⟩, rfl, trivial, ⟨_, Try.underlying131, rfl⟩, fun e ks h => by cases h⟩
theorem ok_132 : TIok Try.prog 132 (ti 132) := ⟨⟨((Try.prog.info? 132).getD default), by kernel_rfl, by kernel_rfl, by kernel_rfl, (.nilFunc), by kernel_rfl, rfl, (fun h => by cases h), (fun _ => rfl)⟩, rfl, trivial, ⟨_, Try.underlying132, rfl⟩, fun e ks h => by cases h⟩
theorem ok_133 : TIok Try.prog 133 (ti 133) := ⟨⟨((Try.prog.info? 133).getD default), by kernel_rfl, by kernel_rfl, by kernel_rfl, (.nilFunc), by kernel_rfl, rfl, (fun h => by cases h), (fun _ => rfl)⟩, rfl, trivial, ⟨_, Try.underlying133, rfl⟩, fun e ks h => by cases h⟩
theorem ok_134 : TIok Try.prog 134 (ti 134) := ⟨⟨((Try.prog.info? 134).getD default), by kernel_rfl, by kernel_rfl, by kernel_rfl, (.nilFunc), by kernel_rfl, rfl, (fun h => by cases h), (fun _ => rfl)⟩, rfl, trivial, ⟨_, Try.underlying134, rfl⟩, fun e ks h => by cases h⟩
theorem ok_135 : TIok Try.prog 135 (ti 135) := ⟨⟨((Try.prog.info? 135).getD default), by kernel_rfl, by kernel_rfl, by kernel_rfl, (.nilFunc), by kernel_rfl, rfl, (fun h => by cases h), (fun _ => rfl)⟩, rfl, trivial, ⟨_, Try.underlying135, rfl⟩, fun e ks h => by cases h⟩
theorem ok_136 : TIok Try.prog 136 (ti 136) := ⟨⟨((Try.prog.info? 136).getD default), by kernel_rfl, by kernel_rfl, by kernel_rfl, (.nilFunc), by kernel_rfl, rfl, (fun h => by cases h), (fun _ => rfl)⟩, rfl, trivial, ⟨_, Try.underlying136, rfl⟩, fun e ks h => by cases h⟩
theorem ok_137 : TIok Try.prog 137 (ti 137) := ⟨⟨((Try.prog.info? 137).getD default), by kernel_rfl, by kernel_rfl, by kernel_rfl, (.agg #[.int .i64 0, .int .i64 0, .int .i64 0, .int .i64 0, .int .i64 0, .int .i64 0, .int .i64 0, .int .i64 0, .int .i64 0, .int .i64 0, .int .i64 0, .int .i64 0, .int .i64 0, .int .i64 0, .int .i64 0, .int .i64 0, .int .i64 0, .int .i64 0, .int .i64 0, .int .i64 0, .int .i64 0, .int .i64 0, .int .i64 0, .int .i64 0]), by kernel_rfl, rfl, (fun _ => ⟨_, rfl⟩), (fun h => by cases h)⟩, rfl, Try.underlying137, ⟨_, Try.underlying137, rfl⟩, fun e ks h => by cases h⟩
theorem ok_138 : TIok Try.prog 138 (ti 138) := ⟨⟨((Try.prog.info? 138).getD default), by kernel_rfl, by kernel_rfl, by kernel_rfl, (.agg #[.string ⟨#[]⟩, .int .i64 0, .string ⟨#[]⟩, .int .i64 0, .int .i64 0, .int .i64 0, .int .i64 0, .int .i64 0, .int .i64 0, .int .i64 0, .int .i64 0, .int .i64 0, .int .i64 0, .int .i64 0, .int .i64 0, .int .i64 0, .int .i64 0, .int .i64 0, .int .i64 0, .int .i64 0, .int .i64 0, .int .i64 0, .int .i64 0, .int .i64 0, .int .i64 0, .int .i64 0, .int .i64 0, .int .i64 0, .int .i64 0, .int .i64 0, .bool false]), by kernel_rfl, rfl, (fun _ => ⟨_, rfl⟩), (fun h => by cases h)⟩, rfl, ⟨_, Try.underlying138, rfl⟩, ⟨_, Try.underlying138, rfl⟩, fun e ks h => by cases h⟩
theorem eqk_139 : EqOk Try.prog 139 [.str, .int .i64, .str, .int .i64, .int .i64, .int .i64, .int .i64, .int .i64, .int .i64, .int .i64, .int .i64, .int .i64, .int .i64, .int .i64, .int .i64, .int .i64, .int .i64, .int .i64, .int .i64, .int .i64, .int .i64, .int .i64, .int .i64, .int .i64, .int .i64, .int .i64, .int .i64, .int .i64, .int .i64, .int .i64, .bool] := eqOk_deep [.str, .int .i64, .str, .int .i64, .int .i64, .int .i64, .int .i64, .int .i64, .int .i64, .int .i64, .int .i64, .int .i64, .int .i64, .int .i64, .int .i64, .int .i64, .int .i64, .int .i64, .int .i64, .int .i64, .int .i64, .int .i64, .int .i64, .int .i64, .int .i64, .int .i64, .int .i64, .int .i64, .int .i64, .int .i64, .bool] rfl (by kernel_rfl) (by kernel_rfl) (by kernel_rfl)
theorem ok_139 : TIok Try.prog 139 (ti 139) := ⟨⟨((Try.prog.info? 139).getD default), by kernel_rfl, by kernel_rfl, by kernel_rfl, (.agg #[.string ⟨#[]⟩, .int .i64 0, .string ⟨#[]⟩, .int .i64 0, .int .i64 0, .int .i64 0, .int .i64 0, .int .i64 0, .int .i64 0, .int .i64 0, .int .i64 0, .int .i64 0, .int .i64 0, .int .i64 0, .int .i64 0, .int .i64 0, .int .i64 0, .int .i64 0, .int .i64 0, .int .i64 0, .int .i64 0, .int .i64 0, .int .i64 0, .int .i64 0, .int .i64 0, .int .i64 0, .int .i64 0, .int .i64 0, .int .i64 0, .int .i64 0, .bool false]), by kernel_rfl, rfl, (fun _ => ⟨_, rfl⟩), (fun h => by cases h)⟩, rfl, ⟨_, Try.underlying139, rfl⟩, ⟨_, Try.underlying139, rfl⟩, fun e ks h hk => by cases h; cases hk; exact eqk_139⟩
theorem ok_140 : TIok Try.prog 140 (ti 140) := ⟨⟨((Try.prog.info? 140).getD default), by kernel_rfl, by kernel_rfl, by kernel_rfl, (.nilFunc), by kernel_rfl, rfl, (fun h => by cases h), (fun _ => rfl)⟩, rfl, trivial, ⟨_, Try.underlying140, rfl⟩, fun e ks h => by cases h⟩
theorem ok_141 : TIok Try.prog 141 (ti 141) := ⟨⟨((Try.prog.info? 141).getD default), by kernel_rfl, by kernel_rfl, by kernel_rfl, (.nilFunc), by kernel_rfl, rfl, (fun h => by cases h), (fun _ => rfl)⟩, rfl, trivial, ⟨_, Try.underlying141, rfl⟩, fun e ks h => by cases h⟩
theorem eqk_142 : EqOk Try.prog 142 [.int .i64, .int .i64, .int .i64] := eqOk_deep [.int .i64, .int .i64, .int .i64] rfl (by kernel_rfl) (by kernel_rfl) (by kernel_rfl)
theorem ok_142 : TIok Try.prog 142 (ti 142) := ⟨⟨((Try.prog.info? 142).getD default), by kernel_rfl, by kernel_rfl, by kernel_rfl, (.agg #[.int .i64 0, .int .i64 0, .int .i64 0]), by kernel_rfl, rfl, (fun _ => ⟨_, rfl⟩), (fun h => by cases h)⟩, rfl, ⟨_, Try.underlying142, rfl⟩, ⟨_, Try.underlying142, rfl⟩, fun e ks h hk => by cases h; cases hk; exact eqk_142⟩
theorem ok_143 : TIok Try.prog 143 (ti 143) := ⟨⟨((Try.prog.info? 143).getD default), by kernel_rfl, by kernel_rfl, by kernel_rfl, (.nilFunc), by kernel_rfl, rfl, (fun h => by cases h), (fun _ => rfl)⟩, rfl, trivial, ⟨_, Try.underlying143, rfl⟩, fun e ks h => by cases h⟩
theorem ok_144 : TIok Try.prog 144 (ti 144) := ⟨⟨((Try.prog.info? 144).getD default), by kernel_rfl, by kernel_rfl, by kernel_rfl, (.nilFunc), by kernel_rfl, rfl, (fun h => by cases h), (fun _ => rfl)⟩, rfl, trivial, ⟨_, Try.underlying144, rfl⟩, fun e ks h => by cases h⟩
theorem ok_145 : TIok Try.prog 145 (ti 145) := ⟨⟨((Try.prog.info? 145).getD default), by kernel_rfl, by kernel_rfl, by kernel_rfl, (.nilFunc), by kernel_rfl, rfl, (fun h => by cases h), (fun _ => rfl)⟩, rfl, trivial, ⟨_, Try.underlying145, rfl⟩, fun e ks h => by cases h⟩
theorem ok_146 : TIok Try.prog 146 (ti 146) := ⟨⟨((Try.prog.info? 146).getD default), by kernel_rfl, by kernel_rfl, by kernel_rfl, (.nilFunc), by kernel_rfl, rfl, (fun h => by cases h), (fun _ => rfl)⟩, rfl, trivial, ⟨_, Try.underlying146, rfl⟩, fun e ks h => by cases h⟩
theorem ok_147 : TIok Try.prog 147 (ti 147) := ⟨⟨((Try.prog.info? 147).getD default), by kernel_rfl, by kernel_rfl, by kernel_rfl, (.nilFunc), by kernel_rfl, rfl, (fun h => by cases h), (fun _ => rfl)⟩, rfl, trivial, ⟨_, Try.underlying147, rfl⟩, fun e ks h => by cases h⟩
theorem ok_148 : TIok Try.prog 148 (ti 148) := ⟨⟨((Try.prog.info? 148).getD default), by kernel_rfl, by kernel_rfl, by kernel_rfl, (.nilFunc), by kernel_rfl, rfl, (fun h => by cases h), (fun _ => rfl)⟩, rfl, trivial, ⟨_, Try.underlying148, rfl⟩, fun e ks h => by cases h⟩
theorem ok_149 : TIok Try.prog 149 (ti 149) := ⟨⟨((Try.prog.info? 149).getD default), by kernel_rfl, by kernel_rfl, by kernel_rfl, (.agg #[.pointer none, .pointer none, .pointer none, .string ⟨#[]⟩]), by kernel_rfl, rfl, (fun _ => ⟨_, rfl⟩), (fun h => by cases h)⟩, rfl, ⟨_, Try.underlying149, rfl⟩, ⟨_, Try.underlying149, rfl⟩, fun e ks h => by cases h⟩
theorem ok_150 : TIok Try.prog 150 (ti 150) := ⟨⟨((Try.prog.info? 150).getD default), by kernel_rfl, by kernel_rfl, by kernel_rfl, (.agg #[.pointer none, .pointer none, .pointer none, .string ⟨#[]⟩]), by kernel_rfl, rfl, (fun _ => ⟨_, rfl⟩), (fun h => by cases h)⟩, rfl, ⟨_, Try.underlying150, rfl⟩, ⟨_, Try.underlying150, rfl⟩, fun e ks h => by cases h⟩
theorem ok_151 : TIok Try.prog 151 (ti 151) := ⟨⟨((Try.prog.info? 151).getD default), by kernel_rfl, by kernel_rfl, by kernel_rfl, (.agg #[]), by kernel_rfl, rfl, (fun _ => ⟨_, rfl⟩), (fun h => by cases h)⟩, rfl, Try.underlying151, ⟨_, Try.underlying151, rfl⟩, fun e ks h => by cases h⟩
theorem ok_152 : TIok Try.prog 152 (ti 152) := ⟨⟨((Try.prog.info? 152).getD default), by kernel_rfl, by kernel_rfl, by kernel_rfl, (.agg #[]), by kernel_rfl, rfl, (fun _ => ⟨_, rfl⟩), (fun h => by cases h)⟩, rfl, ⟨_, Try.underlying152, rfl⟩, ⟨_, Try.underlying152, rfl⟩, fun e ks h => by cases h⟩
theorem ok_153 : TIok Try.prog 153 (ti 153) := ⟨⟨((Try.prog.info? 153).getD default), by kernel_rfl, by kernel_rfl, by kernel_rfl, (.agg #[]), by kernel_rfl, rfl, (fun _ => ⟨_, rfl⟩), (fun h => by cases h)⟩, rfl, ⟨_, Try.underlying153, rfl⟩, ⟨_, Try.underlying153, rfl⟩, fun e ks h => by cases h⟩
theorem ok_154 : TIok Try.prog 154 (ti 154) := ⟨⟨((Try.prog.info? 154).getD default), by kernel_rfl, by kernel_rfl, by kernel_rfl, (.nilFunc), by kernel_rfl, rfl, (fun h => by cases h), (fun _ => rfl)⟩, rfl, trivial, ⟨_, Try.underlying154, rfl⟩, fun e ks h => by cases h⟩
theorem ok_155 : TIok Try.prog 155 (ti 155) := ⟨⟨((Try.prog.info? 155).getD default), by kernel_rfl, by kernel_rfl, by kernel_rfl, (.int .u32 0), by kernel_rfl, rfl, (fun h => by cases h), (fun _ => rfl)⟩, rfl, Try.underlying155, ⟨_, Try.underlying155, rfl⟩, fun e ks h => by cases h⟩
theorem ok_156 : TIok Try.prog 156 (ti 156) := ⟨⟨((Try.prog.info? 156).getD default), by kernel_rfl, by kernel_rfl, by kernel_rfl, (.int .u8 0), by kernel_rfl, rfl, (fun h => by cases h), (fun _ => rfl)⟩, rfl, Try.underlying156, ⟨_, Try.underlying156, rfl⟩, fun e ks h => by cases h⟩
theorem ok_157 : TIok Try.prog 157 (ti 157) := ⟨⟨((Try.prog.info? 157).getD default), by kernel_rfl, by kernel_rfl, by kernel_rfl, (.int .u8 0), by kernel_rfl, rfl, (fun h => by cases h), (fun _ => rfl)⟩, rfl, Try.underlying157, ⟨_, Try.underlying157, rfl⟩, fun e ks h => by cases h⟩
theorem ok_158 : TIok Try.prog 158 (ti 158) := ⟨⟨((Try.prog.info? 158).getD default), by kernel_rfl, by kernel_rfl, by kernel_rfl, (.nilFunc), by kernel_rfl, rfl, (fun h => by cases h), (fun _ => rfl)⟩, rfl, trivial, ⟨_, Try.underlying158, rfl⟩, fun e ks h => by cases h⟩
theorem ok_159 : TIok Try.prog 159 (ti 159) := ⟨⟨((Try.prog.info? 159).getD default), by kernel_rfl, by kernel_rfl, by kernel_rfl, (.pointer none), by kernel_rfl, rfl, (fun h => by cases h), (fun _ => rfl)⟩, rfl, Try.underlying159, ⟨_, Try.underlying159, rfl⟩, fun e ks h => by cases h⟩
theorem ok_160 : TIok Try.prog 160 (ti 160) := ⟨⟨((Try.prog.info? 160).getD default), by kernel_rfl, by kernel_rfl, by kernel_rfl, (.int .i32 0), by kernel_rfl, rfl, (fun h => by cases h), (fun _ => rfl)⟩, rfl, Try.underlying160, ⟨_, Try.underlying160, rfl⟩, fun e ks h => by cases h⟩
theorem ok_161 : TIok Try.prog 161 (ti 161) := ⟨⟨((Try.prog.info? 161).getD default), by kernel_rfl, by kernel_rfl, by kernel_rfl, (.int .i32 0), by kernel_rfl, rfl, (fun h => by cases h), (fun _ => rfl)⟩, rfl, Try.underlying161, ⟨_, Try.underlying161, rfl⟩, fun e ks h => by cases h⟩
theorem ok_162 : TIok Try.prog 162 (ti 162) := ⟨⟨((Try.prog.info? 162).getD default), by kernel_rfl, by kernel_rfl, by kernel_rfl, (.agg #[.int .u64 0, .int .u64 0, .int .u32 0, .int .u8 0, .int .u8 0, .int .u8 0, .int .u8 0, .nilFunc, .pointer none, .int .i32 0, .int .i32 0]), by kernel_rfl, rfl, (fun _ => ⟨_, rfl⟩), (fun h => by cases h)⟩, rfl, ⟨_, Try.underlying162, rfl⟩, ⟨_, Try.underlying162, rfl⟩, fun e ks h => by cases h⟩
theorem ok_163 : TIok Try.prog 163 (ti 163) := ⟨⟨((Try.prog.info? 163).getD default), by kernel_rfl, by kernel_rfl, by kernel_rfl, (.agg #[.int .u64 0, .int .u64 0, .int .u32 0, .int .u8 0, .int .u8 0, .int .u8 0, .int .u8 0, .nilFunc, .pointer none, .int .i32 0, .int .i32 0]), by kernel_rfl, rfl, (fun _ => ⟨_, rfl⟩), (fun h => by cases h)⟩, rfl, ⟨_, Try.underlying163, rfl⟩, ⟨_, Try.underlying163, rfl⟩, fun e ks h => by cases h⟩
theorem ok_164 : TIok Try.prog 164 (ti 164) := ⟨⟨((Try.prog.info? 164).getD default), by kernel_rfl, by kernel_rfl, by kernel_rfl, (.nilFunc), by kernel_rfl, rfl, (fun h => by cases h), (fun _ => rfl)⟩, rfl, trivial, ⟨_, Try.underlying164, rfl⟩, fun e ks h => by cases h⟩
theorem ok_165 : TIok Try.prog 165 (ti 165) := ⟨⟨((Try.prog.info? 165).getD default), by kernel_rfl, by kernel_rfl, by kernel_rfl, (.nilFunc), by kernel_rfl, rfl, (fun h => by cases h), (fun _ => rfl)⟩, rfl, trivial, ⟨_, Try.underlying165, rfl⟩, fun e ks h => by cases h⟩
theorem ti_ok (t : TypeId) (h : (ti t).k ≠ .other ∨ 0 < (ti t).sz) : TIok Try.prog t (ti t) := by
  unfold ti at h
  split at h
  · exact ok_1
  · exact ok_2
  · exact ok_3
  · exact ok_4
  · exact ok_5
  · exact ok_6
  · exact ok_7
  · exact ok_8
  · exact ok_9
  · exact ok_10
  · exact ok_11
  · exact ok_12
  · exact ok_13
  · exact ok_14
  · exact ok_15
  · exact ok_16
  · exact ok_17
  · exact ok_18
  · exact ok_19
  · exact ok_20
  · exact ok_21
  · exact ok_22
  · exact ok_23
  · exact ok_24
  · exact ok_25
  · exact ok_26
  · exact ok_27
  · exact ok_28
  · exact ok_29
  · exact ok_30
  · exact ok_31
  · exact ok_32
  · exact ok_33
  · exact ok_34
  · exact ok_35
  · exact ok_36
  · exact ok_37
  · exact ok_39
  · exact ok_40
  · exact ok_41
  · exact ok_42
  · exact ok_43
  · exact ok_44
  · exact ok_45
  · exact ok_46
  · exact ok_47
  · exact ok_48
  · exact ok_49
  · exact ok_50
  · exact ok_52
  · exact ok_53
  · exact ok_54
  · exact ok_55
  · exact ok_56
  · exact ok_57
  · exact ok_58
  · exact ok_59
  · exact ok_60
  · exact ok_61
  · exact ok_62
  · exact ok_63
  · exact ok_64
  · exact ok_65
  · exact ok_66
  · exact ok_67
  · exact ok_68
  · exact ok_69
  · exact ok_70
  · exact ok_71
  · exact ok_72
  · exact ok_73
  · exact ok_74
  · exact ok_75
  · exact ok_76
  · exact ok_77
  · exact ok_78
  · exact ok_79
  · exact ok_80
  · exact ok_81
  · exact ok_82
  · exact ok_83
  · exact ok_84
  · exact ok_85
  · exact ok_86
  · exact ok_87
  · exact ok_88
  · exact ok_89
  · exact ok_90
  · exact ok_91
  · exact ok_92
  · exact ok_93
  · exact ok_95
  · exact ok_96
  · exact ok_97
  · exact ok_98
  · exact ok_99
  · exact ok_100
  · exact ok_101
  · exact ok_102
  · exact ok_103
  · exact ok_104
  · exact ok_105
  · exact ok_106
  · exact ok_107
  · exact ok_108
  · exact ok_109
  · exact ok_110
  · exact ok_111
  · exact ok_112
  · exact ok_113
  · exact ok_115
  · exact ok_116
  · exact ok_117
  · exact ok_118
  · exact ok_119
  · exact ok_120
  · exact ok_121
  · exact ok_122
  · exact ok_123
  · exact ok_124
  · exact ok_125
  · exact ok_126
  · exact ok_127
  · exact ok_128
  · exact ok_129
  · exact ok_130
  · exact ok_131
  · exact ok_132
  · exact ok_133
  · exact ok_134
  · exact ok_135
  · exact ok_136
  · exact ok_137
  · exact ok_138
  · exact ok_139
  · exact ok_140
  · exact ok_141
  · exact ok_142
  · exact ok_143
  · exact ok_144
  · exact ok_145
  · exact ok_146
  · exact ok_147
  · exact ok_148
  · exact ok_149
  · exact ok_150
  · exact ok_151
  · exact ok_152
  · exact ok_153
  · exact ok_154
  · exact ok_155
  · exact ok_156
  · exact ok_157
  · exact ok_158
  · exact ok_159
  · exact ok_160
  · exact ok_161
  · exact ok_162
  · exact ok_163
  · exact ok_164
  · exact ok_165
  · simp at h
/-- What is known of the functions so far. -/
structure Known where
  Γ : FuncId → Option Ct
  ok : ∀ g ct, Γ g = some ct → Sound Try.prog g ct ∧ EnterOk Try.prog g
def Known.nil : Known := ⟨fun _ => none, fun _ _ h => by cases h⟩
def Known.cons (K : Known) (f : FuncId) (ct : Ct) (h : Sound Try.prog f ct) (he : EnterOk Try.prog f) : Known :=
  ⟨fun g => if g = f then some ct else K.Γ g, fun g c hg => by
    split at hg
    · rename_i he'; cases hg; subst he'; exact ⟨h, he⟩
    · exact K.ok g c hg⟩
theorem Known.env (K : Known) (sk : List Nat) : EnvOk Try.prog ⟨ti, K.Γ, sk⟩ := ⟨fun t h => ti_ok t h, K.ok⟩
end Go.Proofs.Ytfmeopnankeaeaa
