/- Functions of the exact laws: pointers, entries and sets, one by one. -/
import Derived.Test.YtfmeopnankeaeaaDoorTEe
set_option linter.unusedSimpArgs false
set_option linter.unusedVariables false
set_option linter.unusedSectionVars false
namespace Go.Proofs.YtfmeopnankeaeaaDoor
open Go.RowKit

theorem plain_val : ∀ {cs : List TC} {vs : List Value}, plain cs = some vs → cs = vs.map .val
  | [], vs, h => by simp [plain] at h; subst h; rfl
  | c :: cs, vs, h => by
    unfold plain at h
    split at h
    · rename_i v us h1 h2
      simp only [Option.some.injEq] at h
      subst h
      rw [plain_val h2]
      cases c <;> simp [tcv] at h1
      subst h1; rfl
    · cases h
theorem kInt {ks : List TK} {vs : List Value} (h : kindsOk (.int .i64 :: ks) vs = true) : ∃ n r, vs = .int .i64 n :: r ∧ kindsOk ks r = true := by
  cases vs with
  | nil => simp [kindsOk] at h
  | cons v r => cases v with
    | int k n => cases k <;> simp [kindsOk] at h; exact ⟨n, r, rfl, h⟩
    | _ => simp [kindsOk] at h
theorem kStr {ks : List TK} {vs : List Value} (h : kindsOk (.str :: ks) vs = true) : ∃ n r, vs = .string n :: r ∧ kindsOk ks r = true := by
  cases vs with
  | nil => simp [kindsOk] at h
  | cons v r => cases v <;> simp [kindsOk] at h; exact ⟨_, r, rfl, h⟩
theorem kBool {ks : List TK} {vs : List Value} (h : kindsOk (.bool :: ks) vs = true) : ∃ n r, vs = .bool n :: r ∧ kindsOk ks r = true := by
  cases vs with
  | nil => simp [kindsOk] at h
  | cons v r => cases v <;> simp [kindsOk] at h; exact ⟨_, r, rfl, h⟩
theorem kNil {vs : List Value} (h : kindsOk [] vs = true) : vs = [] := by
  cases vs with
  | nil => rfl
  | cons v r => simp [kindsOk] at h
/-- Eight pointers. -/
@[go_sem] def P8.cells (x : Eight Ptr) : List Value := [.int .i64 x.x0.at_, .int .i64 x.x0.sum, .int .i64 x.x0.birth, .int .i64 x.x1.at_, .int .i64 x.x1.sum, .int .i64 x.x1.birth, .int .i64 x.x2.at_, .int .i64 x.x2.sum, .int .i64 x.x2.birth, .int .i64 x.x3.at_, .int .i64 x.x3.sum, .int .i64 x.x3.birth, .int .i64 x.x4.at_, .int .i64 x.x4.sum, .int .i64 x.x4.birth, .int .i64 x.x5.at_, .int .i64 x.x5.sum, .int .i64 x.x5.birth, .int .i64 x.x6.at_, .int .i64 x.x6.sum, .int .i64 x.x6.birth, .int .i64 x.x7.at_, .int .i64 x.x7.sum, .int .i64 x.x7.birth]
@[go_sem] def P8.ofCells (cs : List Value) : Eight Ptr := ⟨⟨Value.num (cell cs 0), Value.num (cell cs 1), Value.num (cell cs 2)⟩, ⟨Value.num (cell cs 3), Value.num (cell cs 4), Value.num (cell cs 5)⟩, ⟨Value.num (cell cs 6), Value.num (cell cs 7), Value.num (cell cs 8)⟩, ⟨Value.num (cell cs 9), Value.num (cell cs 10), Value.num (cell cs 11)⟩, ⟨Value.num (cell cs 12), Value.num (cell cs 13), Value.num (cell cs 14)⟩, ⟨Value.num (cell cs 15), Value.num (cell cs 16), Value.num (cell cs 17)⟩, ⟨Value.num (cell cs 18), Value.num (cell cs 19), Value.num (cell cs 20)⟩, ⟨Value.num (cell cs 21), Value.num (cell cs 22), Value.num (cell cs 23)⟩⟩
@[go_sem] theorem p8_eta (x : Eight Ptr) : (⟨⟨x.x0.at_, x.x0.sum, x.x0.birth⟩, ⟨x.x1.at_, x.x1.sum, x.x1.birth⟩, ⟨x.x2.at_, x.x2.sum, x.x2.birth⟩, ⟨x.x3.at_, x.x3.sum, x.x3.birth⟩, ⟨x.x4.at_, x.x4.sum, x.x4.birth⟩, ⟨x.x5.at_, x.x5.sum, x.x5.birth⟩, ⟨x.x6.at_, x.x6.sum, x.x6.birth⟩, ⟨x.x7.at_, x.x7.sum, x.x7.birth⟩⟩ : Eight Ptr) = x := rfl
@[go_sem] theorem cset_eta (x : CSet) : (⟨x.name, x.kind, x.from_, ⟨⟨x.map.x0.at_, x.map.x0.sum, x.map.x0.birth⟩, ⟨x.map.x1.at_, x.map.x1.sum, x.map.x1.birth⟩, ⟨x.map.x2.at_, x.map.x2.sum, x.map.x2.birth⟩, ⟨x.map.x3.at_, x.map.x3.sum, x.map.x3.birth⟩, ⟨x.map.x4.at_, x.map.x4.sum, x.map.x4.birth⟩, ⟨x.map.x5.at_, x.map.x5.sum, x.map.x5.birth⟩, ⟨x.map.x6.at_, x.map.x6.sum, x.map.x6.birth⟩, ⟨x.map.x7.at_, x.map.x7.sum, x.map.x7.birth⟩⟩, ⟨x.home.at_, x.home.sum, x.home.birth⟩, x.dirty⟩ : CSet) = x := rfl
@[go_sem] theorem cset_eta2 (x : CSet) : (⟨x.name, x.kind, x.from_, x.map, ⟨x.home.at_, x.home.sum, x.home.birth⟩, x.dirty⟩ : CSet) = x := rfl
@[go_sem] def p8Of (cs : List TC) : Option (Eight Ptr) := match plain cs with
  | some vs => if kindsOk [.int .i64, .int .i64, .int .i64, .int .i64, .int .i64, .int .i64, .int .i64, .int .i64, .int .i64, .int .i64, .int .i64, .int .i64, .int .i64, .int .i64, .int .i64, .int .i64, .int .i64, .int .i64, .int .i64, .int .i64, .int .i64, .int .i64, .int .i64, .int .i64] vs = true then some (P8.ofCells vs) else none
  | none => none
theorem p8_cells {vs : List Value} (h : kindsOk [.int .i64, .int .i64, .int .i64, .int .i64, .int .i64, .int .i64, .int .i64, .int .i64, .int .i64, .int .i64, .int .i64, .int .i64, .int .i64, .int .i64, .int .i64, .int .i64, .int .i64, .int .i64, .int .i64, .int .i64, .int .i64, .int .i64, .int .i64, .int .i64] vs = true) : P8.cells (P8.ofCells vs) = vs := by
  obtain ⟨a0, r0, rfl, h0⟩ := kInt h
  obtain ⟨a1, r1, rfl, h1⟩ := kInt h0
  obtain ⟨a2, r2, rfl, h2⟩ := kInt h1
  obtain ⟨a3, r3, rfl, h3⟩ := kInt h2
  obtain ⟨a4, r4, rfl, h4⟩ := kInt h3
  obtain ⟨a5, r5, rfl, h5⟩ := kInt h4
  obtain ⟨a6, r6, rfl, h6⟩ := kInt h5
  obtain ⟨a7, r7, rfl, h7⟩ := kInt h6
  obtain ⟨a8, r8, rfl, h8⟩ := kInt h7
  obtain ⟨a9, r9, rfl, h9⟩ := kInt h8
  obtain ⟨a10, r10, rfl, h10⟩ := kInt h9
  obtain ⟨a11, r11, rfl, h11⟩ := kInt h10
  obtain ⟨a12, r12, rfl, h12⟩ := kInt h11
  obtain ⟨a13, r13, rfl, h13⟩ := kInt h12
  obtain ⟨a14, r14, rfl, h14⟩ := kInt h13
  obtain ⟨a15, r15, rfl, h15⟩ := kInt h14
  obtain ⟨a16, r16, rfl, h16⟩ := kInt h15
  obtain ⟨a17, r17, rfl, h17⟩ := kInt h16
  obtain ⟨a18, r18, rfl, h18⟩ := kInt h17
  obtain ⟨a19, r19, rfl, h19⟩ := kInt h18
  obtain ⟨a20, r20, rfl, h20⟩ := kInt h19
  obtain ⟨a21, r21, rfl, h21⟩ := kInt h20
  obtain ⟨a22, r22, rfl, h22⟩ := kInt h21
  obtain ⟨a23, r23, rfl, h23⟩ := kInt h22
  obtain rfl := kNil h23
  rfl
theorem p8Of_some {cs : List TC} {x : Eight Ptr} (h : p8Of cs = some x) : cs = (P8.cells x).map .val := by
  unfold p8Of at h
  split at h
  · rename_i vs hv
    split at h
    · rename_i hk
      simp only [Option.some.injEq] at h
      subst h
      rw [p8_cells hk]
      exact plain_val hv
    · cases h
  · cases h
@[go_sem] def csetOf (cs : List TC) : Option (CSet) := match plain cs with
  | some vs => if kindsOk [.str, .int .i64, .str, .int .i64, .int .i64, .int .i64, .int .i64, .int .i64, .int .i64, .int .i64, .int .i64, .int .i64, .int .i64, .int .i64, .int .i64, .int .i64, .int .i64, .int .i64, .int .i64, .int .i64, .int .i64, .int .i64, .int .i64, .int .i64, .int .i64, .int .i64, .int .i64, .int .i64, .int .i64, .int .i64, .bool] vs = true then some (ET.cset.ofCells vs) else none
  | none => none
theorem cset_cells {vs : List Value} (h : kindsOk [.str, .int .i64, .str, .int .i64, .int .i64, .int .i64, .int .i64, .int .i64, .int .i64, .int .i64, .int .i64, .int .i64, .int .i64, .int .i64, .int .i64, .int .i64, .int .i64, .int .i64, .int .i64, .int .i64, .int .i64, .int .i64, .int .i64, .int .i64, .int .i64, .int .i64, .int .i64, .int .i64, .int .i64, .int .i64, .bool] vs = true) : ET.cset.cells (ET.cset.ofCells vs) = vs := by
  obtain ⟨a0, r0, rfl, h0⟩ := kStr h
  obtain ⟨a1, r1, rfl, h1⟩ := kInt h0
  obtain ⟨a2, r2, rfl, h2⟩ := kStr h1
  obtain ⟨a3, r3, rfl, h3⟩ := kInt h2
  obtain ⟨a4, r4, rfl, h4⟩ := kInt h3
  obtain ⟨a5, r5, rfl, h5⟩ := kInt h4
  obtain ⟨a6, r6, rfl, h6⟩ := kInt h5
  obtain ⟨a7, r7, rfl, h7⟩ := kInt h6
  obtain ⟨a8, r8, rfl, h8⟩ := kInt h7
  obtain ⟨a9, r9, rfl, h9⟩ := kInt h8
  obtain ⟨a10, r10, rfl, h10⟩ := kInt h9
  obtain ⟨a11, r11, rfl, h11⟩ := kInt h10
  obtain ⟨a12, r12, rfl, h12⟩ := kInt h11
  obtain ⟨a13, r13, rfl, h13⟩ := kInt h12
  obtain ⟨a14, r14, rfl, h14⟩ := kInt h13
  obtain ⟨a15, r15, rfl, h15⟩ := kInt h14
  obtain ⟨a16, r16, rfl, h16⟩ := kInt h15
  obtain ⟨a17, r17, rfl, h17⟩ := kInt h16
  obtain ⟨a18, r18, rfl, h18⟩ := kInt h17
  obtain ⟨a19, r19, rfl, h19⟩ := kInt h18
  obtain ⟨a20, r20, rfl, h20⟩ := kInt h19
  obtain ⟨a21, r21, rfl, h21⟩ := kInt h20
  obtain ⟨a22, r22, rfl, h22⟩ := kInt h21
  obtain ⟨a23, r23, rfl, h23⟩ := kInt h22
  obtain ⟨a24, r24, rfl, h24⟩ := kInt h23
  obtain ⟨a25, r25, rfl, h25⟩ := kInt h24
  obtain ⟨a26, r26, rfl, h26⟩ := kInt h25
  obtain ⟨a27, r27, rfl, h27⟩ := kInt h26
  obtain ⟨a28, r28, rfl, h28⟩ := kInt h27
  obtain ⟨a29, r29, rfl, h29⟩ := kInt h28
  obtain ⟨a30, r30, rfl, h30⟩ := kBool h29
  obtain rfl := kNil h30
  rfl
theorem csetOf_some {cs : List TC} {x : CSet} (h : csetOf cs = some x) : cs = (ET.cset.cells x).map .val := by
  unfold csetOf at h
  split at h
  · rename_i vs hv
    split at h
    · rename_i hk
      simp only [Option.some.injEq] at h
      subst h
      rw [cset_cells hk]
      exact plain_val hv
    · cases h
  · cases h
@[go_sem] def p8mix (x : Eight Ptr) (i : Nat) : List TC := ((P8.cells x).map .val).take (3 * i) ++ ((P8.cells (Eight.rep Ptr.zero)).map .val).drop (3 * i)
attribute [go_sem] Eight.rep Ptr.zero
@[go_sem] def ctToP8 : Ct := ⟨false, [], fun args os => match args, os with
  | [.agg cs], [] => (match p8Of cs with | some x => is (.agg ((P8.cells x).map .val)) | none => no)
  | _, _ => no⟩
@[go_sem] def sgP8 (x : Eight Ptr) (i : Nat) : Sg := ⟨[(1, .one (.ptr 0 0)), (2, .one (.ptr 1 0)), (3, .one (.ptr 2 0)), (4, vi i)], [some (.cells ((P8.cells x).map .val)), some (.cells ((P8.cells (Eight.rep Ptr.zero)).map .val)), some (.cells (p8mix x i))], []⟩
@[go_sem] def ctToCset : Ct := ⟨false, [], fun args os => match args, os with
  | [.agg cs], [] => (match csetOf cs with | some x => is (.agg ((ET.cset.cells x).map .val)) | none => no)
  | _, _ => no⟩
@[go_sem] def ctToEnt : Ct := ctToPtr
@[go_sem] def ctEqPtr : Ct := ⟨false, [], fun args os => match args, os with
  | [.agg [.val (.int .i64 x), .val (.int .i64 y), .val (.int .i64 z)], .agg [.val (.int .i64 x'), .val (.int .i64 y'), .val (.int .i64 z')]], [] => ifp (x = x' ∧ y = y' ∧ z = z') (vb true)
  | _, _ => no⟩
@[go_sem] def ctEqP8 : Ct := ⟨false, [], fun args os => match args, os with
  | [.agg cs, .agg ds], [] => (match p8Of cs, p8Of ds with | some x, some y => ifp (x = y) (vb true) | _, _ => no)
  | _, _ => no⟩
@[go_sem] def sgQ8 (x : Eight Ptr) (i : Nat) : Sg := ⟨[(2, .one (.ptr 0 0)), (3, .one (.ptr 1 0)), (5, vi i)], [some (.cells ((P8.cells x).map .val)), some (.cells ((P8.cells x).map .val))], []⟩
@[go_sem] def ctEqCset : Ct := ⟨false, [], fun args os => match args, os with
  | [.agg cs, .agg ds], [] => (match csetOf cs, csetOf ds with | some x, some y => ifp (x = y) (vb true) | _, _ => no)
  | _, _ => no⟩
def wC1 (x : CSet) : List Nat := [x.name.size, x.from_.size]
@[go_sem] def ctSzCset : Ct := ⟨false, [], fun args os => match args, os with
  | [.agg cs, .one (.val (.int .i64 n))], [] => (match csetOf cs with | some x => ifp ((x.name.size ≤ 9223372036854775807 ∧ x.from_.size ≤ 9223372036854775807) ∧ 0 ≤ n ∧ n ≤ 1048576) (vi (szW (wC1 x) n)) | none => no)
  | _, _ => no⟩
end Go.Proofs.YtfmeopnankeaeaaDoor
