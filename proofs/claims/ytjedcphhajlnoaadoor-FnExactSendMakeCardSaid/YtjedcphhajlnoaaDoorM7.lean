import Derived.Test.YtjedcphhajlnoaaDoorProg
import Derived.WalkKit
import Derived.Ground.NamesProg
import Derived.Shelf.Strconv.Itoa3
import Derived.Test.YtjedcphhajlnoaaDoorM5
set_option linter.unusedSimpArgs false
set_option linter.unusedVariables false
set_option linter.unusedSectionVars false
/- Functions of the exact laws: pointers, entries and sets, one by one. -/
namespace Go.Proofs.YtjedcphhajlnoaaDoor
open Go.RowKit

theorem plain_val : ∀ {cs : List TC} {vs : List Value}, plain cs = some vs → cs = vs.map .val
  | [], vs, h => by simp [plain] at h; subst h; rfl
  | c :: cs, vs, h => by
    unfold plain at h
    split at h
    · rename_i v us h1 h2
      simp only [Option.some.injEq] at h
      subst h
      rw [plain_val h2]
      cases c <;> simp [tcv] at h1
      subst h1; rfl
    · cases h
theorem kInt {ks : List TK} {vs : List Value} (h : kindsOk (.int .i64 :: ks) vs = true) : ∃ n r, vs = .int .i64 n :: r ∧ kindsOk ks r = true := by
  cases vs with
  | nil => simp [kindsOk] at h
  | cons v r => cases v with
    | int k n => cases k <;> simp [kindsOk] at h; exact ⟨n, r, rfl, h⟩
    | _ => simp [kindsOk] at h
theorem kStr {ks : List TK} {vs : List Value} (h : kindsOk (.str :: ks) vs = true) : ∃ n r, vs = .string n :: r ∧ kindsOk ks r = true := by
  cases vs with
  | nil => simp [kindsOk] at h
  | cons v r => cases v <;> simp [kindsOk] at h; exact ⟨_, r, rfl, h⟩
theorem kBool {ks : List TK} {vs : List Value} (h : kindsOk (.bool :: ks) vs = true) : ∃ n r, vs = .bool n :: r ∧ kindsOk ks r = true := by
  cases vs with
  | nil => simp [kindsOk] at h
  | cons v r => cases v <;> simp [kindsOk] at h; exact ⟨_, r, rfl, h⟩
theorem kNil {vs : List Value} (h : kindsOk [] vs = true) : vs = [] := by
  cases vs with
  | nil => rfl
  | cons v r => simp [kindsOk] at h
/-- Eight pointers. -/
@[go_sem] def P8.cells (x : Eight Ptr) : List Value := [.int .i64 x.x0.at_, .int .i64 x.x0.sum, .int .i64 x.x0.birth, .int .i64 x.x1.at_, .int .i64 x.x1.sum, .int .i64 x.x1.birth, .int .i64 x.x2.at_, .int .i64 x.x2.sum, .int .i64 x.x2.birth, .int .i64 x.x3.at_, .int .i64 x.x3.sum, .int .i64 x.x3.birth, .int .i64 x.x4.at_, .int .i64 x.x4.sum, .int .i64 x.x4.birth, .int .i64 x.x5.at_, .int .i64 x.x5.sum, .int .i64 x.x5.birth, .int .i64 x.x6.at_, .int .i64 x.x6.sum, .int .i64 x.x6.birth, .int .i64 x.x7.at_, .int .i64 x.x7.sum, .int .i64 x.x7.birth]
@[go_sem] def P8.ofCells (cs : List Value) : Eight Ptr := ⟨⟨Value.num (cell cs 0), Value.num (cell cs 1), Value.num (cell cs 2)⟩, ⟨Value.num (cell cs 3), Value.num (cell cs 4), Value.num (cell cs 5)⟩, ⟨Value.num (cell cs 6), Value.num (cell cs 7), Value.num (cell cs 8)⟩, ⟨Value.num (cell cs 9), Value.num (cell cs 10), Value.num (cell cs 11)⟩, ⟨Value.num (cell cs 12), Value.num (cell cs 13), Value.num (cell cs 14)⟩, ⟨Value.num (cell cs 15), Value.num (cell cs 16), Value.num (cell cs 17)⟩, ⟨Value.num (cell cs 18), Value.num (cell cs 19), Value.num (cell cs 20)⟩, ⟨Value.num (cell cs 21), Value.num (cell cs 22), Value.num (cell cs 23)⟩⟩
@[go_sem] theorem p8_eta (x : Eight Ptr) : (⟨⟨x.x0.at_, x.x0.sum, x.x0.birth⟩, ⟨x.x1.at_, x.x1.sum, x.x1.birth⟩, ⟨x.x2.at_, x.x2.sum, x.x2.birth⟩, ⟨x.x3.at_, x.x3.sum, x.x3.birth⟩, ⟨x.x4.at_, x.x4.sum, x.x4.birth⟩, ⟨x.x5.at_, x.x5.sum, x.x5.birth⟩, ⟨x.x6.at_, x.x6.sum, x.x6.birth⟩, ⟨x.x7.at_, x.x7.sum, x.x7.birth⟩⟩ : Eight Ptr) = x := rfl
@[go_sem] theorem cset_eta (x : CSet) : (⟨x.name, x.kind, x.from_, ⟨⟨x.map.x0.at_, x.map.x0.sum, x.map.x0.birth⟩, ⟨x.map.x1.at_, x.map.x1.sum, x.map.x1.birth⟩, ⟨x.map.x2.at_, x.map.x2.sum, x.map.x2.birth⟩, ⟨x.map.x3.at_, x.map.x3.sum, x.map.x3.birth⟩, ⟨x.map.x4.at_, x.map.x4.sum, x.map.x4.birth⟩, ⟨x.map.x5.at_, x.map.x5.sum, x.map.x5.birth⟩, ⟨x.map.x6.at_, x.map.x6.sum, x.map.x6.birth⟩, ⟨x.map.x7.at_, x.map.x7.sum, x.map.x7.birth⟩⟩, ⟨x.home.at_, x.home.sum, x.home.birth⟩, x.dirty⟩ : CSet) = x := rfl
@[go_sem] theorem cset_eta2 (x : CSet) : (⟨x.name, x.kind, x.from_, x.map, ⟨x.home.at_, x.home.sum, x.home.birth⟩, x.dirty⟩ : CSet) = x := rfl
@[go_sem] def p8Of (cs : List TC) : Option (Eight Ptr) := match plain cs with
  | some vs => if kindsOk [.int .i64, .int .i64, .int .i64, .int .i64, .int .i64, .int .i64, .int .i64, .int .i64, .int .i64, .int .i64, .int .i64, .int .i64, .int .i64, .int .i64, .int .i64, .int .i64, .int .i64, .int .i64, .int .i64, .int .i64, .int .i64, .int .i64, .int .i64, .int .i64] vs = true then some (P8.ofCells vs) else none
  | none => none
theorem p8_cells {vs : List Value} (h : kindsOk [.int .i64, .int .i64, .int .i64, .int .i64, .int .i64, .int .i64, .int .i64, .int .i64, .int .i64, .int .i64, .int .i64, .int .i64, .int .i64, .int .i64, .int .i64, .int .i64, .int .i64, .int .i64, .int .i64, .int .i64, .int .i64, .int .i64, .int .i64, .int .i64] vs = true) : P8.cells (P8.ofCells vs) = vs := by
  obtain ⟨a0, r0, rfl, h0⟩ := kInt h
  obtain ⟨a1, r1, rfl, h1⟩ := kInt h0
  obtain ⟨a2, r2, rfl, h2⟩ := kInt h1
  obtain ⟨a3, r3, rfl, h3⟩ := kInt h2
  obtain ⟨a4, r4, rfl, h4⟩ := kInt h3
  obtain ⟨a5, r5, rfl, h5⟩ := kInt h4
  obtain ⟨a6, r6, rfl, h6⟩ := kInt h5
  obtain ⟨a7, r7, rfl, h7⟩ := kInt h6
  obtain ⟨a8, r8, rfl, h8⟩ := kInt h7
  obtain ⟨a9, r9, rfl, h9⟩ := kInt h8
  obtain ⟨a10, r10, rfl, h10⟩ := kInt h9
  obtain ⟨a11, r11, rfl, h11⟩ := kInt h10
  obtain ⟨a12, r12, rfl, h12⟩ := kInt h11
  obtain ⟨a13, r13, rfl, h13⟩ := kInt h12
  obtain ⟨a14, r14, rfl, h14⟩ := kInt h13
  obtain ⟨a15, r15, rfl, h15⟩ := kInt h14
  obtain ⟨a16, r16, rfl, h16⟩ := kInt h15
  obtain ⟨a17, r17, rfl, h17⟩ := kInt h16
  obtain ⟨a18, r18, rfl, h18⟩ := kInt h17
  obtain ⟨a19, r19, rfl, h19⟩ := kInt h18
  obtain ⟨a20, r20, rfl, h20⟩ := kInt h19
  obtain ⟨a21, r21, rfl, h21⟩ := kInt h20
  obtain ⟨a22, r22, rfl, h22⟩ := kInt h21
  obtain ⟨a23, r23, rfl, h23⟩ := kInt h22
  obtain rfl := kNil h23
  rfl
theorem p8Of_some {cs : List TC} {x : Eight Ptr} (h : p8Of cs = some x) : cs = (P8.cells x).map .val := by
  unfold p8Of at h
  split at h
  · rename_i vs hv
    split at h
    · rename_i hk
      simp only [Option.some.injEq] at h
      subst h
      rw [p8_cells hk]
      exact plain_val hv
    · cases h
  · cases h
@[go_sem] def csetOf (cs : List TC) : Option (CSet) := match plain cs with
  | some vs => if kindsOk [.str, .int .i64, .str, .int .i64, .int .i64, .int .i64, .int .i64, .int .i64, .int .i64, .int .i64, .int .i64, .int .i64, .int .i64, .int .i64, .int .i64, .int .i64, .int .i64, .int .i64, .int .i64, .int .i64, .int .i64, .int .i64, .int .i64, .int .i64, .int .i64, .int .i64, .int .i64, .int .i64, .int .i64, .int .i64, .bool] vs = true then some (ET.cset.ofCells vs) else none
  | none => none
theorem cset_cells {vs : List Value} (h : kindsOk [.str, .int .i64, .str, .int .i64, .int .i64, .int .i64, .int .i64, .int .i64, .int .i64, .int .i64, .int .i64, .int .i64, .int .i64, .int .i64, .int .i64, .int .i64, .int .i64, .int .i64, .int .i64, .int .i64, .int .i64, .int .i64, .int .i64, .int .i64, .int .i64, .int .i64, .int .i64, .int .i64, .int .i64, .int .i64, .bool] vs = true) : ET.cset.cells (ET.cset.ofCells vs) = vs := by
  obtain ⟨a0, r0, rfl, h0⟩ := kStr h
  obtain ⟨a1, r1, rfl, h1⟩ := kInt h0
  obtain ⟨a2, r2, rfl, h2⟩ := kStr h1
  obtain ⟨a3, r3, rfl, h3⟩ := kInt h2
  obtain ⟨a4, r4, rfl, h4⟩ := kInt h3
  obtain ⟨a5, r5, rfl, h5⟩ := kInt h4
  obtain ⟨a6, r6, rfl, h6⟩ := kInt h5
  obtain ⟨a7, r7, rfl, h7⟩ := kInt h6
  obtain ⟨a8, r8, rfl, h8⟩ := kInt h7
  obtain ⟨a9, r9, rfl, h9⟩ := kInt h8
  obtain ⟨a10, r10, rfl, h10⟩ := kInt h9
  obtain ⟨a11, r11, rfl, h11⟩ := kInt h10
  obtain ⟨a12, r12, rfl, h12⟩ := kInt h11
  obtain ⟨a13, r13, rfl, h13⟩ := kInt h12
  obtain ⟨a14, r14, rfl, h14⟩ := kInt h13
  obtain ⟨a15, r15, rfl, h15⟩ := kInt h14
  obtain ⟨a16, r16, rfl, h16⟩ := kInt h15
  obtain ⟨a17, r17, rfl, h17⟩ := kInt h16
  obtain ⟨a18, r18, rfl, h18⟩ := kInt h17
  obtain ⟨a19, r19, rfl, h19⟩ := kInt h18
  obtain ⟨a20, r20, rfl, h20⟩ := kInt h19
  obtain ⟨a21, r21, rfl, h21⟩ := kInt h20
  obtain ⟨a22, r22, rfl, h22⟩ := kInt h21
  obtain ⟨a23, r23, rfl, h23⟩ := kInt h22
  obtain ⟨a24, r24, rfl, h24⟩ := kInt h23
  obtain ⟨a25, r25, rfl, h25⟩ := kInt h24
  obtain ⟨a26, r26, rfl, h26⟩ := kInt h25
  obtain ⟨a27, r27, rfl, h27⟩ := kInt h26
  obtain ⟨a28, r28, rfl, h28⟩ := kInt h27
  obtain ⟨a29, r29, rfl, h29⟩ := kInt h28
  obtain ⟨a30, r30, rfl, h30⟩ := kBool h29
  obtain rfl := kNil h30
  rfl
theorem csetOf_some {cs : List TC} {x : CSet} (h : csetOf cs = some x) : cs = (ET.cset.cells x).map .val := by
  unfold csetOf at h
  split at h
  · rename_i vs hv
    split at h
    · rename_i hk
      simp only [Option.some.injEq] at h
      subst h
      rw [cset_cells hk]
      exact plain_val hv
    · cases h
  · cases h
@[go_sem] def p8mix (x : Eight Ptr) (i : Nat) : List TC := ((P8.cells x).map .val).take (3 * i) ++ ((P8.cells (Eight.rep Ptr.zero)).map .val).drop (3 * i)
attribute [go_sem] Eight.rep Ptr.zero
@[go_sem] def ctToP8 : Ct := ⟨false, [], fun args os => match args, os with
  | [.agg cs], [] => (match p8Of cs with | some x => is (.agg ((P8.cells x).map .val)) | none => no)
  | _, _ => no⟩
@[go_sem] def sgP8 (x : Eight Ptr) (i : Nat) : Sg := ⟨[(1, .one (.ptr 0 0)), (2, .one (.ptr 1 0)), (3, .one (.ptr 2 0)), (4, vi i)], [some (.cells ((P8.cells x).map .val)), some (.cells ((P8.cells (Eight.rep Ptr.zero)).map .val)), some (.cells (p8mix x i))], []⟩
@[go_sem] def ctToCset : Ct := ⟨false, [], fun args os => match args, os with
  | [.agg cs], [] => (match csetOf cs with | some x => is (.agg ((ET.cset.cells x).map .val)) | none => no)
  | _, _ => no⟩
@[go_sem] def ctToEnt : Ct := ctToPtr
@[go_sem] def ctEqPtr : Ct := ⟨false, [], fun args os => match args, os with
  | [.agg [.val (.int .i64 x), .val (.int .i64 y), .val (.int .i64 z)], .agg [.val (.int .i64 x'), .val (.int .i64 y'), .val (.int .i64 z')]], [] => ifp (x = x' ∧ y = y' ∧ z = z') (vb true)
  | _, _ => no⟩
@[go_sem] def ctEqP8 : Ct := ⟨false, [], fun args os => match args, os with
  | [.agg cs, .agg ds], [] => (match p8Of cs, p8Of ds with | some x, some y => ifp (x = y) (vb true) | _, _ => no)
  | _, _ => no⟩
@[go_sem] def sgQ8 (x : Eight Ptr) (i : Nat) : Sg := ⟨[(2, .one (.ptr 0 0)), (3, .one (.ptr 1 0)), (5, vi i)], [some (.cells ((P8.cells x).map .val)), some (.cells ((P8.cells x).map .val))], []⟩
@[go_sem] def ctEqCset : Ct := ⟨false, [], fun args os => match args, os with
  | [.agg cs, .agg ds], [] => (match csetOf cs, csetOf ds with | some x, some y => ifp (x = y) (vb true) | _, _ => no)
  | _, _ => no⟩
def wC1 (x : CSet) : List Nat := [x.name.size, x.from_.size]
@[go_sem] def ctSzCset : Ct := ⟨false, [], fun args os => match args, os with
  | [.agg cs, .one (.val (.int .i64 n))], [] => (match csetOf cs with | some x => ifp ((x.name.size ≤ 9223372036854775807 ∧ x.from_.size ≤ 9223372036854775807) ∧ 0 ≤ n ∧ n ≤ 1048576) (vi (szW (wC1 x) n)) | none => no)
  | _, _ => no⟩
end Go.Proofs.YtjedcphhajlnoaaDoor
/- Functions of the exact laws: the sets of a book, one by one. -/
namespace Go.Proofs.YtjedcphhajlnoaaDoor
open Go.RowKit

/-- Eight texts. -/
@[go_sem] def S8.cells (x : Eight ByteArray) : List Value := [.string x.x0, .string x.x1, .string x.x2, .string x.x3, .string x.x4, .string x.x5, .string x.x6, .string x.x7]
@[go_sem] def S8.ofCells (cs : List Value) : Eight ByteArray := ⟨Value.str (cell cs 0), Value.str (cell cs 1), Value.str (cell cs 2), Value.str (cell cs 3), Value.str (cell cs 4), Value.str (cell cs 5), Value.str (cell cs 6), Value.str (cell cs 7)⟩
@[go_sem] theorem s8_eta (x : Eight ByteArray) : (⟨x.x0, x.x1, x.x2, x.x3, x.x4, x.x5, x.x6, x.x7⟩ : Eight ByteArray) = x := rfl
@[go_sem] theorem bset_eta (x : BSet) : (⟨x.name, x.kind, x.from_, ⟨x.blocks.x0, x.blocks.x1, x.blocks.x2, x.blocks.x3, x.blocks.x4, x.blocks.x5, x.blocks.x6, x.blocks.x7⟩⟩ : BSet) = x := rfl
@[go_sem] theorem bset_eta2 (x : BSet) : (⟨x.name, x.kind, x.from_, x.blocks⟩ : BSet) = x := rfl
@[go_sem] def s8Of (cs : List TC) : Option (Eight ByteArray) := match plain cs with
  | some vs => if kindsOk [.str, .str, .str, .str, .str, .str, .str, .str] vs = true then some (S8.ofCells vs) else none
  | none => none
theorem s8_cells {vs : List Value} (h : kindsOk [.str, .str, .str, .str, .str, .str, .str, .str] vs = true) : S8.cells (S8.ofCells vs) = vs := by
  obtain ⟨a0, r0, rfl, h0⟩ := kStr h
  obtain ⟨a1, r1, rfl, h1⟩ := kStr h0
  obtain ⟨a2, r2, rfl, h2⟩ := kStr h1
  obtain ⟨a3, r3, rfl, h3⟩ := kStr h2
  obtain ⟨a4, r4, rfl, h4⟩ := kStr h3
  obtain ⟨a5, r5, rfl, h5⟩ := kStr h4
  obtain ⟨a6, r6, rfl, h6⟩ := kStr h5
  obtain ⟨a7, r7, rfl, h7⟩ := kStr h6
  obtain rfl := kNil h7
  rfl
theorem s8Of_some {cs : List TC} {x : Eight ByteArray} (h : s8Of cs = some x) : cs = (S8.cells x).map .val := by
  unfold s8Of at h
  split at h
  · rename_i vs hv
    split at h
    · rename_i hk
      simp only [Option.some.injEq] at h
      subst h
      rw [s8_cells hk]
      exact plain_val hv
    · cases h
  · cases h
@[go_sem] def bsetOf (cs : List TC) : Option (BSet) := match plain cs with
  | some vs => if kindsOk [.str, .int .i64, .str, .str, .str, .str, .str, .str, .str, .str, .str] vs = true then some (ET.bset.ofCells vs) else none
  | none => none
theorem bset_cells {vs : List Value} (h : kindsOk [.str, .int .i64, .str, .str, .str, .str, .str, .str, .str, .str, .str] vs = true) : ET.bset.cells (ET.bset.ofCells vs) = vs := by
  obtain ⟨a0, r0, rfl, h0⟩ := kStr h
  obtain ⟨a1, r1, rfl, h1⟩ := kInt h0
  obtain ⟨a2, r2, rfl, h2⟩ := kStr h1
  obtain ⟨a3, r3, rfl, h3⟩ := kStr h2
  obtain ⟨a4, r4, rfl, h4⟩ := kStr h3
  obtain ⟨a5, r5, rfl, h5⟩ := kStr h4
  obtain ⟨a6, r6, rfl, h6⟩ := kStr h5
  obtain ⟨a7, r7, rfl, h7⟩ := kStr h6
  obtain ⟨a8, r8, rfl, h8⟩ := kStr h7
  obtain ⟨a9, r9, rfl, h9⟩ := kStr h8
  obtain ⟨a10, r10, rfl, h10⟩ := kStr h9
  obtain rfl := kNil h10
  rfl
theorem bsetOf_some {cs : List TC} {x : BSet} (h : bsetOf cs = some x) : cs = (ET.bset.cells x).map .val := by
  unfold bsetOf at h
  split at h
  · rename_i vs hv
    split at h
    · rename_i hk
      simp only [Option.some.injEq] at h
      subst h
      rw [bset_cells hk]
      exact plain_val hv
    · cases h
  · cases h
@[go_sem] def s8mix (x : Eight ByteArray) (i : Nat) : List TC := ((S8.cells x).map .val).take i ++ ((S8.cells (Eight.rep ⟨#[]⟩)).map .val).drop i
@[go_sem] def ctToS8 : Ct := ⟨false, [], fun args os => match args, os with
  | [.agg cs], [] => (match s8Of cs with | some x => is (.agg ((S8.cells x).map .val)) | none => no)
  | _, _ => no⟩
@[go_sem] def sgS8 (x : Eight ByteArray) (i : Nat) : Sg := ⟨[(1, .one (.ptr 0 0)), (2, .one (.ptr 1 0)), (3, .one (.ptr 2 0)), (4, vi i)], [some (.cells ((S8.cells x).map .val)), some (.cells ((S8.cells (Eight.rep ⟨#[]⟩)).map .val)), some (.cells (s8mix x i))], []⟩
theorem s_toS8_e : EnterOk Tryd.prog 71 := ⟨_, Tryd.func71, rfl, by decide⟩
@[go_sem] def s_toS8_lv : List (List Nat) := [[1, 2], [1, 2, 3], [1, 2, 3, 4], [1, 2, 3, 4, 6], [1, 2, 3, 4], [1, 2, 3, 4], [2]]
@[go_sem] noncomputable def s_toS8_K : Known := Known.nil
set_option maxHeartbeats 8000000 in
theorem s_toS8 : Sound Tryd.prog 71 ctToS8 := by
  have ke := s_toS8_K.env []
  have kl : Lives s_toS8_lv := trivial
  refine sound_intro (E := ⟨ti, s_toS8_K.Γ, []⟩) ke Tryd.func71 Tryd.ntmps71 rfl (rs := [.cell 2 32]) rfl ?_
  intro args os hp
  unfold ctToS8 at hp ⊢
  dsimp only at hp ⊢
  split at hp
  · rename_i cs
    split at hp
    · rename_i x hx
      obtain rfl := s8Of_some hx
      clear hx hp
      refine ⟨by simp, fun φ0 w0 => ?_⟩
      refine goh trivial ?_
      refine W_le (σ' := sgS8 x 0) [some 0, some 1, some 2] (by
        simp only [go_sem, inj_r, ↓reduceIte, reduceCtorEq, Nat.reduceAdd, Nat.reduceLT, Nat.reduceLeDiff, Nat.reduceEqDiff, Int.reduceEq]
        all_goals (repeat' refine And.intro ?_ ?_) <;> try exact shut7
        ) ?_
      refine W_loop (fun q σ => ∃ i : Nat, i ≤ 8 ∧ q = 8 - i ∧ σ = sgS8 x i) 8 ⟨0, by omega, by omega, rfl⟩ ?_
      rintro q σ ⟨i, hi, rfl, rfl⟩
      unfold sgS8
      rcases (show i = 0 ∨ i = 1 ∨ i = 2 ∨ i = 3 ∨ i = 4 ∨ i = 5 ∨ i = 6 ∨ i = 7 ∨ i = 8 by omega) with hc | hc | hc | hc | hc | hc | hc | hc | hc
      all_goals try (
        refine goh hc ?_
        refine W_cnd ?_ ?_ <;> intro hlit <;> try (cases hlit; done)
        refine goh hc ?_
        refine ⟨8 - (i + 1), [some 0, some 1, some 2], sgS8 x (i + 1), by omega, ?_, i + 1, by omega, rfl, rfl⟩
        simp only [go_sem, hc, inj_r, ↓reduceIte, reduceCtorEq, Nat.reduceAdd, Nat.reduceLT, Nat.reduceLeDiff, Nat.reduceEqDiff, Int.reduceEq]
        all_goals (repeat' refine And.intro ?_ ?_) <;> try exact shut7
        done)
      refine goh hc ?_
      refine W_cnd ?_ ?_ <;> intro hlit <;> try (cases hlit; done)
      refine goh hc ?_
      exact finh [] trivial
    · simp [no] at hp
  · simp [no] at hp
@[go_sem] def ctEqS8 : Ct := ⟨false, [], fun args os => match args, os with
  | [.agg cs, .agg ds], [] => (match s8Of cs, s8Of ds with | some x, some y => ifp (x = y) (vb true) | _, _ => no)
  | _, _ => no⟩
@[go_sem] def sgR8 (x : Eight ByteArray) (i : Nat) : Sg := ⟨[(2, .one (.ptr 0 0)), (3, .one (.ptr 1 0)), (5, vi i)], [some (.cells ((S8.cells x).map .val)), some (.cells ((S8.cells x).map .val))], []⟩
theorem s_eqS8_e : EnterOk Tryd.prog 73 := ⟨_, Tryd.func73, rfl, by decide⟩
@[go_sem] def s_eqS8_lv : List (List Nat) := [[2, 3], [2, 3, 5], [2, 3, 5, 7], [2, 3, 5], [2, 3, 5, 16], [4], [4]]
@[go_sem] noncomputable def s_eqS8_K : Known := Known.nil
set_option maxHeartbeats 8000000 in
theorem s_eqS8 : Sound Tryd.prog 73 ctEqS8 := by
  have ke := s_eqS8_K.env []
  have kl : Lives s_eqS8_lv := trivial
  refine sound_intro (E := ⟨ti, s_eqS8_K.Γ, []⟩) ke Tryd.func73 Tryd.ntmps73 rfl (rs := [.tmp 4]) rfl ?_
  intro args os hp
  unfold ctEqS8 at hp ⊢
  dsimp only at hp ⊢
  split at hp
  · rename_i cs ds
    split at hp
    · rename_i x y hx hy
      obtain rfl := s8Of_some hx
      obtain rfl := s8Of_some hy
      obtain rfl : x = y := hp
      clear hx hy
      refine ⟨by simp, fun φ0 w0 => ?_⟩
      refine goh trivial ?_
      refine W_le (σ' := sgR8 x 0) [some 0, some 1] (by
        simp only [go_sem, inj_r, ↓reduceIte, reduceCtorEq, Nat.reduceAdd, Nat.reduceLT, Nat.reduceLeDiff, Nat.reduceEqDiff, Int.reduceEq]
        all_goals (repeat' refine And.intro ?_ ?_) <;> try exact shut7
        ) ?_
      refine W_loop (fun q σ => ∃ i : Nat, i ≤ 8 ∧ q = 8 - i ∧ σ = sgR8 x i) 8 ⟨0, by omega, by omega, rfl⟩ ?_
      rintro q σ ⟨i, hi, rfl, rfl⟩
      unfold sgR8
      rcases (show i = 0 ∨ i = 1 ∨ i = 2 ∨ i = 3 ∨ i = 4 ∨ i = 5 ∨ i = 6 ∨ i = 7 ∨ i = 8 by omega) with hc | hc | hc | hc | hc | hc | hc | hc | hc
      all_goals try (
        refine goh hc ?_
        refine W_cnd ?_ ?_ <;> intro hlit <;> try (cases hlit; done)
        refine goh hc ?_
        refine W_cnd ?_ ?_ <;> intro hlit <;> try (cases hlit; done)
        refine goh hc ?_
        refine ⟨8 - (i + 1), [some 0, some 1], sgR8 x (i + 1), by omega, ?_, i + 1, by omega, rfl, rfl⟩
        simp only [go_sem, hc, inj_r, ↓reduceIte, reduceCtorEq, Nat.reduceAdd, Nat.reduceLT, Nat.reduceLeDiff, Nat.reduceEqDiff, Int.reduceEq]
        all_goals (repeat' refine And.intro ?_ ?_) <;> try exact shut7
        done)
      refine goh hc ?_
      refine W_cnd ?_ ?_ <;> intro hlit <;> try (cases hlit; done)
      refine goh hc ?_
      exact finh [] trivial
    · simp [no] at hp
  · simp [no] at hp
@[go_sem] def ctToBset : Ct := ⟨false, [], fun args os => match args, os with
  | [.agg cs], [] => (match bsetOf cs with | some x => is (.agg ((ET.bset.cells x).map .val)) | none => no)
  | _, _ => no⟩
theorem s_toBset_e : EnterOk Tryd.prog 57 := ⟨_, Tryd.func57, rfl, by decide⟩
@[go_sem] def s_toBset_lv : List (List Nat) := [[1, 2], [1, 2, 3], [1, 2, 3], [1, 2, 3], [1, 2, 3], [2, 3], [2]]
@[go_sem] noncomputable def s_toBset_K : Known := (Known.nil).cons 71 ctToS8 s_toS8 s_toS8_e
set_option maxHeartbeats 8000000 in
theorem s_toBset : Sound Tryd.prog 57 ctToBset := by
  have ke := s_toBset_K.env []
  have kl : Lives s_toBset_lv := trivial
  refine sound_intro (E := ⟨ti, s_toBset_K.Γ, []⟩) ke Tryd.func57 Tryd.ntmps57 rfl (rs := [.cell 2 34]) rfl ?_
  intro args os hp
  unfold ctToBset at hp ⊢
  dsimp only at hp ⊢
  split at hp
  · rename_i cs
    split at hp
    · rename_i x hx
      obtain rfl := bsetOf_some hx
      clear hx hp
      refine ⟨by simp, fun φ0 w0 => ?_⟩
      refine goh trivial ?_
      exact finh [] trivial
    · simp [no] at hp
  · simp [no] at hp
@[go_sem] def ctEqBset : Ct := ⟨false, [], fun args os => match args, os with
  | [.agg cs, .agg ds], [] => (match bsetOf cs, bsetOf ds with | some x, some y => ifp (x = y) (vb true) | _, _ => no)
  | _, _ => no⟩
theorem s_eqBset_e : EnterOk Tryd.prog 60 := ⟨_, Tryd.func60, rfl, by decide⟩
@[go_sem] def s_eqBset_lv : List (List Nat) := [[2, 3], [2, 3, 9], [4], [2, 3, 14], [4], [2, 3, 19], [4], [25], [4], [4]]
@[go_sem] noncomputable def s_eqBset_K : Known := (Known.nil).cons 73 ctEqS8 s_eqS8 s_eqS8_e
set_option maxHeartbeats 8000000 in
theorem s_eqBset : Sound Tryd.prog 60 ctEqBset := by
  have ke := s_eqBset_K.env []
  have kl : Lives s_eqBset_lv := trivial
  refine sound_intro (E := ⟨ti, s_eqBset_K.Γ, []⟩) ke Tryd.func60 Tryd.ntmps60 rfl (rs := [.tmp 4]) rfl ?_
  intro args os hp
  unfold ctEqBset at hp ⊢
  dsimp only at hp ⊢
  split at hp
  · rename_i cs ds
    split at hp
    · rename_i x y hx hy
      obtain rfl := bsetOf_some hx
      obtain rfl := bsetOf_some hy
      obtain rfl : x = y := hp
      clear hx hy
      refine ⟨by simp, fun φ0 w0 => ?_⟩
      refine goh trivial ?_
      refine W_cnd ?_ ?_ <;> intro hlit <;> try (cases hlit; done)
      refine goh trivial ?_
      refine W_cnd ?_ ?_ <;> intro hlit <;> try (cases hlit; done)
      refine goh trivial ?_
      refine W_cnd ?_ ?_ <;> intro hlit <;> try (cases hlit; done)
      refine goh trivial ?_
      refine W_cnd ?_ ?_ <;> intro hlit <;> try (cases hlit; done)
      refine goh trivial ?_
      exact finh [] trivial
    · simp [no] at hp
  · simp [no] at hp
def w8 (x : Eight ByteArray) : List Nat := [x.x0.size, x.x1.size, x.x2.size, x.x3.size, x.x4.size, x.x5.size, x.x6.size, x.x7.size]
structure in8 (x : Eight ByteArray) : Prop where
  y0 : x.x0.size ≤ 9223372036854775807
  y1 : x.x1.size ≤ 9223372036854775807
  y2 : x.x2.size ≤ 9223372036854775807
  y3 : x.x3.size ≤ 9223372036854775807
  y4 : x.x4.size ≤ 9223372036854775807
  y5 : x.x5.size ≤ 9223372036854775807
  y6 : x.x6.size ≤ 9223372036854775807
  y7 : x.x7.size ≤ 9223372036854775807
@[go_sem] def ctSz8 : Ct := ⟨false, [], fun args os => match args, os with
  | [.agg cs, .one (.val (.int .i64 n))], [] => (match s8Of cs with | some x => ifp (in8 x ∧ 0 ≤ n ∧ n ≤ 1048576) (vi (szW (w8 x) n)) | none => no)
  | _, _ => no⟩
@[go_sem] def sgZ8 (x : Eight ByteArray) (n : Int) (i : Nat) : Sg := ⟨[(1, vi n), (2, .one (.ptr 0 0)), (5, vi i)], [some (.cells ((S8.cells x).map .val))], []⟩
theorem s_sz8_e : EnterOk Tryd.prog 70 := ⟨_, Tryd.func70, rfl, by decide⟩
@[go_sem] def s_sz8_lv : List (List Nat) := [[1, 2], [1, 2, 5], [1, 2, 5, 7], [1, 2, 5], [1, 2, 5], [1, 2, 5, 17], [4], [4]]
@[go_sem] noncomputable def s_sz8_K : Known := Known.nil
set_option maxHeartbeats 8000000 in
theorem s_sz8 : Sound Tryd.prog 70 ctSz8 := by
  have ke := s_sz8_K.env []
  have kl : Lives s_sz8_lv := trivial
  refine sound_intro (E := ⟨ti, s_sz8_K.Γ, []⟩) ke Tryd.func70 Tryd.ntmps70 rfl (rs := [.tmp 4]) rfl ?_
  intro args os hp
  unfold ctSz8 at hp ⊢
  dsimp only at hp ⊢
  split at hp
  · rename_i cs n
    split at hp
    · rename_i x hx
      obtain rfl := s8Of_some hx
      obtain ⟨⟨y0, y1, y2, y3, y4, y5, y6, y7⟩, h3, h4⟩ : in8 x ∧ 0 ≤ n ∧ n ≤ 1048576 := hp
      clear hx
      obtain ⟨R, hR⟩ : ∃ R, szW (w8 x) n = R := ⟨_, rfl⟩
      refine ⟨by simp, fun φ0 w0 => ?_⟩
      refine goh trivial ?_
      refine W_le (σ' := sgZ8 x n 0) [some 0] (by
        simp only [go_sem, inj_r, ↓reduceIte, reduceCtorEq, Nat.reduceAdd, Nat.reduceLT, Nat.reduceLeDiff, Nat.reduceEqDiff, Int.reduceEq]
        all_goals (repeat' refine And.intro ?_ ?_) <;> try exact shut7
        ) ?_
      refine W_loop (fun q σ => ∃ (i : Nat) (m : Int), i ≤ 8 ∧ q = 8 - i ∧ 0 ≤ m ∧ m ≤ 1048576 ∧ szW ((w8 x).drop i) m = R ∧ σ = sgZ8 x m i) 8 ⟨0, n, by omega, by omega, h3, h4, hR, rfl⟩ ?_
      rintro q σ ⟨i, m, hi, rfl, hm1, hm2, hs, rfl⟩
      unfold sgZ8
      have e0 : IntKind.i64.wrap (m - x.x0.size) = m - x.x0.size := wrap_id _ (by omega) (by omega)
      have e1 : IntKind.i64.wrap (m - x.x1.size) = m - x.x1.size := wrap_id _ (by omega) (by omega)
      have e2 : IntKind.i64.wrap (m - x.x2.size) = m - x.x2.size := wrap_id _ (by omega) (by omega)
      have e3 : IntKind.i64.wrap (m - x.x3.size) = m - x.x3.size := wrap_id _ (by omega) (by omega)
      have e4 : IntKind.i64.wrap (m - x.x4.size) = m - x.x4.size := wrap_id _ (by omega) (by omega)
      have e5 : IntKind.i64.wrap (m - x.x5.size) = m - x.x5.size := wrap_id _ (by omega) (by omega)
      have e6 : IntKind.i64.wrap (m - x.x6.size) = m - x.x6.size := wrap_id _ (by omega) (by omega)
      have e7 : IntKind.i64.wrap (m - x.x7.size) = m - x.x7.size := wrap_id _ (by omega) (by omega)
      rcases (show i < 8 ∨ i = 8 by omega) with hi8 | hc
      · rcases (show i = 0 ∨ i = 1 ∨ i = 2 ∨ i = 3 ∨ i = 4 ∨ i = 5 ∨ i = 6 ∨ i = 7 by omega) with hc | hc | hc | hc | hc | hc | hc | hc
        all_goals
          have hs2 := hs
          rw [hc] at hs2
          simp only [w8, List.drop_succ_cons, List.drop_zero] at hs2
          unfold szW at hs2
          refine goh hc ?_
          refine W_cnd ?_ ?_ <;> intro hlit <;> try (cases hlit; done)
          refine goh (And.intro hc (And.intro e0 (And.intro e1 (And.intro e2 (And.intro e3 (And.intro e4 (And.intro e5 (And.intro e6 e7)))))))) ?_
          refine W_cnd ?_ ?_ <;> (try simp only [cnd_r]) <;> intro hn
          · rw [if_pos hn] at hs2
            have hR2 : szW (w8 x) n = -1 := by rw [hR, ← hs2]
            refine goh trivial ?_
            exact finh [] hR2
          · rw [if_neg hn] at hs2
            refine goh hc ?_
            refine ⟨8 - (i + 1), [some 0], sgZ8 x _ (i + 1), by omega, ?_, i + 1, _, by omega, rfl, Int.not_lt.1 hn, by omega, ?_, rfl⟩
            · exact leh hc
            · rw [hc]; exact hs2
      · have hs2 := hs
        rw [hc] at hs2
        have hs3 : szW (w8 x) n = m := by rw [hR, ← hs2]; rfl
        refine goh hc ?_
        refine W_cnd ?_ ?_ <;> intro hlit <;> try (cases hlit; done)
        refine goh hc ?_
        exact finh [] hs3
    · simp [no] at hp
  · simp [no] at hp
def wB1 (x : BSet) : List Nat := x.name.size :: x.from_.size :: w8 x.blocks
structure inB1 (x : BSet) : Prop where
  name : x.name.size ≤ 9223372036854775807
  from_ : x.from_.size ≤ 9223372036854775807
  blocks : in8 x.blocks
@[go_sem] def ctSzBset : Ct := ⟨false, [], fun args os => match args, os with
  | [.agg cs, .one (.val (.int .i64 n))], [] => (match bsetOf cs with | some x => ifp (inB1 x ∧ 0 ≤ n ∧ n ≤ 1048576) (vi (szW (wB1 x) n)) | none => no)
  | _, _ => no⟩
theorem s_szBset_e : EnterOk Tryd.prog 54 := ⟨_, Tryd.func54, rfl, by decide⟩
@[go_sem] def s_szBset_lv : List (List Nat) := [[1, 2], [1, 2], [1, 2, 11], [4], [1, 2], [1, 2, 18], [4], [1], [1, 24], [4], [4]]
@[go_sem] noncomputable def s_szBset_K : Known := (Known.nil).cons 70 ctSz8 s_sz8 s_sz8_e
set_option maxHeartbeats 8000000 in
theorem s_szBset : Sound Tryd.prog 54 ctSzBset := by
  have ke := s_szBset_K.env []
  have kl : Lives s_szBset_lv := trivial
  refine sound_intro (E := ⟨ti, s_szBset_K.Γ, []⟩) ke Tryd.func54 Tryd.ntmps54 rfl (rs := [.tmp 4]) rfl ?_
  intro args os hp
  unfold ctSzBset at hp ⊢
  dsimp only at hp ⊢
  split at hp
  · rename_i cs n
    split at hp
    · rename_i x hx
      obtain rfl := bsetOf_some hx
      obtain ⟨⟨h1, h2, hb⟩, h3, h4⟩ : inB1 x ∧ 0 ≤ n ∧ n ≤ 1048576 := hp
      clear hx
      refine ⟨by simp, fun φ0 w0 => ?_⟩
      have e1 : IntKind.i64.wrap (n - x.name.size) = n - x.name.size := wrap_id _ (by omega) (by omega)
      have f1 : szW (wB1 x) n = if n - x.name.size < 0 then -1 else szW (x.from_.size :: w8 x.blocks) (n - x.name.size) := rfl
      refine goh e1 ?_
      refine W_cnd ?_ ?_ <;> (try simp only [cnd_r]) <;> intro hc
      · rw [if_pos hc] at f1
        refine goh trivial ?_
        exact finh [] f1
      · rw [if_neg hc] at f1
        have e2 : IntKind.i64.wrap (n - x.name.size - x.from_.size) = n - x.name.size - x.from_.size := wrap_id _ (by omega) (by omega)
        have f2 : szW (x.from_.size :: w8 x.blocks) (n - x.name.size) = if n - x.name.size - x.from_.size < 0 then -1 else szW (w8 x.blocks) (n - x.name.size - x.from_.size) := rfl
        refine goh e2 ?_
        refine W_cnd ?_ ?_ <;> (try simp only [cnd_r]) <;> intro hd
        · rw [if_pos hd] at f2
          have ez := f1.trans f2
          refine goh trivial ?_
          exact finh [] ez
        · rw [if_neg hd] at f2
          have ez := f1.trans f2
          have hin := szW_in (w8 x.blocks) (n - x.name.size - x.from_.size) (by omega)
          refine goh trivial ?_
          refine W_cnd ?_ ?_ <;> (try simp only [cnd_r]) <;> intro hn
          · have ez2 : szW (wB1 x) n = -1 := by rw [ez]; omega
            refine goh trivial ?_
            exact finh [] ez2
          · refine goh trivial ?_
            exact finh [] ez
    · simp [no] at hp
  · simp [no] at hp
end Go.Proofs.YtjedcphhajlnoaaDoor
/- Functions of the exact laws: slices of the sets of a book; books. -/
namespace Go.Proofs.YtjedcphhajlnoaaDoor
open Go.RowKit

@[go_sem] def ctToBs : Ct := ⟨false, [[some .bset]], fun args os => match args, os with
  | [.one (.isl .bset xs)], [] => ⟨xs.length ≤ 4000000, .one (.osl .bset 0 0 xs.length), [], [.arr .bset xs]⟩
  | _, _ => no⟩
@[go_sem] def sgToBs (xs : List BSet) (i : Nat) : Sg := ⟨[(0, .one (.isl .bset xs)), (3, .one (.osl .bset 0 0 xs.length)), (4, vi i)], [some (.arr .bset (mix xs (List.replicate xs.length ET.bset.dflt) i))], []⟩
theorem s_toBs_e : EnterOk Tryd.prog 33 := ⟨_, Tryd.func33, rfl, by decide⟩
@[go_sem] def s_toBs_lv : List (List Nat) := [[0], [0, 3], [0, 3, 4], [0, 3, 4, 11], [0, 3, 4], [0, 3, 4], [2]]
@[go_sem] noncomputable def s_toBs_K : Known := (Known.nil).cons 57 ctToBset s_toBset s_toBset_e
set_option maxHeartbeats 8000000 in
theorem s_toBs : Sound Tryd.prog 33 ctToBs := by
  have ke := s_toBs_K.env []
  have kl : Lives s_toBs_lv := trivial
  refine sound_intro (E := ⟨ti, s_toBs_K.Γ, []⟩) ke Tryd.func33 Tryd.ntmps33 rfl (rs := [.tmp 2]) rfl ?_
  intro args os hp
  unfold ctToBs at hp ⊢
  dsimp only at hp ⊢
  split at hp
  · rename_i xs
    refine ⟨by simp, fun φ0 w0 => ?_⟩
    have hlen : xs.length ≤ 4000000 := hp
    clear hp
    refine goh trivial ?_
    refine W_le (σ' := sgToBs xs 0) [some 0] (by
      simp only [go_sem, mix_zero, inj_r, ↓reduceIte, reduceCtorEq, Nat.reduceAdd, Nat.reduceLT, Nat.reduceLeDiff, Nat.reduceEqDiff, Int.reduceEq]
      all_goals (repeat' refine And.intro ?_ ?_) <;> try exact shut7
      ) ?_
    refine W_loop (fun n σ => ∃ i : Nat, i ≤ xs.length ∧ n = xs.length - i ∧ σ = sgToBs xs i) xs.length ⟨0, by omega, by omega, rfl⟩ ?_
    rintro n σ ⟨i, hi, rfl, rfl⟩
    unfold sgToBs
    have hm := mix_len xs (List.replicate xs.length ET.bset.dflt) i (by simp)
    rw [List.length_replicate] at hm
    refine goh hm ?_
    refine W_cnd ?_ ?_ <;> (try simp only [cnd_r]) <;> intro hlt
    · have hs := mix_set xs (List.replicate xs.length ET.bset.dflt) i ET.bset.dflt (by simp) (by simp; omega) rfl
      refine goh hm ?_
      refine ⟨xs.length - (i + 1), [some 0], sgToBs xs (i + 1), by omega, ?_, i + 1, by omega, rfl, rfl⟩
      exact leh (And.intro hs hm)
    · have hs := mix_all xs (List.replicate xs.length ET.bset.dflt) i (by simp) (by simp; omega)
      refine goh hm ?_
      exact finh [some 0] hs
  · simp [no] at hp
@[go_sem] def ctEqBs : Ct := ⟨false, [[some .bset], [some .bset]], fun args os => match args, os with
  | [.one (.isl .bset xs), .one (.isl .bset ys)], [] => ifp (xs = ys ∧ xs.length ≤ 4000000) (vb true)
  | _, _ => no⟩
@[go_sem] def sgEqBs (xs : List BSet) (i : Nat) : Sg := ⟨[(0, .one (.isl .bset xs)), (1, .one (.isl .bset xs)), (5, vi i)], [], []⟩
theorem s_eqBs_e : EnterOk Tryd.prog 39 := ⟨_, Tryd.func39, rfl, by decide⟩
@[go_sem] def s_eqBs_lv : List (List Nat) := [[0, 1], [0, 1, 10], [4], [0, 1, 5], [0, 1, 5, 14], [0, 1, 5], [0, 1, 5, 26], [4], [4]]
@[go_sem] noncomputable def s_eqBs_K : Known := (Known.nil).cons 60 ctEqBset s_eqBset s_eqBset_e
set_option maxHeartbeats 8000000 in
theorem s_eqBs : Sound Tryd.prog 39 ctEqBs := by
  have ke := s_eqBs_K.env []
  have kl : Lives s_eqBs_lv := trivial
  refine sound_intro (E := ⟨ti, s_eqBs_K.Γ, []⟩) ke Tryd.func39 Tryd.ntmps39 rfl (rs := [.tmp 4]) rfl ?_
  intro args os hp
  unfold ctEqBs at hp ⊢
  dsimp only at hp ⊢
  split at hp
  · rename_i xs ys
    refine ⟨by simp, fun φ0 w0 => ?_⟩
    obtain ⟨rfl, hlen⟩ : xs = ys ∧ xs.length ≤ 4000000 := hp
    refine goh trivial ?_
    refine W_cnd ?_ ?_ <;> intro hlit <;> try (cases hlit; done)
    refine goh trivial ?_
    refine W_le (σ' := sgEqBs xs 0) [] (by
      simp only [go_sem, inj_r, ↓reduceIte, reduceCtorEq, Nat.reduceAdd, Nat.reduceLT, Nat.reduceLeDiff, Nat.reduceEqDiff, Int.reduceEq]
      all_goals (repeat' refine And.intro ?_ ?_) <;> try exact shut7
      ) ?_
    refine W_loop (fun n σ => ∃ i : Nat, i ≤ xs.length ∧ n = xs.length - i ∧ σ = sgEqBs xs i) xs.length ⟨0, by omega, by omega, rfl⟩ ?_
    rintro n σ ⟨i, hi, rfl, rfl⟩
    unfold sgEqBs
    refine goh trivial ?_
    refine W_cnd ?_ ?_ <;> (try simp only [cnd_r]) <;> intro hlt
    · refine goh trivial ?_
      refine W_cnd ?_ ?_ <;> intro hlit <;> try (cases hlit; done)
      refine goh trivial ?_
      refine ⟨xs.length - (i + 1), [], sgEqBs xs (i + 1), by omega, ?_, i + 1, by omega, rfl, rfl⟩
      exact leh trivial
    · refine goh trivial ?_
      exact finh [] trivial
  · simp [no, ifp] at hp
structure inB (xs : List BSet) : Prop where
  len : xs.length ≤ 9223372036854775807
  all : ∀ i : Nat, inB1 (xs.getD i ET.bset.dflt)
def wB (xs : List BSet) : List Nat := xs.length :: xs.flatMap wB1
theorem drop_flat {α : Type} (f : α → List Nat) (xs : List α) (i : Nat) (d : α) (h : i < xs.length) : (xs.drop i).flatMap f = f (xs.getD i d) ++ (xs.drop (i + 1)).flatMap f := by
  rw [List.drop_eq_getElem_cons h, List.flatMap_cons]
  simp [h]
@[go_sem] def ctSzBs : Ct := ⟨false, [[some .bset]], fun args os => match args, os with
  | [.one (.isl .bset xs), .one (.val (.int .i64 n))], [] => ifp (inB xs ∧ 0 ≤ n ∧ n ≤ 1048576) (vi (szW (wB xs) n))
  | _, _ => no⟩
@[go_sem] def sgSzBs (xs : List BSet) (n : Int) (i : Nat) : Sg := ⟨[(0, .one (.isl .bset xs)), (1, vi n), (5, vi i)], [], []⟩
theorem s_szBs_e : EnterOk Tryd.prog 27 := ⟨_, Tryd.func27, rfl, by decide⟩
@[go_sem] def s_szBs_lv : List (List Nat) := [[0, 1], [0, 1], [0, 1, 11], [4], [0, 1, 5], [0, 1, 5, 15], [0, 1, 5], [0, 1, 5], [0, 1, 5, 25], [4], [4]]
@[go_sem] noncomputable def s_szBs_K : Known := (Known.nil).cons 54 ctSzBset s_szBset s_szBset_e
set_option maxHeartbeats 8000000 in
theorem s_szBs : Sound Tryd.prog 27 ctSzBs := by
  have ke := s_szBs_K.env []
  have kl : Lives s_szBs_lv := trivial
  refine sound_intro (E := ⟨ti, s_szBs_K.Γ, []⟩) ke Tryd.func27 Tryd.ntmps27 rfl (rs := [.tmp 4]) rfl ?_
  intro args os hp
  unfold ctSzBs at hp ⊢
  dsimp only at hp ⊢
  split at hp
  · rename_i xs n
    refine ⟨by simp, fun φ0 w0 => ?_⟩
    obtain ⟨⟨h1, h2⟩, h3, h4⟩ : inB xs ∧ 0 ≤ n ∧ n ≤ 1048576 := hp
    have e1 : IntKind.i64.wrap (n - xs.length) = n - xs.length := wrap_id _ (by omega) (by omega)
    refine goh e1 ?_
    refine W_cnd ?_ ?_ <;> (try simp only [cnd_r]) <;> intro hc
    · have e2 : szW (wB xs) n = -1 := by unfold wB szW; rw [if_pos hc]
      refine goh trivial ?_
      exact finh [] e2
    · obtain ⟨R, hR⟩ : ∃ R, szW (wB xs) n = R := ⟨_, rfl⟩
      have e2 : szW ((xs.drop 0).flatMap wB1) (n - xs.length) = R := by rw [← hR]; show _ = szW (xs.length :: _) n; conv => rhs; unfold szW
                                                                        rw [if_neg hc]; rfl
      refine goh trivial ?_
      refine W_le (σ' := sgSzBs xs (n - xs.length) 0) [] (by
        simp only [go_sem, inj_r, ↓reduceIte, reduceCtorEq, Nat.reduceAdd, Nat.reduceLT, Nat.reduceLeDiff, Nat.reduceEqDiff, Int.reduceEq]
        all_goals (repeat' refine And.intro ?_ ?_) <;> try exact shut7
        ) ?_
      refine W_loop (fun q σ => ∃ (i : Nat) (m : Int), i ≤ xs.length ∧ q = xs.length - i ∧ 0 ≤ m ∧ m ≤ 1048576 ∧ szW ((xs.drop i).flatMap wB1) m = R ∧ σ = sgSzBs xs m i) xs.length ⟨0, _, by omega, by omega, by omega, by omega, e2, rfl⟩ ?_
      rintro q σ ⟨i, m, hi, rfl, hm1, hm2, hs, rfl⟩
      unfold sgSzBs
      refine goh trivial ?_
      refine W_cnd ?_ ?_ <;> (try simp only [cnd_r]) <;> intro hlt
      · have hli : i < xs.length := by omega
        have h5 := h2 i
        rw [drop_flat _ _ _ ET.bset.dflt hli] at hs
        have e3 := szW_app (wB1 (xs.getD i ET.bset.dflt)) ((xs.drop (i + 1)).flatMap wB1) m hm1
        rw [hs] at e3
        have hin := szW_in (wB1 (xs.getD i ET.bset.dflt)) m hm1
        refine goh trivial ?_
        refine W_cnd ?_ ?_ <;> (try simp only [cnd_r]) <;> intro hn
        · rw [if_pos hn] at e3
          refine goh trivial ?_
          exact finh [] (And.intro hR e3)
        · rw [if_neg hn] at e3
          refine goh trivial ?_
          refine ⟨xs.length - (i + 1), [], sgSzBs xs (szW (wB1 (xs.getD i ET.bset.dflt)) m) (i + 1), by omega, ?_, i + 1, _, by omega, rfl, by omega, by omega, e3.symm, rfl⟩
          exact leh trivial
      · rw [List.drop_of_length_le (by omega)] at hs
        refine goh trivial ?_
        exact finh [] (And.intro hR hs)
  · simp [no, ifp] at hp
@[go_sem] def ctSzBook : Ct := ⟨false, [[some .bset]], fun args os => match args, os with
  | [.agg [.isl .bset xs], .one (.val (.int .i64 n))], [] => ifp (inB xs ∧ 0 ≤ n ∧ n ≤ 1048576) (vi (szW (wB xs) n))
  | _, _ => no⟩
theorem s_szBook_e : EnterOk Tryd.prog 13 := ⟨_, Tryd.func13, rfl, by decide⟩
@[go_sem] def s_szBook_lv : List (List Nat) := [[1, 2], [1], [1, 10], [4], [4]]
@[go_sem] noncomputable def s_szBook_K : Known := (Known.nil).cons 27 ctSzBs s_szBs s_szBs_e
set_option maxHeartbeats 8000000 in
theorem s_szBook : Sound Tryd.prog 13 ctSzBook := by
  have ke := s_szBook_K.env []
  have kl : Lives s_szBook_lv := trivial
  refine sound_intro (E := ⟨ti, s_szBook_K.Γ, []⟩) ke Tryd.func13 Tryd.ntmps13 rfl (rs := [.tmp 4]) rfl ?_
  intro args os hp
  unfold ctSzBook at hp ⊢
  dsimp only at hp ⊢
  split at hp
  · rename_i xs n
    refine ⟨by simp, fun φ0 w0 => ?_⟩
    obtain ⟨h1, h3, h4⟩ : inB xs ∧ 0 ≤ n ∧ n ≤ 1048576 := hp
    have hin := szW_in (wB xs) n h3
    refine goh trivial ?_
    refine W_cnd ?_ ?_ <;> (try simp only [cnd_r]) <;> intro hn
    · have ez : szW (wB xs) n = -1 := by omega
      refine goh trivial ?_
      exact finh [] ez
    · refine goh trivial ?_
      exact finh [] trivial
  · simp [no, ifp] at hp
theorem book_small {xs : List BSet} {n : Int} (h : 0 ≤ szW (wB xs) n) : xs.length ≤ n := szW_mem h (by simp [wB])
@[go_sem] def ctToBook : Ct := ⟨false, [[some .bset]], fun args os => match args, os with
  | [.agg [.isl .bset xs]], [] => ⟨xs.length ≤ 4000000, .agg [.osl .bset 0 0 xs.length], [], [.arr .bset xs]⟩
  | _, _ => no⟩
theorem s_toBook_e : EnterOk Tryd.prog 15 := ⟨_, Tryd.func15, rfl, by decide⟩
@[go_sem] def s_toBook_lv : List (List Nat) := [[1, 2], [1, 2, 3], [2, 3], [2]]
@[go_sem] noncomputable def s_toBook_K : Known := (Known.nil).cons 33 ctToBs s_toBs s_toBs_e
set_option maxHeartbeats 8000000 in
theorem s_toBook : Sound Tryd.prog 15 ctToBook := by
  have ke := s_toBook_K.env []
  have kl : Lives s_toBook_lv := trivial
  refine sound_intro (E := ⟨ti, s_toBook_K.Γ, []⟩) ke Tryd.func15 Tryd.ntmps15 rfl (rs := [.cell 2 25]) rfl ?_
  intro args os hp
  unfold ctToBook at hp ⊢
  dsimp only at hp ⊢
  split at hp
  · rename_i xs
    refine ⟨by simp, fun φ0 w0 => ?_⟩
    have hlen : xs.length ≤ 4000000 := hp
    refine goh trivial ?_
    exact finh [some 3] trivial
  · simp [no] at hp
@[go_sem] def ctEqBook : Ct := ⟨false, [[some .bset], [some .bset]], fun args os => match args, os with
  | [.agg [.isl .bset xs], .agg [.isl .bset ys]], [] => ifp (xs = ys ∧ xs.length ≤ 4000000) (vb true)
  | _, _ => no⟩
theorem s_eqBook_e : EnterOk Tryd.prog 17 := ⟨_, Tryd.func17, rfl, by decide⟩
@[go_sem] def s_eqBook_lv : List (List Nat) := [[2, 3], [10], [4], [4]]
@[go_sem] noncomputable def s_eqBook_K : Known := (Known.nil).cons 39 ctEqBs s_eqBs s_eqBs_e
set_option maxHeartbeats 8000000 in
theorem s_eqBook : Sound Tryd.prog 17 ctEqBook := by
  have ke := s_eqBook_K.env []
  have kl : Lives s_eqBook_lv := trivial
  refine sound_intro (E := ⟨ti, s_eqBook_K.Γ, []⟩) ke Tryd.func17 Tryd.ntmps17 rfl (rs := [.tmp 4]) rfl ?_
  intro args os hp
  unfold ctEqBook at hp ⊢
  dsimp only at hp ⊢
  split at hp
  · rename_i xs ys
    refine ⟨by simp, fun φ0 w0 => ?_⟩
    obtain ⟨rfl, hlen⟩ : xs = ys ∧ xs.length ≤ 4000000 := hp
    refine goh trivial ?_
    refine W_cnd ?_ ?_ <;> intro hlit <;> try (cases hlit; done)
    refine goh trivial ?_
    exact finh [] trivial
  · simp [no, ifp] at hp
def markB1 (b : Int) : BSet := ⟨markT b, b + 1, markT (b + 2), ⟨markT (b + 3), markT (b + 4), markT (b + 5), markT (b + 6), markT (b + 7), markT (b + 8), markT (b + 9), markT (b + 10)⟩⟩
def markB (n : Nat) (k : Int) : List BSet := (List.range n).map fun i : Nat => markB1 (k + 11 * (i : Int))
theorem markB_len (n : Nat) (k : Int) : (markB n k).length = n := by simp [markB]
theorem markB_get {n : Nat} {k : Int} {i : Nat} (h : i < n) (d : BSet) : (markB n k).getD i d = markB1 (k + 11 * i) := by simp [markB, h]
/-- A set of which the first three fields and j blocks are marked. -/
@[go_sem] def bpart (b : Int) (x : BSet) (j : Nat) : BSet := ⟨markT b, b + 1, markT (b + 2), ⟨if 0 < j then markT (b + 3) else x.blocks.x0, if 1 < j then markT (b + 4) else x.blocks.x1, if 2 < j then markT (b + 5) else x.blocks.x2, if 3 < j then markT (b + 6) else x.blocks.x3, if 4 < j then markT (b + 7) else x.blocks.x4, if 5 < j then markT (b + 8) else x.blocks.x5, if 6 < j then markT (b + 9) else x.blocks.x6, if 7 < j then markT (b + 10) else x.blocks.x7⟩⟩
@[go_sem] def ctMarkBs : Ct := ⟨true, [], fun args os => match args, os with
  | [.one (.osl .bset 0 0 n), .one (.val (.int .i64 k))], [.arr .bset xs] => ⟨n = xs.length ∧ xs.length ≤ 4000000 ∧ 0 ≤ k ∧ k ≤ 1000000000, vi (k + 11 * xs.length), [(0, some (.arr .bset (markB xs.length k)))], []⟩
  | _, _ => no⟩
@[go_sem] def sgMarkBs (xs : List BSet) (k : Int) (i : Nat) : Sg := ⟨[(0, .one (.osl .bset 0 0 xs.length)), (1, vi (k + 11 * i)), (5, vi i)], [some (.arr .bset (mix (markB xs.length k) xs i))], [0]⟩
@[go_sem] def sgMarkBj (xs ys : List BSet) (b : Int) (x : BSet) (i j : Nat) : Sg := ⟨[(0, .one (.osl .bset 0 0 xs.length)), (1, vi (b + 3 + j)), (5, vi i), (6, vi j)], [some (.arr .bset (ys.set i (bpart b x j)))], [0]⟩
@[go_sem] def ctMarkBook : Ct := ⟨true, [], fun args os => match args, os with
  | [.agg [.osl .bset 0 0 n], .one (.val (.int .i64 k))], [.arr .bset xs] => ⟨n = xs.length ∧ xs.length ≤ 4000000 ∧ 0 ≤ k ∧ k ≤ 1000000000, vi (k + 11 * xs.length), [(0, some (.arr .bset (markB xs.length k)))], []⟩
  | _, _ => no⟩
end Go.Proofs.YtjedcphhajlnoaaDoor
/-
  DERIVED: THE SHELF's CONTRACTS AT THIS DUMP, IN PLAIN WORDS (tools/lay-plain.mjs out of 'YtjedcphhajlnoaaDoorTSh3Q.lean', which tools/lay-shelf.mjs wrote): THE SAME DECLARATIONS UNDER THE SAME NAMES: 'import', 'namespace', 'open', 'def', 'theorem' AND NOTHING ELSE: no command of the shelf's: FOR A HAND-IN. Each laying: the table of numbers ('.._ren') and one theorem, a field a fact of the dump's own or the kernel's comparison; each contract: ONE APPLICATION.
-/
namespace Go.Proofs
open Go.Shelf
def Tryd.lays171_ren : Go.Shelf.Ren := ⟨fun | 171 => 36 | 243 => 58 | 246 => 72 | 283 => 85 | 284 => 86 | 285 => 87 | 286 => 88 | 129 => 99 | 317 => 98 | 318 => 100 | 319 => 101 | 320 => 102 | 337 => 106 | 338 => 107 | n => n, fun | 3 => 3 | 9 => 9 | 2 => 2 | 4 => 4 | 171 => 105 | 0 => 0 | 53 => 106 | 37 => 22 | 5 => 5 | 173 => 109 | 212 => 121 | 51 => 122 | 20 => 20 | 213 => 123 | 46 => 77 | 232 => 134 | 233 => 135 | n => n, fun | 17 => 1 | 18 => 4 | 19 => 5 | n => n⟩
theorem Tryd.lays171 : Go.Proofs.LaysM.n171 Tryd.prog Tryd.lays171_ren := {
  mixed := by kernel_rfl
  f129 := Tryd.func99.trans (congrArg some (by kernel_rfl))
  f171 := Tryd.func36.trans (congrArg some (by kernel_rfl))
  f243 := Tryd.func58.trans (congrArg some (by kernel_rfl))
  f246 := Tryd.func72.trans (congrArg some (by kernel_rfl))
  f283 := Tryd.func85.trans (congrArg some (by kernel_rfl))
  f284 := Tryd.func86.trans (congrArg some (by kernel_rfl))
  f285 := Tryd.func87.trans (congrArg some (by kernel_rfl))
  f286 := Tryd.func88.trans (congrArg some (by kernel_rfl))
  f317 := Tryd.func98.trans (congrArg some (by kernel_rfl))
  f318 := Tryd.func100.trans (congrArg some (by kernel_rfl))
  f319 := Tryd.func101.trans (congrArg some (by kernel_rfl))
  f320 := Tryd.func102.trans (congrArg some (by kernel_rfl))
  f337 := Tryd.func106.trans (congrArg some (by kernel_rfl))
  f338 := Tryd.func107.trans (congrArg some (by kernel_rfl))
  t0 := Tryd.underlying0
  a0 := Tryd.isAgg0
  z0 := Tryd.sizeOf0
  v0 := Tryd.zeroValue0
  t2 := Tryd.underlying2
  a2 := Tryd.isAgg2
  z2 := Tryd.sizeOf2
  v2 := Tryd.zeroValue2
  t3 := Tryd.underlying3
  a3 := Tryd.isAgg3
  z3 := Tryd.sizeOf3
  v3 := Tryd.zeroValue3
  t4 := Tryd.underlying4
  a4 := Tryd.isAgg4
  z4 := Tryd.sizeOf4
  v4 := Tryd.zeroValue4
  t5 := Tryd.underlying5
  a5 := Tryd.isAgg5
  z5 := Tryd.sizeOf5
  v5 := Tryd.zeroValue5
  t9 := Tryd.underlying9
  a9 := Tryd.isAgg9
  z9 := Tryd.sizeOf9
  v9 := Tryd.zeroValue9
  t20 := Tryd.underlying20
  a20 := Tryd.isAgg20
  z20 := Tryd.sizeOf20
  v20 := Tryd.zeroValue20
  t37 := Tryd.underlying22
  a37 := Tryd.isAgg22
  z37 := Tryd.sizeOf22
  v37 := Tryd.zeroValue22
  t46 := Tryd.underlying77
  a46 := Tryd.isAgg77
  z46 := Tryd.sizeOf77
  v46 := Tryd.zeroValue77
  t51 := Tryd.underlying122
  a51 := Tryd.isAgg122
  z51 := Tryd.sizeOf122
  v51 := Tryd.zeroValue122
  t53 := Tryd.underlying106
  a53 := Tryd.isAgg106
  z53 := Tryd.sizeOf106
  v53 := Tryd.zeroValue106
  t171 := Tryd.underlying105
  a171 := Tryd.isAgg105
  z171 := Tryd.sizeOf105
  v171 := Tryd.zeroValue105
  t173 := Tryd.underlying109
  a173 := Tryd.isAgg109
  z173 := Tryd.sizeOf109
  v173 := Tryd.zeroValue109
  t212 := Tryd.underlying121
  a212 := Tryd.isAgg121
  z212 := Tryd.sizeOf121
  v212 := Tryd.zeroValue121
  t213 := Tryd.underlying123
  a213 := Tryd.isAgg123
  z213 := Tryd.sizeOf123
  t232 := Tryd.underlying134
  a232 := Tryd.isAgg134
  z232 := Tryd.sizeOf134
  v232 := Tryd.zeroValue134
  t233 := Tryd.underlying135
  a233 := Tryd.isAgg135
  z233 := Tryd.sizeOf135
  v233 := Tryd.zeroValue135
  g17 := by kernel_rfl
  g18 := by kernel_rfl
  g19 := by kernel_rfl
  i0 := by kernel_rfl
  i2 := by kernel_rfl
  i3 := by kernel_rfl
  i4 := by kernel_rfl
  i5 := by kernel_rfl
  i9 := by kernel_rfl
  i20 := by kernel_rfl
  i37 := by kernel_rfl
  i46 := by kernel_rfl
  i51 := by kernel_rfl
  i53 := by kernel_rfl
  i171 := by kernel_rfl
  i173 := by kernel_rfl
  i212 := by kernel_rfl
  i232 := by kernel_rfl
  i233 := by kernel_rfl
  m17 := by kernel_rfl
  m18 := by kernel_rfl
  m19 := by kernel_rfl }
end Go.Proofs
