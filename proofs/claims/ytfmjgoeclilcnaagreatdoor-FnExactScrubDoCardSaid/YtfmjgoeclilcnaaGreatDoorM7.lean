import Derived.Sort.Walk0
import Derived.Test.YtfmjgoeclilcnaaGreatDoorM5
import Derived.Test.YtfmjgoeclilcnaaGreatDoorM6
set_option linter.unusedSimpArgs false
set_option linter.unusedVariables false
set_option linter.unusedSectionVars false
namespace Go.Proofs.YtfmjgoeclilcnaaGreatDoor
open Go.RowKit
theorem plain_val : ∀ {cs : List TC} {vs : List Value}, plain cs = some vs → cs = vs.map .val
 | [], vs, h => by simp [plain] at h; subst h; rfl
 | c :: cs, vs, h => by
   unfold plain at h
   split at h
   ·rename_i v us h1 h2
    simp only [Option.some.injEq] at h
    subst h
    rw [plain_val h2]
    cases c <;> simp [tcv] at h1
    subst h1; rfl
   ·cases h
theorem kInt {ks : List TK} {vs : List Value} (h : kindsOk (.int .i64 :: ks) vs = true) : ∃ n r, vs = .int .i64 n :: r ∧ kindsOk ks r = true := by
 cases vs with
 | nil => simp [kindsOk] at h
 | cons v r => cases v with
   | int k n => cases k <;> simp [kindsOk] at h; exact ⟨n, r, rfl, h⟩
   | _ => simp [kindsOk] at h
theorem kStr {ks : List TK} {vs : List Value} (h : kindsOk (.str :: ks) vs = true) : ∃ n r, vs = .string n :: r ∧ kindsOk ks r = true := by
 cases vs with
 | nil => simp [kindsOk] at h
 | cons v r => cases v <;> simp [kindsOk] at h; exact ⟨_, r, rfl, h⟩
theorem kBool {ks : List TK} {vs : List Value} (h : kindsOk (.bool :: ks) vs = true) : ∃ n r, vs = .bool n :: r ∧ kindsOk ks r = true := by
 cases vs with
 | nil => simp [kindsOk] at h
 | cons v r => cases v <;> simp [kindsOk] at h; exact ⟨_, r, rfl, h⟩
theorem kNil {vs : List Value} (h : kindsOk [] vs = true) : vs = [] := by
 cases vs with
 | nil => rfl
 | cons v r => simp [kindsOk] at h
@[go_sem] def P8.cells (x : Eight Ptr) : List Value := [.int .i64 x.x0.at_, .int .i64 x.x0.sum, .int .i64 x.x0.birth, .int .i64 x.x1.at_, .int .i64 x.x1.sum, .int .i64 x.x1.birth, .int .i64 x.x2.at_, .int .i64 x.x2.sum, .int .i64 x.x2.birth, .int .i64 x.x3.at_, .int .i64 x.x3.sum, .int .i64 x.x3.birth, .int .i64 x.x4.at_, .int .i64 x.x4.sum, .int .i64 x.x4.birth, .int .i64 x.x5.at_, .int .i64 x.x5.sum, .int .i64 x.x5.birth, .int .i64 x.x6.at_, .int .i64 x.x6.sum, .int .i64 x.x6.birth, .int .i64 x.x7.at_, .int .i64 x.x7.sum, .int .i64 x.x7.birth]
@[go_sem] def P8.ofCells (cs : List Value) : Eight Ptr := ⟨⟨Value.num (cell cs 0), Value.num (cell cs 1), Value.num (cell cs 2)⟩, ⟨Value.num (cell cs 3), Value.num (cell cs 4), Value.num (cell cs 5)⟩, ⟨Value.num (cell cs 6), Value.num (cell cs 7), Value.num (cell cs 8)⟩, ⟨Value.num (cell cs 9), Value.num (cell cs 10), Value.num (cell cs 11)⟩, ⟨Value.num (cell cs 12), Value.num (cell cs 13), Value.num (cell cs 14)⟩, ⟨Value.num (cell cs 15), Value.num (cell cs 16), Value.num (cell cs 17)⟩, ⟨Value.num (cell cs 18), Value.num (cell cs 19), Value.num (cell cs 20)⟩, ⟨Value.num (cell cs 21), Value.num (cell cs 22), Value.num (cell cs 23)⟩⟩
@[go_sem] theorem p8_eta (x : Eight Ptr) : (⟨⟨x.x0.at_, x.x0.sum, x.x0.birth⟩, ⟨x.x1.at_, x.x1.sum, x.x1.birth⟩, ⟨x.x2.at_, x.x2.sum, x.x2.birth⟩, ⟨x.x3.at_, x.x3.sum, x.x3.birth⟩, ⟨x.x4.at_, x.x4.sum, x.x4.birth⟩, ⟨x.x5.at_, x.x5.sum, x.x5.birth⟩, ⟨x.x6.at_, x.x6.sum, x.x6.birth⟩, ⟨x.x7.at_, x.x7.sum, x.x7.birth⟩⟩ : Eight Ptr) = x := rfl
@[go_sem] theorem cset_eta (x : CSet) : (⟨x.name, x.kind, x.from_, ⟨⟨x.map.x0.at_, x.map.x0.sum, x.map.x0.birth⟩, ⟨x.map.x1.at_, x.map.x1.sum, x.map.x1.birth⟩, ⟨x.map.x2.at_, x.map.x2.sum, x.map.x2.birth⟩, ⟨x.map.x3.at_, x.map.x3.sum, x.map.x3.birth⟩, ⟨x.map.x4.at_, x.map.x4.sum, x.map.x4.birth⟩, ⟨x.map.x5.at_, x.map.x5.sum, x.map.x5.birth⟩, ⟨x.map.x6.at_, x.map.x6.sum, x.map.x6.birth⟩, ⟨x.map.x7.at_, x.map.x7.sum, x.map.x7.birth⟩⟩, ⟨x.home.at_, x.home.sum, x.home.birth⟩, x.dirty⟩ : CSet) = x := rfl
@[go_sem] theorem cset_eta2 (x : CSet) : (⟨x.name, x.kind, x.from_, x.map, ⟨x.home.at_, x.home.sum, x.home.birth⟩, x.dirty⟩ : CSet) = x := rfl
@[go_sem] def p8Of (cs : List TC) : Option (Eight Ptr) := match plain cs with
  | some vs => if kindsOk [.int .i64, .int .i64, .int .i64, .int .i64, .int .i64, .int .i64, .int .i64, .int .i64, .int .i64, .int .i64, .int .i64, .int .i64, .int .i64, .int .i64, .int .i64, .int .i64, .int .i64, .int .i64, .int .i64, .int .i64, .int .i64, .int .i64, .int .i64, .int .i64] vs = true then some (P8.ofCells vs) else none
  | none => none
theorem p8_cells {vs : List Value} (h : kindsOk [.int .i64, .int .i64, .int .i64, .int .i64, .int .i64, .int .i64, .int .i64, .int .i64, .int .i64, .int .i64, .int .i64, .int .i64, .int .i64, .int .i64, .int .i64, .int .i64, .int .i64, .int .i64, .int .i64, .int .i64, .int .i64, .int .i64, .int .i64, .int .i64] vs = true) : P8.cells (P8.ofCells vs) = vs := by
 obtain ⟨a0, r0, rfl, h0⟩ := kInt h
 obtain ⟨a1, r1, rfl, h1⟩ := kInt h0
 obtain ⟨a2, r2, rfl, h2⟩ := kInt h1
 obtain ⟨a3, r3, rfl, h3⟩ := kInt h2
 obtain ⟨a4, r4, rfl, h4⟩ := kInt h3
 obtain ⟨a5, r5, rfl, h5⟩ := kInt h4
 obtain ⟨a6, r6, rfl, h6⟩ := kInt h5
 obtain ⟨a7, r7, rfl, h7⟩ := kInt h6
 obtain ⟨a8, r8, rfl, h8⟩ := kInt h7
 obtain ⟨a9, r9, rfl, h9⟩ := kInt h8
 obtain ⟨a10, r10, rfl, h10⟩ := kInt h9
 obtain ⟨a11, r11, rfl, h11⟩ := kInt h10
 obtain ⟨a12, r12, rfl, h12⟩ := kInt h11
 obtain ⟨a13, r13, rfl, h13⟩ := kInt h12
 obtain ⟨a14, r14, rfl, h14⟩ := kInt h13
 obtain ⟨a15, r15, rfl, h15⟩ := kInt h14
 obtain ⟨a16, r16, rfl, h16⟩ := kInt h15
 obtain ⟨a17, r17, rfl, h17⟩ := kInt h16
 obtain ⟨a18, r18, rfl, h18⟩ := kInt h17
 obtain ⟨a19, r19, rfl, h19⟩ := kInt h18
 obtain ⟨a20, r20, rfl, h20⟩ := kInt h19
 obtain ⟨a21, r21, rfl, h21⟩ := kInt h20
 obtain ⟨a22, r22, rfl, h22⟩ := kInt h21
 obtain ⟨a23, r23, rfl, h23⟩ := kInt h22
 obtain rfl := kNil h23
 rfl
theorem p8Of_some {cs : List TC} {x : Eight Ptr} (h : p8Of cs = some x) : cs = (P8.cells x).map .val := by
 unfold p8Of at h
 split at h
 ·rename_i vs hv
  split at h
  ·rename_i hk
   simp only [Option.some.injEq] at h
   subst h
   rw [p8_cells hk]
   exact plain_val hv
  ·cases h
 ·cases h
@[go_sem] def csetOf (cs : List TC) : Option (CSet) := match plain cs with
  | some vs => if kindsOk [.str, .int .i64, .str, .int .i64, .int .i64, .int .i64, .int .i64, .int .i64, .int .i64, .int .i64, .int .i64, .int .i64, .int .i64, .int .i64, .int .i64, .int .i64, .int .i64, .int .i64, .int .i64, .int .i64, .int .i64, .int .i64, .int .i64, .int .i64, .int .i64, .int .i64, .int .i64, .int .i64, .int .i64, .int .i64, .bool] vs = true then some (ET.cset.ofCells vs) else none
  | none => none
theorem cset_cells {vs : List Value} (h : kindsOk [.str, .int .i64, .str, .int .i64, .int .i64, .int .i64, .int .i64, .int .i64, .int .i64, .int .i64, .int .i64, .int .i64, .int .i64, .int .i64, .int .i64, .int .i64, .int .i64, .int .i64, .int .i64, .int .i64, .int .i64, .int .i64, .int .i64, .int .i64, .int .i64, .int .i64, .int .i64, .int .i64, .int .i64, .int .i64, .bool] vs = true) : ET.cset.cells (ET.cset.ofCells vs) = vs := by
 obtain ⟨a0, r0, rfl, h0⟩ := kStr h
 obtain ⟨a1, r1, rfl, h1⟩ := kInt h0
 obtain ⟨a2, r2, rfl, h2⟩ := kStr h1
 obtain ⟨a3, r3, rfl, h3⟩ := kInt h2
 obtain ⟨a4, r4, rfl, h4⟩ := kInt h3
 obtain ⟨a5, r5, rfl, h5⟩ := kInt h4
 obtain ⟨a6, r6, rfl, h6⟩ := kInt h5
 obtain ⟨a7, r7, rfl, h7⟩ := kInt h6
 obtain ⟨a8, r8, rfl, h8⟩ := kInt h7
 obtain ⟨a9, r9, rfl, h9⟩ := kInt h8
 obtain ⟨a10, r10, rfl, h10⟩ := kInt h9
 obtain ⟨a11, r11, rfl, h11⟩ := kInt h10
 obtain ⟨a12, r12, rfl, h12⟩ := kInt h11
 obtain ⟨a13, r13, rfl, h13⟩ := kInt h12
 obtain ⟨a14, r14, rfl, h14⟩ := kInt h13
 obtain ⟨a15, r15, rfl, h15⟩ := kInt h14
 obtain ⟨a16, r16, rfl, h16⟩ := kInt h15
 obtain ⟨a17, r17, rfl, h17⟩ := kInt h16
 obtain ⟨a18, r18, rfl, h18⟩ := kInt h17
 obtain ⟨a19, r19, rfl, h19⟩ := kInt h18
 obtain ⟨a20, r20, rfl, h20⟩ := kInt h19
 obtain ⟨a21, r21, rfl, h21⟩ := kInt h20
 obtain ⟨a22, r22, rfl, h22⟩ := kInt h21
 obtain ⟨a23, r23, rfl, h23⟩ := kInt h22
 obtain ⟨a24, r24, rfl, h24⟩ := kInt h23
 obtain ⟨a25, r25, rfl, h25⟩ := kInt h24
 obtain ⟨a26, r26, rfl, h26⟩ := kInt h25
 obtain ⟨a27, r27, rfl, h27⟩ := kInt h26
 obtain ⟨a28, r28, rfl, h28⟩ := kInt h27
 obtain ⟨a29, r29, rfl, h29⟩ := kInt h28
 obtain ⟨a30, r30, rfl, h30⟩ := kBool h29
 obtain rfl := kNil h30
 rfl
theorem csetOf_some {cs : List TC} {x : CSet} (h : csetOf cs = some x) : cs = (ET.cset.cells x).map .val := by
 unfold csetOf at h
 split at h
 ·rename_i vs hv
  split at h
  ·rename_i hk
   simp only [Option.some.injEq] at h
   subst h
   rw [cset_cells hk]
   exact plain_val hv
  ·cases h
 ·cases h
@[go_sem] def p8mix (x : Eight Ptr) (i : Nat) : List TC := ((P8.cells x).map .val).take (3 * i) ++ ((P8.cells (Eight.rep Ptr.zero)).map .val).drop (3 * i)
attribute [go_sem] Eight.rep Ptr.zero
@[go_sem] def ctToP8 : Ct := ⟨false, [], fun args os => match args, os with
  | [.agg cs], [] => (match p8Of cs with | some x => is (.agg ((P8.cells x).map .val)) | none => no)
  | _, _ => no⟩
@[go_sem] def sgP8 (x : Eight Ptr) (i : Nat) : Sg := ⟨[(1, .one (.ptr 0 0)), (2, .one (.ptr 1 0)), (3, .one (.ptr 2 0)), (4, vi i)], [some (.cells ((P8.cells x).map .val)), some (.cells ((P8.cells (Eight.rep Ptr.zero)).map .val)), some (.cells (p8mix x i))], []⟩
theorem s_toP8_e : EnterOk Tryz.prog 206 := ⟨_, Tryz.func206, rfl, by decide⟩
@[go_sem] def s_toP8_lv : List (List Nat) := [[1, 2], [1, 2, 3], [1, 2, 3, 4], [1, 2, 3, 4, 6], [1, 2, 3, 4], [1, 2, 3, 4], [2]]
@[go_sem] noncomputable def s_toP8_K : Known := (Known.nil).cons 162 ctToPtr s_toPtr s_toPtr_e
set_option maxHeartbeats 8000000 in
theorem s_toP8 : Sound Tryz.prog 206 ctToP8 := by
 have ke := s_toP8_K.env []
 have kl : Lives s_toP8_lv := trivial
 refine sound_intro (E := ⟨ti, s_toP8_K.Γ, []⟩) ke Tryz.func206 Tryz.ntmps206 rfl (rs := [.cell 2 91]) rfl ?_
 intro args os hp
 unfold ctToP8 at hp ⊢
 dsimp only at hp ⊢
 split at hp
 ·rename_i cs
  split at hp
  ·rename_i x hx
   obtain rfl := p8Of_some hx
   clear hx hp
   refine ⟨by simp, fun φ0 w0 => ?_⟩
   refine goh trivial ?_
   refine W_le (σ' := sgP8 x 0) [some 0, some 1, some 2] (by
    simp only [go_sem, Nat.reduceMul, inj_r, ↓reduceIte, reduceCtorEq, Nat.reduceAdd, Nat.reduceLT, Nat.reduceLeDiff, Nat.reduceEqDiff, Int.reduceEq]
    all_goals (repeat' refine And.intro ?_ ?_) <;> try exact shut7
    ) ?_
   refine W_loop (fun q σ => ∃ i : Nat, i ≤ 8 ∧ q = 8 - i ∧ σ = sgP8 x i) 8 ⟨0, by omega, by omega, rfl⟩ ?_
   rintro q σ ⟨i, hi, rfl, rfl⟩
   unfold sgP8
   rcases (show i = 0 ∨ i = 1 ∨ i = 2 ∨ i = 3 ∨ i = 4 ∨ i = 5 ∨ i = 6 ∨ i = 7 ∨ i = 8 by omega) with hc | hc | hc | hc | hc | hc | hc | hc | hc
   all_goals try (
    refine goh hc ?_
    refine W_cnd ?_ ?_ <;> intro hlit <;> try (cases hlit; done)
    refine goh hc ?_
    refine ⟨8 - (i + 1), [some 0, some 1, some 2], sgP8 x (i + 1), by omega, ?_, i + 1, by omega, rfl, rfl⟩
    simp only [go_sem, hc, Nat.reduceMul, inj_r, ↓reduceIte, reduceCtorEq, Nat.reduceAdd, Nat.reduceLT, Nat.reduceLeDiff, Nat.reduceEqDiff, Int.reduceEq]
    all_goals (repeat' refine And.intro ?_ ?_) <;> try exact shut7
    done)
   refine goh hc ?_
   refine W_cnd ?_ ?_ <;> intro hlit <;> try (cases hlit; done)
   refine goh hc ?_
   exact finh [] trivial
  ·simp [no] at hp
 ·simp [no] at hp
@[go_sem] def ctToCset : Ct := ⟨false, [], fun args os => match args, os with
  | [.agg cs], [] => (match csetOf cs with | some x => is (.agg ((ET.cset.cells x).map .val)) | none => no)
  | _, _ => no⟩
theorem s_toCset_e : EnterOk Tryz.prog 160 := ⟨_, Tryz.func160, rfl, by decide⟩
@[go_sem] def s_toCset_lv : List (List Nat) := [[1, 2], [1, 2, 3], [1, 2, 3], [1, 2, 3], [1, 2, 3], [1, 2, 3], [1, 2, 3], [2, 3], [2]]
@[go_sem] noncomputable def s_toCset_K : Known := ((Known.nil).cons 206 ctToP8 s_toP8 s_toP8_e).cons 162 ctToPtr s_toPtr s_toPtr_e
set_option maxHeartbeats 8000000 in
theorem s_toCset : Sound Tryz.prog 160 ctToCset := by
 have ke := s_toCset_K.env []
 have kl : Lives s_toCset_lv := trivial
 refine sound_intro (E := ⟨ti, s_toCset_K.Γ, []⟩) ke Tryz.func160 Tryz.ntmps160 rfl (rs := [.cell 2 93]) rfl ?_
 intro args os hp
 unfold ctToCset at hp ⊢
 dsimp only at hp ⊢
 split at hp
 ·rename_i cs
  split at hp
  ·rename_i x hx
   obtain rfl := csetOf_some hx
   clear hx hp
   refine ⟨by simp, fun φ0 w0 => ?_⟩
   refine goh trivial ?_
   exact finh [] trivial
  ·simp [no] at hp
 ·simp [no] at hp
theorem s_toEnt_e : EnterOk Tryz.prog 161 := ⟨_, Tryz.func161, rfl, by decide⟩
@[go_sem] def s_toEnt_lv : List (List Nat) := [[1, 2], [1, 2, 3], [1, 2, 3], [1, 2, 3], [2, 3], [2]]
@[go_sem] noncomputable def s_toEnt_K : Known := Known.nil
set_option maxHeartbeats 8000000 in
theorem s_toEnt : Sound Tryz.prog 161 ctToPtr := by
 have ke := s_toEnt_K.env []
 have kl : Lives s_toEnt_lv := trivial
 refine sound_intro (E := ⟨ti, s_toEnt_K.Γ, []⟩) ke Tryz.func161 Tryz.ntmps161 rfl (rs := [.cell 2 151]) rfl ?_
 intro args os hp
 unfold ctToPtr at hp ⊢
 dsimp only at hp ⊢
 split at hp
 ·rename_i x y z
  refine ⟨by simp, fun φ0 w0 => ?_⟩
  refine goh trivial ?_
  exact finh [] trivial
 ·simp [no, is] at hp
@[go_sem] def ctEqPtr : Ct := ⟨false, [], fun args os => match args, os with
  | [.agg [.val (.int .i64 x), .val (.int .i64 y), .val (.int .i64 z)], .agg [.val (.int .i64 x'), .val (.int .i64 y'), .val (.int .i64 z')]], [] => ifp (x = x' ∧ y = y' ∧ z = z') (vb true)
  | _, _ => no⟩
theorem s_eqPtr_e : EnterOk Tryz.prog 79 := ⟨_, Tryz.func79, rfl, by decide⟩
@[go_sem] def s_eqPtr_lv : List (List Nat) := [[2, 3], [2, 3, 9], [4], [2, 3, 14], [4], [19], [4], [4]]
@[go_sem] noncomputable def s_eqPtr_K : Known := Known.nil
set_option maxHeartbeats 8000000 in
theorem s_eqPtr : Sound Tryz.prog 79 ctEqPtr := by
 have ke := s_eqPtr_K.env []
 have kl : Lives s_eqPtr_lv := trivial
 refine sound_intro (E := ⟨ti, s_eqPtr_K.Γ, []⟩) ke Tryz.func79 Tryz.ntmps79 rfl (rs := [.tmp 4]) rfl ?_
 intro args os hp
 unfold ctEqPtr at hp ⊢
 dsimp only at hp ⊢
 split at hp
 ·rename_i x y z x' y' z'
  refine ⟨by simp, fun φ0 w0 => ?_⟩
  obtain ⟨rfl, rfl, rfl⟩ : x = x' ∧ y = y' ∧ z = z' := hp
  refine goh trivial ?_
  refine W_cnd ?_ ?_ <;> intro hlit <;> try (cases hlit; done)
  refine goh trivial ?_
  refine W_cnd ?_ ?_ <;> intro hlit <;> try (cases hlit; done)
  refine goh trivial ?_
  refine W_cnd ?_ ?_ <;> intro hlit <;> try (cases hlit; done)
  refine goh trivial ?_
  exact finh [] trivial
 ·simp [no, ifp] at hp
theorem s_eqEnt_e : EnterOk Tryz.prog 153 := ⟨_, Tryz.func153, rfl, by decide⟩
@[go_sem] def s_eqEnt_lv : List (List Nat) := [[2, 3], [2, 3, 9], [4], [2, 3, 14], [4], [19], [4], [4]]
@[go_sem] noncomputable def s_eqEnt_K : Known := Known.nil
set_option maxHeartbeats 8000000 in
theorem s_eqEnt : Sound Tryz.prog 153 ctEqPtr := by
 have ke := s_eqEnt_K.env []
 have kl : Lives s_eqEnt_lv := trivial
 refine sound_intro (E := ⟨ti, s_eqEnt_K.Γ, []⟩) ke Tryz.func153 Tryz.ntmps153 rfl (rs := [.tmp 4]) rfl ?_
 intro args os hp
 unfold ctEqPtr at hp ⊢
 dsimp only at hp ⊢
 split at hp
 ·rename_i x y z x' y' z'
  refine ⟨by simp, fun φ0 w0 => ?_⟩
  obtain ⟨rfl, rfl, rfl⟩ : x = x' ∧ y = y' ∧ z = z' := hp
  refine goh trivial ?_
  refine W_cnd ?_ ?_ <;> intro hlit <;> try (cases hlit; done)
  refine goh trivial ?_
  refine W_cnd ?_ ?_ <;> intro hlit <;> try (cases hlit; done)
  refine goh trivial ?_
  refine W_cnd ?_ ?_ <;> intro hlit <;> try (cases hlit; done)
  refine goh trivial ?_
  exact finh [] trivial
 ·simp [no, ifp] at hp
@[go_sem] def ctEqP8 : Ct := ⟨false, [], fun args os => match args, os with
  | [.agg cs, .agg ds], [] => (match p8Of cs, p8Of ds with | some x, some y => ifp (x = y) (vb true) | _, _ => no)
  | _, _ => no⟩
@[go_sem] def sgQ8 (x : Eight Ptr) (i : Nat) : Sg := ⟨[(2, .one (.ptr 0 0)), (3, .one (.ptr 1 0)), (5, vi i)], [some (.cells ((P8.cells x).map .val)), some (.cells ((P8.cells x).map .val))], []⟩
theorem s_eqP8_e : EnterOk Tryz.prog 205 := ⟨_, Tryz.func205, rfl, by decide⟩
@[go_sem] def s_eqP8_lv : List (List Nat) := [[2, 3], [2, 3, 5], [2, 3, 5, 7], [2, 3, 5], [2, 3, 5, 17], [4], [4]]
@[go_sem] noncomputable def s_eqP8_K : Known := (Known.nil).cons 79 ctEqPtr s_eqPtr s_eqPtr_e
set_option maxHeartbeats 8000000 in
theorem s_eqP8 : Sound Tryz.prog 205 ctEqP8 := by
 have ke := s_eqP8_K.env []
 have kl : Lives s_eqP8_lv := trivial
 refine sound_intro (E := ⟨ti, s_eqP8_K.Γ, []⟩) ke Tryz.func205 Tryz.ntmps205 rfl (rs := [.tmp 4]) rfl ?_
 intro args os hp
 unfold ctEqP8 at hp ⊢
 dsimp only at hp ⊢
 split at hp
 ·rename_i cs ds
  split at hp
  ·rename_i x y hx hy
   obtain rfl := p8Of_some hx
   obtain rfl := p8Of_some hy
   obtain rfl : x = y := hp
   clear hx hy
   refine ⟨by simp, fun φ0 w0 => ?_⟩
   refine goh trivial ?_
   refine W_le (σ' := sgQ8 x 0) [some 0, some 1] (by
    simp only [go_sem, inj_r, ↓reduceIte, reduceCtorEq, Nat.reduceAdd, Nat.reduceLT, Nat.reduceLeDiff, Nat.reduceEqDiff, Int.reduceEq]
    all_goals (repeat' refine And.intro ?_ ?_) <;> try exact shut7
    ) ?_
   refine W_loop (fun q σ => ∃ i : Nat, i ≤ 8 ∧ q = 8 - i ∧ σ = sgQ8 x i) 8 ⟨0, by omega, by omega, rfl⟩ ?_
   rintro q σ ⟨i, hi, rfl, rfl⟩
   unfold sgQ8
   rcases (show i = 0 ∨ i = 1 ∨ i = 2 ∨ i = 3 ∨ i = 4 ∨ i = 5 ∨ i = 6 ∨ i = 7 ∨ i = 8 by omega) with hc | hc | hc | hc | hc | hc | hc | hc | hc
   all_goals try (
    refine goh hc ?_
    refine W_cnd ?_ ?_ <;> intro hlit <;> try (cases hlit; done)
    refine goh hc ?_
    refine W_cnd ?_ ?_ <;> intro hlit <;> try (cases hlit; done)
    refine goh hc ?_
    refine ⟨8 - (i + 1), [some 0, some 1], sgQ8 x (i + 1), by omega, ?_, i + 1, by omega, rfl, rfl⟩
    simp only [go_sem, hc, inj_r, ↓reduceIte, reduceCtorEq, Nat.reduceAdd, Nat.reduceLT, Nat.reduceLeDiff, Nat.reduceEqDiff, Int.reduceEq]
    all_goals (repeat' refine And.intro ?_ ?_) <;> try exact shut7
    done)
   refine goh hc ?_
   refine W_cnd ?_ ?_ <;> intro hlit <;> try (cases hlit; done)
   refine goh hc ?_
   exact finh [] trivial
  ·simp [no] at hp
 ·simp [no] at hp
@[go_sem] def ctEqCset : Ct := ⟨false, [], fun args os => match args, os with
  | [.agg cs, .agg ds], [] => (match csetOf cs, csetOf ds with | some x, some y => ifp (x = y) (vb true) | _, _ => no)
  | _, _ => no⟩
theorem s_eqCset_e : EnterOk Tryz.prog 152 := ⟨_, Tryz.func152, rfl, by decide⟩
@[go_sem] def s_eqCset_lv : List (List Nat) := [[2, 3], [2, 3, 9], [4], [2, 3, 14], [4], [2, 3, 19], [4], [2, 3, 25], [4], [2, 3, 31], [4], [36], [4], [4]]
@[go_sem] noncomputable def s_eqCset_K : Known := ((Known.nil).cons 205 ctEqP8 s_eqP8 s_eqP8_e).cons 79 ctEqPtr s_eqPtr s_eqPtr_e
set_option maxHeartbeats 8000000 in
theorem s_eqCset : Sound Tryz.prog 152 ctEqCset := by
 have ke := s_eqCset_K.env []
 have kl : Lives s_eqCset_lv := trivial
 refine sound_intro (E := ⟨ti, s_eqCset_K.Γ, []⟩) ke Tryz.func152 Tryz.ntmps152 rfl (rs := [.tmp 4]) rfl ?_
 intro args os hp
 unfold ctEqCset at hp ⊢
 dsimp only at hp ⊢
 split at hp
 ·rename_i cs ds
  split at hp
  ·rename_i x y hx hy
   obtain rfl := csetOf_some hx
   obtain rfl := csetOf_some hy
   obtain rfl : x = y := hp
   clear hx hy
   refine ⟨by simp, fun φ0 w0 => ?_⟩
   refine goh trivial ?_
   refine W_cnd ?_ ?_ <;> intro hlit <;> try (cases hlit; done)
   refine goh trivial ?_
   refine W_cnd ?_ ?_ <;> intro hlit <;> try (cases hlit; done)
   refine goh trivial ?_
   refine W_cnd ?_ ?_ <;> intro hlit <;> try (cases hlit; done)
   refine goh trivial ?_
   refine W_cnd ?_ ?_ <;> intro hlit <;> try (cases hlit; done)
   refine goh trivial ?_
   refine W_cnd ?_ ?_ <;> intro hlit <;> try (cases hlit; done)
   refine goh trivial ?_
   refine W_cnd ?_ ?_ <;> intro hlit <;> try (cases hlit; done)
   refine goh trivial ?_
   exact finh [] trivial
  ·simp [no] at hp
 ·simp [no] at hp
def wC1 (x : CSet) : List Nat := [x.name.size, x.from_.size]
@[go_sem] def ctSzCset : Ct := ⟨false, [], fun args os => match args, os with
  | [.agg cs, .one (.val (.int .i64 n))], [] => (match csetOf cs with | some x => ifp ((x.name.size ≤ 9223372036854775807 ∧ x.from_.size ≤ 9223372036854775807) ∧ 0 ≤ n ∧ n ≤ 1048576) (vi (szW (wC1 x) n)) | none => no)
  | _, _ => no⟩
theorem s_szCset_e : EnterOk Tryz.prog 158 := ⟨_, Tryz.func158, rfl, by decide⟩
@[go_sem] def s_szCset_lv : List (List Nat) := [[1, 2], [1, 2], [1, 2, 11], [4], [1], [1, 18], [4], [4]]
@[go_sem] noncomputable def s_szCset_K : Known := Known.nil
set_option maxHeartbeats 8000000 in
theorem s_szCset : Sound Tryz.prog 158 ctSzCset := by
 have ke := s_szCset_K.env []
 have kl : Lives s_szCset_lv := trivial
 refine sound_intro (E := ⟨ti, s_szCset_K.Γ, []⟩) ke Tryz.func158 Tryz.ntmps158 rfl (rs := [.tmp 4]) rfl ?_
 intro args os hp
 unfold ctSzCset at hp ⊢
 dsimp only at hp ⊢
 split at hp
 ·rename_i cs n
  split at hp
  ·rename_i x hx
   obtain rfl := csetOf_some hx
   obtain ⟨⟨h1, h2⟩, h3, h4⟩ : (x.name.size ≤ 9223372036854775807 ∧ x.from_.size ≤ 9223372036854775807) ∧ 0 ≤ n ∧ n ≤ 1048576 := hp
   clear hx
   refine ⟨by simp, fun φ0 w0 => ?_⟩
   have e1 : IntKind.i64.wrap (n - x.name.size) = n - x.name.size := wrap_id _ (by omega) (by omega)
   have f1 : szW (wC1 x) n = if n - x.name.size < 0 then -1 else szW [x.from_.size] (n - x.name.size) := rfl
   refine goh e1 ?_
   refine W_cnd ?_ ?_ <;> (try simp only [cnd_r]) <;> intro hc
   ·rw [if_pos hc] at f1
    refine goh trivial ?_
    exact finh [] f1
   ·rw [if_neg hc] at f1
    have e2 : IntKind.i64.wrap (n - x.name.size - x.from_.size) = n - x.name.size - x.from_.size := wrap_id _ (by omega) (by omega)
    have f2 : szW [x.from_.size] (n - x.name.size) = if n - x.name.size - x.from_.size < 0 then -1 else n - x.name.size - x.from_.size := rfl
    refine goh e2 ?_
    refine W_cnd ?_ ?_ <;> (try simp only [cnd_r]) <;> intro hd
    ·rw [if_pos hd] at f2
     refine goh trivial ?_
     exact finh [] (And.intro f1 f2)
    ·rw [if_neg hd] at f2
     refine goh trivial ?_
     exact finh [] (And.intro f1 f2)
  ·simp [no] at hp
 ·simp [no] at hp
end Go.Proofs.YtfmjgoeclilcnaaGreatDoor
namespace Go.Proofs.YtfmjgoeclilcnaaGreatDoor
open Go.RowKit
@[go_sem] def S8.cells (x : Eight ByteArray) : List Value := [.string x.x0, .string x.x1, .string x.x2, .string x.x3, .string x.x4, .string x.x5, .string x.x6, .string x.x7]
@[go_sem] def S8.ofCells (cs : List Value) : Eight ByteArray := ⟨Value.str (cell cs 0), Value.str (cell cs 1), Value.str (cell cs 2), Value.str (cell cs 3), Value.str (cell cs 4), Value.str (cell cs 5), Value.str (cell cs 6), Value.str (cell cs 7)⟩
@[go_sem] theorem s8_eta (x : Eight ByteArray) : (⟨x.x0, x.x1, x.x2, x.x3, x.x4, x.x5, x.x6, x.x7⟩ : Eight ByteArray) = x := rfl
@[go_sem] theorem bset_eta (x : BSet) : (⟨x.name, x.kind, x.from_, ⟨x.blocks.x0, x.blocks.x1, x.blocks.x2, x.blocks.x3, x.blocks.x4, x.blocks.x5, x.blocks.x6, x.blocks.x7⟩⟩ : BSet) = x := rfl
@[go_sem] theorem bset_eta2 (x : BSet) : (⟨x.name, x.kind, x.from_, x.blocks⟩ : BSet) = x := rfl
@[go_sem] def bsetOf (cs : List TC) : Option (BSet) := match plain cs with
  | some vs => if kindsOk [.str, .int .i64, .str, .str, .str, .str, .str, .str, .str, .str, .str] vs = true then some (ET.bset.ofCells vs) else none
  | none => none
theorem bset_cells {vs : List Value} (h : kindsOk [.str, .int .i64, .str, .str, .str, .str, .str, .str, .str, .str, .str] vs = true) : ET.bset.cells (ET.bset.ofCells vs) = vs := by
 obtain ⟨a0, r0, rfl, h0⟩ := kStr h
 obtain ⟨a1, r1, rfl, h1⟩ := kInt h0
 obtain ⟨a2, r2, rfl, h2⟩ := kStr h1
 obtain ⟨a3, r3, rfl, h3⟩ := kStr h2
 obtain ⟨a4, r4, rfl, h4⟩ := kStr h3
 obtain ⟨a5, r5, rfl, h5⟩ := kStr h4
 obtain ⟨a6, r6, rfl, h6⟩ := kStr h5
 obtain ⟨a7, r7, rfl, h7⟩ := kStr h6
 obtain ⟨a8, r8, rfl, h8⟩ := kStr h7
 obtain ⟨a9, r9, rfl, h9⟩ := kStr h8
 obtain ⟨a10, r10, rfl, h10⟩ := kStr h9
 obtain rfl := kNil h10
 rfl
theorem bsetOf_some {cs : List TC} {x : BSet} (h : bsetOf cs = some x) : cs = (ET.bset.cells x).map .val := by
 unfold bsetOf at h
 split at h
 ·rename_i vs hv
  split at h
  ·rename_i hk
   simp only [Option.some.injEq] at h
   subst h
   rw [bset_cells hk]
   exact plain_val hv
  ·cases h
 ·cases h
structure in8 (x : Eight ByteArray) : Prop where
 y0 : x.x0.size ≤ 9223372036854775807
 y1 : x.x1.size ≤ 9223372036854775807
 y2 : x.x2.size ≤ 9223372036854775807
 y3 : x.x3.size ≤ 9223372036854775807
 y4 : x.x4.size ≤ 9223372036854775807
 y5 : x.x5.size ≤ 9223372036854775807
 y6 : x.x6.size ≤ 9223372036854775807
 y7 : x.x7.size ≤ 9223372036854775807
structure inB1 (x : BSet) : Prop where
 name : x.name.size ≤ 9223372036854775807
 from_ : x.from_.size ≤ 9223372036854775807
 blocks : in8 x.blocks
end Go.Proofs.YtfmjgoeclilcnaaGreatDoor
namespace Go.Proofs.YtfmjgoeclilcnaaGreatDoor
open Go.RowKit
def long24 (t : ByteArray) : Bool := decide ((t.size : Int) > 24)
noncomputable def atB (xs : List BSet) (name : ByteArray) : Int := firstAt (fun x => same x.name name) xs
noncomputable def setOf (xs : List BSet) (name : ByteArray) : BSet := xs.getD (atB xs name).toNat ET.bset.dflt
noncomputable def leadsN (xs : List BSet) : Nat → BSet → Bool
 | 0, _ => false
 | n + 1, s => if same s.from_ ⟨#[]⟩ = true then s.kind == 1 else if atB xs s.from_ < 0 ∨ (setOf xs s.from_).kind = s.kind then false else leadsN xs n (setOf xs s.from_)
def big8 (x : BSet) : Bool := [x.blocks.x0, x.blocks.x1, x.blocks.x2, x.blocks.x3, x.blocks.x4, x.blocks.x5, x.blocks.x6, x.blocks.x7].any long24
def lessB (a b : ByteArray) : Bool := Op.bytesLess a.toList b.toList
structure SetOk (xs : List BSet) (i : Nat) : Prop where
 name : nameB (xs.getD i ET.bset.dflt).name = true
 less : 0 < i → lessB (xs.getD (i - 1) ET.bset.dflt).name (xs.getD i ET.bset.dflt).name = true
 kind : (xs.getD i ET.bset.dflt).kind = 1 ∨ (xs.getD i ET.bset.dflt).kind = 2
 small : big8 (xs.getD i ET.bset.dflt) = false
structure BookP (xs : List BSet) : Prop where
 few : xs.length ≤ 6
 each : ∀ i, i < xs.length → SetOk xs i
 leads : xs.any (fun s => !leadsN xs xs.length s) = false
noncomputable def bookB (xs : List BSet) : Bool := @decide (BookP xs) (Classical.propDecidable _)
theorem bookB_true {xs : List BSet} : bookB xs = true ↔ BookP xs := by simp [bookB]
theorem bookB_false {xs : List BSet} : bookB xs = false ↔ ¬ BookP xs := by simp [bookB]
theorem bad_expr (A B k1 k2 G : Bool) (P : Prop) [Decidable P] : (if (if (if (!A) = true then true else if P then !B else false) = true then true else if k1 = true then k2 else false) = true then true else G) = false ↔ A = true ∧ (P → B = true) ∧ (k1 = false ∨ k2 = false) ∧ G = false := by
 by_cases h : P <;> cases A <;> cases B <;> cases k1 <;> cases k2 <;> cases G <;> simp [h]
end Go.Proofs.YtfmjgoeclilcnaaGreatDoor
namespace Go.Proofs.YtfmjgoeclilcnaaGreatDoor
open Go.RowKit
theorem bl_irrefl : ∀ x : List UInt8, Op.bytesLess x x = false
 | [] => rfl
 | a :: x => by
   show (decide (a < a) || (a == a && Op.bytesLess x x)) = false
   rw [bl_irrefl x]; simp
theorem bl_trans : ∀ x y z : List UInt8, Op.bytesLess x y = true → Op.bytesLess y z = true → Op.bytesLess x z = true
 | [], [], z, h, _ => by simp [Op.bytesLess] at h
 | [], b :: y, [], _, h => by simp [Op.bytesLess] at h
 | [], b :: y, c :: z, _, _ => rfl
 | a :: x, [], z, h, _ => by simp [Op.bytesLess] at h
 | a :: x, b :: y, [], _, h => by simp [Op.bytesLess] at h
 | a :: x, b :: y, c :: z, h1, h2 => by
   simp only [Op.bytesLess, Bool.or_eq_true, Bool.and_eq_true, decide_eq_true_eq, beq_iff_eq] at h1 h2 ⊢
   rcases h1 with h1 | ⟨rfl, h1⟩
   ·rcases h2 with h2 | ⟨rfl, h2⟩
    ·exact .inl (by rw [UInt8.lt_iff_toNat_lt] at *; omega)
    ·exact .inl h1
   ·rcases h2 with h2 | ⟨rfl, h2⟩
    ·exact .inl h2
    ·exact .inr ⟨rfl, bl_trans x y z h1 h2⟩
theorem bl_total : ∀ x y : List UInt8, Op.bytesLess x y = true ∨ x = y ∨ Op.bytesLess y x = true
 | [], [] => .inr (.inl rfl)
 | [], _ :: _ => .inl rfl
 | _ :: _, [] => .inr (.inr rfl)
 | a :: x, b :: y => by
   simp only [Op.bytesLess, Bool.or_eq_true, Bool.and_eq_true, decide_eq_true_eq, beq_iff_eq]
   by_cases h : a < b
   ·exact .inl (.inl h)
   ·by_cases h2 : b < a
    ·exact .inr (.inr (.inl h2))
    ·have e : a = b := by
      rw [UInt8.lt_iff_toNat_lt] at h h2
      exact UInt8.toNat_inj.1 (by omega)
     subst e
     rcases bl_total x y with h3 | rfl | h3
     ·exact .inl (.inr ⟨rfl, h3⟩)
     ·exact .inr (.inl rfl)
     ·exact .inr (.inr (.inr ⟨rfl, h3⟩))
theorem toList_inj {a b : ByteArray} (h : a.toList = b.toList) : a = b := by
 have := toList_same a b
 rw [h, beq_self_eq_true] at this
 exact same_true.1 this.symm
theorem less_irrefl (a : ByteArray) : lessB a a = false := bl_irrefl _
theorem less_trans {a b c : ByteArray} (h1 : lessB a b = true) (h2 : lessB b c = true) : lessB a c = true := bl_trans _ _ _ h1 h2
theorem less_total (a b : ByteArray) : lessB a b = true ∨ a = b ∨ lessB b a = true := by
 rcases bl_total a.toList b.toList with h | h | h
 ·exact .inl h
 ·exact .inr (.inl (toList_inj h))
 ·exact .inr (.inr h)
structure Sorted (xs : List BSet) : Prop where
 next : ∀ i, 0 < i → i < xs.length → lessB (xs.getD (i - 1) ET.bset.dflt).name (xs.getD i ET.bset.dflt).name = true
theorem Sorted.lt {xs : List BSet} (h : Sorted xs) (i : Nat) : ∀ d, i + d + 1 < xs.length → lessB (xs.getD i ET.bset.dflt).name (xs.getD (i + d + 1) ET.bset.dflt).name = true
 | 0, hd => h.next (i + 1) (by omega) hd
 | d + 1, hd => less_trans (h.lt i d (by omega)) (h.next (i + (d + 1) + 1) (by omega) hd)
def lowN (xs : List BSet) (name : ByteArray) : Nat := xs.findIdx fun s => !lessB s.name name
noncomputable def thereB (xs : List BSet) (name : ByteArray) : Bool := decide (lowN xs name < xs.length) && same (xs.getD (lowN xs name) ET.bset.dflt).name name
theorem lowN_le (xs : List BSet) (name : ByteArray) : lowN xs name ≤ xs.length := List.findIdx_le_length
theorem lowN_before {xs : List BSet} {name : ByteArray} {i : Nat} (h : i < lowN xs name) : lessB (xs.getD i ET.bset.dflt).name name = true := by
 have hl := lowN_le xs name
 have h1 := List.not_of_lt_findIdx (p := fun s : BSet => !lessB s.name name) h
 have h2 : xs.getD i ET.bset.dflt = xs[i]'(by omega) := by simp [show i < xs.length by omega]
 rw [h2]; simpa using h1
theorem lowN_at {xs : List BSet} {name : ByteArray} (h : lowN xs name < xs.length) : lessB (xs.getD (lowN xs name) ET.bset.dflt).name name = false := by
 have h1 := List.findIdx_getElem (p := fun s : BSet => !lessB s.name name) (w := h)
 have h2 : xs.getD (lowN xs name) ET.bset.dflt = xs[lowN xs name]'h := by simp [h]
 rw [h2]
 have h3 : (!lessB (xs[lowN xs name]'h).name name) = true := h1
 simpa using h3
theorem lowN_eq {xs : List BSet} {name : ByteArray} {i : Nat} (hi : i ≤ xs.length) (hb : ∀ j, j < i → lessB (xs.getD j ET.bset.dflt).name name = true) (hs : i = xs.length ∨ lessB (xs.getD i ET.bset.dflt).name name = false) : lowN xs name = i := by
 have hl := lowN_le xs name
 rcases Nat.lt_trichotomy (lowN xs name) i with h | h | h
 ·have h1 := hb _ h
  rw [lowN_at (by omega)] at h1; cases h1
 ·exact h
 ·have h1 := lowN_before h
  rcases hs with hs | hs
  ·omega
  ·rw [hs] at h1; cases h1
theorem at_low {xs : List BSet} (h : Sorted xs) (name : ByteArray) : (thereB xs name = true → atB xs name = lowN xs name) ∧ (thereB xs name = false → atB xs name < 0) := by
 have hl := lowN_le xs name
 constructor
 ·intro ht
  unfold thereB at ht
  rw [Bool.and_eq_true, decide_eq_true_eq, same_true] at ht
  refine firstAt_some (d := ET.bset.dflt) ht.1 (fun j hj => ?_) (same_true.2 ht.2)
  rw [same_false]
  intro he
  have := lowN_before hj
  rw [he, less_irrefl] at this; cases this
 ·intro ht
  have e : atB xs name = -1 := firstAt_none (d := ET.bset.dflt) fun j hj => by
   rw [same_false]
   intro he
   rcases Nat.lt_trichotomy j (lowN xs name) with hlt | hlt | hlt
   ·have := lowN_before hlt
    rw [he, less_irrefl] at this; cases this
   ·subst hlt
    have : thereB xs name = true := by
     unfold thereB
     rw [Bool.and_eq_true, decide_eq_true_eq, same_true]; exact ⟨hj, he⟩
    rw [this] at ht; cases ht
   ·have h1 := lowN_at (xs := xs) (name := name) (by omega)
    have h2 := h.lt (lowN xs name) (j - lowN xs name - 1) (by omega)
    rw [show lowN xs name + (j - lowN xs name - 1) + 1 = j by omega, he] at h2
    rw [h2] at h1; cases h1
  rw [e]; decide
theorem pigeon : ∀ (n : Nat) (l : List Nat), l.Nodup → (∀ j ∈ l, j < n) → l.length ≤ n
 | 0, l, _, h => by
   cases l with
   | nil => exact Nat.le_refl _
   | cons a r => exact absurd (h a (by simp)) (Nat.not_lt_zero _)
 | n + 1, l, hd, h => by
   have h1 := pigeon n (l.erase n) (hd.erase n) (fun j hj => by
    have h2 := h j (List.mem_of_mem_erase hj)
    have h3 : j ≠ n := fun e => by subst e; exact hd.not_mem_erase hj
    omega)
   have h2 := List.length_erase (a := n) (l := l)
   split at h2 <;> omega
theorem leads_mono (xs : List BSet) : ∀ (n : Nat) (s : BSet), leadsN xs n s = true → leadsN xs (n + 1) s = true
 | 0, s, h => by simp [leadsN] at h
 | n + 1, s, h => by
   unfold leadsN at h ⊢
   split
   ·rename_i hf; rw [if_pos hf] at h; exact h
   ·rename_i hf
    rw [if_neg hf] at h
    split
    ·rename_i hk; rw [if_pos hk] at h; exact h
    ·rename_i hk
     rw [if_neg hk] at h
     exact leads_mono xs n _ h
theorem setOf_at (xs : List BSet) (name : ByteArray) (h : ¬ atB xs name < 0) : (atB xs name).toNat < xs.length := by
 unfold atB firstAt at h ⊢
 split at h
 ·rename_i i hi
  rw [List.findIdx?_eq_some_iff_getElem] at hi
  obtain ⟨hi, -⟩ := hi
  simpa using hi
 ·exact absurd (by decide) h
theorem leads_chain (xs : List BSet) : ∀ (m k : Nat), k < xs.length → leadsN xs (m + 1) (xs.getD k ET.bset.dflt) = true → leadsN xs m (xs.getD k ET.bset.dflt) = false →
  ∃ l : List Nat, l.length = m + 1 ∧ l.Nodup ∧ ∀ j ∈ l, j < xs.length ∧ leadsN xs (m + 1) (xs.getD j ET.bset.dflt) = true
 | 0, k, hk, h1, _ => ⟨[k], rfl, by simp, fun j hj => by rw [List.mem_singleton] at hj; subst hj; exact ⟨hk, h1⟩⟩
 | m + 1, k, hk, h1, h2 => by
   have h1' := h1
   have h2' := h2
   unfold leadsN at h1 h2
   by_cases hf : same (xs.getD k ET.bset.dflt).from_ ⟨#[]⟩ = true
   ·rw [if_pos hf] at h1 h2
    rw [h1] at h2; cases h2
   ·rw [if_neg hf] at h1 h2
    by_cases hc : atB xs (xs.getD k ET.bset.dflt).from_ < 0 ∨ (setOf xs (xs.getD k ET.bset.dflt).from_).kind = (xs.getD k ET.bset.dflt).kind
    ·rw [if_pos hc] at h1; cases h1
    ·rw [if_neg hc] at h1 h2
     have hj := setOf_at xs (xs.getD k ET.bset.dflt).from_ fun h => hc (.inl h)
     obtain ⟨l, l1, l2, l3⟩ := leads_chain xs m (atB xs (xs.getD k ET.bset.dflt).from_).toNat hj h1 h2
     refine ⟨k :: l, by simp [l1], ?_, fun j hj => ?_⟩
     ·rw [List.nodup_cons]
      refine ⟨fun hm => ?_, l2⟩
      have := (l3 k hm).2
      rw [h2'] at this; cases this
     ·rcases List.mem_cons.1 hj with rfl | hm
      ·exact ⟨hk, h1'⟩
      ·exact ⟨(l3 j hm).1, leads_mono xs _ _ (l3 j hm).2⟩
theorem leads_more (xs : List BSet) (k : Nat) (hk : k < xs.length) : leadsN xs (xs.length + 1) (xs.getD k ET.bset.dflt) = leadsN xs xs.length (xs.getD k ET.bset.dflt) := by
 cases h : leadsN xs xs.length (xs.getD k ET.bset.dflt) with
 | true => exact leads_mono xs _ _ h
 | false =>
   rw [← Bool.not_eq_true]
   intro h2
   obtain ⟨l, l1, l2, l3⟩ := leads_chain xs xs.length k hk h2 h
   have := pigeon xs.length l l2 fun j hj => (l3 j hj).1
   omega
end Go.Proofs.YtfmjgoeclilcnaaGreatDoor
namespace Go.Proofs.YtfmjgoeclilcnaaGreatDoor
open Go.RowKit
def fits (n : Nat) (side at_ : Int) (t : ByteArray) : Bool := (decide (0 ≤ side) && decide (side ≤ 1)) && (decide (0 ≤ at_) && decide (at_ < (n : Int))) && decide (t.size ≤ 420)
@[go_sem] def ctThere : Ct := ⟨false, [[some .str, some .str, some .late]], fun args os => match args, os with
  | [.agg [.isl .str a, .isl .str b, .isl .late l], .one (.val (.int .i64 s)), .one (.val (.int .i64 k)), .one (.val (.string t))], [] => is (vb (fits a.length s k t))
  | _, _ => no⟩
theorem s_there_e : EnterOk Tryz.prog 104 := ⟨_, Tryz.func104, rfl, by decide⟩
@[go_sem] def s_there_lv : List (List Nat) := [[1, 2, 3, 4], [8]]
@[go_sem] noncomputable def s_there_K : Known := Known.nil
set_option maxHeartbeats 8000000 in
theorem s_there : Sound Tryz.prog 104 ctThere := by
 have ke := s_there_K.env []
 have kl : Lives s_there_lv := trivial
 refine sound_intro (E := ⟨ti, s_there_K.Γ, []⟩) ke Tryz.func104 Tryz.ntmps104 rfl (rs := [.tmp 8]) rfl ?_
 intro args os hp
 unfold ctThere at hp ⊢
 dsimp only at hp ⊢
 split at hp
 ·rename_i a b l s k t
  refine ⟨by simp, fun φ0 w0 => ?_⟩
  clear hp
  refine goh trivial ?_
  refine ⟨by (simp only [go_sem, ↓reduceIte, reduceCtorEq, Nat.reduceAdd, Nat.reduceLT, Nat.reduceLeDiff, Nat.reduceEqDiff]) <;> trivial, [], ?_⟩
  all_goals try simp only [go_sem, inj_r, ↓reduceIte, reduceCtorEq, Nat.reduceAdd, Nat.reduceLT, Nat.reduceLeDiff, Nat.reduceEqDiff, Int.reduceEq]
  all_goals (repeat' refine And.intro ?_ ?_) <;> try exact shut7
  unfold fits
  by_cases e1 : 0 ≤ s <;> by_cases e2 : s ≤ 1 <;> by_cases e3 : 0 ≤ k <;> by_cases e4 : k < (a.length : Int) <;> simp [e1, e2, e3, e4]
  all_goals omega
 ·simp [no, ifp] at hp
theorem s_copy_e : EnterOk Tryz.prog 84 := ⟨_, Tryz.func84, rfl, by decide⟩
@[go_sem] def s_copy_lv : List (List Nat) := [[1, 2], [2]]
@[go_sem] noncomputable def s_copy_K : Known := Known.nil
set_option maxHeartbeats 8000000 in
theorem s_copy : Sound Tryz.prog 84 ctOwn := by
 have ke := s_copy_K.env []
 have kl : Lives s_copy_lv := trivial
 refine sound_intro (E := ⟨ti, s_copy_K.Γ, []⟩) ke Tryz.func84 Tryz.ntmps84 rfl (rs := [.cell 2 38]) rfl ?_
 intro args os hp
 unfold ctOwn at hp ⊢
 dsimp only at hp ⊢
 split at hp
 ·rename_i a b l
  refine ⟨by simp, fun φ0 w0 => ?_⟩
  obtain ⟨h1, h2, h3⟩ : a.length ≤ 4000000 ∧ b.length ≤ 4000000 ∧ l.length ≤ 4000000 := hp
  refine goh trivial ?_
  exact finh [some 3, some 5, some 7] trivial
 ·simp [no] at hp
theorem any_false {α : Type} {p : α → Bool} {xs : List α} (d : α) : xs.any p = false ↔ ∀ j, j < xs.length → p (xs.getD j d) = false := by
 rw [List.any_eq_false]
 constructor
 ·intro h j hj
  simpa [List.getD_eq_getElem?_getD, List.getElem?_eq_getElem hj] using h _ (List.getElem_mem hj)
 ·intro h x hx
  obtain ⟨j, hj, rfl⟩ := List.getElem_of_mem hx
  simpa [List.getD_eq_getElem?_getD, List.getElem?_eq_getElem hj] using h j hj
theorem Dk.ok_iff (d : Dk) : d.ok = true ↔ 1 ≤ d.a.length ∧ d.a.length ≤ 120 ∧ d.b.length = d.a.length ∧ d.l.length ≤ 600 ∧ (∀ j, j < d.a.length → long (d.a.getD j ET.str.dflt) = false) ∧ (∀ j, j < d.b.length → long (d.b.getD j ET.str.dflt) = false) ∧ (∀ j, j < d.l.length → badLate d.a.length (d.l.getD j ET.late.dflt) = false) := by
 unfold Dk.ok
 simp only [Bool.and_eq_true, decide_eq_true_eq, Bool.not_eq_true', any_false ET.str.dflt, any_false (α := Late) ET.late.dflt]
 constructor
 ·rintro ⟨⟨⟨⟨⟨⟨h1, h2⟩, h3⟩, h4⟩, h5⟩, h6⟩, h7⟩
  exact ⟨by omega, by omega, h3, h6, h4, h5, h7⟩
 ·rintro ⟨h1, h2, h3, h6, h4, h5, h7⟩
  exact ⟨⟨⟨⟨⟨⟨by omega, by omega⟩, h3⟩, h4⟩, h5⟩, h6⟩, h7⟩
theorem Dk.notOk {d : Dk} (h : d.ok = true → False) : d.ok = false := by
 cases hd : d.ok with
 | true => exact (h hd).elim
 | false => rfl
theorem fits_bad (n : Nat) (w : Late) : fits n w.side w.at_ w.text = !(badLate n w) := by
 unfold fits badLate sector long
 by_cases e1 : 0 ≤ w.side <;> by_cases e2 : w.side ≤ 1 <;> by_cases e3 : 0 ≤ w.at_ <;> simp [e1, e2, e3]
 by_cases e4 : w.at_ < (n : Int)
 ·have : w.at_ ≤ (n : Int) - 1 := by omega
  by_cases e5 : w.text.size ≤ 420
  ·have : ¬ 420 < w.text.size := by omega
   simp [*]
  ·have : 420 < w.text.size := by omega
   simp [*]
 ·have : ¬ w.at_ ≤ (n : Int) - 1 := by omega
  simp [e4, this]
@[go_sem] def sgOk1 (a b : List ByteArray) (l : List Late) (i : Nat) : Sg := ⟨[(1, .one (.ptr 0 0)), (3, vi a.length), (4, vi i)], [some (.cells [.isl .str a, .isl .str b, .isl .late l])], []⟩
@[go_sem] def sgOk2 (a b : List ByteArray) (l : List Late) (i : Nat) : Sg := ⟨[(1, .one (.ptr 0 0)), (5, vi i)], [some (.cells [.isl .str a, .isl .str b, .isl .late l])], []⟩
theorem s_specDiskOk_e : EnterOk Tryz.prog 46 := ⟨_, Tryz.func46, rfl, by decide⟩
@[go_sem] def s_specDiskOk_lv : List (List Nat) := [[1], [1, 3], [1, 3, 29], [2], [1, 3, 4], [1, 3, 4, 32], [1, 3, 4], [1, 3, 4, 52], [2], [1, 5], [1, 5, 57], [1, 5], [1, 5, 80], [2], [2]]
@[go_sem] noncomputable def s_specDiskOk_K : Known := (Known.nil).cons 104 ctThere s_there s_there_e
set_option maxHeartbeats 8000000 in
theorem s_specDiskOk : Sound Tryz.prog 46 ctDiskOk := by
 have ke := s_specDiskOk_K.env []
 have kl : Lives s_specDiskOk_lv := trivial
 refine sound_intro (E := ⟨ti, s_specDiskOk_K.Γ, []⟩) ke Tryz.func46 Tryz.ntmps46 rfl (rs := [.tmp 2]) rfl ?_
 intro args os hp
 unfold ctDiskOk at hp ⊢
 dsimp only at hp ⊢
 split at hp
 ·rename_i a b l
  refine ⟨by simp, fun φ0 w0 => ?_⟩
  obtain ⟨h1, h2, h3⟩ : a.length ≤ 4000000 ∧ b.length ≤ 4000000 ∧ l.length ≤ 4000000 := hp
  refine goh trivial ?_
  refine W_cond _ (by exact rfl) (by exact trivial) ?_ ?_ <;> intro hc
  ·refine goh trivial ?_
   refine ⟨by (simp only [go_sem, ↓reduceIte, reduceCtorEq, Nat.reduceAdd, Nat.reduceLT, Nat.reduceLeDiff, Nat.reduceEqDiff]) <;> trivial, [], ?_⟩
   all_goals try simp only [go_sem, inj_r, ↓reduceIte, reduceCtorEq, Nat.reduceAdd, Nat.reduceLT, Nat.reduceLeDiff, Nat.reduceEqDiff, Int.reduceEq]
   all_goals (repeat' refine And.intro ?_ ?_) <;> try exact shut7
   refine (Dk.notOk fun hok => ?_).symm
   obtain ⟨q1, q2, q3, q4, -⟩ := (Dk.ok_iff _).1 hok
   simp only at q1 q2 q3 q4
   have e1 : ¬ (a.length : Int) < 1 := by omega
   have e2 : ¬ (a.length : Int) > 120 := by omega
   have e3 : ((b.length : Int) != (a.length : Int)) = false := by simp; omega
   have e4 : ¬ (l.length : Int) > 600 := by omega
   simp [e1, e2, e3, e4] at hc
  ·obtain ⟨g1, g2, g3, g4⟩ : 1 ≤ a.length ∧ a.length ≤ 120 ∧ b.length = a.length ∧ l.length ≤ 600 := by
    by_cases e1 : (a.length : Int) < 1
    ·simp [e1] at hc
    ·by_cases e2 : (a.length : Int) > 120
     ·simp [e1, e2] at hc
     ·by_cases e3 : b.length = a.length
      ·by_cases e4 : (l.length : Int) > 600
       ·simp [e1, e2, e3, e4] at hc
       ·exact ⟨by omega, by omega, e3, by omega⟩
      ·have e3' : ((b.length : Int) != (a.length : Int)) = true := by simp; omega
       simp [e1, e2, e3'] at hc
   clear hc
   refine goh trivial ?_
   refine W_le (σ' := sgOk1 a b l 0) [some 0] (by
    simp only [go_sem, inj_r, ↓reduceIte, reduceCtorEq, Nat.reduceAdd, Nat.reduceLT, Nat.reduceLeDiff, Nat.reduceEqDiff, Int.reduceEq]
    all_goals (repeat' refine And.intro ?_ ?_) <;> try exact shut7
    ) ?_
   refine W_loop (fun n σ => ∃ i : Nat, i ≤ a.length ∧ n = a.length - i ∧ (∀ j, j < i → long (a.getD j ET.str.dflt) = false ∧ long (b.getD j ET.str.dflt) = false) ∧ σ = sgOk1 a b l i) a.length ⟨0, by omega, by omega, by omega, rfl⟩ ?_
   rintro n σ ⟨i, hi, rfl, hbef, rfl⟩
   unfold sgOk1
   refine goh trivial ?_
   refine W_cnd ?_ ?_ <;> (try simp only [cnd_r]) <;> intro hlt
   ·refine goh trivial ?_
    refine W_cond _ (by exact rfl) (by exact trivial) ?_ ?_ <;> intro hc
    ·refine goh trivial ?_
     refine ⟨by (simp only [go_sem, ↓reduceIte, reduceCtorEq, Nat.reduceAdd, Nat.reduceLT, Nat.reduceLeDiff, Nat.reduceEqDiff]) <;> trivial, [], ?_⟩
     all_goals try simp only [go_sem, inj_r, ↓reduceIte, reduceCtorEq, Nat.reduceAdd, Nat.reduceLT, Nat.reduceLeDiff, Nat.reduceEqDiff, Int.reduceEq]
     all_goals (repeat' refine And.intro ?_ ?_) <;> try exact shut7
     refine (Dk.notOk fun hok => ?_).symm
     obtain ⟨-, -, -, -, q5, q6, -⟩ := (Dk.ok_iff _).1 hok
     have q5 := q5 i (show i < a.length by omega)
     have q6 := q6 i (show i < b.length by omega)
     simp only [long, decide_eq_false_iff_not] at q5 q6
     split at hc
     ·omega
     ·simp only [decide_eq_true_eq] at hc; omega
    ·obtain ⟨q5, q6⟩ : long (a.getD i ET.str.dflt) = false ∧ long (b.getD i ET.str.dflt) = false := by
      simp only [long, decide_eq_false_iff_not]
      split at hc
      ·cases hc
      ·simp only [decide_eq_false_iff_not] at hc; exact ⟨by omega, by omega⟩
     clear hc
     refine goh trivial ?_
     refine ⟨a.length - (i + 1), [some 0], sgOk1 a b l (i + 1), by omega, ?_, i + 1, by omega, rfl, fun j hj => ?_, rfl⟩
     ·exact leh trivial
     ·rcases Nat.lt_succ_iff_lt_or_eq.1 hj with h | rfl
      ·exact hbef j h
      ·exact ⟨q5, q6⟩
   ·refine goh trivial ?_
    have hi' : i = a.length := by omega
    subst hi'
    refine W_le (σ' := sgOk2 a b l 0) [some 0] (by
     simp only [go_sem, inj_r, ↓reduceIte, reduceCtorEq, Nat.reduceAdd, Nat.reduceLT, Nat.reduceLeDiff, Nat.reduceEqDiff, Int.reduceEq]
     all_goals (repeat' refine And.intro ?_ ?_) <;> try exact shut7
     ) ?_
    refine W_loop (fun n σ => ∃ i : Nat, i ≤ l.length ∧ n = l.length - i ∧ (∀ j, j < i → badLate a.length (l.getD j ET.late.dflt) = false) ∧ σ = sgOk2 a b l i) l.length ⟨0, by omega, by omega, by omega, rfl⟩ ?_
    rintro n σ ⟨i, hi, rfl, hbef2, rfl⟩
    unfold sgOk2
    refine goh trivial ?_
    refine W_cnd ?_ ?_ <;> (try simp only [cnd_r]) <;> intro hlt2
    ·refine goh trivial ?_
     refine W_cond _ (by exact rfl) (by exact trivial) ?_ ?_ <;> intro hc <;> rw [fits_bad] at hc
     ·refine goh trivial ?_
      refine ⟨by (simp only [go_sem, ↓reduceIte, reduceCtorEq, Nat.reduceAdd, Nat.reduceLT, Nat.reduceLeDiff, Nat.reduceEqDiff]) <;> trivial, [], ?_⟩
      all_goals try simp only [go_sem, inj_r, ↓reduceIte, reduceCtorEq, Nat.reduceAdd, Nat.reduceLT, Nat.reduceLeDiff, Nat.reduceEqDiff, Int.reduceEq]
      all_goals (repeat' refine And.intro ?_ ?_) <;> try exact shut7
      refine (Dk.notOk fun hok => ?_).symm
      obtain ⟨-, -, -, -, -, -, q7⟩ := (Dk.ok_iff _).1 hok
      have q7 := q7 i (show i < l.length by omega)
      simp only at q7
      rw [q7] at hc; cases hc
     ·refine goh trivial ?_
      refine ⟨l.length - (i + 1), [some 0], sgOk2 a b l (i + 1), by omega, ?_, i + 1, by omega, rfl, fun j hj => ?_, rfl⟩
      ·exact leh trivial
      ·rcases Nat.lt_succ_iff_lt_or_eq.1 hj with h | rfl
       ·exact hbef2 j h
       ·simpa using hc
    ·refine goh trivial ?_
     refine ⟨by (simp only [go_sem, ↓reduceIte, reduceCtorEq, Nat.reduceAdd, Nat.reduceLT, Nat.reduceLeDiff, Nat.reduceEqDiff]) <;> trivial, [], ?_⟩
     all_goals try simp only [go_sem, inj_r, ↓reduceIte, reduceCtorEq, Nat.reduceAdd, Nat.reduceLT, Nat.reduceLeDiff, Nat.reduceEqDiff, Int.reduceEq]
     all_goals (repeat' refine And.intro ?_ ?_) <;> try exact shut7
     exact ((Dk.ok_iff _).2 ⟨g1, g2, g3, g4, fun j hj => (hbef j hj).1, fun j hj => (hbef j (by simp only at hj; omega)).2, fun j hj => hbef2 j (by simp only at hj; omega)⟩).symm
 ·simp [no, ifp] at hp
end Go.Proofs.YtfmjgoeclilcnaaGreatDoor
namespace Go.Proofs.YtfmjgoeclilcnaaGreatDoor
open Go.RowKit
def Dk.nil : Dk := ⟨[], [], []⟩
def Dk.may (d : Dk) (s k : Int) (t : ByteArray) : Bool := fits d.a.length s k t && decide (d.l.length < 600)
def Dk.add (d : Dk) (s k : Int) (t : ByteArray) : Dk := ⟨d.a, d.b, d.l ++ [⟨s, k, t⟩]⟩
def dkWrite (d : Dk) (s k : Int) (t : ByteArray) : Dk := if d.ok then if d.may s k t then d.add s k t else d else .nil
def dkWrites (d : Dk) (s k : Int) (t : ByteArray) : Bool := d.ok && d.may s k t
theorem Dk.ok_small {d : Dk} (h : d.ok = true) : d.a.length ≤ 120 ∧ d.b.length ≤ 120 ∧ d.l.length ≤ 600 := by
 obtain ⟨h1, h2, h3, h4, -⟩ := (Dk.ok_iff d).1 h
 omega
@[go_sem] def ctDiskWrite : Ct := ⟨false, [[some .str, some .str, some .late]], fun args os => match args, os with
  | [.agg [.isl .str a, .isl .str b, .isl .late l], .one (.val (.int .i64 s)), .one (.val (.int .i64 k)), .one (.val (.string t))], [] => ⟨(Dk.mk a b l).small, .tup [(dkWrite ⟨a, b, l⟩ s k t).v 0, vb (dkWrites ⟨a, b, l⟩ s k t)], [], (dkWrite ⟨a, b, l⟩ s k t).objs⟩
  | _, _ => no⟩
theorem s_specWrite_e : EnterOk Tryz.prog 89 := ⟨_, Tryz.func89, rfl, by decide⟩
@[go_sem] def s_specWrite_lv : List (List Nat) := [[1, 2, 3, 4, 8], [1, 2, 3, 4, 8, 13], [8, 9], [1, 2, 3, 4, 8, 10], [1, 2, 3, 8, 10, 28], [8, 9], [8, 10], [8, 9]]
@[go_sem] noncomputable def s_specWrite_K : Known := (((Known.nil).cons 46 ctDiskOk s_specDiskOk s_specDiskOk_e).cons 84 ctOwn s_copy s_copy_e).cons 104 ctThere s_there s_there_e
set_option maxHeartbeats 8000000 in
theorem s_specWrite : Sound Tryz.prog 89 ctDiskWrite := by
 have ke := s_specWrite_K.env []
 have kl : Lives s_specWrite_lv := trivial
 refine sound_intro (E := ⟨ti, s_specWrite_K.Γ, []⟩) ke Tryz.func89 Tryz.ntmps89 rfl (rs := [.cell 8 38, .tmp 9]) rfl ?_
 intro args os hp
 unfold ctDiskWrite at hp ⊢
 dsimp only at hp ⊢
 split at hp
 ·rename_i a b l s k t
  refine ⟨by simp, fun φ0 w0 => ?_⟩
  obtain ⟨h1, h2, h3⟩ : a.length ≤ 4000000 ∧ b.length ≤ 4000000 ∧ l.length ≤ 4000000 := hp
  refine goh trivial ?_
  refine W_cnd ?_ ?_ <;> (try simp only [cnd_r]) <;> intro hok
  ·have e1 : dkWrite ⟨a, b, l⟩ s k t = .nil := by unfold dkWrite; rw [hok]; rfl
   have e2 : dkWrites ⟨a, b, l⟩ s k t = false := by unfold dkWrites; rw [hok]; rfl
   refine goh trivial ?_
   refine ⟨by (simp only [go_sem, e1, e2, Dk.nil, ↓reduceIte, reduceCtorEq, Nat.reduceAdd, Nat.reduceLT, Nat.reduceLeDiff, Nat.reduceEqDiff]) <;> trivial, [none, none, none], ?_⟩
   all_goals try simp only [go_sem, e1, e2, Dk.nil, inj_r, ↓reduceIte, reduceCtorEq, Nat.reduceAdd, Nat.reduceLT, Nat.reduceLeDiff, Nat.reduceEqDiff, Int.reduceEq]
   all_goals (repeat' refine And.intro ?_ ?_) <;> try exact shut7
  ·have e3 : a.length ≤ 120 ∧ b.length ≤ 120 ∧ l.length ≤ 600 := Dk.ok_small hok
   have e1 : dkWrite ⟨a, b, l⟩ s k t = if (Dk.mk a b l).may s k t then (Dk.mk a b l).add s k t else ⟨a, b, l⟩ := by unfold dkWrite; rw [hok]; rfl
   have e2 : dkWrites ⟨a, b, l⟩ s k t = (Dk.mk a b l).may s k t := by unfold dkWrites; rw [hok]; rfl
   refine goh trivial ?_
   refine W_cond _ (by exact rfl) (by exact trivial) ?_ ?_ <;> intro hc
   ·have hm : (Dk.mk a b l).may s k t = false := by
     unfold Dk.may
     cases hf : fits a.length s k t with
     | false => rfl
     | true => rw [hf] at hc; simp at hc; simp; omega
    refine goh trivial ?_
    exact finh [some 2, some 3, some 4] (And.intro e1 (And.intro e2 hm))
   ·have hm : (Dk.mk a b l).may s k t = true := by
     unfold Dk.may
     cases hf : fits a.length s k t with
     | false => rw [hf] at hc; simp at hc
     | true => rw [hf] at hc; simp at hc; simp; omega
    refine goh trivial ?_
    refine ⟨by (simp only [go_sem, e1, e2, hm, Dk.add, ↓reduceIte, reduceCtorEq, Nat.reduceAdd, Nat.reduceLT, Nat.reduceLeDiff, Nat.reduceEqDiff]) <;> trivial, [some 2, some 3, some 7], ?_⟩
    all_goals try simp only [go_sem, e1, e2, hm, Dk.add, inj_r, ↓reduceIte, reduceCtorEq, Nat.reduceAdd, Nat.reduceLT, Nat.reduceLeDiff, Nat.reduceEqDiff, Int.reduceEq]
    all_goals (repeat' refine And.intro ?_ ?_) <;> try exact shut7
 ·simp [no] at hp
def putW (x : List ByteArray × List ByteArray) (w : Late) : List ByteArray × List ByteArray := if w.side = 0 then (x.1.set w.at_.toNat w.text, x.2) else (x.1, x.2.set w.at_.toNat w.text)
theorem putW_len (x : List ByteArray × List ByteArray) (w : Late) : (putW x w).1.length = x.1.length ∧ (putW x w).2.length = x.2.length := by
 unfold putW; split <;> simp
def Dk.done (d : Dk) (n : Nat) : List ByteArray × List ByteArray := (d.l.take n).foldl putW (d.a, d.b)
theorem Dk.done_zero (d : Dk) : d.done 0 = (d.a, d.b) := by simp [Dk.done]
theorem take_succ_getD {α : Type} (l : List α) (n : Nat) (d : α) (h : n < l.length) : l.take (n + 1) = l.take n ++ [l.getD n d] := by
 rw [List.take_succ_eq_append_getElem h, List.getD_eq_getElem?_getD, List.getElem?_eq_getElem h]; rfl
theorem Dk.done_succ (d : Dk) (n : Nat) (h : n < d.l.length) : d.done (n + 1) = putW (d.done n) (d.l.getD n ET.late.dflt) := by
 unfold Dk.done
 rw [take_succ_getD _ _ ET.late.dflt h, List.foldl_append]; rfl
theorem Dk.done_len (d : Dk) : ∀ n, (d.done n).1.length = d.a.length ∧ (d.done n).2.length = d.b.length := by
 intro n
 unfold Dk.done
 generalize d.l.take n = l
 have : ∀ (l : List Late) (x : List ByteArray × List ByteArray), (l.foldl putW x).1.length = x.1.length ∧ (l.foldl putW x).2.length = x.2.length := by
  intro l
  induction l with
  | nil => intro x; exact ⟨rfl, rfl⟩
  | cons w l ih => intro x; rw [List.foldl_cons, (ih _).1, (ih _).2]; exact putW_len x w
 exact this l (d.a, d.b)
def Dk.flushed (d : Dk) : Dk := ⟨(d.done d.l.length).1, (d.done d.l.length).2, []⟩
def dkFlush (d : Dk) : Dk := if d.ok then d.flushed else .nil
@[go_sem] def ctDiskFlush : Ct := ⟨false, [[some .str, some .str, some .late]], fun args os => match args, os with
  | [.agg [.isl .str a, .isl .str b, .isl .late l]], [] => ⟨(Dk.mk a b l).small, (dkFlush ⟨a, b, l⟩).v 0, [], (dkFlush ⟨a, b, l⟩).objs⟩
  | _, _ => no⟩
theorem Dk.ok_late {d : Dk} (h : d.ok = true) (i : Nat) (hi : i < d.l.length) : ((d.l.getD i ET.late.dflt).side = 0 ∨ (d.l.getD i ET.late.dflt).side = 1) ∧ 0 ≤ (d.l.getD i ET.late.dflt).at_ ∧ (d.l.getD i ET.late.dflt).at_ < d.a.length ∧ (d.l.getD i ET.late.dflt).text.size ≤ 420 := by
 obtain ⟨-, -, -, -, -, -, h7⟩ := (Dk.ok_iff d).1 h
 have := h7 i hi
 unfold badLate sector long at this
 simp only [Bool.or_eq_false_iff, Bool.not_eq_false', Bool.and_eq_true, decide_eq_true_eq, decide_eq_false_iff_not] at this
 omega
@[go_sem] def sgFlush (a b : List ByteArray) (l : List Late) (x : List ByteArray × List ByteArray) (i : Nat) : Sg := ⟨[(1, .one (.ptr 0 0)), (2, .one (.ptr 1 0)), (3, .one (.ptr 5 0)), (4, vi i)],
  [some (.cells [.isl .str a, .isl .str b, .isl .late l]), some (.cells [.val (.slice none 0 0), .val (.slice none 0 0), .val (.slice none 0 0)]), some (.arr .str x.1), some (.arr .str x.2), some (.arr .late l), some (.cells [.osl .str 2 0 x.1.length, .osl .str 3 0 x.2.length, .osl .late 4 0 l.length])], []⟩
theorem s_specFlush_e : EnterOk Tryz.prog 35 := ⟨_, Tryz.func35, rfl, by decide⟩
@[go_sem] def s_specFlush_lv : List (List Nat) := [[1, 2], [1, 2, 7], [2], [1, 2, 3], [1, 2, 3, 4], [1, 2, 3, 4, 15], [1, 2, 3, 4], [1, 2, 3, 4], [2, 3], [2]]
@[go_sem] noncomputable def s_specFlush_K : Known := ((Known.nil).cons 46 ctDiskOk s_specDiskOk s_specDiskOk_e).cons 84 ctOwn s_copy s_copy_e
set_option maxHeartbeats 8000000 in
theorem s_specFlush : Sound Tryz.prog 35 ctDiskFlush := by
 have ke := s_specFlush_K.env []
 have kl : Lives s_specFlush_lv := trivial
 refine sound_intro (E := ⟨ti, s_specFlush_K.Γ, []⟩) ke Tryz.func35 Tryz.ntmps35 rfl (rs := [.cell 2 38]) rfl ?_
 intro args os hp
 unfold ctDiskFlush at hp ⊢
 dsimp only at hp ⊢
 split at hp
 ·rename_i a b l
  refine ⟨by simp, fun φ0 w0 => ?_⟩
  obtain ⟨h1, h2, h3⟩ : a.length ≤ 4000000 ∧ b.length ≤ 4000000 ∧ l.length ≤ 4000000 := hp
  refine goh trivial ?_
  refine W_cnd ?_ ?_ <;> (try simp only [cnd_r]) <;> intro hok
  ·have e1 : dkFlush ⟨a, b, l⟩ = .nil := by unfold dkFlush; rw [hok]; rfl
   refine goh trivial ?_
   refine ⟨by (simp only [go_sem, e1, Dk.nil, ↓reduceIte, reduceCtorEq, Nat.reduceAdd, Nat.reduceLT, Nat.reduceLeDiff, Nat.reduceEqDiff]) <;> trivial, [none, none, none], ?_⟩
   all_goals try simp only [go_sem, e1, Dk.nil, inj_r, ↓reduceIte, reduceCtorEq, Nat.reduceAdd, Nat.reduceLT, Nat.reduceLeDiff, Nat.reduceEqDiff, Int.reduceEq]
   all_goals (repeat' refine And.intro ?_ ?_) <;> try exact shut7
  ·have e1 : dkFlush ⟨a, b, l⟩ = (Dk.mk a b l).flushed := by unfold dkFlush; rw [hok]; rfl
   refine goh trivial ?_
   refine W_le (σ' := sgFlush a b l ((Dk.mk a b l).done 0) 0) [some 0, some 1, some 2, some 3, some 4, some 5] (by
    simp only [go_sem, Dk.done_zero, inj_r, ↓reduceIte, reduceCtorEq, Nat.reduceAdd, Nat.reduceLT, Nat.reduceLeDiff, Nat.reduceEqDiff, Int.reduceEq]
    all_goals (repeat' refine And.intro ?_ ?_) <;> try exact shut7
    ) ?_
   refine W_loop (fun n σ => ∃ i : Nat, i ≤ l.length ∧ n = l.length - i ∧ σ = sgFlush a b l ((Dk.mk a b l).done i) i) l.length ⟨0, by omega, by omega, rfl⟩ ?_
   rintro n σ ⟨i, hi, rfl, rfl⟩
   obtain ⟨hl1, hl2⟩ := (Dk.mk a b l).done_len i
   simp only at hl1 hl2
   unfold sgFlush
   refine goh trivial ?_
   refine W_cnd ?_ ?_ <;> (try simp only [cnd_r]) <;> intro hlt
   ·have hi' : i < l.length := by omega
    obtain ⟨ws, w1, w2, w3⟩ := Dk.ok_late hok i hi'
    have hd := (Dk.mk a b l).done_succ i hi'
    obtain ⟨-, -, hab, -⟩ := (Dk.ok_iff _).1 hok
    simp only at ws w1 w2 w3 hd hab
    generalize hx : (Dk.mk a b l).done i = x at *
    generalize hw : l.getD i ET.late.dflt = w at *
    obtain ⟨s, k, t⟩ := w
    simp only at ws w1 w2 w3
    rcases ws with rfl | rfl
    all_goals
     refine goh hw ?_
     refine ⟨l.length - (i + 1), [some 0, some 1, some 2, some 3, some 4, some 5], sgFlush a b l ((Dk.mk a b l).done (i + 1)) (i + 1), by omega, ?_, i + 1, by omega, rfl, rfl⟩
     rw [hd]
     simp only [go_sem, putW, List.length_set, inj_r, ↓reduceIte, reduceCtorEq, Nat.reduceAdd, Nat.reduceLT, Nat.reduceLeDiff, Nat.reduceEqDiff, Int.reduceEq]
     all_goals (repeat' refine And.intro ?_ ?_) <;> try exact shut7
   ·refine goh trivial ?_
    have : i = l.length := by omega
    subst this
    refine ⟨by (simp only [go_sem, e1, Dk.flushed, ↓reduceIte, reduceCtorEq, Nat.reduceAdd, Nat.reduceLT, Nat.reduceLeDiff, Nat.reduceEqDiff]) <;> trivial, [some 2, some 3, none], ?_⟩
    all_goals try simp only [go_sem, e1, Dk.flushed, inj_r, ↓reduceIte, reduceCtorEq, Nat.reduceAdd, Nat.reduceLT, Nat.reduceLeDiff, Nat.reduceEqDiff, Int.reduceEq]
    all_goals (repeat' refine And.intro ?_ ?_) <;> try exact shut7
 ·simp [no] at hp
end Go.Proofs.YtfmjgoeclilcnaaGreatDoor
namespace Go.Proofs.YtfmjgoeclilcnaaGreatDoor
open Go.RowKit
def sumAt (s : ByteArray) : Nat → Nat
 | 0 => 1 + s.size % 997
 | i + 1 => (257 * sumAt s i + (s.data.getD i 0).toNat + 1) % 65521
theorem sumAt_lt (s : ByteArray) : ∀ i, sumAt s i < 65521
 | 0 => by unfold sumAt; omega
 | i + 1 => by unfold sumAt; omega
def sumOf (s : ByteArray) : Nat := sumAt s s.size
@[go_sem] def ctSumOf : Ct := ⟨false, [], fun args os => match args, os with
  | [.one (.val (.string s))], [] => ifp (s.size ≤ 1000000000) (vi (sumOf s))
  | _, _ => no⟩
@[go_sem] def sgSum (s : ByteArray) (i : Nat) : Sg := ⟨[(0, .one (.val (.string s))), (3, vi (sumAt s i)), (10, vi s.size), (11, vi i)], [], []⟩
theorem sum_step (s : ByteArray) (i : Nat) (hi : i < s.size) : (IntKind.i64.wrap (IntKind.i64.wrap (IntKind.i64.wrap (257 * (sumAt s i : Int)) + IntKind.i64.wrap ((s.data.getD i 0).toNat : Int)) + 1)).tmod 65521 = (sumAt s (i + 1) : Nat) := by
 have h := sumAt_lt s i
 have hb : (s.data.getD i 0).toNat < 256 := (s.data.getD i 0).toNat_lt
 rw [wrap_id (257 * (sumAt s i : Int)) (by omega) (by omega), wrap_id ((s.data.getD i 0).toNat : Int) (by omega) (by omega), wrap_id (257 * (sumAt s i : Int) + ((s.data.getD i 0).toNat : Int)) (by omega) (by omega), wrap_id (257 * (sumAt s i : Int) + ((s.data.getD i 0).toNat : Int) + 1) (by omega) (by omega)]
 rw [show (257 * (sumAt s i : Int) + ((s.data.getD i 0).toNat : Int) + 1) = ((257 * sumAt s i + (s.data.getD i 0).toNat + 1 : Nat) : Int) by omega]
 show _ = (((257 * sumAt s i + (s.data.getD i 0).toNat + 1) % 65521 : Nat) : Int)
 exact (Int.ofNat_tmod _ _).symm
theorem sum_first (s : ByteArray) (h : s.size ≤ 1000000000) : IntKind.i64.wrap (1 + ((s.size : Int)).tmod 997) = (sumAt s 0 : Nat) := by
 have : ((s.size : Int)).tmod 997 = ((s.size % 997 : Nat) : Int) := (Int.ofNat_tmod _ _).symm
 rw [this, wrap_id _ (by omega) (by omega)]
 unfold sumAt
 omega
theorem s_sumOf_e : EnterOk Tryz.prog 166 := ⟨_, Tryz.func166, rfl, by decide⟩
@[go_sem] def s_sumOf_lv : List (List Nat) := [[0], [0, 3], [0, 3, 10, 11], [0, 3, 10, 11, 12], [0, 3, 4, 10, 11], [0, 3, 10, 11], [0, 3, 10, 11], [2]]
@[go_sem] noncomputable def s_sumOf_K : Known := Known.nil
set_option maxHeartbeats 8000000 in
theorem s_sumOf : Sound Tryz.prog 166 ctSumOf := by
 have ke := s_sumOf_K.env []
 have kl : Lives s_sumOf_lv := trivial
 refine sound_intro (E := ⟨ti, s_sumOf_K.Γ, []⟩) ke Tryz.func166 Tryz.ntmps166 rfl (rs := [.tmp 2]) rfl ?_
 intro args os hp
 unfold ctSumOf at hp ⊢
 dsimp only at hp ⊢
 split at hp
 ·rename_i s
  refine ⟨by simp, fun φ0 w0 => ?_⟩
  have hlen : s.size ≤ 1000000000 := hp
  clear hp
  refine goh trivial ?_
  refine W_le (σ' := sgSum s 0) [] (by
   simp only [go_sem, ↓reduceIte, reduceCtorEq, Nat.reduceAdd, Nat.reduceLT, Nat.reduceLeDiff, Nat.reduceEqDiff, TC.val.injEq, Value.int.injEq, TV.one.injEq, sum_first s hlen]
   all_goals ((repeat' apply And.intro) <;> first | rfl | trivial)) ?_
  refine W_loop (fun n σ => ∃ i : Nat, i ≤ s.size ∧ n = s.size - i ∧ σ = sgSum s i) s.size ⟨0, by omega, by omega, rfl⟩ ?_
  rintro n σ ⟨i, hi, rfl, rfl⟩
  unfold sgSum
  refine goh trivial ?_
  refine W_cnd ?_ ?_ <;> (try simp only [cnd_r]) <;> intro hlt
  ·refine goh trivial ?_
   refine ⟨s.size - (i + 1), [], sgSum s (i + 1), by omega, ?_, i + 1, by omega, rfl, rfl⟩
   have hst := sum_step s i (by omega)
   simp only [go_sem, ↓reduceIte, reduceCtorEq, Nat.reduceAdd, Nat.reduceLT, Nat.reduceLeDiff, Nat.reduceEqDiff, TC.val.injEq, Value.int.injEq, TV.one.injEq]
   (repeat' apply And.intro) <;> try first | rfl | trivial | exact hst | (rw [wrap_id] <;> omega)
  ·refine goh trivial ?_
   have hi' : i = s.size := by omega
   subst hi'
   exact finh [] trivial
 ·simp [no, ifp] at hp
end Go.Proofs.YtfmjgoeclilcnaaGreatDoor
namespace Go.Proofs.YtfmjgoeclilcnaaGreatDoor
open Go.RowKit
theorem at_set {α : Type} (xs : List α) (i j : Nat) (v d : α) : (xs.set i v).getD j d = if i = j ∧ j < xs.length then v else xs.getD j d := by
 simp only [List.getD_eq_getElem?_getD, List.getElem?_set]
 by_cases h : i = j
 ·subst h
  by_cases h2 : i < xs.length
  ·simp [h2]
  ·simp [h2]
 ·simp [h]
abbrev Two := List ByteArray × List ByteArray
def sec (x : Two) (s k : Int) : ByteArray := if s = 0 then ET.str.at x.1 k.toNat else ET.str.at x.2 k.toNat
def Sm (x : Two) : Prop := ∀ j : Nat, (x.1.getD j ET.str.dflt).size ≤ 420 ∧ (x.2.getD j ET.str.dflt).size ≤ 420
theorem Sm.sec {x : Two} (h : Sm x) (s k : Int) : (sec x s k).size ≤ 420 := by
 unfold Go.Proofs.YtfmjgoeclilcnaaGreatDoor.sec; split
 ·exact (h _).1
 ·exact (h _).2
theorem Sm.put {x : Two} (h : Sm x) (w : Late) (hw : w.text.size ≤ 420) : Sm (putW x w) := by
 intro j
 unfold putW
 split
 ·refine ⟨?_, (h j).2⟩
  simp only [at_set]
  split
  ·exact hw
  ·exact (h j).1
 ·refine ⟨(h j).1, ?_⟩
  simp only [at_set]
  split
  ·exact hw
  ·exact (h j).2
theorem Dk.ok_sm {d : Dk} (h : d.ok = true) : Sm (d.a, d.b) := by
 obtain ⟨-, -, -, -, h5, h6, -⟩ := (Dk.ok_iff d).1 h
 intro j
 have e : ∀ xs : List ByteArray, (∀ j, j < xs.length → long (xs.getD j ET.str.dflt) = false) → (xs.getD j ET.str.dflt).size ≤ 420 := by
  intro xs hx
  rcases Nat.lt_or_ge j xs.length with hj | hj
  ·have := hx j hj; unfold long at this; simp only [decide_eq_false_iff_not] at this; omega
  ·rw [List.getD_eq_getElem?_getD, List.getElem?_eq_none hj]; exact Nat.zero_le _
 exact ⟨e d.a h5, e d.b h6⟩
end Go.Proofs.YtfmjgoeclilcnaaGreatDoor
namespace Go.Proofs.YtfmjgoeclilcnaaGreatDoor
open Go.RowKit
theorem fits_sector (n : Nat) (s k : Int) : fits n s k ⟨#[]⟩ = sector n s k := by
 have : (⟨#[]⟩ : ByteArray).size = 0 := rfl
 unfold fits sector
 rw [Bool.eq_iff_iff]
 simp only [Bool.and_eq_true, decide_eq_true_eq, this]
 omega
theorem sector_iff (n : Nat) (s k : Int) : sector n s k = true ↔ (s = 0 ∨ s = 1) ∧ 0 ≤ k ∧ k < n := by
 unfold sector
 simp only [Bool.and_eq_true, decide_eq_true_eq]
 omega
end Go.Proofs.YtfmjgoeclilcnaaGreatDoor
