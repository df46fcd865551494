import Derived.Test.YtmnbgppmfbnamaaGreatDoorM14
import Derived.Test.YtmnbgppmfbnamaaGreatDoorM19
set_option linter.unusedSimpArgs false
set_option linter.unusedVariables false
set_option linter.unusedSectionVars false
/- Functions: the first commit of a new disk, the program's. -/
namespace Go.Proofs.YtmnbgppmfbnamaaGreatDoor
open Go.RowKit

@[go_sem] noncomputable def ctRunN : Ct := ⟨true, [], fun args os => match args, os with
  | [.one (.ptr 0 0)], [.cells [.osl .str 1 0 na, .osl .str 2 0 nb, .osl .late 3 0 nl, .val (.int .i64 x), .osl .cset 4 0 n1, .osl .ent 5 0 n2, .osl .ptr 6 0 n3, .val (.bool y), .osl .int 7 0 n4, .val (.int .i64 u), .osl .int 8 fo nf, .val (.slice none 0 0), .val (.slice none 0 0), .val (.slice none 0 0), .val (.slice none 0 0), .val (.slice none 0 0), .val (.slice none 0 0)], .arr .str a, .arr .str b, .arr .late l, .arr .cset cs, .arr .ent es, .arr .ptr ps, .arr .int zs, .arr .int fr] =>
    ⟨((cs = [] ∧ es = [] ∧ ps = [] ∧ zs = []) ∧ (n1 = 0 ∧ n2 = 0 ∧ n3 = 0 ∧ n4 = 0) ∧ y = false) ∧ (x = 0 ∧ 0 ≤ u ∧ u ≤ 8) ∧ ((Dk.mk a b l).ok = true ∧ na = a.length ∧ nb = b.length ∧ nl = l.length) ∧ l = [] ∧ 13 < a.length ∧ (fr.getD fo ET.int.dflt = 13 ∧ fo + nf ≤ fr.length ∧ 0 < nf ∧ fr.length ≤ 4000000), vb true, [(0, some (.cells [.osl .str 1 0 na, .osl .str 2 0 nb, .val (.slice none 0 0), .val (.int .i64 1), .osl .cset 4 0 n1, .osl .ent 5 0 n2, .osl .ptr 6 0 n3, .val (.bool false), .osl .int 9 0 1, .val (.int .i64 0), .osl .int 8 (fo + 1) (nf - 1), .any, .any, .any, .any, .any, .any])), (1, some (.arr .str (comD a b).a)), (2, some (.arr .str (comD a b).b)), (3, none)], [.arr .int [13]]⟩
  | _, _ => no⟩
theorem s_runN_e : EnterOk Tryz.prog 191 := ⟨_, Tryz.func191, rfl, by decide⟩
@[go_sem] def s_runN_lv : List (List Nat) := [[0], [0, 3, 4], [0, 3, 4], [0, 3, 4], [0, 3, 27], [2], [0, 3], [0, 3, 5], [0, 3, 4, 5], [0, 3, 4, 5], [0, 3, 5, 57], [2], [0, 3, 5], [], [2]]
@[go_sem] noncomputable def s_runN_K : Known := ((((((Known.nil).cons 240 ctBlocksN s_blocksN s_blocksN_e).cons 69 ctOwn s_own s_own_e).cons 71 ctFlushC s_flushC s_flushC_e).cons 241 ctUber s_uber s_uber_e).cons 182 ctWriteBothC s_writeBothC s_writeBothC_e).cons 242 ctRoomI s_room s_room_e
set_option maxHeartbeats 8000000 in
theorem s_runN : Sound Tryz.prog 191 ctRunN := by
  have ke := s_runN_K.env []
  have kl : Lives s_runN_lv := trivial
  refine sound_intro (E := ⟨ti, s_runN_K.Γ, []⟩) ke Tryz.func191 Tryz.ntmps191 rfl (rs := [.tmp 2]) rfl ?_
  intro args os hp
  unfold ctRunN at hp ⊢
  dsimp only at hp ⊢
  split at hp
  · rename_i na nb nl x n1 n2 n3 y n4 u fo nf a b l cs es ps zs fr
    refine ⟨by simp, fun φ0 w0 => ?_⟩
    obtain ⟨⟨⟨rfl, rfl, rfl, rfl⟩, ⟨rfl, rfl, rfl, rfl⟩, rfl⟩, ⟨rfl, hu0, hu1⟩, ⟨hok, rfl, rfl, rfl⟩, rfl, h13, ⟨hf0, g1, g2, g3⟩⟩ : ((cs = [] ∧ es = [] ∧ ps = [] ∧ zs = []) ∧ (n1 = 0 ∧ n2 = 0 ∧ n3 = 0 ∧ n4 = 0) ∧ y = false) ∧ (x = 0 ∧ 0 ≤ u ∧ u ≤ 8) ∧ ((Dk.mk a b l).ok = true ∧ na = a.length ∧ nb = b.length ∧ nl = l.length) ∧ l = [] ∧ 13 < a.length ∧ (fr.getD fo ET.int.dflt = 13 ∧ fo + nf ≤ fr.length ∧ 0 < nf ∧ fr.length ≤ 4000000) := hp
    obtain ⟨h1, h2, h3⟩ : a.length ≤ 120 ∧ b.length ≤ 120 ∧ ([] : List Late).length ≤ 600 := Dk.ok_small hok
    obtain ⟨m1, o1, o2, ⟨l2a, l2b⟩, m3, o3, ⟨l4a, l4b⟩, l4⟩ := com_facts hok h13
    have hb : blkTo 13 root0 1 = ⟨13, (sumOf root0 : Nat), 1⟩ := root1_eq
    have hr1 : root1 = ⟨13, (sumOf root0 : Nat), 1⟩ := root1_eq
    have hc1 : com1 a b = ⟨a, b, [⟨0, 13, root0⟩, ⟨1, 13, root0⟩]⟩ := rfl
    have hc2 : com2 a b = ⟨(com1 a b).flushed.a, (com1 a b).flushed.b, [⟨0, 2, uberT 1 root1⟩, ⟨1, 2, uberT 1 root1⟩]⟩ := rfl
    have f3 : (com2 a b).flushed = comD a b := rfl
    rw [hc2] at f3 o3
    rw [hr1] at f3 m3 o3
    obtain ⟨⟨A2, B2, L2⟩, hA2⟩ : ∃ d, (com1 a b).flushed = d := ⟨_, rfl⟩
    have hL2 : L2 = [] := (congrArg Dk.l hA2).symm
    subst hL2
    rw [hA2] at f3 o2 o3 l2a l2b m3
    rw [hc1] at hA2 o1
    simp only at f3 o2 o3 l2a l2b m3
    obtain ⟨S, hS⟩ : ∃ S : Int, (sumOf root0 : Nat) = S := ⟨_, rfl⟩
    rw [hS] at hb f3 m3 o3
    obtain ⟨U, hU⟩ : ∃ U, uberT 1 ⟨13, S, 1⟩ = U := ⟨_, rfl⟩
    rw [hU] at f3 m3 o3
    obtain ⟨D4, hD4⟩ : ∃ d, comD a b = d := ⟨_, rfl⟩
    rw [hD4] at f3 l4a l4b l4
    have hfit := core_fit0 0 u
    have hro := room_none hu0 hu1
    have hrz := roomZ_none hu0 hu1
    have q0 : (0 : Int) + 1 = 1 := rfl
    have q1 : (1 : Int).tmod 4 = 1 := rfl
    have q2 : (1 : Int) + 1 = 2 := rfl
    have z0 : ([13] : List Int) ++ zeros 0 = [13] := rfl
    have nt : (!true) = false := rfl
    have p1 : IntKind.i64.wrap 1 = 1 := wrap_id _ (by decide) (by decide)
    have p2 : IntKind.i64.wrap 2 = 2 := wrap_id _ (by decide) (by decide)
    refine W_le (σ' := ⟨[(0, .one (.ptr 0 0))], [some (.cells [.osl .str 1 0 a.length, .osl .str 2 0 b.length, .osl .late 3 0 0, .val (.int .i64 0), .osl .cset 4 0 0, .osl .ent 5 0 0, .osl .ptr 6 0 0, .val (.bool false), .osl .int 7 0 0, .val (.int .i64 u), .osl .int 8 fo nf, .any, .any, .any, .any, .any, .any]), some (.arr .str a), some (.arr .str b), some (.arr .late []), some (.arr .cset []), some (.arr .ent []), some (.arr .ptr []), some (.arr .int []), some (.arr .int fr)], []⟩) [some 0, some 1, some 2, some 3, some 4, some 5, some 6, some 7, some 8] (leh trivial) ?_
    refine goh (And.intro hf0 (And.intro m1 (And.intro q0 (And.intro hb nt)))) ?_
    refine W_cnd ?_ ?_ <;> intro hlit <;> try (cases hlit; done)
    refine W_le (σ' := ⟨[(0, .one (.ptr 0 0)), (3, .one (.ptr 10 0))], [some (.cells [.osl .str 1 0 a.length, .osl .str 2 0 b.length, .osl .late 9 0 2, .val (.int .i64 0), .osl .cset 4 0 0, .osl .ent 5 0 0, .osl .ptr 6 0 0, .val (.bool false), .osl .int 7 0 0, .val (.int .i64 u), .osl .int 8 (fo + 1) (nf - 1), .any, .any, .any, .any, .any, .any]), some (.arr .str a), some (.arr .str b), none, some (.arr .cset []), some (.arr .ent []), some (.arr .ptr []), some (.arr .int []), some (.arr .int fr), some (.arr .late [⟨0, 13, root0⟩, ⟨1, 13, root0⟩]), some (.cells [.val (.int .i64 13), .val (.int .i64 S), .val (.int .i64 1)])], [0, 1, 2, 3]⟩) [some 0, some 1, some 2, some 3, some 4, some 5, some 6, some 7, some 8, some 9, some 10] (leh trivial) ?_
    iterate 6 (all_goals try first
      | with_reducible refine red ?_
      | refine W_seq ?_
      | (refine W_reg (s_runN_K.env []) s_runN_lv fun K' hK' => ?_
         simp only [go_sem, hA2, o1, Dk.small, ↓reduceIte, ↓reduceDIte, reduceCtorEq, Nat.reduceAdd, Nat.reduceMul, Nat.reduceSub, Nat.reduceDiv, Nat.reduceMod, Nat.reduceLT, Nat.reduceLeDiff, Nat.reduceEqDiff, Nat.reduceBEq, Int.reduceToNat, Int.reduceLE, Int.reduceLT, Int.reduceEq, Int.reduceNe, Int.reduceNeg]
         (repeat' refine And.intro ?_ ?_) <;> try first | with_reducible refine hK' ?_ | exact shut6)
      | with_reducible refine blockG_o (by decide) ?_)
    refine W_le (σ' := ⟨[(0, .one (.ptr 0 0)), (3, .one (.ptr 10 0))], [some (.cells [.osl .str 1 0 A2.length, .osl .str 2 0 B2.length, .osl .late 9 0 0, .val (.int .i64 0), .osl .cset 4 0 0, .osl .ent 5 0 0, .osl .ptr 6 0 0, .val (.bool false), .osl .int 7 0 0, .val (.int .i64 u), .osl .int 8 (fo + 1) (nf - 1), .any, .any, .any, .any, .any, .any]), some (.arr .str A2), some (.arr .str B2), none, some (.arr .cset []), some (.arr .ent []), some (.arr .ptr []), some (.arr .int []), some (.arr .int fr), some (.arr .late []), some (.cells [.val (.int .i64 13), .val (.int .i64 S), .val (.int .i64 1)])], [0, 1, 2, 3]⟩) [some 0, some 1, some 2, some 3, some 4, some 5, some 6, some 7, some 8, none, some 10] (leh (And.intro l2a l2b)) ?_
    refine goh (And.intro q0 (And.intro q1 (And.intro q2 (And.intro p1 (And.intro p2 (And.intro hU (And.intro m3 nt))))))) ?_

    refine W_cnd ?_ ?_ <;> intro hlit <;> try (cases hlit; done)
    refine W_le (σ' := ⟨[(0, .one (.ptr 0 0)), (3, .one (.ptr 10 0)), (5, vi 1)], [some (.cells [.osl .str 1 0 A2.length, .osl .str 2 0 B2.length, .osl .late 9 0 2, .val (.int .i64 0), .osl .cset 4 0 0, .osl .ent 5 0 0, .osl .ptr 6 0 0, .val (.bool false), .osl .int 7 0 0, .val (.int .i64 u), .osl .int 8 (fo + 1) (nf - 1), .any, .any, .any, .any, .any, .any]), some (.arr .str A2), some (.arr .str B2), none, some (.arr .cset []), some (.arr .ent []), some (.arr .ptr []), some (.arr .int []), some (.arr .int fr), some (.arr .late [⟨0, 2, U⟩, ⟨1, 2, U⟩]), some (.cells [.val (.int .i64 13), .val (.int .i64 S), .val (.int .i64 1)])], [0, 1, 2, 3]⟩) [some 0, some 1, some 2, some 3, some 4, some 5, some 6, some 7, some 8, some 11, some 10] (leh trivial) ?_
    refine goh (And.intro f3 (And.intro o3 (And.intro hro (And.intro hrz (And.intro z0 (And.intro hfit (And.intro l2a l2b))))))) ?_

    exact finh [some 0, some 1, some 2, some 3, some 4, some 5, some 6, some 7, some 8, some 11] (And.intro hD4 (And.intro z0 (And.intro l4a l4b)))
  · simp [no] at hp
@[go_sem] noncomputable def ctNewCommitN : Ct := ⟨false, [[some .str, some .str, some .late], [none, some .cset, some .ent, some .ptr, none, some .int, none]], fun args os => match args, os with
  | [.agg [.isl .str a, .isl .str b, .isl .late l], .agg [.val (.int .i64 x), .isl .cset cs, .isl .ent es, .isl .ptr ps, .val (.bool y), .isl .int zs, .val (.int .i64 u)]], [] => ⟨((cs = [] ∧ es = [] ∧ ps = [] ∧ zs = []) ∧ y = false ∧ x = 0 ∧ u = 0) ∧ (Dk.mk a b l).ok = true ∧ 13 < a.length ∧ l = [], .tup [.one (.ptr 0 0), vb true], [], [.cells [.osl .str 1 0 a.length, .osl .str 2 0 b.length, .osl .late 3 0 0, .val (.int .i64 0), .osl .cset 4 0 0, .osl .ent 5 0 0, .osl .ptr 6 0 0, .val (.bool false), .osl .int 7 0 0, .val (.int .i64 0), .osl .int 8 0 (a.length - 13), .val (.slice none 0 0), .val (.slice none 0 0), .val (.slice none 0 0), .val (.slice none 0 0), .val (.slice none 0 0), .val (.slice none 0 0)], .arr .str a, .arr .str b, .arr .late [], .arr .cset [], .arr .ent [], .arr .ptr [], .arr .int [], .arr .int (freeL [] [] a.length)]⟩
  | _, _ => no⟩
theorem s_newCommitN_e : EnterOk Tryz.prog 190 := ⟨_, Tryz.func190, rfl, by decide⟩
@[go_sem] def s_newCommitN_lv : List (List Nat) := [[2, 3], [2, 3, 6], [2, 3, 6, 22], [4, 5], [4, 5]]
@[go_sem] noncomputable def s_newCommitN_K : Known := ((((Known.nil).cons 238 ctFree s_free s_free_e).cons 239 ctNeeds s_needs s_needs_e).cons 69 ctOwn s_own s_own_e).cons 98 ctToCore s_ownCore s_ownCore_e
set_option maxHeartbeats 8000000 in
theorem s_newCommitN : Sound Tryz.prog 190 ctNewCommitN := by
  have ke := s_newCommitN_K.env []
  have kl : Lives s_newCommitN_lv := trivial
  refine sound_intro (E := ⟨ti, s_newCommitN_K.Γ, []⟩) ke Tryz.func190 Tryz.ntmps190 rfl (rs := [.tmp 4, .tmp 5]) rfl ?_
  intro args os hp
  unfold ctNewCommitN at hp ⊢
  dsimp only at hp ⊢
  split at hp
  · rename_i a b l x cs es ps y zs u
    refine ⟨by simp, fun φ0 w0 => ?_⟩
    obtain ⟨⟨⟨rfl, rfl, rfl, rfl⟩, rfl, rfl, rfl⟩, hok, h13, rfl⟩ : ((cs = [] ∧ es = [] ∧ ps = [] ∧ zs = []) ∧ y = false ∧ x = 0 ∧ u = 0) ∧ (Dk.mk a b l).ok = true ∧ 13 < a.length ∧ l = [] := hp
    obtain ⟨h1, h2, h3⟩ : a.length ≤ 120 ∧ b.length ≤ 120 ∧ ([] : List Late).length ≤ 600 := Dk.ok_small hok
    have hco := core0_ok (u := 0) (by decide) (by decide)
    have hfit := core_fit0 0 0
    obtain ⟨fr, hfr, hfl, hf0⟩ := free_none a.length h13
    have has : Asc [] := ⟨fun i _ hi => by simp at hi, fun i hi => by simp at hi⟩
    have hup : UpI [] := fun i j _ hj => by simp at hj
    have hnd : (if (Co.mk 0 [] [] [] false [] 0).ok = true then (needsN ⟨0, [], [], [], false, [], 0⟩ : Int) else 0) = 1 := by rw [if_pos hco]; rfl
    have c0 : ((0 : Int) == 1000000) = false := rfl
    have c1 : decide (((a.length - 13 : Nat) : Int) < 1) = false := by simp; omega
    refine goh (And.intro hfr (And.intro hfl (And.intro hnd (And.intro c0 (And.intro c1 (And.intro hfit (And.intro has hup))))))) ?_
    refine W_cnd ?_ ?_ <;> intro hlit <;> try (cases hlit; done)
    refine goh (And.intro hfr hfl) ?_
    exact finh [some 10, some 3, some 4, some 5, some 6, some 7, some 8, some 9, some 2] hfr
  · simp [no] at hp
theorem s_implDo_e : EnterOk Tryz.prog 116 := ⟨_, Tryz.func116, rfl, by decide⟩
@[go_sem] def s_implDo_lv : List (List Nat) := [[2, 3, 4, 5], [2, 3, 4, 5, 12], [4, 5, 6], [2, 3, 4, 5, 7, 8], [2, 3, 4, 5, 7, 27], [4, 5, 6], [4, 5, 6]]
@[go_sem] noncomputable def s_implDo_K : Known := (((((Known.nil).cons 189 ctCommitOk s_commitOk s_commitOk_e).cons 190 ctNewCommitN s_newCommitN s_newCommitN_e).cons 191 ctRunN s_runN s_runN_e).cons 69 ctOwn s_own s_own_e).cons 98 ctToCore s_ownCore s_ownCore_e
set_option maxHeartbeats 8000000 in
theorem s_implDo : Sound Tryz.prog 116 ctDoNS := by
  have ke := s_implDo_K.env []
  have kl : Lives s_implDo_lv := trivial
  refine sound_intro (E := ⟨ti, s_implDo_K.Γ, []⟩) ke Tryz.func116 Tryz.ntmps116 rfl (rs := [.cell 4 36, .cell 5 68, .tmp 6]) rfl ?_
  intro args os hp
  unfold ctDoNS at hp ⊢
  dsimp only at hp ⊢
  split at hp
  · rename_i a b l x cs es ps y zs u
    refine ⟨by simp, fun φ0 w0 => ?_⟩
    obtain ⟨⟨⟨rfl, rfl, rfl, rfl⟩, rfl, rfl, rfl⟩, ⟨h1, h2, h3⟩, rfl⟩ : ((cs = [] ∧ es = [] ∧ ps = [] ∧ zs = []) ∧ y = false ∧ x = 0 ∧ u = 0) ∧ (Dk.mk a b l).small ∧ l = [] := hp
    simp only at h1 h2 h3
    have hco := core0_ok (u := 0) (by decide) (by decide)
    have hfit := core_fit0 0 0
    have nt : (!true) = false := rfl
    have nf : (!false) = true := rfl
    by_cases hd : (Dk.mk a b []).ok = true ∧ 13 < a.length
    · obtain ⟨hok, h13⟩ := hd
      have e : comV a b = (comD a b, coR, 0) := by unfold comV; rw [if_pos ⟨hok, h13⟩]
      have hpb : poolB ⟨⟨a, b, []⟩, ⟨0, [], [], [], false, [], 0⟩, true⟩ = true := by unfold poolB; simp only [hok, hco, decide_eq_true h13, Bool.and_self]
      obtain ⟨g1, g2, -⟩ : a.length ≤ 120 ∧ b.length ≤ 120 ∧ ([] : List Late).length ≤ 600 := Dk.ok_small hok
      obtain ⟨-, -, -, -, -, -, ⟨l4a, l4b⟩, l4⟩ := com_facts hok h13
      obtain ⟨fr, hfr, hfl, hf0⟩ := free_none a.length h13
      obtain ⟨D4, hD4⟩ : ∃ d, comD a b = d := ⟨_, rfl⟩
      rw [hD4] at e l4a l4b l4
      refine goh (And.intro hpb (And.intro hfit nt)) ?_
      refine W_cnd ?_ ?_ <;> intro hlit <;> try (cases hlit; done)
      refine goh (And.intro hok (And.intro hfr (And.intro hf0 (And.intro hfl (And.intro hD4 nt))))) ?_
      refine W_cnd ?_ ?_ <;> intro hlit <;> try (cases hlit; done)
      have t1 : D4.a.take a.length = D4.a := List.take_of_length_le (by omega)
      have t2 : D4.b.take b.length = D4.b := List.take_of_length_le (by omega)
      refine goh (And.intro t1 (And.intro t2 (And.intro l4a l4b))) ?_
      refine ⟨by (simp only [go_sem, e, coR, l4a, l4b, l4, ↓reduceIte, reduceCtorEq, Nat.reduceAdd, Nat.reduceLT, Nat.reduceLeDiff, Nat.reduceEqDiff]) <;> trivial, [some 14, some 15, some 16, some 17, some 18, some 19, some 20], ?_⟩
      all_goals try simp only [go_sem, e, coR, l4a, l4b, l4, inj_r, ↓reduceIte, reduceCtorEq, Nat.reduceAdd, Nat.reduceLT, Nat.reduceLeDiff, Nat.reduceEqDiff, Int.reduceEq]
      all_goals (repeat' refine And.intro ?_ ?_) <;> try exact shut7
    · have e : comV a b = (.nil, .nil, 5) := by unfold comV; rw [if_neg hd]
      have hpb : poolB ⟨⟨a, b, []⟩, ⟨0, [], [], [], false, [], 0⟩, true⟩ = false := by
        unfold poolB
        cases hok : (Dk.mk a b []).ok with
        | false => rfl
        | true =>
          have : decide (13 < a.length) = false := decide_eq_false fun h => hd ⟨hok, h⟩
          simp only [this, Bool.false_and, Bool.and_false]
      refine goh (And.intro hpb (And.intro hfit nf)) ?_
      refine W_cnd ?_ ?_ <;> intro hlit <;> try (cases hlit; done)
      refine goh trivial ?_
      refine ⟨by (simp only [go_sem, e, Dk.nil, Co.nil, ↓reduceIte, reduceCtorEq, Nat.reduceAdd, Nat.reduceLT, Nat.reduceLeDiff, Nat.reduceEqDiff]) <;> trivial, [none, none, none, none, none, none, none], ?_⟩
      all_goals try simp only [go_sem, e, Dk.nil, Co.nil, inj_r, ↓reduceIte, reduceCtorEq, Nat.reduceAdd, Nat.reduceLT, Nat.reduceLeDiff, Nat.reduceEqDiff, Int.reduceEq]
      all_goals (repeat' refine And.intro ?_ ?_) <;> try exact shut7
  · simp [no] at hp
theorem s_implNew_e : EnterOk Tryz.prog 38 := ⟨_, Tryz.func38, rfl, by decide⟩
@[go_sem] def s_implNew_lv : List (List Nat) := [[0, 2, 3], [2, 3, 5, 6, 7], [2, 3, 4]]
@[go_sem] noncomputable def s_implNew_K : Known := ((Known.nil).cons 14 ctSpecOpen s_diskOpen s_diskOpen_e).cons 116 ctDoNS s_implDo s_implDo_e
set_option maxHeartbeats 8000000 in
theorem s_implNew : Sound Tryz.prog 38 ctNewS := by
  have ke := s_implNew_K.env []
  have kl : Lives s_implNew_lv := trivial
  refine sound_intro (E := ⟨ti, s_implNew_K.Γ, []⟩) ke Tryz.func38 Tryz.ntmps38 rfl (rs := [.cell 2 36, .cell 3 68, .tmp 4]) rfl ?_
  intro args os hp
  unfold ctNewS at hp ⊢
  dsimp only at hp ⊢
  split at hp
  · rename_i n
    refine ⟨by simp, fun φ0 w0 => ?_⟩
    clear hp
    have h1 := open_late n
    have h2 := open_small n
    have hnv : newV n = ((comV (dkOpen n).a (dkOpen n).b).1, (comV (dkOpen n).a (dkOpen n).b).2.1, (comV (dkOpen n).a (dkOpen n).b).2.2 == 0) := rfl
    obtain ⟨⟨a, b, l⟩, hd⟩ : ∃ d, dkOpen n = d := ⟨_, rfl⟩
    rw [hd] at h1 h2 hnv
    simp only at h1 h2 hnv
    subst h1
    obtain ⟨g1, g2⟩ := h2
    obtain ⟨⟨D, C, k⟩, hk⟩ : ∃ r, comV a b = r := ⟨_, rfl⟩
    rw [hk] at hnv
    refine goh (And.intro hd hk) ?_
    exact finh [some 5, some 6, some 7, some 8, some 9, some 10, some 11] hnv
  · simp [no] at hp
end Go.Proofs.YtmnbgppmfbnamaaGreatDoor
/- Plain facts: the lists of a new disk are not long. -/
namespace Go.Proofs.YtmnbgppmfbnamaaGreatDoor
open Go.RowKit

theorem mid_new (n : Int) : (newV n).1.mid ∧ (newV n).2.1.mid := by
  have h := open_small n
  unfold newV
  simp only
  unfold comV
  split
  · rename_i hc
    obtain ⟨hok, h13⟩ := hc
    obtain ⟨-, -, -, -, -, -, ⟨l4a, l4b⟩, l4⟩ := com_facts hok h13
    exact ⟨⟨by rw [l4a]; omega, by rw [l4b]; omega, by rw [l4]; simp⟩, ⟨Nat.zero_le _, Nat.zero_le _, Nat.zero_le _, by show 1 ≤ _; omega⟩⟩
  · exact ⟨Dk.mid_nil, Co.mid_nil⟩
end Go.Proofs.YtmnbgppmfbnamaaGreatDoor
