import Derived.Test.YtmnbgppmfbnamaaGreatDoorM8
import Derived.Test.YtmnbgppmfbnamaaGreatDoorM10
import Derived.Test.YtmnbgppmfbnamaaGreatDoorM12
set_option linter.unusedSimpArgs false
set_option linter.unusedVariables false
set_option linter.unusedSectionVars false
/- Functions of the exact laws: cores and pools. -/
namespace Go.Proofs.YtmnbgppmfbnamaaGreatDoor
open Go.RowKit

structure Co.inn (c : Co) : Prop where
  sets : inC c.sets
  ddt : c.ddt.length ≤ 9223372036854775807
  parts : c.parts.length ≤ 9223372036854775807
  safe : c.safe.length ≤ 9223372036854775807
def Co.wt (c : Co) : List Nat := wC c.sets ++ ([c.ddt.length] ++ ([c.parts.length] ++ [c.safe.length]))
@[go_sem] def Co.v (c : Co) (n : Nat) : TV := .agg [.val (.int .i64 c.txg), .osl .cset n 0 c.sets.length, .osl .ent (n + 1) 0 c.ddt.length, .osl .ptr (n + 2) 0 c.parts.length, .val (.bool c.dirty), .osl .int (n + 3) 0 c.safe.length, .val (.int .i64 c.logn)]
@[go_sem] def Co.objs (c : Co) : List Obj := [.arr .cset c.sets, .arr .ent c.ddt, .arr .ptr c.parts, .arr .int c.safe]
@[go_sem] def ctSzCore : Ct := ⟨false, [[none, some .cset, some .ent, some .ptr, none, some .int, none]], fun args os => match args, os with
  | [.agg [.val (.int .i64 x), .isl .cset cs, .isl .ent es, .isl .ptr ps, .val (.bool y), .isl .int zs, .val (.int .i64 u)], .one (.val (.int .i64 n))], [] => ifp ((Co.mk x cs es ps y zs u).inn ∧ 0 ≤ n ∧ n ≤ 1048576) (vi (szW (Co.mk x cs es ps y zs u).wt n))
  | _, _ => no⟩
theorem s_szCore_e : EnterOk Tryz.prog 27 := ⟨_, Tryz.func27, rfl, by decide⟩
@[go_sem] def s_szCore_lv : List (List Nat) := [[1, 2], [1, 2], [1, 2, 10], [4], [1, 2], [1, 2, 16], [4], [1, 2], [1, 2, 22], [4], [1], [1, 28], [4], [4]]
@[go_sem] noncomputable def s_szCore_K : Known := ((((Known.nil).cons 84 ctSzCs s_szCs s_szCs_e).cons 85 ctSzEs s_szEs s_szEs_e).cons 86 ctSzPs s_szPs s_szPs_e).cons 87 ctSzI s_szI s_szI_e
set_option maxHeartbeats 8000000 in
theorem s_szCore : Sound Tryz.prog 27 ctSzCore := by
  have ke := s_szCore_K.env []
  have kl : Lives s_szCore_lv := trivial
  refine sound_intro (E := ⟨ti, s_szCore_K.Γ, []⟩) ke Tryz.func27 Tryz.ntmps27 rfl (rs := [.tmp 4]) rfl ?_
  intro args os hp
  unfold ctSzCore at hp ⊢
  dsimp only at hp ⊢
  split at hp
  · rename_i x cs es ps y zs u n
    refine ⟨by simp, fun φ0 w0 => ?_⟩
    obtain ⟨⟨h1, h2, h3, h4⟩, h5, h6⟩ : (Co.mk x cs es ps y zs u).inn ∧ 0 ≤ n ∧ n ≤ 1048576 := hp
    simp only at h1 h2 h3 h4
    have e0 : szW (Co.mk x cs es ps y zs u).wt n = szW (wC cs ++ ([es.length] ++ ([ps.length] ++ [zs.length]))) n := rfl
    have e1 := szW_app (wC cs) ([es.length] ++ ([ps.length] ++ [zs.length])) n h5
    have i1 := szW_in (wC cs) n h5
    refine goh trivial ?_
    refine W_cnd ?_ ?_ <;> (try simp only [cnd_r]) <;> intro hc1
    · rw [if_pos hc1] at e1
      refine goh trivial ?_
      have ez := (e0.trans e1)
      exact finh [] ez
    · rw [if_neg hc1] at e1
      obtain ⟨m1, hm1⟩ : ∃ m, szW (wC cs) n = m := ⟨_, rfl⟩
      rw [hm1] at e1 i1 hc1
      have e2 := szW_app [es.length] ([ps.length] ++ [zs.length]) m1 (by omega)
      have i2 := szW_in [es.length] m1 (by omega)
      refine goh hm1 ?_
      refine W_cnd ?_ ?_ <;> (try simp only [cnd_r]) <;> intro hc2
      · rw [if_pos hc2] at e2
        refine goh trivial ?_
        have ez := ((e0.trans e1).trans e2)
        exact finh [] ez
      · rw [if_neg hc2] at e2
        obtain ⟨m2, hm2⟩ : ∃ m, szW [es.length] m1 = m := ⟨_, rfl⟩
        rw [hm2] at e2 i2 hc2
        have e3 := szW_app [ps.length] [zs.length] m2 (by omega)
        have i3 := szW_in [ps.length] m2 (by omega)
        refine goh hm2 ?_
        refine W_cnd ?_ ?_ <;> (try simp only [cnd_r]) <;> intro hc3
        · rw [if_pos hc3] at e3
          refine goh trivial ?_
          have ez := (((e0.trans e1).trans e2).trans e3)
          exact finh [] ez
        · rw [if_neg hc3] at e3
          obtain ⟨m3, hm3⟩ : ∃ m, szW [ps.length] m2 = m := ⟨_, rfl⟩
          rw [hm3] at e3 i3 hc3
          have i4 := szW_in [zs.length] m3 (by omega)
          refine goh hm3 ?_
          refine W_cnd ?_ ?_ <;> (try simp only [cnd_r]) <;> intro hc4
          · have e4 : szW [zs.length] m3 = -1 := by omega
            refine goh trivial ?_
            have ez := ((((e0.trans e1).trans e2).trans e3).trans e4)
            exact finh [] ez
          · refine goh trivial ?_
            have ez := (((e0.trans e1).trans e2).trans e3)
            exact finh [] ez
  · simp [no, ifp] at hp
def Pl.wt (p : Pl) : List Nat := p.disk.wt ++ p.core.wt
structure Pl.inn (p : Pl) : Prop where
  disk : p.disk.inn
  core : p.core.inn
@[go_sem] def ctSzPool : Ct := ⟨false, [[some .str, some .str, some .late, none, some .cset, some .ent, some .ptr, none, some .int, none, none]], fun args os => match args, os with
  | [.agg [.isl .str a, .isl .str b, .isl .late l, .val (.int .i64 x), .isl .cset cs, .isl .ent es, .isl .ptr ps, .val (.bool y), .isl .int zs, .val (.int .i64 u), .val (.bool o)], .one (.val (.int .i64 n))], [] => ifp ((Pl.mk ⟨a, b, l⟩ ⟨x, cs, es, ps, y, zs, u⟩ o).inn ∧ 0 ≤ n ∧ n ≤ 1048576) (vi (szW (Pl.mk ⟨a, b, l⟩ ⟨x, cs, es, ps, y, zs, u⟩ o).wt n))
  | _, _ => no⟩
theorem pool_small {p : Pl} {n : Int} (h : 0 ≤ szW p.wt n) : (p.disk.a.length ≤ n ∧ p.disk.b.length ≤ n ∧ p.disk.l.length ≤ n) ∧ p.core.sets.length ≤ n ∧ p.core.ddt.length ≤ n ∧ p.core.parts.length ≤ n ∧ p.core.safe.length ≤ n :=
  ⟨⟨szW_mem h (by simp [Pl.wt, Dk.wt, wS]), szW_mem h (by simp [Pl.wt, Dk.wt, wS]), szW_mem h (by simp [Pl.wt, Dk.wt, wL])⟩, szW_mem h (by simp [Pl.wt, Co.wt, wC]), szW_mem h (by simp [Pl.wt, Co.wt]), szW_mem h (by simp [Pl.wt, Co.wt]), szW_mem h (by simp [Pl.wt, Co.wt])⟩
@[go_sem] def ctToCore : Ct := ⟨false, [[none, some .cset, some .ent, some .ptr, none, some .int, none]], fun args os => match args, os with
  | [.agg [.val (.int .i64 x), .isl .cset cs, .isl .ent es, .isl .ptr ps, .val (.bool y), .isl .int zs, .val (.int .i64 u)]], [] => ⟨(Co.mk x cs es ps y zs u).small, (Co.mk x cs es ps y zs u).v 0, [], (Co.mk x cs es ps y zs u).objs⟩
  | _, _ => no⟩
theorem s_toCore_e : EnterOk Tryz.prog 30 := ⟨_, Tryz.func30, rfl, by decide⟩
@[go_sem] def s_toCore_lv : List (List Nat) := [[1, 2], [1, 2, 3], [1, 2, 3], [1, 2, 3], [1, 2, 3], [1, 2, 3], [1, 2, 3], [1, 2, 3], [2, 3], [2]]
@[go_sem] noncomputable def s_toCore_K : Known := ((((Known.nil).cons 93 ctToCs s_toCs s_toCs_e).cons 94 ctToEs s_toEs s_toEs_e).cons 95 ctToPs s_toPs s_toPs_e).cons 96 ctToI s_toI s_toI_e
set_option maxHeartbeats 8000000 in
theorem s_toCore : Sound Tryz.prog 30 ctToCore := by
  have ke := s_toCore_K.env []
  have kl : Lives s_toCore_lv := trivial
  refine sound_intro (E := ⟨ti, s_toCore_K.Γ, []⟩) ke Tryz.func30 Tryz.ntmps30 rfl (rs := [.cell 2 68]) rfl ?_
  intro args os hp
  unfold ctToCore at hp ⊢
  dsimp only at hp ⊢
  split at hp
  · rename_i x cs es ps y zs u
    refine ⟨by simp, fun φ0 w0 => ?_⟩
    obtain ⟨h1, h2, h3, h4⟩ : (Co.mk x cs es ps y zs u).small := hp
    simp only at h1 h2 h3 h4
    refine goh trivial ?_
    exact finh [some 3, some 4, some 5, some 6] trivial
  · simp [no] at hp
@[go_sem] def Pl.v (p : Pl) : TV := .agg [.osl .str 0 0 p.disk.a.length, .osl .str 1 0 p.disk.b.length, .osl .late 2 0 p.disk.l.length, .val (.int .i64 p.core.txg), .osl .cset 3 0 p.core.sets.length, .osl .ent 4 0 p.core.ddt.length, .osl .ptr 5 0 p.core.parts.length, .val (.bool p.core.dirty), .osl .int 6 0 p.core.safe.length, .val (.int .i64 p.core.logn), .val (.bool p.up)]
@[go_sem] def Pl.objs (p : Pl) : List Obj := [.arr .str p.disk.a, .arr .str p.disk.b, .arr .late p.disk.l, .arr .cset p.core.sets, .arr .ent p.core.ddt, .arr .ptr p.core.parts, .arr .int p.core.safe]
def Pl.small (p : Pl) : Prop := p.disk.small ∧ p.core.small
@[go_sem] def ctToPool : Ct := ⟨false, [[some .str, some .str, some .late, none, some .cset, some .ent, some .ptr, none, some .int, none, none]], fun args os => match args, os with
  | [.agg [.isl .str a, .isl .str b, .isl .late l, .val (.int .i64 x), .isl .cset cs, .isl .ent es, .isl .ptr ps, .val (.bool y), .isl .int zs, .val (.int .i64 u), .val (.bool o)]], [] => ⟨(Pl.mk ⟨a, b, l⟩ ⟨x, cs, es, ps, y, zs, u⟩ o).small, (Pl.mk ⟨a, b, l⟩ ⟨x, cs, es, ps, y, zs, u⟩ o).v, [], (Pl.mk ⟨a, b, l⟩ ⟨x, cs, es, ps, y, zs, u⟩ o).objs⟩
  | _, _ => no⟩
@[go_sem] def ctEqCore : Ct := ⟨false, [[none, some .cset, some .ent, some .ptr, none, some .int, none], [none, some .cset, some .ent, some .ptr, none, some .int, none]], fun args os => match args, os with
  | [.agg [.val (.int .i64 x), .isl .cset cs, .isl .ent es, .isl .ptr ps, .val (.bool y), .isl .int zs, .val (.int .i64 u)], .agg [.val (.int .i64 x'), .isl .cset cs', .isl .ent es', .isl .ptr ps', .val (.bool y'), .isl .int zs', .val (.int .i64 u')]], [] => ifp ((x = x' ∧ cs = cs' ∧ es = es' ∧ ps = ps' ∧ y = y' ∧ zs = zs' ∧ u = u') ∧ (Co.mk x cs es ps y zs u).small) (vb true)
  | _, _ => no⟩
theorem s_eqCore_e : EnterOk Tryz.prog 33 := ⟨_, Tryz.func33, rfl, by decide⟩
@[go_sem] def s_eqCore_lv : List (List Nat) := [[2, 3], [2, 3, 9], [4], [2, 3, 15], [4], [2, 3, 21], [4], [2, 3, 27], [4], [2, 3, 32], [4], [2, 3, 38], [4], [43], [4], [4]]
@[go_sem] noncomputable def s_eqCore_K : Known := ((((Known.nil).cons 100 ctEqCs s_eqCs s_eqCs_e).cons 101 ctEqEs s_eqEs s_eqEs_e).cons 102 ctEqPs s_eqPs s_eqPs_e).cons 103 ctEqI s_eqI s_eqI_e
set_option maxHeartbeats 8000000 in
theorem s_eqCore : Sound Tryz.prog 33 ctEqCore := by
  have ke := s_eqCore_K.env []
  have kl : Lives s_eqCore_lv := trivial
  refine sound_intro (E := ⟨ti, s_eqCore_K.Γ, []⟩) ke Tryz.func33 Tryz.ntmps33 rfl (rs := [.tmp 4]) rfl ?_
  intro args os hp
  unfold ctEqCore at hp ⊢
  dsimp only at hp ⊢
  split at hp
  · rename_i x cs es ps y zs u x' cs' es' ps' y' zs' u'
    refine ⟨by simp, fun φ0 w0 => ?_⟩
    obtain ⟨⟨rfl, rfl, rfl, rfl, rfl, rfl, rfl⟩, h1, h2, h3, h4⟩ : (x = x' ∧ cs = cs' ∧ es = es' ∧ ps = ps' ∧ y = y' ∧ zs = zs' ∧ u = u') ∧ (Co.mk x cs es ps y zs u).small := hp
    simp only at h1 h2 h3 h4
    refine goh trivial ?_
    refine W_cnd ?_ ?_ <;> intro hlit <;> try (cases hlit; done)
    refine goh trivial ?_
    refine W_cnd ?_ ?_ <;> intro hlit <;> try (cases hlit; done)
    refine goh trivial ?_
    refine W_cnd ?_ ?_ <;> intro hlit <;> try (cases hlit; done)
    refine goh trivial ?_
    refine W_cnd ?_ ?_ <;> intro hlit <;> try (cases hlit; done)
    refine goh trivial ?_
    refine W_cnd ?_ ?_ <;> intro hlit <;> try (cases hlit; done)
    refine goh trivial ?_
    refine W_cnd ?_ ?_ <;> intro hlit <;> try (cases hlit; done)
    refine goh trivial ?_
    refine W_cnd ?_ ?_ <;> intro hlit <;> try (cases hlit; done)
    refine goh trivial ?_
    exact finh [] trivial
  · simp [no, ifp] at hp
@[go_sem] def ctEqPool : Ct := ⟨false, [[some .str, some .str, some .late, none, some .cset, some .ent, some .ptr, none, some .int, none, none], [some .str, some .str, some .late, none, some .cset, some .ent, some .ptr, none, some .int, none, none]], fun args os => match args, os with
  | [.agg [.isl .str a, .isl .str b, .isl .late l, .val (.int .i64 x), .isl .cset cs, .isl .ent es, .isl .ptr ps, .val (.bool y), .isl .int zs, .val (.int .i64 u), .val (.bool o)], .agg [.isl .str a', .isl .str b', .isl .late l', .val (.int .i64 x'), .isl .cset cs', .isl .ent es', .isl .ptr ps', .val (.bool y'), .isl .int zs', .val (.int .i64 u'), .val (.bool o')]], [] =>
    ifp (((a = a' ∧ b = b' ∧ l = l') ∧ (x = x' ∧ cs = cs' ∧ es = es' ∧ ps = ps' ∧ y = y' ∧ zs = zs' ∧ u = u') ∧ o = o') ∧ (Pl.mk ⟨a, b, l⟩ ⟨x, cs, es, ps, y, zs, u⟩ o).small) (vb true)
  | _, _ => no⟩
theorem s_eqPool_e : EnterOk Tryz.prog 41 := ⟨_, Tryz.func41, rfl, by decide⟩
@[go_sem] def s_eqPool_lv : List (List Nat) := [[2, 3], [2, 3, 10], [4], [2, 3, 16], [4], [21], [4], [4]]
@[go_sem] noncomputable def s_eqPool_K : Known := ((Known.nil).cons 23 ctEqDisk s_eqDisk s_eqDisk_e).cons 33 ctEqCore s_eqCore s_eqCore_e
set_option maxHeartbeats 8000000 in
theorem s_eqPool : Sound Tryz.prog 41 ctEqPool := by
  have ke := s_eqPool_K.env []
  have kl : Lives s_eqPool_lv := trivial
  refine sound_intro (E := ⟨ti, s_eqPool_K.Γ, []⟩) ke Tryz.func41 Tryz.ntmps41 rfl (rs := [.tmp 4]) rfl ?_
  intro args os hp
  unfold ctEqPool at hp ⊢
  dsimp only at hp ⊢
  split at hp
  · rename_i a b l x cs es ps y zs u o a' b' l' x' cs' es' ps' y' zs' u' o'
    refine ⟨by simp, fun φ0 w0 => ?_⟩
    obtain ⟨⟨⟨rfl, rfl, rfl⟩, ⟨rfl, rfl, rfl, rfl, rfl, rfl, rfl⟩, rfl⟩, ⟨g1, g2, g3⟩, ⟨h1, h2, h3, h4⟩⟩ : ((a = a' ∧ b = b' ∧ l = l') ∧ (x = x' ∧ cs = cs' ∧ es = es' ∧ ps = ps' ∧ y = y' ∧ zs = zs' ∧ u = u') ∧ o = o') ∧ (Pl.mk ⟨a, b, l⟩ ⟨x, cs, es, ps, y, zs, u⟩ o).small := hp
    simp only at g1 g2 g3 h1 h2 h3 h4
    refine goh trivial ?_
    refine W_cnd ?_ ?_ <;> intro hlit <;> try (cases hlit; done)
    refine goh trivial ?_
    refine W_cnd ?_ ?_ <;> intro hlit <;> try (cases hlit; done)
    refine goh trivial ?_
    refine W_cnd ?_ ?_ <;> intro hlit <;> try (cases hlit; done)
    refine goh trivial ?_
    exact finh [] trivial
  · simp [no, ifp] at hp
end Go.Proofs.YtmnbgppmfbnamaaGreatDoor
/- Functions: falls, the program's. -/
namespace Go.Proofs.YtmnbgppmfbnamaaGreatDoor
open Go.RowKit

theorem s_diskFlush_e : EnterOk Tryz.prog 16 := ⟨_, Tryz.func16, rfl, by decide⟩
@[go_sem] def s_diskFlush_lv : List (List Nat) := [[1, 2], [1, 2, 6], [2], [2, 3], [2, 3], [2]]
@[go_sem] noncomputable def s_diskFlush_K : Known := (((Known.nil).cons 68 ctDiskOk s_diskOk s_diskOk_e).cons 69 ctOwn s_own s_own_e).cons 71 ctFlush s_flush s_flush_e
set_option maxHeartbeats 8000000 in
theorem s_diskFlush : Sound Tryz.prog 16 ctDiskFlush := by
  have ke := s_diskFlush_K.env []
  have kl : Lives s_diskFlush_lv := trivial
  refine sound_intro (E := ⟨ti, s_diskFlush_K.Γ, []⟩) ke Tryz.func16 Tryz.ntmps16 rfl (rs := [.cell 2 36]) rfl ?_
  intro args os hp
  unfold ctDiskFlush at hp ⊢
  dsimp only at hp ⊢
  split at hp
  · rename_i a b l
    refine ⟨by simp, fun φ0 w0 => ?_⟩
    obtain ⟨h1, h2, h3⟩ : a.length ≤ 4000000 ∧ b.length ≤ 4000000 ∧ l.length ≤ 4000000 := hp
    refine goh trivial ?_
    refine W_cnd ?_ ?_ <;> (try simp only [cnd_r]) <;> intro hok
    · have e1 : dkFlush ⟨a, b, l⟩ = .nil := by unfold dkFlush; rw [hok]; rfl
      refine goh trivial ?_
      refine ⟨by (simp only [go_sem, e1, Dk.nil, ↓reduceIte, reduceCtorEq, Nat.reduceAdd, Nat.reduceLT, Nat.reduceLeDiff, Nat.reduceEqDiff]) <;> trivial, [none, none, none], ?_⟩
      all_goals try simp only [go_sem, e1, Dk.nil, inj_r, ↓reduceIte, reduceCtorEq, Nat.reduceAdd, Nat.reduceLT, Nat.reduceLeDiff, Nat.reduceEqDiff, Int.reduceEq]
      all_goals (repeat' refine And.intro ?_ ?_) <;> try exact shut7
    · have e1 : dkFlush ⟨a, b, l⟩ = (Dk.mk a b l).flushed := by unfold dkFlush; rw [hok]; rfl
      have e2 : (Dk.mk a b l).flushed.l = [] := rfl
      have e3 := (Dk.mk a b l).done_len l.length
      have e4 : (Dk.mk a b l).flushed.a.length = a.length := e3.1
      have e5 : (Dk.mk a b l).flushed.b.length = b.length := e3.2
      refine goh trivial ?_
      exact finh [some 2, some 3, none] (And.intro e1 (And.intro e2 (And.intro e4 e5)))
  · simp [no] at hp

theorem torn_min (old now : ByteArray) : torn old now = now.extract 0 (now.size / 2) ++ old.extract (min (now.size / 2) old.size) old.size := by
  unfold torn
  split
  · rename_i h; rw [Nat.min_eq_left (by omega)]
  · rename_i h
    rw [Nat.min_eq_right (by omega)]
    have h0 : (old.extract old.size old.size).size = 0 := by rw [ByteArray.size_extract]; omega
    have : old.extract old.size old.size = ByteArray.empty := ByteArray.ext (Array.eq_empty_of_size_eq_zero h0)
    rw [this, ByteArray.append_empty]
@[go_sem] def sgFa (a b : List ByteArray) (l : List Late) (fate : List Int) (x : Two) (i : Nat) : Sg := ⟨[(1, .one (.isl .int fate)), (4, .one (.ptr 1 0)), (5, .one (.ptr 5 0)), (18, .one (.isl .late l)), (19, vi l.length), (20, vi i)],
  [some (.cells [.isl .str a, .isl .str b, .isl .late l]), some (.cells [.val (.slice none 0 0), .val (.slice none 0 0), .val (.slice none 0 0)]), some (.arr .str x.1), some (.arr .str x.2), some (.arr .late l), some (.cells [.osl .str 2 0 x.1.length, .osl .str 3 0 x.2.length, .osl .late 4 0 l.length])], []⟩
theorem s_diskFall_e : EnterOk Tryz.prog 17 := ⟨_, Tryz.func17, rfl, by decide⟩
@[go_sem] def s_diskFall_lv : List (List Nat) := [[1, 2, 4], [1, 2, 4, 13], [4], [1, 2, 4, 5], [1, 4, 5, 18, 19, 20], [1, 4, 5, 18, 19, 20, 21], [1, 4, 5, 6, 7, 18, 19, 20], [1, 4, 5, 6, 7, 18, 19, 20, 28], [1, 4, 5, 6, 7, 8, 18, 19, 20], [1, 4, 5, 7, 8, 18, 19, 20, 40], [1, 4, 5, 7, 8, 18, 19, 20, 40, 41], [1, 4, 5, 18, 19, 20], [1, 4, 5, 7, 8, 18, 19, 20, 47], [1, 4, 5, 7, 8, 9, 18, 19, 20], [1, 4, 5, 7, 8, 9, 10, 18, 19, 20], [1, 4, 5, 18, 19, 20], [1, 4, 5, 18, 19, 20], [4, 5], [4]]
@[go_sem] noncomputable def s_diskFall_K : Known := ((Known.nil).cons 68 ctDiskOk s_diskOk s_diskOk_e).cons 69 ctOwn s_own s_own_e
set_option maxHeartbeats 8000000 in
theorem s_diskFall : Sound Tryz.prog 17 ctDiskFall := by
  have ke := s_diskFall_K.env []
  have kl : Lives s_diskFall_lv := trivial
  refine sound_intro (E := ⟨ti, s_diskFall_K.Γ, []⟩) ke Tryz.func17 Tryz.ntmps17 rfl (rs := [.cell 4 36]) rfl ?_
  intro args os hp
  unfold ctDiskFall at hp ⊢
  dsimp only at hp ⊢
  split at hp
  · rename_i a b l fate
    refine ⟨by simp, fun φ0 w0 => ?_⟩
    obtain ⟨⟨h1, h2, h3⟩, h4⟩ : (a.length ≤ 4000000 ∧ b.length ≤ 4000000 ∧ l.length ≤ 4000000) ∧ fate.length ≤ 4000000 := hp
    refine goh trivial ?_
    refine W_cnd ?_ ?_ <;> (try simp only [cnd_r]) <;> intro hok
    · have e1 : dkFall ⟨a, b, l⟩ fate = .nil := by unfold dkFall; rw [hok]; rfl
      refine goh trivial ?_
      refine ⟨by (simp only [go_sem, e1, Dk.nil, ↓reduceIte, reduceCtorEq, Nat.reduceAdd, Nat.reduceLT, Nat.reduceLeDiff, Nat.reduceEqDiff]) <;> trivial, [none, none, none], ?_⟩
      all_goals try simp only [go_sem, e1, Dk.nil, inj_r, ↓reduceIte, reduceCtorEq, Nat.reduceAdd, Nat.reduceLT, Nat.reduceLeDiff, Nat.reduceEqDiff, Int.reduceEq]
      all_goals (repeat' refine And.intro ?_ ?_) <;> try exact shut7
    · have e1 : dkFall ⟨a, b, l⟩ fate = (Dk.mk a b l).fallen fate := by unfold dkFall; rw [hok]; rfl
      refine goh trivial ?_
      refine W_le (σ' := sgFa a b l fate ((Dk.mk a b l).fallN fate 0) 0) [some 0, some 1, some 2, some 3, some 4, some 5] (by
        simp only [go_sem, Dk.fallN, inj_r, ↓reduceIte, reduceCtorEq, Nat.reduceAdd, Nat.reduceLT, Nat.reduceLeDiff, Nat.reduceEqDiff, Int.reduceEq]
        all_goals (repeat' refine And.intro ?_ ?_) <;> try exact shut7
        ) ?_
      refine W_loop (fun n σ => ∃ i : Nat, i ≤ min l.length fate.length ∧ n = l.length - i ∧ σ = sgFa a b l fate ((Dk.mk a b l).fallN fate i) i) l.length ⟨0, by omega, by omega, rfl⟩ ?_
      rintro n σ ⟨i, hi, rfl, rfl⟩
      obtain ⟨hl1, hl2⟩ := (Dk.mk a b l).fallN_len fate i
      simp only at hl1 hl2
      unfold sgFa
      refine goh trivial ?_
      refine W_cnd ?_ ?_ <;> (try simp only [cnd_r]) <;> intro hlt
      · have hi1 : i < l.length := by omega
        obtain ⟨ws, w1, w2, w3⟩ := Dk.ok_late hok i hi1
        have hsm := Dk.fallN_sm hok fate i (show i ≤ l.length by omega)
        have hd : (Dk.mk a b l).fallN fate (i + 1) = fell (fate.getD i ET.int.dflt) ((Dk.mk a b l).fallN fate i) (l.getD i ET.late.dflt) := rfl
        obtain ⟨-, -, hab, -⟩ := (Dk.ok_iff _).1 hok
        simp only at ws w1 w2 w3 hd hab
        generalize hw : l.getD i ET.late.dflt = w at *
        generalize hf : fate.getD i ET.int.dflt = f at *
        obtain ⟨s, k, t⟩ := w
        simp only at ws w1 w2 w3
        refine goh hw ?_
        refine W_cnd ?_ ?_ <;> (try simp only [cnd_r]) <;> intro hfa
        · have : i = min l.length fate.length := by omega
          subst this
          refine goh trivial ?_
          refine ⟨by (simp only [go_sem, e1, Dk.fallen, ↓reduceIte, reduceCtorEq, Nat.reduceAdd, Nat.reduceLT, Nat.reduceLeDiff, Nat.reduceEqDiff]) <;> trivial, [some 2, some 3, none], ?_⟩
          all_goals try simp only [go_sem, e1, Dk.fallen, inj_r, ↓reduceIte, reduceCtorEq, Nat.reduceAdd, Nat.reduceLT, Nat.reduceLeDiff, Nat.reduceEqDiff, Int.reduceEq]
          all_goals (repeat' refine And.intro ?_ ?_) <;> try exact shut7
        · generalize hx : (Dk.mk a b l).fallN fate i = x at *
          have hz := hsm.sec s k
          unfold sec at hz
          rcases ws with rfl | rfl
          all_goals
            simp only [↓reduceIte, Int.reduceEq, ET.at] at hz
            refine goh (And.intro hw hf) ?_
            refine W_cond _ (by exact rfl) (by exact trivial) ?_ ?_ <;> intro hc
            · have hf1 : f = 1 := by simpa using hc
              refine goh (And.intro hw hf) ?_
              refine ⟨l.length - (i + 1), [some 0, some 1, some 2, some 3, some 4, some 5], sgFa a b l fate ((Dk.mk a b l).fallN fate (i + 1)) (i + 1), by omega, ?_, i + 1, by omega, rfl, rfl⟩
              rw [hd]
              simp only [go_sem, fell, putW, List.length_set, hf1, inj_r, ↓reduceIte, reduceCtorEq, Nat.reduceAdd, Nat.reduceLT, Nat.reduceLeDiff, Nat.reduceEqDiff, Int.reduceEq]
              all_goals (repeat' refine And.intro ?_ ?_) <;> try exact shut7
            · have hf1 : ¬ f = 1 := by simpa using hc
              refine goh (And.intro hw hf) ?_
              refine W_cond _ (by exact rfl) (by exact trivial) ?_ ?_ <;> intro hc2
              · have hf2 : f = 2 := by simpa using hc2
                have hq : IntKind.i64.wrap ((t.size : Int).tdiv 2) = ((t.size / 2 : Nat) : Int) := by
                  have : (t.size : Int).tdiv 2 = ((t.size / 2 : Nat) : Int) := (Int.ofNat_tdiv _ _).symm
                  rw [this]; exact wrap_id _ (by omega) (by omega)
                have hmin : ∀ z : ByteArray, (if (z.size : Int) < ((t.size / 2 : Nat) : Int) then (z.size : Int) else ((t.size / 2 : Nat) : Int)) = ((min (t.size / 2) z.size : Nat) : Int) := fun z => by split <;> omega
                repeat' first
                  | with_reducible refine red ?_
                  | refine W_seq ?_
                  | (refine W_reg (s_diskFall_K.env []) s_diskFall_lv fun K' hK' => ?_
                     simp only [go_sem, hw, hf, hq, hmin, ↓reduceIte, ↓reduceDIte, reduceCtorEq, Nat.reduceAdd, Nat.reduceMul, Nat.reduceSub, Nat.reduceDiv, Nat.reduceMod, Nat.reduceLT, Nat.reduceLeDiff, Nat.reduceEqDiff, Nat.reduceBEq, Int.reduceToNat, Int.reduceLE, Int.reduceLT, Int.reduceEq, Int.reduceNe, Int.reduceNeg]
                     (repeat' refine And.intro ?_ ?_) <;> try first | with_reducible refine hK' ?_ | exact shut6)
                  | with_reducible refine blockG_o (by decide) ?_
                · simp only [ByteArray.size_extract]; omega
                · refine ⟨l.length - (i + 1), [some 0, some 1, some 2, some 3, some 4, some 5], sgFa a b l fate ((Dk.mk a b l).fallN fate (i + 1)) (i + 1), by omega, ?_, i + 1, by omega, rfl, rfl⟩
                  rw [hd]
                  simp only [go_sem, fell, hf1, hf2, putW, sec, torn_min, List.length_set, inj_r, ↓reduceIte, reduceCtorEq, Nat.reduceAdd, Nat.reduceLT, Nat.reduceLeDiff, Nat.reduceEqDiff, Int.reduceEq]
                  all_goals (repeat' refine And.intro ?_ ?_) <;> try exact shut7
              · have hf2 : ¬ f = 2 := by simpa using hc2
                refine goh (And.intro hw hf) ?_
                refine ⟨l.length - (i + 1), [some 0, some 1, some 2, some 3, some 4, some 5], sgFa a b l fate ((Dk.mk a b l).fallN fate (i + 1)) (i + 1), by omega, ?_, i + 1, by omega, rfl, rfl⟩
                rw [hd]
                simp only [go_sem, fell, hf1, hf2, inj_r, ↓reduceIte, reduceCtorEq, Nat.reduceAdd, Nat.reduceLT, Nat.reduceLeDiff, Nat.reduceEqDiff, Int.reduceEq]
                all_goals (repeat' refine And.intro ?_ ?_) <;> try exact shut7
      · have : i = min l.length fate.length := by omega
        subst this
        refine goh trivial ?_
        refine ⟨by (simp only [go_sem, e1, Dk.fallen, ↓reduceIte, reduceCtorEq, Nat.reduceAdd, Nat.reduceLT, Nat.reduceLeDiff, Nat.reduceEqDiff]) <;> trivial, [some 2, some 3, none], ?_⟩
        all_goals try simp only [go_sem, e1, Dk.fallen, inj_r, ↓reduceIte, reduceCtorEq, Nat.reduceAdd, Nat.reduceLT, Nat.reduceLeDiff, Nat.reduceEqDiff, Int.reduceEq]
        all_goals (repeat' refine And.intro ?_ ?_) <;> try exact shut7
  · simp [no] at hp
end Go.Proofs.YtmnbgppmfbnamaaGreatDoor
