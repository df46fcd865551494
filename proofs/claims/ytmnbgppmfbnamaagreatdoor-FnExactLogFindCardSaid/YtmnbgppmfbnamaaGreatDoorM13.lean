import Derived.Test.YtmnbgppmfbnamaaGreatDoorM8
import Derived.Test.YtmnbgppmfbnamaaGreatDoorM12
set_option linter.unusedSimpArgs false
set_option linter.unusedVariables false
set_option linter.unusedSectionVars false
/- Functions of the exact laws: cores and pools. -/
namespace Go.Proofs.YtmnbgppmfbnamaaGreatDoor
open Go.RowKit

structure Co.inn (c : Co) : Prop where
  sets : inC c.sets
  ddt : c.ddt.length ≤ 9223372036854775807
  parts : c.parts.length ≤ 9223372036854775807
  safe : c.safe.length ≤ 9223372036854775807
def Co.wt (c : Co) : List Nat := wC c.sets ++ ([c.ddt.length] ++ ([c.parts.length] ++ [c.safe.length]))
@[go_sem] def Co.v (c : Co) (n : Nat) : TV := .agg [.val (.int .i64 c.txg), .osl .cset n 0 c.sets.length, .osl .ent (n + 1) 0 c.ddt.length, .osl .ptr (n + 2) 0 c.parts.length, .val (.bool c.dirty), .osl .int (n + 3) 0 c.safe.length, .val (.int .i64 c.logn)]
@[go_sem] def Co.objs (c : Co) : List Obj := [.arr .cset c.sets, .arr .ent c.ddt, .arr .ptr c.parts, .arr .int c.safe]
@[go_sem] def ctSzCore : Ct := ⟨false, [[none, some .cset, some .ent, some .ptr, none, some .int, none]], fun args os => match args, os with
  | [.agg [.val (.int .i64 x), .isl .cset cs, .isl .ent es, .isl .ptr ps, .val (.bool y), .isl .int zs, .val (.int .i64 u)], .one (.val (.int .i64 n))], [] => ifp ((Co.mk x cs es ps y zs u).inn ∧ 0 ≤ n ∧ n ≤ 1048576) (vi (szW (Co.mk x cs es ps y zs u).wt n))
  | _, _ => no⟩
theorem s_szCore_e : EnterOk Tryz.prog 27 := ⟨_, Tryz.func27, rfl, by decide⟩
@[go_sem] def s_szCore_lv : List (List Nat) := [[1, 2], [1, 2], [1, 2, 10], [4], [1, 2], [1, 2, 16], [4], [1, 2], [1, 2, 22], [4], [1], [1, 28], [4], [4]]
@[go_sem] noncomputable def s_szCore_K : Known := ((((Known.nil).cons 84 ctSzCs s_szCs s_szCs_e).cons 85 ctSzEs s_szEs s_szEs_e).cons 86 ctSzPs s_szPs s_szPs_e).cons 87 ctSzI s_szI s_szI_e
set_option maxHeartbeats 8000000 in
theorem s_szCore : Sound Tryz.prog 27 ctSzCore := by
  have ke := s_szCore_K.env []
  have kl : Lives s_szCore_lv := trivial
  refine sound_intro (E := ⟨ti, s_szCore_K.Γ, []⟩) ke Tryz.func27 Tryz.ntmps27 rfl (rs := [.tmp 4]) rfl ?_
  intro args os hp
  unfold ctSzCore at hp ⊢
  dsimp only at hp ⊢
  split at hp
  · rename_i x cs es ps y zs u n
    refine ⟨by simp, fun φ0 w0 => ?_⟩
    obtain ⟨⟨h1, h2, h3, h4⟩, h5, h6⟩ : (Co.mk x cs es ps y zs u).inn ∧ 0 ≤ n ∧ n ≤ 1048576 := hp
    simp only at h1 h2 h3 h4
    have e0 : szW (Co.mk x cs es ps y zs u).wt n = szW (wC cs ++ ([es.length] ++ ([ps.length] ++ [zs.length]))) n := rfl
    have e1 := szW_app (wC cs) ([es.length] ++ ([ps.length] ++ [zs.length])) n h5
    have i1 := szW_in (wC cs) n h5
    refine goh trivial ?_
    refine W_cnd ?_ ?_ <;> (try simp only [cnd_r]) <;> intro hc1
    · rw [if_pos hc1] at e1
      refine goh trivial ?_
      have ez := (e0.trans e1)
      exact finh [] ez
    · rw [if_neg hc1] at e1
      obtain ⟨m1, hm1⟩ : ∃ m, szW (wC cs) n = m := ⟨_, rfl⟩
      rw [hm1] at e1 i1 hc1
      have e2 := szW_app [es.length] ([ps.length] ++ [zs.length]) m1 (by omega)
      have i2 := szW_in [es.length] m1 (by omega)
      refine goh hm1 ?_
      refine W_cnd ?_ ?_ <;> (try simp only [cnd_r]) <;> intro hc2
      · rw [if_pos hc2] at e2
        refine goh trivial ?_
        have ez := ((e0.trans e1).trans e2)
        exact finh [] ez
      · rw [if_neg hc2] at e2
        obtain ⟨m2, hm2⟩ : ∃ m, szW [es.length] m1 = m := ⟨_, rfl⟩
        rw [hm2] at e2 i2 hc2
        have e3 := szW_app [ps.length] [zs.length] m2 (by omega)
        have i3 := szW_in [ps.length] m2 (by omega)
        refine goh hm2 ?_
        refine W_cnd ?_ ?_ <;> (try simp only [cnd_r]) <;> intro hc3
        · rw [if_pos hc3] at e3
          refine goh trivial ?_
          have ez := (((e0.trans e1).trans e2).trans e3)
          exact finh [] ez
        · rw [if_neg hc3] at e3
          obtain ⟨m3, hm3⟩ : ∃ m, szW [ps.length] m2 = m := ⟨_, rfl⟩
          rw [hm3] at e3 i3 hc3
          have i4 := szW_in [zs.length] m3 (by omega)
          refine goh hm3 ?_
          refine W_cnd ?_ ?_ <;> (try simp only [cnd_r]) <;> intro hc4
          · have e4 : szW [zs.length] m3 = -1 := by omega
            refine goh trivial ?_
            have ez := ((((e0.trans e1).trans e2).trans e3).trans e4)
            exact finh [] ez
          · refine goh trivial ?_
            have ez := (((e0.trans e1).trans e2).trans e3)
            exact finh [] ez
  · simp [no, ifp] at hp
def Pl.wt (p : Pl) : List Nat := p.disk.wt ++ p.core.wt
structure Pl.inn (p : Pl) : Prop where
  disk : p.disk.inn
  core : p.core.inn
@[go_sem] def ctSzPool : Ct := ⟨false, [[some .str, some .str, some .late, none, some .cset, some .ent, some .ptr, none, some .int, none, none]], fun args os => match args, os with
  | [.agg [.isl .str a, .isl .str b, .isl .late l, .val (.int .i64 x), .isl .cset cs, .isl .ent es, .isl .ptr ps, .val (.bool y), .isl .int zs, .val (.int .i64 u), .val (.bool o)], .one (.val (.int .i64 n))], [] => ifp ((Pl.mk ⟨a, b, l⟩ ⟨x, cs, es, ps, y, zs, u⟩ o).inn ∧ 0 ≤ n ∧ n ≤ 1048576) (vi (szW (Pl.mk ⟨a, b, l⟩ ⟨x, cs, es, ps, y, zs, u⟩ o).wt n))
  | _, _ => no⟩
theorem pool_small {p : Pl} {n : Int} (h : 0 ≤ szW p.wt n) : (p.disk.a.length ≤ n ∧ p.disk.b.length ≤ n ∧ p.disk.l.length ≤ n) ∧ p.core.sets.length ≤ n ∧ p.core.ddt.length ≤ n ∧ p.core.parts.length ≤ n ∧ p.core.safe.length ≤ n :=
  ⟨⟨szW_mem h (by simp [Pl.wt, Dk.wt, wS]), szW_mem h (by simp [Pl.wt, Dk.wt, wS]), szW_mem h (by simp [Pl.wt, Dk.wt, wL])⟩, szW_mem h (by simp [Pl.wt, Co.wt, wC]), szW_mem h (by simp [Pl.wt, Co.wt]), szW_mem h (by simp [Pl.wt, Co.wt]), szW_mem h (by simp [Pl.wt, Co.wt])⟩
@[go_sem] def ctToCore : Ct := ⟨false, [[none, some .cset, some .ent, some .ptr, none, some .int, none]], fun args os => match args, os with
  | [.agg [.val (.int .i64 x), .isl .cset cs, .isl .ent es, .isl .ptr ps, .val (.bool y), .isl .int zs, .val (.int .i64 u)]], [] => ⟨(Co.mk x cs es ps y zs u).small, (Co.mk x cs es ps y zs u).v 0, [], (Co.mk x cs es ps y zs u).objs⟩
  | _, _ => no⟩
theorem s_toCore_e : EnterOk Tryz.prog 30 := ⟨_, Tryz.func30, rfl, by decide⟩
@[go_sem] def s_toCore_lv : List (List Nat) := [[1, 2], [1, 2, 3], [1, 2, 3], [1, 2, 3], [1, 2, 3], [1, 2, 3], [1, 2, 3], [1, 2, 3], [2, 3], [2]]
@[go_sem] noncomputable def s_toCore_K : Known := ((((Known.nil).cons 93 ctToCs s_toCs s_toCs_e).cons 94 ctToEs s_toEs s_toEs_e).cons 95 ctToPs s_toPs s_toPs_e).cons 96 ctToI s_toI s_toI_e
set_option maxHeartbeats 8000000 in
theorem s_toCore : Sound Tryz.prog 30 ctToCore := by
  have ke := s_toCore_K.env []
  have kl : Lives s_toCore_lv := trivial
  refine sound_intro (E := ⟨ti, s_toCore_K.Γ, []⟩) ke Tryz.func30 Tryz.ntmps30 rfl (rs := [.cell 2 68]) rfl ?_
  intro args os hp
  unfold ctToCore at hp ⊢
  dsimp only at hp ⊢
  split at hp
  · rename_i x cs es ps y zs u
    refine ⟨by simp, fun φ0 w0 => ?_⟩
    obtain ⟨h1, h2, h3, h4⟩ : (Co.mk x cs es ps y zs u).small := hp
    simp only at h1 h2 h3 h4
    refine goh trivial ?_
    exact finh [some 3, some 4, some 5, some 6] trivial
  · simp [no] at hp
@[go_sem] def Pl.v (p : Pl) : TV := .agg [.osl .str 0 0 p.disk.a.length, .osl .str 1 0 p.disk.b.length, .osl .late 2 0 p.disk.l.length, .val (.int .i64 p.core.txg), .osl .cset 3 0 p.core.sets.length, .osl .ent 4 0 p.core.ddt.length, .osl .ptr 5 0 p.core.parts.length, .val (.bool p.core.dirty), .osl .int 6 0 p.core.safe.length, .val (.int .i64 p.core.logn), .val (.bool p.up)]
@[go_sem] def Pl.objs (p : Pl) : List Obj := [.arr .str p.disk.a, .arr .str p.disk.b, .arr .late p.disk.l, .arr .cset p.core.sets, .arr .ent p.core.ddt, .arr .ptr p.core.parts, .arr .int p.core.safe]
def Pl.small (p : Pl) : Prop := p.disk.small ∧ p.core.small
@[go_sem] def ctToPool : Ct := ⟨false, [[some .str, some .str, some .late, none, some .cset, some .ent, some .ptr, none, some .int, none, none]], fun args os => match args, os with
  | [.agg [.isl .str a, .isl .str b, .isl .late l, .val (.int .i64 x), .isl .cset cs, .isl .ent es, .isl .ptr ps, .val (.bool y), .isl .int zs, .val (.int .i64 u), .val (.bool o)]], [] => ⟨(Pl.mk ⟨a, b, l⟩ ⟨x, cs, es, ps, y, zs, u⟩ o).small, (Pl.mk ⟨a, b, l⟩ ⟨x, cs, es, ps, y, zs, u⟩ o).v, [], (Pl.mk ⟨a, b, l⟩ ⟨x, cs, es, ps, y, zs, u⟩ o).objs⟩
  | _, _ => no⟩
@[go_sem] def ctEqCore : Ct := ⟨false, [[none, some .cset, some .ent, some .ptr, none, some .int, none], [none, some .cset, some .ent, some .ptr, none, some .int, none]], fun args os => match args, os with
  | [.agg [.val (.int .i64 x), .isl .cset cs, .isl .ent es, .isl .ptr ps, .val (.bool y), .isl .int zs, .val (.int .i64 u)], .agg [.val (.int .i64 x'), .isl .cset cs', .isl .ent es', .isl .ptr ps', .val (.bool y'), .isl .int zs', .val (.int .i64 u')]], [] => ifp ((x = x' ∧ cs = cs' ∧ es = es' ∧ ps = ps' ∧ y = y' ∧ zs = zs' ∧ u = u') ∧ (Co.mk x cs es ps y zs u).small) (vb true)
  | _, _ => no⟩
theorem s_eqCore_e : EnterOk Tryz.prog 33 := ⟨_, Tryz.func33, rfl, by decide⟩
@[go_sem] def s_eqCore_lv : List (List Nat) := [[2, 3], [2, 3, 9], [4], [2, 3, 15], [4], [2, 3, 21], [4], [2, 3, 27], [4], [2, 3, 32], [4], [2, 3, 38], [4], [43], [4], [4]]
@[go_sem] noncomputable def s_eqCore_K : Known := ((((Known.nil).cons 100 ctEqCs s_eqCs s_eqCs_e).cons 101 ctEqEs s_eqEs s_eqEs_e).cons 102 ctEqPs s_eqPs s_eqPs_e).cons 103 ctEqI s_eqI s_eqI_e
set_option maxHeartbeats 8000000 in
theorem s_eqCore : Sound Tryz.prog 33 ctEqCore := by
  have ke := s_eqCore_K.env []
  have kl : Lives s_eqCore_lv := trivial
  refine sound_intro (E := ⟨ti, s_eqCore_K.Γ, []⟩) ke Tryz.func33 Tryz.ntmps33 rfl (rs := [.tmp 4]) rfl ?_
  intro args os hp
  unfold ctEqCore at hp ⊢
  dsimp only at hp ⊢
  split at hp
  · rename_i x cs es ps y zs u x' cs' es' ps' y' zs' u'
    refine ⟨by simp, fun φ0 w0 => ?_⟩
    obtain ⟨⟨rfl, rfl, rfl, rfl, rfl, rfl, rfl⟩, h1, h2, h3, h4⟩ : (x = x' ∧ cs = cs' ∧ es = es' ∧ ps = ps' ∧ y = y' ∧ zs = zs' ∧ u = u') ∧ (Co.mk x cs es ps y zs u).small := hp
    simp only at h1 h2 h3 h4
    refine goh trivial ?_
    refine W_cnd ?_ ?_ <;> intro hlit <;> try (cases hlit; done)
    refine goh trivial ?_
    refine W_cnd ?_ ?_ <;> intro hlit <;> try (cases hlit; done)
    refine goh trivial ?_
    refine W_cnd ?_ ?_ <;> intro hlit <;> try (cases hlit; done)
    refine goh trivial ?_
    refine W_cnd ?_ ?_ <;> intro hlit <;> try (cases hlit; done)
    refine goh trivial ?_
    refine W_cnd ?_ ?_ <;> intro hlit <;> try (cases hlit; done)
    refine goh trivial ?_
    refine W_cnd ?_ ?_ <;> intro hlit <;> try (cases hlit; done)
    refine goh trivial ?_
    refine W_cnd ?_ ?_ <;> intro hlit <;> try (cases hlit; done)
    refine goh trivial ?_
    exact finh [] trivial
  · simp [no, ifp] at hp
@[go_sem] def ctEqPool : Ct := ⟨false, [[some .str, some .str, some .late, none, some .cset, some .ent, some .ptr, none, some .int, none, none], [some .str, some .str, some .late, none, some .cset, some .ent, some .ptr, none, some .int, none, none]], fun args os => match args, os with
  | [.agg [.isl .str a, .isl .str b, .isl .late l, .val (.int .i64 x), .isl .cset cs, .isl .ent es, .isl .ptr ps, .val (.bool y), .isl .int zs, .val (.int .i64 u), .val (.bool o)], .agg [.isl .str a', .isl .str b', .isl .late l', .val (.int .i64 x'), .isl .cset cs', .isl .ent es', .isl .ptr ps', .val (.bool y'), .isl .int zs', .val (.int .i64 u'), .val (.bool o')]], [] =>
    ifp (((a = a' ∧ b = b' ∧ l = l') ∧ (x = x' ∧ cs = cs' ∧ es = es' ∧ ps = ps' ∧ y = y' ∧ zs = zs' ∧ u = u') ∧ o = o') ∧ (Pl.mk ⟨a, b, l⟩ ⟨x, cs, es, ps, y, zs, u⟩ o).small) (vb true)
  | _, _ => no⟩
theorem s_eqPool_e : EnterOk Tryz.prog 41 := ⟨_, Tryz.func41, rfl, by decide⟩
@[go_sem] def s_eqPool_lv : List (List Nat) := [[2, 3], [2, 3, 10], [4], [2, 3, 16], [4], [21], [4], [4]]
@[go_sem] noncomputable def s_eqPool_K : Known := ((Known.nil).cons 23 ctEqDisk s_eqDisk s_eqDisk_e).cons 33 ctEqCore s_eqCore s_eqCore_e
set_option maxHeartbeats 8000000 in
theorem s_eqPool : Sound Tryz.prog 41 ctEqPool := by
  have ke := s_eqPool_K.env []
  have kl : Lives s_eqPool_lv := trivial
  refine sound_intro (E := ⟨ti, s_eqPool_K.Γ, []⟩) ke Tryz.func41 Tryz.ntmps41 rfl (rs := [.tmp 4]) rfl ?_
  intro args os hp
  unfold ctEqPool at hp ⊢
  dsimp only at hp ⊢
  split at hp
  · rename_i a b l x cs es ps y zs u o a' b' l' x' cs' es' ps' y' zs' u' o'
    refine ⟨by simp, fun φ0 w0 => ?_⟩
    obtain ⟨⟨⟨rfl, rfl, rfl⟩, ⟨rfl, rfl, rfl, rfl, rfl, rfl, rfl⟩, rfl⟩, ⟨g1, g2, g3⟩, ⟨h1, h2, h3, h4⟩⟩ : ((a = a' ∧ b = b' ∧ l = l') ∧ (x = x' ∧ cs = cs' ∧ es = es' ∧ ps = ps' ∧ y = y' ∧ zs = zs' ∧ u = u') ∧ o = o') ∧ (Pl.mk ⟨a, b, l⟩ ⟨x, cs, es, ps, y, zs, u⟩ o).small := hp
    simp only at g1 g2 g3 h1 h2 h3 h4
    refine goh trivial ?_
    refine W_cnd ?_ ?_ <;> intro hlit <;> try (cases hlit; done)
    refine goh trivial ?_
    refine W_cnd ?_ ?_ <;> intro hlit <;> try (cases hlit; done)
    refine goh trivial ?_
    refine W_cnd ?_ ?_ <;> intro hlit <;> try (cases hlit; done)
    refine goh trivial ?_
    exact finh [] trivial
  · simp [no, ifp] at hp
end Go.Proofs.YtmnbgppmfbnamaaGreatDoor
