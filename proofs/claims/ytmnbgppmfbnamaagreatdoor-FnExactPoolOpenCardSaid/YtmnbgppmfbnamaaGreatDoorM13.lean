import Derived.Test.YtmnbgppmfbnamaaGreatDoorM7
import Derived.Test.YtmnbgppmfbnamaaGreatDoorM8
import Derived.Test.YtmnbgppmfbnamaaGreatDoorM10
import Derived.Test.YtmnbgppmfbnamaaGreatDoorM12
set_option linter.unusedSimpArgs false
set_option linter.unusedVariables false
set_option linter.unusedSectionVars false
/- Functions of the exact laws: cores and pools. -/
namespace Go.Proofs.YtmnbgppmfbnamaaGreatDoor
open Go.RowKit

structure Co.inn (c : Co) : Prop where
  sets : inC c.sets
  ddt : c.ddt.length ≤ 9223372036854775807
  parts : c.parts.length ≤ 9223372036854775807
  safe : c.safe.length ≤ 9223372036854775807
def Co.wt (c : Co) : List Nat := wC c.sets ++ ([c.ddt.length] ++ ([c.parts.length] ++ [c.safe.length]))
@[go_sem] def Co.v (c : Co) (n : Nat) : TV := .agg [.val (.int .i64 c.txg), .osl .cset n 0 c.sets.length, .osl .ent (n + 1) 0 c.ddt.length, .osl .ptr (n + 2) 0 c.parts.length, .val (.bool c.dirty), .osl .int (n + 3) 0 c.safe.length, .val (.int .i64 c.logn)]
@[go_sem] def Co.objs (c : Co) : List Obj := [.arr .cset c.sets, .arr .ent c.ddt, .arr .ptr c.parts, .arr .int c.safe]
@[go_sem] def ctSzCore : Ct := ⟨false, [[none, some .cset, some .ent, some .ptr, none, some .int, none]], fun args os => match args, os with
  | [.agg [.val (.int .i64 x), .isl .cset cs, .isl .ent es, .isl .ptr ps, .val (.bool y), .isl .int zs, .val (.int .i64 u)], .one (.val (.int .i64 n))], [] => ifp ((Co.mk x cs es ps y zs u).inn ∧ 0 ≤ n ∧ n ≤ 1048576) (vi (szW (Co.mk x cs es ps y zs u).wt n))
  | _, _ => no⟩
theorem s_szCore_e : EnterOk Tryz.prog 27 := ⟨_, Tryz.func27, rfl, by decide⟩
@[go_sem] def s_szCore_lv : List (List Nat) := [[1, 2], [1, 2], [1, 2, 10], [4], [1, 2], [1, 2, 16], [4], [1, 2], [1, 2, 22], [4], [1], [1, 28], [4], [4]]
@[go_sem] noncomputable def s_szCore_K : Known := ((((Known.nil).cons 84 ctSzCs s_szCs s_szCs_e).cons 85 ctSzEs s_szEs s_szEs_e).cons 86 ctSzPs s_szPs s_szPs_e).cons 87 ctSzI s_szI s_szI_e
set_option maxHeartbeats 8000000 in
theorem s_szCore : Sound Tryz.prog 27 ctSzCore := by
  have ke := s_szCore_K.env []
  have kl : Lives s_szCore_lv := trivial
  refine sound_intro (E := ⟨ti, s_szCore_K.Γ, []⟩) ke Tryz.func27 Tryz.ntmps27 rfl (rs := [.tmp 4]) rfl ?_
  intro args os hp
  unfold ctSzCore at hp ⊢
  dsimp only at hp ⊢
  split at hp
  · rename_i x cs es ps y zs u n
    refine ⟨by simp, fun φ0 w0 => ?_⟩
    obtain ⟨⟨h1, h2, h3, h4⟩, h5, h6⟩ : (Co.mk x cs es ps y zs u).inn ∧ 0 ≤ n ∧ n ≤ 1048576 := hp
    simp only at h1 h2 h3 h4
    have e0 : szW (Co.mk x cs es ps y zs u).wt n = szW (wC cs ++ ([es.length] ++ ([ps.length] ++ [zs.length]))) n := rfl
    have e1 := szW_app (wC cs) ([es.length] ++ ([ps.length] ++ [zs.length])) n h5
    have i1 := szW_in (wC cs) n h5
    refine goh trivial ?_
    refine W_cnd ?_ ?_ <;> (try simp only [cnd_r]) <;> intro hc1
    · rw [if_pos hc1] at e1
      refine goh trivial ?_
      have ez := (e0.trans e1)
      exact finh [] ez
    · rw [if_neg hc1] at e1
      obtain ⟨m1, hm1⟩ : ∃ m, szW (wC cs) n = m := ⟨_, rfl⟩
      rw [hm1] at e1 i1 hc1
      have e2 := szW_app [es.length] ([ps.length] ++ [zs.length]) m1 (by omega)
      have i2 := szW_in [es.length] m1 (by omega)
      refine goh hm1 ?_
      refine W_cnd ?_ ?_ <;> (try simp only [cnd_r]) <;> intro hc2
      · rw [if_pos hc2] at e2
        refine goh trivial ?_
        have ez := ((e0.trans e1).trans e2)
        exact finh [] ez
      · rw [if_neg hc2] at e2
        obtain ⟨m2, hm2⟩ : ∃ m, szW [es.length] m1 = m := ⟨_, rfl⟩
        rw [hm2] at e2 i2 hc2
        have e3 := szW_app [ps.length] [zs.length] m2 (by omega)
        have i3 := szW_in [ps.length] m2 (by omega)
        refine goh hm2 ?_
        refine W_cnd ?_ ?_ <;> (try simp only [cnd_r]) <;> intro hc3
        · rw [if_pos hc3] at e3
          refine goh trivial ?_
          have ez := (((e0.trans e1).trans e2).trans e3)
          exact finh [] ez
        · rw [if_neg hc3] at e3
          obtain ⟨m3, hm3⟩ : ∃ m, szW [ps.length] m2 = m := ⟨_, rfl⟩
          rw [hm3] at e3 i3 hc3
          have i4 := szW_in [zs.length] m3 (by omega)
          refine goh hm3 ?_
          refine W_cnd ?_ ?_ <;> (try simp only [cnd_r]) <;> intro hc4
          · have e4 : szW [zs.length] m3 = -1 := by omega
            refine goh trivial ?_
            have ez := ((((e0.trans e1).trans e2).trans e3).trans e4)
            exact finh [] ez
          · refine goh trivial ?_
            have ez := (((e0.trans e1).trans e2).trans e3)
            exact finh [] ez
  · simp [no, ifp] at hp
def Pl.wt (p : Pl) : List Nat := p.disk.wt ++ p.core.wt
structure Pl.inn (p : Pl) : Prop where
  disk : p.disk.inn
  core : p.core.inn
@[go_sem] def ctSzPool : Ct := ⟨false, [[some .str, some .str, some .late, none, some .cset, some .ent, some .ptr, none, some .int, none, none]], fun args os => match args, os with
  | [.agg [.isl .str a, .isl .str b, .isl .late l, .val (.int .i64 x), .isl .cset cs, .isl .ent es, .isl .ptr ps, .val (.bool y), .isl .int zs, .val (.int .i64 u), .val (.bool o)], .one (.val (.int .i64 n))], [] => ifp ((Pl.mk ⟨a, b, l⟩ ⟨x, cs, es, ps, y, zs, u⟩ o).inn ∧ 0 ≤ n ∧ n ≤ 1048576) (vi (szW (Pl.mk ⟨a, b, l⟩ ⟨x, cs, es, ps, y, zs, u⟩ o).wt n))
  | _, _ => no⟩
theorem pool_small {p : Pl} {n : Int} (h : 0 ≤ szW p.wt n) : (p.disk.a.length ≤ n ∧ p.disk.b.length ≤ n ∧ p.disk.l.length ≤ n) ∧ p.core.sets.length ≤ n ∧ p.core.ddt.length ≤ n ∧ p.core.parts.length ≤ n ∧ p.core.safe.length ≤ n :=
  ⟨⟨szW_mem h (by simp [Pl.wt, Dk.wt, wS]), szW_mem h (by simp [Pl.wt, Dk.wt, wS]), szW_mem h (by simp [Pl.wt, Dk.wt, wL])⟩, szW_mem h (by simp [Pl.wt, Co.wt, wC]), szW_mem h (by simp [Pl.wt, Co.wt]), szW_mem h (by simp [Pl.wt, Co.wt]), szW_mem h (by simp [Pl.wt, Co.wt])⟩
@[go_sem] def ctToCore : Ct := ⟨false, [[none, some .cset, some .ent, some .ptr, none, some .int, none]], fun args os => match args, os with
  | [.agg [.val (.int .i64 x), .isl .cset cs, .isl .ent es, .isl .ptr ps, .val (.bool y), .isl .int zs, .val (.int .i64 u)]], [] => ⟨(Co.mk x cs es ps y zs u).small, (Co.mk x cs es ps y zs u).v 0, [], (Co.mk x cs es ps y zs u).objs⟩
  | _, _ => no⟩
theorem s_toCore_e : EnterOk Tryz.prog 30 := ⟨_, Tryz.func30, rfl, by decide⟩
@[go_sem] def s_toCore_lv : List (List Nat) := [[1, 2], [1, 2, 3], [1, 2, 3], [1, 2, 3], [1, 2, 3], [1, 2, 3], [1, 2, 3], [1, 2, 3], [2, 3], [2]]
@[go_sem] noncomputable def s_toCore_K : Known := ((((Known.nil).cons 93 ctToCs s_toCs s_toCs_e).cons 94 ctToEs s_toEs s_toEs_e).cons 95 ctToPs s_toPs s_toPs_e).cons 96 ctToI s_toI s_toI_e
set_option maxHeartbeats 8000000 in
theorem s_toCore : Sound Tryz.prog 30 ctToCore := by
  have ke := s_toCore_K.env []
  have kl : Lives s_toCore_lv := trivial
  refine sound_intro (E := ⟨ti, s_toCore_K.Γ, []⟩) ke Tryz.func30 Tryz.ntmps30 rfl (rs := [.cell 2 68]) rfl ?_
  intro args os hp
  unfold ctToCore at hp ⊢
  dsimp only at hp ⊢
  split at hp
  · rename_i x cs es ps y zs u
    refine ⟨by simp, fun φ0 w0 => ?_⟩
    obtain ⟨h1, h2, h3, h4⟩ : (Co.mk x cs es ps y zs u).small := hp
    simp only at h1 h2 h3 h4
    refine goh trivial ?_
    exact finh [some 3, some 4, some 5, some 6] trivial
  · simp [no] at hp
@[go_sem] def Pl.v (p : Pl) : TV := .agg [.osl .str 0 0 p.disk.a.length, .osl .str 1 0 p.disk.b.length, .osl .late 2 0 p.disk.l.length, .val (.int .i64 p.core.txg), .osl .cset 3 0 p.core.sets.length, .osl .ent 4 0 p.core.ddt.length, .osl .ptr 5 0 p.core.parts.length, .val (.bool p.core.dirty), .osl .int 6 0 p.core.safe.length, .val (.int .i64 p.core.logn), .val (.bool p.up)]
@[go_sem] def Pl.objs (p : Pl) : List Obj := [.arr .str p.disk.a, .arr .str p.disk.b, .arr .late p.disk.l, .arr .cset p.core.sets, .arr .ent p.core.ddt, .arr .ptr p.core.parts, .arr .int p.core.safe]
def Pl.small (p : Pl) : Prop := p.disk.small ∧ p.core.small
@[go_sem] def ctToPool : Ct := ⟨false, [[some .str, some .str, some .late, none, some .cset, some .ent, some .ptr, none, some .int, none, none]], fun args os => match args, os with
  | [.agg [.isl .str a, .isl .str b, .isl .late l, .val (.int .i64 x), .isl .cset cs, .isl .ent es, .isl .ptr ps, .val (.bool y), .isl .int zs, .val (.int .i64 u), .val (.bool o)]], [] => ⟨(Pl.mk ⟨a, b, l⟩ ⟨x, cs, es, ps, y, zs, u⟩ o).small, (Pl.mk ⟨a, b, l⟩ ⟨x, cs, es, ps, y, zs, u⟩ o).v, [], (Pl.mk ⟨a, b, l⟩ ⟨x, cs, es, ps, y, zs, u⟩ o).objs⟩
  | _, _ => no⟩
@[go_sem] def ctEqCore : Ct := ⟨false, [[none, some .cset, some .ent, some .ptr, none, some .int, none], [none, some .cset, some .ent, some .ptr, none, some .int, none]], fun args os => match args, os with
  | [.agg [.val (.int .i64 x), .isl .cset cs, .isl .ent es, .isl .ptr ps, .val (.bool y), .isl .int zs, .val (.int .i64 u)], .agg [.val (.int .i64 x'), .isl .cset cs', .isl .ent es', .isl .ptr ps', .val (.bool y'), .isl .int zs', .val (.int .i64 u')]], [] => ifp ((x = x' ∧ cs = cs' ∧ es = es' ∧ ps = ps' ∧ y = y' ∧ zs = zs' ∧ u = u') ∧ (Co.mk x cs es ps y zs u).small) (vb true)
  | _, _ => no⟩
theorem s_eqCore_e : EnterOk Tryz.prog 33 := ⟨_, Tryz.func33, rfl, by decide⟩
@[go_sem] def s_eqCore_lv : List (List Nat) := [[2, 3], [2, 3, 9], [4], [2, 3, 15], [4], [2, 3, 21], [4], [2, 3, 27], [4], [2, 3, 32], [4], [2, 3, 38], [4], [43], [4], [4]]
@[go_sem] noncomputable def s_eqCore_K : Known := ((((Known.nil).cons 100 ctEqCs s_eqCs s_eqCs_e).cons 101 ctEqEs s_eqEs s_eqEs_e).cons 102 ctEqPs s_eqPs s_eqPs_e).cons 103 ctEqI s_eqI s_eqI_e
set_option maxHeartbeats 8000000 in
theorem s_eqCore : Sound Tryz.prog 33 ctEqCore := by
  have ke := s_eqCore_K.env []
  have kl : Lives s_eqCore_lv := trivial
  refine sound_intro (E := ⟨ti, s_eqCore_K.Γ, []⟩) ke Tryz.func33 Tryz.ntmps33 rfl (rs := [.tmp 4]) rfl ?_
  intro args os hp
  unfold ctEqCore at hp ⊢
  dsimp only at hp ⊢
  split at hp
  · rename_i x cs es ps y zs u x' cs' es' ps' y' zs' u'
    refine ⟨by simp, fun φ0 w0 => ?_⟩
    obtain ⟨⟨rfl, rfl, rfl, rfl, rfl, rfl, rfl⟩, h1, h2, h3, h4⟩ : (x = x' ∧ cs = cs' ∧ es = es' ∧ ps = ps' ∧ y = y' ∧ zs = zs' ∧ u = u') ∧ (Co.mk x cs es ps y zs u).small := hp
    simp only at h1 h2 h3 h4
    refine goh trivial ?_
    refine W_cnd ?_ ?_ <;> intro hlit <;> try (cases hlit; done)
    refine goh trivial ?_
    refine W_cnd ?_ ?_ <;> intro hlit <;> try (cases hlit; done)
    refine goh trivial ?_
    refine W_cnd ?_ ?_ <;> intro hlit <;> try (cases hlit; done)
    refine goh trivial ?_
    refine W_cnd ?_ ?_ <;> intro hlit <;> try (cases hlit; done)
    refine goh trivial ?_
    refine W_cnd ?_ ?_ <;> intro hlit <;> try (cases hlit; done)
    refine goh trivial ?_
    refine W_cnd ?_ ?_ <;> intro hlit <;> try (cases hlit; done)
    refine goh trivial ?_
    refine W_cnd ?_ ?_ <;> intro hlit <;> try (cases hlit; done)
    refine goh trivial ?_
    exact finh [] trivial
  · simp [no, ifp] at hp
@[go_sem] def ctEqPool : Ct := ⟨false, [[some .str, some .str, some .late, none, some .cset, some .ent, some .ptr, none, some .int, none, none], [some .str, some .str, some .late, none, some .cset, some .ent, some .ptr, none, some .int, none, none]], fun args os => match args, os with
  | [.agg [.isl .str a, .isl .str b, .isl .late l, .val (.int .i64 x), .isl .cset cs, .isl .ent es, .isl .ptr ps, .val (.bool y), .isl .int zs, .val (.int .i64 u), .val (.bool o)], .agg [.isl .str a', .isl .str b', .isl .late l', .val (.int .i64 x'), .isl .cset cs', .isl .ent es', .isl .ptr ps', .val (.bool y'), .isl .int zs', .val (.int .i64 u'), .val (.bool o')]], [] =>
    ifp (((a = a' ∧ b = b' ∧ l = l') ∧ (x = x' ∧ cs = cs' ∧ es = es' ∧ ps = ps' ∧ y = y' ∧ zs = zs' ∧ u = u') ∧ o = o') ∧ (Pl.mk ⟨a, b, l⟩ ⟨x, cs, es, ps, y, zs, u⟩ o).small) (vb true)
  | _, _ => no⟩
theorem s_eqPool_e : EnterOk Tryz.prog 41 := ⟨_, Tryz.func41, rfl, by decide⟩
@[go_sem] def s_eqPool_lv : List (List Nat) := [[2, 3], [2, 3, 10], [4], [2, 3, 16], [4], [21], [4], [4]]
@[go_sem] noncomputable def s_eqPool_K : Known := ((Known.nil).cons 23 ctEqDisk s_eqDisk s_eqDisk_e).cons 33 ctEqCore s_eqCore s_eqCore_e
set_option maxHeartbeats 8000000 in
theorem s_eqPool : Sound Tryz.prog 41 ctEqPool := by
  have ke := s_eqPool_K.env []
  have kl : Lives s_eqPool_lv := trivial
  refine sound_intro (E := ⟨ti, s_eqPool_K.Γ, []⟩) ke Tryz.func41 Tryz.ntmps41 rfl (rs := [.tmp 4]) rfl ?_
  intro args os hp
  unfold ctEqPool at hp ⊢
  dsimp only at hp ⊢
  split at hp
  · rename_i a b l x cs es ps y zs u o a' b' l' x' cs' es' ps' y' zs' u' o'
    refine ⟨by simp, fun φ0 w0 => ?_⟩
    obtain ⟨⟨⟨rfl, rfl, rfl⟩, ⟨rfl, rfl, rfl, rfl, rfl, rfl, rfl⟩, rfl⟩, ⟨g1, g2, g3⟩, ⟨h1, h2, h3, h4⟩⟩ : ((a = a' ∧ b = b' ∧ l = l') ∧ (x = x' ∧ cs = cs' ∧ es = es' ∧ ps = ps' ∧ y = y' ∧ zs = zs' ∧ u = u') ∧ o = o') ∧ (Pl.mk ⟨a, b, l⟩ ⟨x, cs, es, ps, y, zs, u⟩ o).small := hp
    simp only at g1 g2 g3 h1 h2 h3 h4
    refine goh trivial ?_
    refine W_cnd ?_ ?_ <;> intro hlit <;> try (cases hlit; done)
    refine goh trivial ?_
    refine W_cnd ?_ ?_ <;> intro hlit <;> try (cases hlit; done)
    refine goh trivial ?_
    refine W_cnd ?_ ?_ <;> intro hlit <;> try (cases hlit; done)
    refine goh trivial ?_
    exact finh [] trivial
  · simp [no, ifp] at hp
end Go.Proofs.YtmnbgppmfbnamaaGreatDoor
/- Functions: the same disk, core, pool. -/
namespace Go.Proofs.YtmnbgppmfbnamaaGreatDoor
open Go.RowKit

@[go_sem] noncomputable def ct_s_l2Texts : Ct := ⟨false, [[some .str], [some .str]], fun args os => match args, os with
  | [.one (.isl .str xs), .one (.isl .str ys)], [] => ifp (xs.length ≤ 4000000) (vb (same xs ys))
  | _, _ => no⟩
@[go_sem] def sg_s_l2Texts (xs ys : List ByteArray) (i : Nat) : Sg := ⟨[(0, .one (.isl .str xs)), (1, .one (.isl .str ys)), (5, vi i)], [], []⟩
@[go_sem] noncomputable def ct_s_l6Ints : Ct := ⟨false, [[some .int], [some .int]], fun args os => match args, os with
  | [.one (.isl .int xs), .one (.isl .int ys)], [] => ifp (xs.length ≤ 4000000) (vb (same xs ys))
  | _, _ => no⟩
@[go_sem] def sg_s_l6Ints (xs ys : List Int) (i : Nat) : Sg := ⟨[(0, .one (.isl .int xs)), (1, .one (.isl .int ys)), (5, vi i)], [], []⟩
theorem same_refl' {α : Type} (x : α) : same x x = true := by simp [same]
theorem dk_eqv (d e : Dk) : Dk.eqv d e = same d e := by
  rw [Bool.eq_iff_iff, same_true]
  unfold Dk.eqv
  simp only [Bool.and_eq_true, same_true]
  obtain ⟨a, b, l⟩ := d
  obtain ⟨a', b', l'⟩ := e
  simp [and_assoc]
@[go_sem] def sgDs (a b : List ByteArray) (l : List Late) (m : List Late) (i : Nat) : Sg := ⟨[(2, .one (.ptr 0 0)), (3, .one (.ptr 1 0)), (5, vi i)], [some (.cells [.isl .str a, .isl .str b, .isl .late l]), some (.cells [.isl .str a, .isl .str b, .isl .late m])], []⟩
@[go_sem] noncomputable def ctCoreSame : Ct := ⟨false, [[none, some .cset, some .ent, some .ptr, none, some .int, none], [none, some .cset, some .ent, some .ptr, none, some .int, none]], fun args os => match args, os with
  | [.agg [.val (.int .i64 x), .isl .cset cs, .isl .ent es, .isl .ptr ps, .val (.bool y), .isl .int zs, .val (.int .i64 u)], .agg [.val (.int .i64 x'), .isl .cset cs', .isl .ent es', .isl .ptr ps', .val (.bool y'), .isl .int zs', .val (.int .i64 u')]], [] => ifp (Co.mk x cs es ps y zs u).small (vb (same (Co.mk x cs es ps y zs u) (Co.mk x' cs' es' ps' y' zs' u')))
  | _, _ => no⟩
theorem same_co (x x' u u' : Int) (cs cs' : List CSet) (es es' : List Ent) (ps ps' : List Ptr) (y y' : Bool) (zs zs' : List Int) : same (Co.mk x cs es ps y zs u) (Co.mk x' cs' es' ps' y' zs' u') = decide (x = x' ∧ same cs cs' = true ∧ same es es' = true ∧ same ps ps' = true ∧ y = y' ∧ same zs zs' = true ∧ u = u') := by
  rw [Bool.eq_iff_iff, same_true, decide_eq_true_eq, Co.mk.injEq]
  simp only [same_true]
@[go_sem] def sgCo (x : Int) (cs cs' : List CSet) (es es' : List Ent) (ps ps' : List Ptr) (y : Bool) (zs : List Int) (u : Int) (s i : Nat) : Sg := ⟨[(2, .one (.ptr 0 0)), (3, .one (.ptr 1 0)), (s, vi i)],
  [some (.cells [.val (.int .i64 x), .isl .cset cs, .isl .ent es, .isl .ptr ps, .val (.bool y), .isl .int zs, .val (.int .i64 u)]), some (.cells [.val (.int .i64 x), .isl .cset cs', .isl .ent es', .isl .ptr ps', .val (.bool y), .isl .int zs, .val (.int .i64 u)])], []⟩
@[go_sem] noncomputable def ctPoolSame : Ct := ⟨false, [[some .str, some .str, some .late, none, some .cset, some .ent, some .ptr, none, some .int, none, none], [some .str, some .str, some .late, none, some .cset, some .ent, some .ptr, none, some .int, none, none]], fun args os => match args, os with
  | [.agg [.isl .str a, .isl .str b, .isl .late l, .val (.int .i64 x), .isl .cset cs, .isl .ent es, .isl .ptr ps, .val (.bool y), .isl .int zs, .val (.int .i64 u), .val (.bool o)], .agg [.isl .str a', .isl .str b', .isl .late l', .val (.int .i64 x'), .isl .cset cs', .isl .ent es', .isl .ptr ps', .val (.bool y'), .isl .int zs', .val (.int .i64 u'), .val (.bool o')]], [] =>
    ifp (Pl.mk ⟨a, b, l⟩ ⟨x, cs, es, ps, y, zs, u⟩ o).small (vb (same (Pl.mk ⟨a, b, l⟩ ⟨x, cs, es, ps, y, zs, u⟩ o) (Pl.mk ⟨a', b', l'⟩ ⟨x', cs', es', ps', y', zs', u'⟩ o')))
  | _, _ => no⟩
theorem same_pl (d d' : Dk) (c c' : Co) (o o' : Bool) : same (Pl.mk d c o) (Pl.mk d' c' o') = decide (Dk.eqv d d' = true ∧ same c c' = true ∧ o = o') := by
  rw [Bool.eq_iff_iff, same_true, decide_eq_true_eq, Pl.mk.injEq, dk_eqv]
  simp only [same_true]
end Go.Proofs.YtmnbgppmfbnamaaGreatDoor
/- Functions of the exact laws: cores and stores marked, and the marks found again. -/
namespace Go.Proofs.YtmnbgppmfbnamaaGreatDoor
open Go.RowKit

def markE (n : Nat) (k : Int) : List Ent := (List.range n).map fun i : Nat => ⟨k + 3 * (i : Int), k + 3 * (i : Int) + 1, k + 3 * (i : Int) + 2⟩
def markP (n : Nat) (k : Int) : List Ptr := (List.range n).map fun i : Nat => ⟨k + 3 * (i : Int), k + 3 * (i : Int) + 1, k + 3 * (i : Int) + 2⟩
def markC1 (s : CSet) (k : Int) : CSet := ⟨markT k, k + 1, markT (k + 2), s.map, ⟨k + 3, k + 4, k + 5⟩, (k + 6).tmod 3 == 0⟩
def markC (xs : List CSet) (k : Int) : List CSet := (List.range xs.length).map fun i : Nat => markC1 (xs.getD i ET.cset.dflt) (k + 7 * (i : Int))
@[go_sem] theorem markE_len (n : Nat) (k : Int) : (markE n k).length = n := by simp [markE]
@[go_sem] theorem markP_len (n : Nat) (k : Int) : (markP n k).length = n := by simp [markP]
@[go_sem] theorem markC_len (xs : List CSet) (k : Int) : (markC xs k).length = xs.length := by simp [markC]
@[go_sem] theorem markE_take (n : Nat) (k : Int) : (markE n k).take n = markE n k := List.take_of_length_le (by simp [markE])
@[go_sem] theorem markP_take (n : Nat) (k : Int) : (markP n k).take n = markP n k := List.take_of_length_le (by simp [markP])
@[go_sem] theorem markC_take (xs : List CSet) (k : Int) : (markC xs k).take xs.length = markC xs k := List.take_of_length_le (by simp [markC])
theorem markE_get {n : Nat} {k : Int} {i : Nat} (h : i < n) (d : Ent) : (markE n k).getD i d = ⟨k + 3 * i, k + 3 * i + 1, k + 3 * i + 2⟩ := by simp [markE, h]
theorem markP_get {n : Nat} {k : Int} {i : Nat} (h : i < n) (d : Ptr) : (markP n k).getD i d = ⟨k + 3 * i, k + 3 * i + 1, k + 3 * i + 2⟩ := by simp [markP, h]
theorem markC_get {xs : List CSet} {k : Int} {i : Nat} (h : i < xs.length) (d : CSet) : (markC xs k).getD i d = markC1 (xs.getD i ET.cset.dflt) (k + 7 * i) := by simp [markC, h]
theorem mix_here {α : Type} {ms xs : List α} {i : Nat} {d : α} (hl : ms.length = xs.length) (hi : i < xs.length) : (mix ms xs i).getD i d = xs.getD i d := by
  unfold mix
  simp [List.getElem?_append_right, hl, show i ≤ xs.length by omega, List.length_take, Nat.min_eq_left, hi]
@[go_sem] def ctMarkE : Ct := ⟨true, [], fun args os => match args, os with
  | [.one (.osl .ent 0 0 n), .one (.val (.int .i64 k))], [.arr .ent xs] => ⟨n = xs.length ∧ xs.length ≤ 4000000 ∧ 0 ≤ k ∧ k ≤ 1000000000, vi (k + 3 * xs.length), [(0, some (.arr .ent (markE xs.length k)))], []⟩
  | _, _ => no⟩
theorem s_markE_e : EnterOk Tryz.prog 105 := ⟨_, Tryz.func105, rfl, by decide⟩
@[go_sem] def s_markE_lv : List (List Nat) := [[0, 1], [0, 1, 5], [0, 1, 5, 9], [0, 1, 5], [0, 1, 5], [0, 1, 5], [0, 1, 5], [0, 1, 5], [0, 1, 5], [0, 1, 5], [4]]
@[go_sem] noncomputable def s_markE_K : Known := Known.nil
set_option maxHeartbeats 8000000 in
theorem s_markE : Sound Tryz.prog 105 ctMarkE := by
  have ke := s_markE_K.env []
  have kl : Lives s_markE_lv := trivial
  refine sound_intro (E := ⟨ti, s_markE_K.Γ, []⟩) ke Tryz.func105 Tryz.ntmps105 rfl (rs := [.tmp 4]) rfl ?_
  intro args os hp
  unfold ctMarkE at hp ⊢
  dsimp only at hp ⊢
  split at hp
  · rename_i n k xs
    refine ⟨by simp, fun φ0 w0 => ?_⟩
    obtain ⟨rfl, h1, h2, h3⟩ : n = xs.length ∧ xs.length ≤ 4000000 ∧ 0 ≤ k ∧ k ≤ 1000000000 := hp
    have hml := markE_len xs.length k
    have hz := mix_zero (markE xs.length k) xs
    refine goh trivial ?_
    refine W_for xs.length (fun i => True) (fun i => ⟨[(0, .one (.osl .ent 0 0 xs.length)), (1, vi (k + 3 * i)), (5, vi i)], [some (.arr .ent (mix (markE xs.length k) xs i))], [0]⟩) [some 0] (leh hz) trivial fun i hi _ => ?_
    have hm := mix_len (markE xs.length k) xs i hml
    refine goh hm ?_
    refine W_cnd ?_ ?_ <;> (try simp only [cnd_r]) <;> intro hlt
    · have hli : i < xs.length := by omega
      have w1 : IntKind.i64.wrap (k + 3 * i + 1) = k + 3 * i + 1 := wrap_id _ (by omega) (by omega)
      have w2 : IntKind.i64.wrap (k + 3 * i + 1 + 1) = k + 3 * i + 2 := by rw [wrap_id _ (by omega) (by omega)]; omega
      have w3 : IntKind.i64.wrap (k + 3 * i + 2 + 1) = k + 3 * (i + 1) := by rw [wrap_id _ (by omega) (by omega)]; omega
      have w4 : IntKind.i64.wrap (k + 3 * i) = k + 3 * i := wrap_id _ (by omega) (by omega)
      have w5 : IntKind.i64.wrap (k + 3 * i + 2) = k + 3 * i + 2 := wrap_id _ (by omega) (by omega)
      have hg : ∀ x : Ent, ((mix (markE xs.length k) xs i).set i x).getD i ET.ent.dflt = x := fun x => by
        rw [List.getD_eq_getElem?_getD, List.getElem?_set, if_pos rfl, if_pos (by omega)]; rfl
      have hs := mix_set (markE xs.length k) xs i ET.ent.dflt hml (by omega) (x := ⟨k + 3 * i, k + 3 * i + 1, k + 3 * i + 2⟩) (markE_get (by omega) _).symm
      repeat' first
        | with_reducible refine red ?_
        | refine W_seq ?_
        | (refine W_reg (s_markE_K.env []) s_markE_lv fun K' hK' => ?_
           simp only [go_sem, hm, w1, w2, w3, w4, w5, List.length_set, hg, List.set_set, ↓reduceIte, ↓reduceDIte, reduceCtorEq, Nat.reduceAdd, Nat.reduceMul, Nat.reduceSub, Nat.reduceDiv, Nat.reduceMod, Nat.reduceLT, Nat.reduceLeDiff, Nat.reduceEqDiff, Nat.reduceBEq, Int.reduceToNat, Int.reduceLE, Int.reduceLT, Int.reduceEq, Int.reduceNe, Int.reduceNeg]
           (repeat' refine And.intro ?_ ?_) <;> try first | with_reducible refine hK' ?_ | exact shut6)
        | with_reducible refine blockG_o (by decide) ?_
      exact ⟨[some 0], by omega, leh (And.intro hs hm), trivial⟩
    · obtain rfl : i = xs.length := by omega
      have hs := mix_all (markE xs.length k) xs xs.length hml rfl
      refine goh hm ?_
      exact finh [some 0] hs
  · simp [no] at hp
@[go_sem] def ctMarkP : Ct := ⟨true, [], fun args os => match args, os with
  | [.one (.osl .ptr 0 0 n), .one (.val (.int .i64 k))], [.arr .ptr xs] => ⟨n = xs.length ∧ xs.length ≤ 4000000 ∧ 0 ≤ k ∧ k ≤ 1000000000, vi (k + 3 * xs.length), [(0, some (.arr .ptr (markP xs.length k)))], []⟩
  | _, _ => no⟩
theorem s_markP_e : EnterOk Tryz.prog 106 := ⟨_, Tryz.func106, rfl, by decide⟩
@[go_sem] def s_markP_lv : List (List Nat) := [[0, 1], [0, 1, 5], [0, 1, 5, 9], [0, 1, 5], [0, 1, 5], [0, 1, 5], [0, 1, 5], [0, 1, 5], [0, 1, 5], [0, 1, 5], [4]]
@[go_sem] noncomputable def s_markP_K : Known := Known.nil
set_option maxHeartbeats 8000000 in
theorem s_markP : Sound Tryz.prog 106 ctMarkP := by
  have ke := s_markP_K.env []
  have kl : Lives s_markP_lv := trivial
  refine sound_intro (E := ⟨ti, s_markP_K.Γ, []⟩) ke Tryz.func106 Tryz.ntmps106 rfl (rs := [.tmp 4]) rfl ?_
  intro args os hp
  unfold ctMarkP at hp ⊢
  dsimp only at hp ⊢
  split at hp
  · rename_i n k xs
    refine ⟨by simp, fun φ0 w0 => ?_⟩
    obtain ⟨rfl, h1, h2, h3⟩ : n = xs.length ∧ xs.length ≤ 4000000 ∧ 0 ≤ k ∧ k ≤ 1000000000 := hp
    have hml := markP_len xs.length k
    have hz := mix_zero (markP xs.length k) xs
    refine goh trivial ?_
    refine W_for xs.length (fun i => True) (fun i => ⟨[(0, .one (.osl .ptr 0 0 xs.length)), (1, vi (k + 3 * i)), (5, vi i)], [some (.arr .ptr (mix (markP xs.length k) xs i))], [0]⟩) [some 0] (leh hz) trivial fun i hi _ => ?_
    have hm := mix_len (markP xs.length k) xs i hml
    refine goh hm ?_
    refine W_cnd ?_ ?_ <;> (try simp only [cnd_r]) <;> intro hlt
    · have hli : i < xs.length := by omega
      have w1 : IntKind.i64.wrap (k + 3 * i + 1) = k + 3 * i + 1 := wrap_id _ (by omega) (by omega)
      have w2 : IntKind.i64.wrap (k + 3 * i + 1 + 1) = k + 3 * i + 2 := by rw [wrap_id _ (by omega) (by omega)]; omega
      have w3 : IntKind.i64.wrap (k + 3 * i + 2 + 1) = k + 3 * (i + 1) := by rw [wrap_id _ (by omega) (by omega)]; omega
      have w4 : IntKind.i64.wrap (k + 3 * i) = k + 3 * i := wrap_id _ (by omega) (by omega)
      have w5 : IntKind.i64.wrap (k + 3 * i + 2) = k + 3 * i + 2 := wrap_id _ (by omega) (by omega)
      have hg : ∀ x : Ptr, ((mix (markP xs.length k) xs i).set i x).getD i ET.ptr.dflt = x := fun x => by
        rw [List.getD_eq_getElem?_getD, List.getElem?_set, if_pos rfl, if_pos (by omega)]; rfl
      have hs := mix_set (markP xs.length k) xs i ET.ptr.dflt hml (by omega) (x := ⟨k + 3 * i, k + 3 * i + 1, k + 3 * i + 2⟩) (markP_get (by omega) _).symm
      repeat' first
        | with_reducible refine red ?_
        | refine W_seq ?_
        | (refine W_reg (s_markP_K.env []) s_markP_lv fun K' hK' => ?_
           simp only [go_sem, hm, w1, w2, w3, w4, w5, List.length_set, hg, List.set_set, ↓reduceIte, ↓reduceDIte, reduceCtorEq, Nat.reduceAdd, Nat.reduceMul, Nat.reduceSub, Nat.reduceDiv, Nat.reduceMod, Nat.reduceLT, Nat.reduceLeDiff, Nat.reduceEqDiff, Nat.reduceBEq, Int.reduceToNat, Int.reduceLE, Int.reduceLT, Int.reduceEq, Int.reduceNe, Int.reduceNeg]
           (repeat' refine And.intro ?_ ?_) <;> try first | with_reducible refine hK' ?_ | exact shut6)
        | with_reducible refine blockG_o (by decide) ?_
      exact ⟨[some 0], by omega, leh (And.intro hs hm), trivial⟩
    · obtain rfl : i = xs.length := by omega
      have hs := mix_all (markP xs.length k) xs xs.length hml rfl
      refine goh hm ?_
      exact finh [some 0] hs
  · simp [no] at hp
@[go_sem] def ctMarkC : Ct := ⟨true, [], fun args os => match args, os with
  | [.one (.osl .cset 0 0 n), .one (.val (.int .i64 k))], [.arr .cset xs] => ⟨n = xs.length ∧ xs.length ≤ 4000000 ∧ 0 ≤ k ∧ k ≤ 1000000000, vi (k + 7 * xs.length), [(0, some (.arr .cset (markC xs k)))], []⟩
  | _, _ => no⟩
theorem s_markC_e : EnterOk Tryz.prog 104 := ⟨_, Tryz.func104, rfl, by decide⟩
@[go_sem] def s_markC_lv : List (List Nat) := [[0, 1], [0, 1, 5], [0, 1, 5, 9], [0, 1, 5], [0, 1, 5], [0, 1, 5], [0, 1, 5], [0, 1, 5], [0, 1, 5], [0, 1, 5], [0, 1, 5], [0, 1, 5], [0, 1, 5], [0, 1, 5], [0, 1, 5], [0, 1, 5], [0, 1, 5], [0, 1, 5], [4]]
@[go_sem] noncomputable def s_markC_K : Known := (Known.nil).cons 83 ctMarkT s_markT s_markT_e
set_option maxHeartbeats 8000000 in
theorem s_markC : Sound Tryz.prog 104 ctMarkC := by
  have ke := s_markC_K.env []
  have kl : Lives s_markC_lv := trivial
  refine sound_intro (E := ⟨ti, s_markC_K.Γ, []⟩) ke Tryz.func104 Tryz.ntmps104 rfl (rs := [.tmp 4]) rfl ?_
  intro args os hp
  unfold ctMarkC at hp ⊢
  dsimp only at hp ⊢
  split at hp
  · rename_i n k xs
    refine ⟨by simp, fun φ0 w0 => ?_⟩
    obtain ⟨rfl, h1, h2, h3⟩ : n = xs.length ∧ xs.length ≤ 4000000 ∧ 0 ≤ k ∧ k ≤ 1000000000 := hp
    have hml := markC_len xs k
    have hz := mix_zero (markC xs k) xs
    refine goh trivial ?_
    refine W_for xs.length (fun i => True) (fun i => ⟨[(0, .one (.osl .cset 0 0 xs.length)), (1, vi (k + 7 * i)), (5, vi i)], [some (.arr .cset (mix (markC xs k) xs i))], [0]⟩) [some 0] (leh hz) trivial fun i hi _ => ?_
    have hm := mix_len (markC xs k) xs i hml
    refine goh hm ?_
    refine W_cnd ?_ ?_ <;> (try simp only [cnd_r]) <;> intro hlt
    · have hli : i < xs.length := by omega
      obtain ⟨q, hq⟩ : ∃ q : Int, q = k + 7 * i := ⟨_, rfl⟩
      have w0 : IntKind.i64.wrap q = q := wrap_id _ (by omega) (by omega)
      have w1 : IntKind.i64.wrap (q + 1) = q + 1 := wrap_id _ (by omega) (by omega)
      have w2 : IntKind.i64.wrap (q + 1 + 1) = q + 2 := by rw [wrap_id _ (by omega) (by omega)]; omega
      have w3 : IntKind.i64.wrap (q + 2 + 1) = q + 3 := by rw [wrap_id _ (by omega) (by omega)]; omega
      have w4 : IntKind.i64.wrap (q + 3 + 1) = q + 4 := by rw [wrap_id _ (by omega) (by omega)]; omega
      have w5 : IntKind.i64.wrap (q + 4 + 1) = q + 5 := by rw [wrap_id _ (by omega) (by omega)]; omega
      have w6 : IntKind.i64.wrap (q + 5 + 1) = q + 6 := by rw [wrap_id _ (by omega) (by omega)]; omega
      have w7 : IntKind.i64.wrap (q + 6 + 1) = k + 7 * ((i : Int) + 1) := by rw [wrap_id _ (by omega) (by omega)]; omega
      have v3 : IntKind.i64.wrap (q + 3) = q + 3 := wrap_id _ (by omega) (by omega)
      have v4 : IntKind.i64.wrap (q + 4) = q + 4 := wrap_id _ (by omega) (by omega)
      have v5 : IntKind.i64.wrap (q + 5) = q + 5 := wrap_id _ (by omega) (by omega)
      have hg : ∀ x : CSet, ((mix (markC xs k) xs i).set i x).getD i ET.cset.dflt = x := fun x => by
        rw [List.getD_eq_getElem?_getD, List.getElem?_set, if_pos rfl, if_pos (by omega)]; rfl
      have hh : (mix (markC xs k) xs i).getD i ET.cset.dflt = xs.getD i ET.cset.dflt := mix_here hml hli
      have hs := mix_set (markC xs k) xs i ET.cset.dflt hml (by omega) (x := markC1 (xs.getD i ET.cset.dflt) q) (by rw [hq]; exact (markC_get hli _).symm)
      unfold markC1 at hs
      rw [← hq]
      repeat' first
        | with_reducible refine red ?_
        | refine W_seq ?_
        | (refine W_reg (s_markC_K.env []) s_markC_lv fun K' hK' => ?_
           simp only [go_sem, hm, w0, w1, w2, w3, w4, w5, w6, w7, v3, v4, v5, List.length_set, hg, hh, List.set_set, ↓reduceIte, ↓reduceDIte, reduceCtorEq, Nat.reduceAdd, Nat.reduceMul, Nat.reduceSub, Nat.reduceDiv, Nat.reduceMod, Nat.reduceLT, Nat.reduceLeDiff, Nat.reduceEqDiff, Nat.reduceBEq, Int.reduceToNat, Int.reduceLE, Int.reduceLT, Int.reduceEq, Int.reduceNe, Int.reduceNeg]
           (repeat' refine And.intro ?_ ?_) <;> try first | with_reducible refine hK' ?_ | exact shut6)
        | with_reducible refine blockG_o (by decide) ?_
      exact ⟨[some 0], by omega, leh (And.intro hs hm), trivial⟩
    · obtain rfl : i = xs.length := by omega
      have hs := mix_all (markC xs k) xs xs.length hml rfl
      refine goh hm ?_
      exact finh [some 0] hs
  · simp [no] at hp
@[go_sem] def ctHeldE : Ct := ⟨false, [[some .ent]], fun args os => match args, os with
  | [.one (.isl .ent xs), .one (.val (.int .i64 k))], [] => ifp (xs = markE xs.length k ∧ xs.length ≤ 4000000 ∧ 0 ≤ k ∧ k ≤ 1000000000) (vi (k + 3 * xs.length))
  | _, _ => no⟩
theorem s_heldE_e : EnterOk Tryz.prog 111 := ⟨_, Tryz.func111, rfl, by decide⟩
@[go_sem] def s_heldE_lv : List (List Nat) := [[0, 1], [0, 1, 5], [0, 1, 5, 9], [0, 1, 5], [0, 1, 5, 18], [4], [0, 1, 5], [0, 1, 5, 27], [4], [0, 1, 5], [0, 1, 5, 36], [4], [0, 1, 5], [4]]
@[go_sem] noncomputable def s_heldE_K : Known := Known.nil
set_option maxHeartbeats 8000000 in
theorem s_heldE : Sound Tryz.prog 111 ctHeldE := by
  have ke := s_heldE_K.env []
  have kl : Lives s_heldE_lv := trivial
  refine sound_intro (E := ⟨ti, s_heldE_K.Γ, []⟩) ke Tryz.func111 Tryz.ntmps111 rfl (rs := [.tmp 4]) rfl ?_
  intro args os hp
  unfold ctHeldE at hp ⊢
  dsimp only at hp ⊢
  split at hp
  · rename_i xs k
    refine ⟨by simp, fun φ0 w0 => ?_⟩
    obtain ⟨h0, h1, h2, h3⟩ : xs = markE xs.length k ∧ xs.length ≤ 4000000 ∧ 0 ≤ k ∧ k ≤ 1000000000 := hp
    have hget : ∀ i, i < xs.length → xs.getD i ET.ent.dflt = ⟨k + 3 * i, k + 3 * i + 1, k + 3 * i + 2⟩ := fun i hi => by
      conv => lhs; rw [h0]
      exact markE_get hi _
    clear h0
    refine goh trivial ?_
    refine W_for xs.length (fun i => True) (fun i => ⟨[(0, .one (.isl .ent xs)), (1, vi (k + 3 * i)), (5, vi i)], [], []⟩) [] (leh trivial) trivial fun i hi _ => ?_
    refine goh trivial ?_
    refine W_cnd ?_ ?_ <;> (try simp only [cnd_r]) <;> intro hlt
    · have hg := hget i (by omega)
      have w1 : IntKind.i64.wrap (k + 3 * i + 1) = k + 3 * i + 1 := wrap_id _ (by omega) (by omega)
      have w2 : IntKind.i64.wrap (k + 3 * i + 1 + 1) = k + 3 * i + 2 := by rw [wrap_id _ (by omega) (by omega)]; omega
      have w3 : IntKind.i64.wrap (k + 3 * i + 2 + 1) = k + 3 * (i + 1) := by rw [wrap_id _ (by omega) (by omega)]; omega
      have w4 : IntKind.i64.wrap (k + 3 * i) = k + 3 * i := wrap_id _ (by omega) (by omega)
      have w5 : IntKind.i64.wrap (k + 3 * i + 2) = k + 3 * i + 2 := wrap_id _ (by omega) (by omega)
      refine goh (And.intro hg (And.intro w1 (And.intro w2 (And.intro w3 (And.intro w4 w5))))) ?_
      refine W_cnd ?_ ?_ <;> intro hlit <;> try (cases hlit; done)
      refine goh (And.intro hg (And.intro w1 (And.intro w2 (And.intro w3 (And.intro w4 w5))))) ?_
      refine W_cnd ?_ ?_ <;> intro hlit <;> try (cases hlit; done)
      refine goh (And.intro hg (And.intro w1 (And.intro w2 (And.intro w3 (And.intro w4 w5))))) ?_
      refine W_cnd ?_ ?_ <;> intro hlit <;> try (cases hlit; done)
      refine goh (And.intro hg (And.intro w1 (And.intro w2 (And.intro w3 (And.intro w4 w5))))) ?_
      exact ⟨[], by omega, leh trivial, trivial⟩
    · obtain rfl : i = xs.length := by omega
      refine goh trivial ?_
      exact finh [] trivial
  · simp [no, ifp] at hp
@[go_sem] def ctHeldP : Ct := ⟨false, [[some .ptr]], fun args os => match args, os with
  | [.one (.isl .ptr xs), .one (.val (.int .i64 k))], [] => ifp (xs = markP xs.length k ∧ xs.length ≤ 4000000 ∧ 0 ≤ k ∧ k ≤ 1000000000) (vi (k + 3 * xs.length))
  | _, _ => no⟩
theorem s_heldP_e : EnterOk Tryz.prog 112 := ⟨_, Tryz.func112, rfl, by decide⟩
@[go_sem] def s_heldP_lv : List (List Nat) := [[0, 1], [0, 1, 5], [0, 1, 5, 9], [0, 1, 5], [0, 1, 5, 18], [4], [0, 1, 5], [0, 1, 5, 27], [4], [0, 1, 5], [0, 1, 5, 36], [4], [0, 1, 5], [4]]
@[go_sem] noncomputable def s_heldP_K : Known := Known.nil
set_option maxHeartbeats 8000000 in
theorem s_heldP : Sound Tryz.prog 112 ctHeldP := by
  have ke := s_heldP_K.env []
  have kl : Lives s_heldP_lv := trivial
  refine sound_intro (E := ⟨ti, s_heldP_K.Γ, []⟩) ke Tryz.func112 Tryz.ntmps112 rfl (rs := [.tmp 4]) rfl ?_
  intro args os hp
  unfold ctHeldP at hp ⊢
  dsimp only at hp ⊢
  split at hp
  · rename_i xs k
    refine ⟨by simp, fun φ0 w0 => ?_⟩
    obtain ⟨h0, h1, h2, h3⟩ : xs = markP xs.length k ∧ xs.length ≤ 4000000 ∧ 0 ≤ k ∧ k ≤ 1000000000 := hp
    have hget : ∀ i, i < xs.length → xs.getD i ET.ptr.dflt = ⟨k + 3 * i, k + 3 * i + 1, k + 3 * i + 2⟩ := fun i hi => by
      conv => lhs; rw [h0]
      exact markP_get hi _
    clear h0
    refine goh trivial ?_
    refine W_for xs.length (fun i => True) (fun i => ⟨[(0, .one (.isl .ptr xs)), (1, vi (k + 3 * i)), (5, vi i)], [], []⟩) [] (leh trivial) trivial fun i hi _ => ?_
    refine goh trivial ?_
    refine W_cnd ?_ ?_ <;> (try simp only [cnd_r]) <;> intro hlt
    · have hg := hget i (by omega)
      have w1 : IntKind.i64.wrap (k + 3 * i + 1) = k + 3 * i + 1 := wrap_id _ (by omega) (by omega)
      have w2 : IntKind.i64.wrap (k + 3 * i + 1 + 1) = k + 3 * i + 2 := by rw [wrap_id _ (by omega) (by omega)]; omega
      have w3 : IntKind.i64.wrap (k + 3 * i + 2 + 1) = k + 3 * (i + 1) := by rw [wrap_id _ (by omega) (by omega)]; omega
      have w4 : IntKind.i64.wrap (k + 3 * i) = k + 3 * i := wrap_id _ (by omega) (by omega)
      have w5 : IntKind.i64.wrap (k + 3 * i + 2) = k + 3 * i + 2 := wrap_id _ (by omega) (by omega)
      refine goh (And.intro hg (And.intro w1 (And.intro w2 (And.intro w3 (And.intro w4 w5))))) ?_
      refine W_cnd ?_ ?_ <;> intro hlit <;> try (cases hlit; done)
      refine goh (And.intro hg (And.intro w1 (And.intro w2 (And.intro w3 (And.intro w4 w5))))) ?_
      refine W_cnd ?_ ?_ <;> intro hlit <;> try (cases hlit; done)
      refine goh (And.intro hg (And.intro w1 (And.intro w2 (And.intro w3 (And.intro w4 w5))))) ?_
      refine W_cnd ?_ ?_ <;> intro hlit <;> try (cases hlit; done)
      refine goh (And.intro hg (And.intro w1 (And.intro w2 (And.intro w3 (And.intro w4 w5))))) ?_
      exact ⟨[], by omega, leh trivial, trivial⟩
    · obtain rfl : i = xs.length := by omega
      refine goh trivial ?_
      exact finh [] trivial
  · simp [no, ifp] at hp
end Go.Proofs.YtmnbgppmfbnamaaGreatDoor
/- Functions of the exact laws: marked cores found again. -/
namespace Go.Proofs.YtmnbgppmfbnamaaGreatDoor
open Go.RowKit

theorem markC_idem (xs : List CSet) (k : Int) : markC (markC xs k) k = markC xs k := by
  apply List.ext_getElem (by rw [markC_len, markC_len])
  intro i h1 h2
  rw [markC_len] at h2
  have e1 := markC_get (xs := markC xs k) (k := k) (i := i) (by rw [markC_len]; exact h2) ET.cset.dflt
  have e2 := markC_get (xs := xs) (k := k) (i := i) h2 ET.cset.dflt
  rw [e2] at e1
  rw [List.getD_eq_getElem?_getD, List.getElem?_eq_getElem h1, Option.getD_some] at e1
  rw [List.getD_eq_getElem?_getD, List.getElem?_eq_getElem (by rw [markC_len]; exact h2), Option.getD_some] at e2
  rw [e1, e2]; rfl
@[go_sem] def ctHeldC : Ct := ⟨false, [[some .cset]], fun args os => match args, os with
  | [.one (.isl .cset xs), .one (.val (.int .i64 k))], [] => ifp (xs = markC xs k ∧ xs.length ≤ 4000000 ∧ 0 ≤ k ∧ k ≤ 1000000000) (vi (k + 7 * xs.length))
  | _, _ => no⟩
theorem s_heldC_e : EnterOk Tryz.prog 110 := ⟨_, Tryz.func110, rfl, by decide⟩
@[go_sem] def s_heldC_lv : List (List Nat) := [[0, 1], [0, 1, 5], [0, 1, 5, 9], [0, 1, 5], [0, 1, 5, 19], [4], [0, 1, 5], [0, 1, 5, 28], [4], [0, 1, 5], [0, 1, 5, 38], [4], [0, 1, 5], [0, 1, 5, 48], [4], [0, 1, 5], [0, 1, 5, 58], [4], [0, 1, 5], [0, 1, 5, 68], [4], [0, 1, 5], [0, 1, 5, 79], [4], [0, 1, 5], [4]]
@[go_sem] noncomputable def s_heldC_K : Known := (Known.nil).cons 83 ctMarkT s_markT s_markT_e
set_option maxHeartbeats 8000000 in
theorem s_heldC : Sound Tryz.prog 110 ctHeldC := by
  have ke := s_heldC_K.env []
  have kl : Lives s_heldC_lv := trivial
  refine sound_intro (E := ⟨ti, s_heldC_K.Γ, []⟩) ke Tryz.func110 Tryz.ntmps110 rfl (rs := [.tmp 4]) rfl ?_
  intro args os hp
  unfold ctHeldC at hp ⊢
  dsimp only at hp ⊢
  split at hp
  · rename_i xs k
    refine ⟨by simp, fun φ0 w0 => ?_⟩
    obtain ⟨h0, h1, h2, h3⟩ : xs = markC xs k ∧ xs.length ≤ 4000000 ∧ 0 ≤ k ∧ k ≤ 1000000000 := hp
    have hget : ∀ i, i < xs.length → xs.getD i ET.cset.dflt = markC1 (xs.getD i ET.cset.dflt) (k + 7 * i) := fun i hi => by
      conv => lhs; rw [h0]
      exact markC_get hi _
    clear h0
    refine goh trivial ?_
    refine W_for xs.length (fun i => True) (fun i => ⟨[(0, .one (.isl .cset xs)), (1, vi (k + 7 * i)), (5, vi i)], [], []⟩) [] (leh trivial) trivial fun i hi _ => ?_
    refine goh trivial ?_
    refine W_cnd ?_ ?_ <;> (try simp only [cnd_r]) <;> intro hlt
    · have hli : i < xs.length := by omega
      obtain ⟨q, hq⟩ : ∃ q : Int, q = k + 7 * i := ⟨_, rfl⟩
      have w0 : IntKind.i64.wrap q = q := wrap_id _ (by omega) (by omega)
      have w1 : IntKind.i64.wrap (q + 1) = q + 1 := wrap_id _ (by omega) (by omega)
      have w2 : IntKind.i64.wrap (q + 1 + 1) = q + 2 := by rw [wrap_id _ (by omega) (by omega)]; omega
      have w3 : IntKind.i64.wrap (q + 2 + 1) = q + 3 := by rw [wrap_id _ (by omega) (by omega)]; omega
      have w4 : IntKind.i64.wrap (q + 3 + 1) = q + 4 := by rw [wrap_id _ (by omega) (by omega)]; omega
      have w5 : IntKind.i64.wrap (q + 4 + 1) = q + 5 := by rw [wrap_id _ (by omega) (by omega)]; omega
      have w6 : IntKind.i64.wrap (q + 5 + 1) = q + 6 := by rw [wrap_id _ (by omega) (by omega)]; omega
      have w7 : IntKind.i64.wrap (q + 6 + 1) = k + 7 * ((i : Int) + 1) := by rw [wrap_id _ (by omega) (by omega)]; omega
      have v3 : IntKind.i64.wrap (q + 3) = q + 3 := wrap_id _ (by omega) (by omega)
      have v4 : IntKind.i64.wrap (q + 4) = q + 4 := wrap_id _ (by omega) (by omega)
      have v5 : IntKind.i64.wrap (q + 5) = q + 5 := wrap_id _ (by omega) (by omega)
      have hb0 : 0 ≤ q ∧ q ≤ 1100000000 := by omega
      have wi : IntKind.i64.wrap ((i : Int) + 1) = ((i + 1 : Nat) : Int) := by rw [wrap_id] <;> omega
      have hg := hget i hli
      rw [← hq] at hg ⊢
      clear hget hq h1 h2 h3 hi
      have g1 := congrArg CSet.name hg
      have g2 := congrArg CSet.kind hg
      have g3 := congrArg CSet.from_ hg
      have g4 := congrArg CSet.home hg
      have g5 := congrArg CSet.dirty hg
      obtain ⟨x, hx⟩ : ∃ x, xs.getD i ET.cset.dflt = x := ⟨_, rfl⟩
      rw [hx] at g1 g2 g3 g4 g5
      simp only [markC1] at g1 g2 g3 g4 g5
      have g6 := congrArg Ptr.at_ g4
      have g7 := congrArg Ptr.sum g4
      have g8 := congrArg Ptr.birth g4
      simp only at g6 g7 g8
      clear hg g4
      iterate 7
        refine goh (And.intro hx (And.intro g1 (And.intro g2 (And.intro g3 (And.intro g5 (And.intro g6 (And.intro g7 (And.intro g8 (And.intro w0 (And.intro w1 (And.intro w2 (And.intro w3 (And.intro w4 (And.intro w5 (And.intro w6 (And.intro w7 (And.intro v3 (And.intro v4 v5)))))))))))))))))) ?_
        refine W_cnd ?_ ?_ <;> intro hlit <;> try (cases hlit; done)
      refine goh (And.intro hx (And.intro g1 (And.intro g2 (And.intro g3 (And.intro g5 (And.intro g6 (And.intro g7 (And.intro g8 (And.intro w0 (And.intro w1 (And.intro w2 (And.intro w3 (And.intro w4 (And.intro w5 (And.intro w6 (And.intro w7 (And.intro v3 (And.intro v4 v5)))))))))))))))))) ?_
      exact ⟨[], hli, leh wi, trivial⟩
    · obtain rfl : i = xs.length := by omega
      refine goh trivial ?_
      exact finh [] trivial
  · simp [no, ifp] at hp
@[go_sem] def ctMarkCore : Ct := ⟨true, [], fun args os => match args, os with
  | [.agg [.val (.int .i64 x), .osl .cset 0 0 n1, .osl .ent 1 0 n2, .osl .ptr 2 0 n3, .val (.bool y), .osl .int 3 0 n4, .val (.int .i64 u)], .one (.val (.int .i64 k))], [.arr .cset cs, .arr .ent es, .arr .ptr ps, .arr .int zs] =>
    ⟨(n1 = cs.length ∧ n2 = es.length ∧ n3 = ps.length ∧ n4 = zs.length) ∧ (cs.length ≤ 4000000 ∧ es.length ≤ 4000000 ∧ ps.length ≤ 4000000 ∧ zs.length ≤ 4000000) ∧ 0 ≤ k ∧ k ≤ 700000000, vi (k + 7 * cs.length + 3 * es.length + 3 * ps.length + zs.length),
      [(0, some (.arr .cset (markC cs k))), (1, some (.arr .ent (markE es.length (k + 7 * cs.length)))), (2, some (.arr .ptr (markP ps.length (k + 7 * cs.length + 3 * es.length)))), (3, some (.arr .int (markI zs.length (k + 7 * cs.length + 3 * es.length + 3 * ps.length))))], []⟩
  | _, _ => no⟩
theorem s_markCore_e : EnterOk Tryz.prog 34 := ⟨_, Tryz.func34, rfl, by decide⟩
@[go_sem] def s_markCore_lv : List (List Nat) := [[1, 2], [1, 2], [1, 2], [1, 2], [1], [4]]
@[go_sem] noncomputable def s_markCore_K : Known := ((((Known.nil).cons 104 ctMarkC s_markC s_markC_e).cons 105 ctMarkE s_markE s_markE_e).cons 106 ctMarkP s_markP s_markP_e).cons 107 ctMarkI s_markI s_markI_e
set_option maxHeartbeats 8000000 in
theorem s_markCore : Sound Tryz.prog 34 ctMarkCore := by
  have ke := s_markCore_K.env []
  have kl : Lives s_markCore_lv := trivial
  refine sound_intro (E := ⟨ti, s_markCore_K.Γ, []⟩) ke Tryz.func34 Tryz.ntmps34 rfl (rs := [.tmp 4]) rfl ?_
  intro args os hp
  unfold ctMarkCore at hp ⊢
  dsimp only at hp ⊢
  split at hp
  · rename_i x n1 n2 n3 y n4 u k cs es ps zs
    refine ⟨by simp, fun φ0 w0 => ?_⟩
    obtain ⟨⟨rfl, rfl, rfl, rfl⟩, ⟨h1, h2, h3, h4⟩, h5, h6⟩ : (n1 = cs.length ∧ n2 = es.length ∧ n3 = ps.length ∧ n4 = zs.length) ∧ (cs.length ≤ 4000000 ∧ es.length ≤ 4000000 ∧ ps.length ≤ 4000000 ∧ zs.length ≤ 4000000) ∧ 0 ≤ k ∧ k ≤ 700000000 := hp
    refine goh trivial ?_
    exact finh [some 0, some 1, some 2, some 3] trivial
  · simp [no] at hp
@[go_sem] def ctMarkPool : Ct := ⟨true, [], fun args os => match args, os with
  | [.agg [.osl .str 0 0 m1, .osl .str 1 0 m2, .osl .late 2 0 m3, .val (.int .i64 x), .osl .cset 3 0 n1, .osl .ent 4 0 n2, .osl .ptr 5 0 n3, .val (.bool y), .osl .int 6 0 n4, .val (.int .i64 u), .val (.bool o)], .one (.val (.int .i64 k))], [.arr .str a, .arr .str b, .arr .late l, .arr .cset cs, .arr .ent es, .arr .ptr ps, .arr .int zs] =>
    ⟨((m1 = a.length ∧ m2 = b.length ∧ m3 = l.length) ∧ n1 = cs.length ∧ n2 = es.length ∧ n3 = ps.length ∧ n4 = zs.length) ∧ ((a.length ≤ 4000000 ∧ b.length ≤ 4000000 ∧ l.length ≤ 4000000) ∧ cs.length ≤ 4000000 ∧ es.length ≤ 4000000 ∧ ps.length ≤ 4000000 ∧ zs.length ≤ 4000000) ∧ 0 ≤ k ∧ k ≤ 600000000, vi (k + a.length + b.length + 3 * l.length + 7 * cs.length + 3 * es.length + 3 * ps.length + zs.length),
      [(0, some (.arr .str (markS a.length k))), (1, some (.arr .str (markS b.length (k + a.length)))), (2, some (.arr .late (markL l.length (k + a.length + b.length)))),
       (3, some (.arr .cset (markC cs (k + a.length + b.length + 3 * l.length)))), (4, some (.arr .ent (markE es.length (k + a.length + b.length + 3 * l.length + 7 * cs.length)))), (5, some (.arr .ptr (markP ps.length (k + a.length + b.length + 3 * l.length + 7 * cs.length + 3 * es.length)))), (6, some (.arr .int (markI zs.length (k + a.length + b.length + 3 * l.length + 7 * cs.length + 3 * es.length + 3 * ps.length))))], []⟩
  | _, _ => no⟩
theorem s_markPool_e : EnterOk Tryz.prog 42 := ⟨_, Tryz.func42, rfl, by decide⟩
@[go_sem] def s_markPool_lv : List (List Nat) := [[1, 2], [1, 2], [1], [4]]
@[go_sem] noncomputable def s_markPool_K : Known := ((Known.nil).cons 24 ctMarkDisk s_markDisk s_markDisk_e).cons 34 ctMarkCore s_markCore s_markCore_e
set_option maxHeartbeats 8000000 in
theorem s_markPool : Sound Tryz.prog 42 ctMarkPool := by
  have ke := s_markPool_K.env []
  have kl : Lives s_markPool_lv := trivial
  refine sound_intro (E := ⟨ti, s_markPool_K.Γ, []⟩) ke Tryz.func42 Tryz.ntmps42 rfl (rs := [.tmp 4]) rfl ?_
  intro args os hp
  unfold ctMarkPool at hp ⊢
  dsimp only at hp ⊢
  split at hp
  · rename_i m1 m2 m3 x n1 n2 n3 y n4 u o k a b l cs es ps zs
    refine ⟨by simp, fun φ0 w0 => ?_⟩
    obtain ⟨⟨⟨rfl, rfl, rfl⟩, rfl, rfl, rfl, rfl⟩, ⟨⟨g1, g2, g3⟩, h1, h2, h3, h4⟩, h5, h6⟩ : ((m1 = a.length ∧ m2 = b.length ∧ m3 = l.length) ∧ n1 = cs.length ∧ n2 = es.length ∧ n3 = ps.length ∧ n4 = zs.length) ∧ ((a.length ≤ 4000000 ∧ b.length ≤ 4000000 ∧ l.length ≤ 4000000) ∧ cs.length ≤ 4000000 ∧ es.length ≤ 4000000 ∧ ps.length ≤ 4000000 ∧ zs.length ≤ 4000000) ∧ 0 ≤ k ∧ k ≤ 600000000 := hp
    refine goh trivial ?_
    exact finh [some 0, some 1, some 2, some 3, some 4, some 5, some 6] trivial
  · simp [no] at hp
@[go_sem] def ctHeldCore : Ct := ⟨false, [[none, some .cset, some .ent, some .ptr, none, some .int, none]], fun args os => match args, os with
  | [.agg [.val (.int .i64 x), .isl .cset cs, .isl .ent es, .isl .ptr ps, .val (.bool y), .isl .int zs, .val (.int .i64 u)], .one (.val (.int .i64 k))], [] =>
    ifp ((cs = markC cs k ∧ es = markE es.length (k + 7 * cs.length) ∧ ps = markP ps.length (k + 7 * cs.length + 3 * es.length) ∧ zs = markI zs.length (k + 7 * cs.length + 3 * es.length + 3 * ps.length)) ∧ (cs.length ≤ 4000000 ∧ es.length ≤ 4000000 ∧ ps.length ≤ 4000000 ∧ zs.length ≤ 4000000) ∧ 0 ≤ k ∧ k ≤ 700000000) (vi (k + 7 * cs.length + 3 * es.length + 3 * ps.length + zs.length))
  | _, _ => no⟩
theorem s_heldCore_e : EnterOk Tryz.prog 36 := ⟨_, Tryz.func36, rfl, by decide⟩
@[go_sem] def s_heldCore_lv : List (List Nat) := [[1, 2], [1, 2], [1, 2, 10], [4], [1, 2], [1, 2, 16], [4], [1, 2], [1, 2, 22], [4], [1], [1, 28], [4], [4]]
@[go_sem] noncomputable def s_heldCore_K : Known := ((((Known.nil).cons 110 ctHeldC s_heldC s_heldC_e).cons 111 ctHeldE s_heldE s_heldE_e).cons 112 ctHeldP s_heldP s_heldP_e).cons 113 ctHeldI s_heldI s_heldI_e
set_option maxHeartbeats 8000000 in
theorem s_heldCore : Sound Tryz.prog 36 ctHeldCore := by
  have ke := s_heldCore_K.env []
  have kl : Lives s_heldCore_lv := trivial
  refine sound_intro (E := ⟨ti, s_heldCore_K.Γ, []⟩) ke Tryz.func36 Tryz.ntmps36 rfl (rs := [.tmp 4]) rfl ?_
  intro args os hp
  unfold ctHeldCore at hp ⊢
  dsimp only at hp ⊢
  split at hp
  · rename_i x cs es ps y zs u k
    refine ⟨by simp, fun φ0 w0 => ?_⟩
    obtain ⟨⟨e1, e2, e3, e4⟩, ⟨h1, h2, h3, h4⟩, h5, h6⟩ : (cs = markC cs k ∧ es = markE es.length (k + 7 * cs.length) ∧ ps = markP ps.length (k + 7 * cs.length + 3 * es.length) ∧ zs = markI zs.length (k + 7 * cs.length + 3 * es.length + 3 * ps.length)) ∧ (cs.length ≤ 4000000 ∧ es.length ≤ 4000000 ∧ ps.length ≤ 4000000 ∧ zs.length ≤ 4000000) ∧ 0 ≤ k ∧ k ≤ 700000000 := hp
    have c1 : decide (k + 7 * cs.length < 0) = false := by simp; omega
    have c2 : decide (k + 7 * cs.length + 3 * es.length < 0) = false := by simp; omega
    have c3 : decide (k + 7 * cs.length + 3 * es.length + 3 * ps.length < 0) = false := by simp; omega
    have c4 : decide (k + 7 * cs.length + 3 * es.length + 3 * ps.length + zs.length < 0) = false := by simp; omega
    iterate 4
      refine goh (And.intro c1 (And.intro c2 (And.intro c3 c4))) ?_
      refine W_cnd ?_ ?_ <;> intro hlit <;> try (cases hlit; done)
    refine goh trivial ?_
    exact finh [] trivial
  · simp [no, ifp] at hp
@[go_sem] def ctHeldPool : Ct := ⟨false, [[some .str, some .str, some .late, none, some .cset, some .ent, some .ptr, none, some .int, none, none]], fun args os => match args, os with
  | [.agg [.isl .str a, .isl .str b, .isl .late l, .val (.int .i64 x), .isl .cset cs, .isl .ent es, .isl .ptr ps, .val (.bool y), .isl .int zs, .val (.int .i64 u), .val (.bool o)], .one (.val (.int .i64 k))], [] =>
    ifp (((a = markS a.length k ∧ b = markS b.length (k + a.length) ∧ l = markL l.length (k + a.length + b.length)) ∧ (cs = markC cs (k + a.length + b.length + 3 * l.length) ∧ es = markE es.length (k + a.length + b.length + 3 * l.length + 7 * cs.length) ∧ ps = markP ps.length (k + a.length + b.length + 3 * l.length + 7 * cs.length + 3 * es.length) ∧ zs = markI zs.length (k + a.length + b.length + 3 * l.length + 7 * cs.length + 3 * es.length + 3 * ps.length)))
      ∧ ((a.length ≤ 4000000 ∧ b.length ≤ 4000000 ∧ l.length ≤ 4000000) ∧ cs.length ≤ 4000000 ∧ es.length ≤ 4000000 ∧ ps.length ≤ 4000000 ∧ zs.length ≤ 4000000) ∧ 0 ≤ k ∧ k ≤ 600000000) (vi (k + a.length + b.length + 3 * l.length + 7 * cs.length + 3 * es.length + 3 * ps.length + zs.length))
  | _, _ => no⟩
theorem s_heldPool_e : EnterOk Tryz.prog 43 := ⟨_, Tryz.func43, rfl, by decide⟩
@[go_sem] def s_heldPool_lv : List (List Nat) := [[1, 2], [1, 2], [1, 2, 10], [4], [1], [1, 16], [4], [4]]
@[go_sem] noncomputable def s_heldPool_K : Known := ((Known.nil).cons 35 ctHeldDisk s_heldDisk s_heldDisk_e).cons 36 ctHeldCore s_heldCore s_heldCore_e
set_option maxHeartbeats 8000000 in
theorem s_heldPool : Sound Tryz.prog 43 ctHeldPool := by
  have ke := s_heldPool_K.env []
  have kl : Lives s_heldPool_lv := trivial
  refine sound_intro (E := ⟨ti, s_heldPool_K.Γ, []⟩) ke Tryz.func43 Tryz.ntmps43 rfl (rs := [.tmp 4]) rfl ?_
  intro args os hp
  unfold ctHeldPool at hp ⊢
  dsimp only at hp ⊢
  split at hp
  · rename_i a b l x cs es ps y zs u o k
    refine ⟨by simp, fun φ0 w0 => ?_⟩
    obtain ⟨⟨⟨d1, d2, d3⟩, e1, e2, e3, e4⟩, ⟨⟨g1, g2, g3⟩, h1, h2, h3, h4⟩, h5, h6⟩ := (show ((a = markS a.length k ∧ b = markS b.length (k + a.length) ∧ l = markL l.length (k + a.length + b.length)) ∧ (cs = markC cs (k + a.length + b.length + 3 * l.length) ∧ es = markE es.length (k + a.length + b.length + 3 * l.length + 7 * cs.length) ∧ ps = markP ps.length (k + a.length + b.length + 3 * l.length + 7 * cs.length + 3 * es.length) ∧ zs = markI zs.length (k + a.length + b.length + 3 * l.length + 7 * cs.length + 3 * es.length + 3 * ps.length)))
      ∧ ((a.length ≤ 4000000 ∧ b.length ≤ 4000000 ∧ l.length ≤ 4000000) ∧ cs.length ≤ 4000000 ∧ es.length ≤ 4000000 ∧ ps.length ≤ 4000000 ∧ zs.length ≤ 4000000) ∧ 0 ≤ k ∧ k ≤ 600000000 from hp)
    have c1 : decide (k + a.length + b.length + 3 * l.length < 0) = false := by simp; omega
    have c2 : decide (k + a.length + b.length + 3 * l.length + 7 * cs.length + 3 * es.length + 3 * ps.length + zs.length < 0) = false := by simp; omega
    refine goh (And.intro c1 c2) ?_
    refine W_cnd ?_ ?_ <;> intro hlit <;> try (cases hlit; done)
    refine goh (And.intro c1 c2) ?_
    refine W_cnd ?_ ?_ <;> intro hlit <;> try (cases hlit; done)
    refine goh trivial ?_
    exact finh [] trivial
  · simp [no, ifp] at hp
end Go.Proofs.YtmnbgppmfbnamaaGreatDoor
/- Functions: falls, the program's. -/
namespace Go.Proofs.YtmnbgppmfbnamaaGreatDoor
open Go.RowKit

theorem s_diskFlush_e : EnterOk Tryz.prog 16 := ⟨_, Tryz.func16, rfl, by decide⟩
@[go_sem] def s_diskFlush_lv : List (List Nat) := [[1, 2], [1, 2, 6], [2], [2, 3], [2, 3], [2]]
@[go_sem] noncomputable def s_diskFlush_K : Known := (((Known.nil).cons 68 ctDiskOk s_diskOk s_diskOk_e).cons 69 ctOwn s_own s_own_e).cons 71 ctFlush s_flush s_flush_e
set_option maxHeartbeats 8000000 in
theorem s_diskFlush : Sound Tryz.prog 16 ctDiskFlush := by
  have ke := s_diskFlush_K.env []
  have kl : Lives s_diskFlush_lv := trivial
  refine sound_intro (E := ⟨ti, s_diskFlush_K.Γ, []⟩) ke Tryz.func16 Tryz.ntmps16 rfl (rs := [.cell 2 36]) rfl ?_
  intro args os hp
  unfold ctDiskFlush at hp ⊢
  dsimp only at hp ⊢
  split at hp
  · rename_i a b l
    refine ⟨by simp, fun φ0 w0 => ?_⟩
    obtain ⟨h1, h2, h3⟩ : a.length ≤ 4000000 ∧ b.length ≤ 4000000 ∧ l.length ≤ 4000000 := hp
    refine goh trivial ?_
    refine W_cnd ?_ ?_ <;> (try simp only [cnd_r]) <;> intro hok
    · have e1 : dkFlush ⟨a, b, l⟩ = .nil := by unfold dkFlush; rw [hok]; rfl
      refine goh trivial ?_
      refine ⟨by (simp only [go_sem, e1, Dk.nil, ↓reduceIte, reduceCtorEq, Nat.reduceAdd, Nat.reduceLT, Nat.reduceLeDiff, Nat.reduceEqDiff]) <;> trivial, [none, none, none], ?_⟩
      all_goals try simp only [go_sem, e1, Dk.nil, inj_r, ↓reduceIte, reduceCtorEq, Nat.reduceAdd, Nat.reduceLT, Nat.reduceLeDiff, Nat.reduceEqDiff, Int.reduceEq]
      all_goals (repeat' refine And.intro ?_ ?_) <;> try exact shut7
    · have e1 : dkFlush ⟨a, b, l⟩ = (Dk.mk a b l).flushed := by unfold dkFlush; rw [hok]; rfl
      have e2 : (Dk.mk a b l).flushed.l = [] := rfl
      have e3 := (Dk.mk a b l).done_len l.length
      have e4 : (Dk.mk a b l).flushed.a.length = a.length := e3.1
      have e5 : (Dk.mk a b l).flushed.b.length = b.length := e3.2
      refine goh trivial ?_
      exact finh [some 2, some 3, none] (And.intro e1 (And.intro e2 (And.intro e4 e5)))
  · simp [no] at hp

theorem torn_min (old now : ByteArray) : torn old now = now.extract 0 (now.size / 2) ++ old.extract (min (now.size / 2) old.size) old.size := by
  unfold torn
  split
  · rename_i h; rw [Nat.min_eq_left (by omega)]
  · rename_i h
    rw [Nat.min_eq_right (by omega)]
    have h0 : (old.extract old.size old.size).size = 0 := by rw [ByteArray.size_extract]; omega
    have : old.extract old.size old.size = ByteArray.empty := ByteArray.ext (Array.eq_empty_of_size_eq_zero h0)
    rw [this, ByteArray.append_empty]
@[go_sem] def sgFa (a b : List ByteArray) (l : List Late) (fate : List Int) (x : Two) (i : Nat) : Sg := ⟨[(1, .one (.isl .int fate)), (4, .one (.ptr 1 0)), (5, .one (.ptr 5 0)), (18, .one (.isl .late l)), (19, vi l.length), (20, vi i)],
  [some (.cells [.isl .str a, .isl .str b, .isl .late l]), some (.cells [.val (.slice none 0 0), .val (.slice none 0 0), .val (.slice none 0 0)]), some (.arr .str x.1), some (.arr .str x.2), some (.arr .late l), some (.cells [.osl .str 2 0 x.1.length, .osl .str 3 0 x.2.length, .osl .late 4 0 l.length])], []⟩
theorem s_diskFall_e : EnterOk Tryz.prog 17 := ⟨_, Tryz.func17, rfl, by decide⟩
@[go_sem] def s_diskFall_lv : List (List Nat) := [[1, 2, 4], [1, 2, 4, 13], [4], [1, 2, 4, 5], [1, 4, 5, 18, 19, 20], [1, 4, 5, 18, 19, 20, 21], [1, 4, 5, 6, 7, 18, 19, 20], [1, 4, 5, 6, 7, 18, 19, 20, 28], [1, 4, 5, 6, 7, 8, 18, 19, 20], [1, 4, 5, 7, 8, 18, 19, 20, 40], [1, 4, 5, 7, 8, 18, 19, 20, 40, 41], [1, 4, 5, 18, 19, 20], [1, 4, 5, 7, 8, 18, 19, 20, 47], [1, 4, 5, 7, 8, 9, 18, 19, 20], [1, 4, 5, 7, 8, 9, 10, 18, 19, 20], [1, 4, 5, 18, 19, 20], [1, 4, 5, 18, 19, 20], [4, 5], [4]]
@[go_sem] noncomputable def s_diskFall_K : Known := ((Known.nil).cons 68 ctDiskOk s_diskOk s_diskOk_e).cons 69 ctOwn s_own s_own_e
set_option maxHeartbeats 8000000 in
theorem s_diskFall : Sound Tryz.prog 17 ctDiskFall := by
  have ke := s_diskFall_K.env []
  have kl : Lives s_diskFall_lv := trivial
  refine sound_intro (E := ⟨ti, s_diskFall_K.Γ, []⟩) ke Tryz.func17 Tryz.ntmps17 rfl (rs := [.cell 4 36]) rfl ?_
  intro args os hp
  unfold ctDiskFall at hp ⊢
  dsimp only at hp ⊢
  split at hp
  · rename_i a b l fate
    refine ⟨by simp, fun φ0 w0 => ?_⟩
    obtain ⟨⟨h1, h2, h3⟩, h4⟩ : (a.length ≤ 4000000 ∧ b.length ≤ 4000000 ∧ l.length ≤ 4000000) ∧ fate.length ≤ 4000000 := hp
    refine goh trivial ?_
    refine W_cnd ?_ ?_ <;> (try simp only [cnd_r]) <;> intro hok
    · have e1 : dkFall ⟨a, b, l⟩ fate = .nil := by unfold dkFall; rw [hok]; rfl
      refine goh trivial ?_
      refine ⟨by (simp only [go_sem, e1, Dk.nil, ↓reduceIte, reduceCtorEq, Nat.reduceAdd, Nat.reduceLT, Nat.reduceLeDiff, Nat.reduceEqDiff]) <;> trivial, [none, none, none], ?_⟩
      all_goals try simp only [go_sem, e1, Dk.nil, inj_r, ↓reduceIte, reduceCtorEq, Nat.reduceAdd, Nat.reduceLT, Nat.reduceLeDiff, Nat.reduceEqDiff, Int.reduceEq]
      all_goals (repeat' refine And.intro ?_ ?_) <;> try exact shut7
    · have e1 : dkFall ⟨a, b, l⟩ fate = (Dk.mk a b l).fallen fate := by unfold dkFall; rw [hok]; rfl
      refine goh trivial ?_
      refine W_le (σ' := sgFa a b l fate ((Dk.mk a b l).fallN fate 0) 0) [some 0, some 1, some 2, some 3, some 4, some 5] (by
        simp only [go_sem, Dk.fallN, inj_r, ↓reduceIte, reduceCtorEq, Nat.reduceAdd, Nat.reduceLT, Nat.reduceLeDiff, Nat.reduceEqDiff, Int.reduceEq]
        all_goals (repeat' refine And.intro ?_ ?_) <;> try exact shut7
        ) ?_
      refine W_loop (fun n σ => ∃ i : Nat, i ≤ min l.length fate.length ∧ n = l.length - i ∧ σ = sgFa a b l fate ((Dk.mk a b l).fallN fate i) i) l.length ⟨0, by omega, by omega, rfl⟩ ?_
      rintro n σ ⟨i, hi, rfl, rfl⟩
      obtain ⟨hl1, hl2⟩ := (Dk.mk a b l).fallN_len fate i
      simp only at hl1 hl2
      unfold sgFa
      refine goh trivial ?_
      refine W_cnd ?_ ?_ <;> (try simp only [cnd_r]) <;> intro hlt
      · have hi1 : i < l.length := by omega
        obtain ⟨ws, w1, w2, w3⟩ := Dk.ok_late hok i hi1
        have hsm := Dk.fallN_sm hok fate i (show i ≤ l.length by omega)
        have hd : (Dk.mk a b l).fallN fate (i + 1) = fell (fate.getD i ET.int.dflt) ((Dk.mk a b l).fallN fate i) (l.getD i ET.late.dflt) := rfl
        obtain ⟨-, -, hab, -⟩ := (Dk.ok_iff _).1 hok
        simp only at ws w1 w2 w3 hd hab
        generalize hw : l.getD i ET.late.dflt = w at *
        generalize hf : fate.getD i ET.int.dflt = f at *
        obtain ⟨s, k, t⟩ := w
        simp only at ws w1 w2 w3
        refine goh hw ?_
        refine W_cnd ?_ ?_ <;> (try simp only [cnd_r]) <;> intro hfa
        · have : i = min l.length fate.length := by omega
          subst this
          refine goh trivial ?_
          refine ⟨by (simp only [go_sem, e1, Dk.fallen, ↓reduceIte, reduceCtorEq, Nat.reduceAdd, Nat.reduceLT, Nat.reduceLeDiff, Nat.reduceEqDiff]) <;> trivial, [some 2, some 3, none], ?_⟩
          all_goals try simp only [go_sem, e1, Dk.fallen, inj_r, ↓reduceIte, reduceCtorEq, Nat.reduceAdd, Nat.reduceLT, Nat.reduceLeDiff, Nat.reduceEqDiff, Int.reduceEq]
          all_goals (repeat' refine And.intro ?_ ?_) <;> try exact shut7
        · generalize hx : (Dk.mk a b l).fallN fate i = x at *
          have hz := hsm.sec s k
          unfold sec at hz
          rcases ws with rfl | rfl
          all_goals
            simp only [↓reduceIte, Int.reduceEq, ET.at] at hz
            refine goh (And.intro hw hf) ?_
            refine W_cond _ (by exact rfl) (by exact trivial) ?_ ?_ <;> intro hc
            · have hf1 : f = 1 := by simpa using hc
              refine goh (And.intro hw hf) ?_
              refine ⟨l.length - (i + 1), [some 0, some 1, some 2, some 3, some 4, some 5], sgFa a b l fate ((Dk.mk a b l).fallN fate (i + 1)) (i + 1), by omega, ?_, i + 1, by omega, rfl, rfl⟩
              rw [hd]
              simp only [go_sem, fell, putW, List.length_set, hf1, inj_r, ↓reduceIte, reduceCtorEq, Nat.reduceAdd, Nat.reduceLT, Nat.reduceLeDiff, Nat.reduceEqDiff, Int.reduceEq]
              all_goals (repeat' refine And.intro ?_ ?_) <;> try exact shut7
            · have hf1 : ¬ f = 1 := by simpa using hc
              refine goh (And.intro hw hf) ?_
              refine W_cond _ (by exact rfl) (by exact trivial) ?_ ?_ <;> intro hc2
              · have hf2 : f = 2 := by simpa using hc2
                have hq : IntKind.i64.wrap ((t.size : Int).tdiv 2) = ((t.size / 2 : Nat) : Int) := by
                  have : (t.size : Int).tdiv 2 = ((t.size / 2 : Nat) : Int) := (Int.ofNat_tdiv _ _).symm
                  rw [this]; exact wrap_id _ (by omega) (by omega)
                have hmin : ∀ z : ByteArray, (if (z.size : Int) < ((t.size / 2 : Nat) : Int) then (z.size : Int) else ((t.size / 2 : Nat) : Int)) = ((min (t.size / 2) z.size : Nat) : Int) := fun z => by split <;> omega
                repeat' first
                  | with_reducible refine red ?_
                  | refine W_seq ?_
                  | (refine W_reg (s_diskFall_K.env []) s_diskFall_lv fun K' hK' => ?_
                     simp only [go_sem, hw, hf, hq, hmin, ↓reduceIte, ↓reduceDIte, reduceCtorEq, Nat.reduceAdd, Nat.reduceMul, Nat.reduceSub, Nat.reduceDiv, Nat.reduceMod, Nat.reduceLT, Nat.reduceLeDiff, Nat.reduceEqDiff, Nat.reduceBEq, Int.reduceToNat, Int.reduceLE, Int.reduceLT, Int.reduceEq, Int.reduceNe, Int.reduceNeg]
                     (repeat' refine And.intro ?_ ?_) <;> try first | with_reducible refine hK' ?_ | exact shut6)
                  | with_reducible refine blockG_o (by decide) ?_
                · simp only [ByteArray.size_extract]; omega
                · refine ⟨l.length - (i + 1), [some 0, some 1, some 2, some 3, some 4, some 5], sgFa a b l fate ((Dk.mk a b l).fallN fate (i + 1)) (i + 1), by omega, ?_, i + 1, by omega, rfl, rfl⟩
                  rw [hd]
                  simp only [go_sem, fell, hf1, hf2, putW, sec, torn_min, List.length_set, inj_r, ↓reduceIte, reduceCtorEq, Nat.reduceAdd, Nat.reduceLT, Nat.reduceLeDiff, Nat.reduceEqDiff, Int.reduceEq]
                  all_goals (repeat' refine And.intro ?_ ?_) <;> try exact shut7
              · have hf2 : ¬ f = 2 := by simpa using hc2
                refine goh (And.intro hw hf) ?_
                refine ⟨l.length - (i + 1), [some 0, some 1, some 2, some 3, some 4, some 5], sgFa a b l fate ((Dk.mk a b l).fallN fate (i + 1)) (i + 1), by omega, ?_, i + 1, by omega, rfl, rfl⟩
                rw [hd]
                simp only [go_sem, fell, hf1, hf2, inj_r, ↓reduceIte, reduceCtorEq, Nat.reduceAdd, Nat.reduceLT, Nat.reduceLeDiff, Nat.reduceEqDiff, Int.reduceEq]
                all_goals (repeat' refine And.intro ?_ ?_) <;> try exact shut7
      · have : i = min l.length fate.length := by omega
        subst this
        refine goh trivial ?_
        refine ⟨by (simp only [go_sem, e1, Dk.fallen, ↓reduceIte, reduceCtorEq, Nat.reduceAdd, Nat.reduceLT, Nat.reduceLeDiff, Nat.reduceEqDiff]) <;> trivial, [some 2, some 3, none], ?_⟩
        all_goals try simp only [go_sem, e1, Dk.fallen, inj_r, ↓reduceIte, reduceCtorEq, Nat.reduceAdd, Nat.reduceLT, Nat.reduceLeDiff, Nat.reduceEqDiff, Int.reduceEq]
        all_goals (repeat' refine And.intro ?_ ?_) <;> try exact shut7
  · simp [no] at hp
end Go.Proofs.YtmnbgppmfbnamaaGreatDoor
