import Derived.Test.YtmnbgppmfbnamaaGreatDoorProg
import Derived.WalkKit
import Derived.Ground.NamesProg
import Derived.Shelf.Strconv.Itoa3
import Derived.Lib.ItoaNum
import Derived.Lib.AtoiAll
import Derived.Lib.AtoiTie
import Derived.Lib.SplitLaws
import Derived.Lib.Join
import Derived.Shelf.Strings.SplitShaped
import Derived.Shelf.Strings.Shaped
import Derived.Shelf.Strings.OnBuilder
import Derived.Shelf.Strconv.ErrVarAll
import Derived.Test.YtmnbgppmfbnamaaGreatDoorM5
import Derived.Test.YtmnbgppmfbnamaaGreatDoorM8
import Derived.Test.YtmnbgppmfbnamaaGreatDoorM11
import Derived.Test.YtmnbgppmfbnamaaGreatDoorM12
import Derived.Test.YtmnbgppmfbnamaaGreatDoorM13
set_option linter.unusedSimpArgs false
set_option linter.unusedVariables false
set_option linter.unusedSectionVars false
/- Functions: cores and stores copied; a store behind a fall, or with a byte turned. -/
namespace Go.Proofs.YtmnbgppmfbnamaaGreatDoor
open Go.RowKit

@[go_sem] def ctCloneCset : Ct := ⟨false, [[some .cset]], fun args os => match args, os with
  | [.one (.isl .cset xs)], [] => ⟨xs.length ≤ 4000000, .one (.osl .cset 0 0 xs.length), [], [.arr .cset xs]⟩
  | _, _ => no⟩
theorem s_cloneCset_e : EnterOk Tryz.prog 178 := ⟨_, Tryz.func178, rfl, by decide⟩
@[go_sem] def s_cloneCset_lv : List (List Nat) := [[0], [0, 4], [2], [2]]
@[go_sem] noncomputable def s_cloneCset_K : Known := Known.nil
set_option maxHeartbeats 8000000 in
theorem s_cloneCset : Sound Tryz.prog 178 ctCloneCset := by
  have ke := s_cloneCset_K.env []
  have kl : Lives s_cloneCset_lv := trivial
  refine sound_intro (E := ⟨ti, s_cloneCset_K.Γ, []⟩) ke Tryz.func178 Tryz.ntmps178 rfl (rs := [.tmp 2]) rfl ?_
  intro args os hp
  unfold ctCloneCset at hp ⊢
  dsimp only at hp ⊢
  split at hp
  · rename_i xs
    refine ⟨by simp, fun φ0 w0 => ?_⟩
    have hlen : xs.length ≤ 4000000 := hp
    refine goh trivial ?_
    refine W_cond_nb _ _ (by exact rfl) (by exact trivial) ?_ ?_ <;> intro hx
    · refine goh trivial ?_
      subst hx
      exact finh [none] trivial
    · refine goh trivial ?_
      exact finh [some 1] trivial
  · simp [no, ifp] at hp
@[go_sem] def ctCloneEnt : Ct := ⟨false, [[some .ent]], fun args os => match args, os with
  | [.one (.isl .ent xs)], [] => ⟨xs.length ≤ 4000000, .one (.osl .ent 0 0 xs.length), [], [.arr .ent xs]⟩
  | _, _ => no⟩
theorem s_cloneEnt_e : EnterOk Tryz.prog 179 := ⟨_, Tryz.func179, rfl, by decide⟩
@[go_sem] def s_cloneEnt_lv : List (List Nat) := [[0], [0, 4], [2], [2]]
@[go_sem] noncomputable def s_cloneEnt_K : Known := Known.nil
set_option maxHeartbeats 8000000 in
theorem s_cloneEnt : Sound Tryz.prog 179 ctCloneEnt := by
  have ke := s_cloneEnt_K.env []
  have kl : Lives s_cloneEnt_lv := trivial
  refine sound_intro (E := ⟨ti, s_cloneEnt_K.Γ, []⟩) ke Tryz.func179 Tryz.ntmps179 rfl (rs := [.tmp 2]) rfl ?_
  intro args os hp
  unfold ctCloneEnt at hp ⊢
  dsimp only at hp ⊢
  split at hp
  · rename_i xs
    refine ⟨by simp, fun φ0 w0 => ?_⟩
    have hlen : xs.length ≤ 4000000 := hp
    refine goh trivial ?_
    refine W_cond_nb _ _ (by exact rfl) (by exact trivial) ?_ ?_ <;> intro hx
    · refine goh trivial ?_
      subst hx
      exact finh [none] trivial
    · refine goh trivial ?_
      exact finh [some 1] trivial
  · simp [no, ifp] at hp
theorem s_l5Copy_e : EnterOk Tryz.prog 164 := ⟨_, Tryz.func164, rfl, by decide⟩
@[go_sem] def s_l5Copy_lv : List (List Nat) := [[0], [2]]
@[go_sem] noncomputable def s_l5Copy_K : Known := Known.nil
set_option maxHeartbeats 8000000 in
theorem s_l5Copy : Sound Tryz.prog 164 ctCloneEnt := by
  have ke := s_l5Copy_K.env []
  have kl : Lives s_l5Copy_lv := trivial
  refine sound_intro (E := ⟨ti, s_l5Copy_K.Γ, []⟩) ke Tryz.func164 Tryz.ntmps164 rfl (rs := [.tmp 2]) rfl ?_
  intro args os hp
  unfold ctCloneEnt at hp ⊢
  dsimp only at hp ⊢
  split at hp
  · rename_i xs
    refine ⟨by simp, fun φ0 w0 => ?_⟩
    have hlen : xs.length ≤ 4000000 := hp
    refine goh trivial ?_
    exact finh [some 1] trivial
  · simp [no, ifp] at hp
@[go_sem] def ctClonePtr : Ct := ⟨false, [[some .ptr]], fun args os => match args, os with
  | [.one (.isl .ptr xs)], [] => ⟨xs.length ≤ 4000000, .one (.osl .ptr 0 0 xs.length), [], [.arr .ptr xs]⟩
  | _, _ => no⟩
theorem s_clonePtr_e : EnterOk Tryz.prog 180 := ⟨_, Tryz.func180, rfl, by decide⟩
@[go_sem] def s_clonePtr_lv : List (List Nat) := [[0], [0, 4], [2], [2]]
@[go_sem] noncomputable def s_clonePtr_K : Known := Known.nil
set_option maxHeartbeats 8000000 in
theorem s_clonePtr : Sound Tryz.prog 180 ctClonePtr := by
  have ke := s_clonePtr_K.env []
  have kl : Lives s_clonePtr_lv := trivial
  refine sound_intro (E := ⟨ti, s_clonePtr_K.Γ, []⟩) ke Tryz.func180 Tryz.ntmps180 rfl (rs := [.tmp 2]) rfl ?_
  intro args os hp
  unfold ctClonePtr at hp ⊢
  dsimp only at hp ⊢
  split at hp
  · rename_i xs
    refine ⟨by simp, fun φ0 w0 => ?_⟩
    have hlen : xs.length ≤ 4000000 := hp
    refine goh trivial ?_
    refine W_cond_nb _ _ (by exact rfl) (by exact trivial) ?_ ?_ <;> intro hx
    · refine goh trivial ?_
      subst hx
      exact finh [none] trivial
    · refine goh trivial ?_
      exact finh [some 1] trivial
  · simp [no, ifp] at hp
@[go_sem] def ctCloneInt : Ct := ⟨false, [[some .int]], fun args os => match args, os with
  | [.one (.isl .int xs)], [] => ⟨xs.length ≤ 4000000, .one (.osl .int 0 0 xs.length), [], [.arr .int xs]⟩
  | _, _ => no⟩
theorem s_cloneInt_e : EnterOk Tryz.prog 181 := ⟨_, Tryz.func181, rfl, by decide⟩
@[go_sem] def s_cloneInt_lv : List (List Nat) := [[0], [0, 4], [2], [2]]
@[go_sem] noncomputable def s_cloneInt_K : Known := Known.nil
set_option maxHeartbeats 8000000 in
theorem s_cloneInt : Sound Tryz.prog 181 ctCloneInt := by
  have ke := s_cloneInt_K.env []
  have kl : Lives s_cloneInt_lv := trivial
  refine sound_intro (E := ⟨ti, s_cloneInt_K.Γ, []⟩) ke Tryz.func181 Tryz.ntmps181 rfl (rs := [.tmp 2]) rfl ?_
  intro args os hp
  unfold ctCloneInt at hp ⊢
  dsimp only at hp ⊢
  split at hp
  · rename_i xs
    refine ⟨by simp, fun φ0 w0 => ?_⟩
    have hlen : xs.length ≤ 4000000 := hp
    refine goh trivial ?_
    refine W_cond_nb _ _ (by exact rfl) (by exact trivial) ?_ ?_ <;> intro hx
    · refine goh trivial ?_
      subst hx
      exact finh [none] trivial
    · refine goh trivial ?_
      exact finh [some 1] trivial
  · simp [no, ifp] at hp
theorem s_ownCore_e : EnterOk Tryz.prog 98 := ⟨_, Tryz.func98, rfl, by decide⟩
@[go_sem] def s_ownCore_lv : List (List Nat) := [[1, 2], [1, 2], [2]]
@[go_sem] noncomputable def s_ownCore_K : Known := ((((Known.nil).cons 178 ctCloneCset s_cloneCset s_cloneCset_e).cons 179 ctCloneEnt s_cloneEnt s_cloneEnt_e).cons 180 ctClonePtr s_clonePtr s_clonePtr_e).cons 181 ctCloneInt s_cloneInt s_cloneInt_e
set_option maxHeartbeats 8000000 in
theorem s_ownCore : Sound Tryz.prog 98 ctToCore := by
  have ke := s_ownCore_K.env []
  have kl : Lives s_ownCore_lv := trivial
  refine sound_intro (E := ⟨ti, s_ownCore_K.Γ, []⟩) ke Tryz.func98 Tryz.ntmps98 rfl (rs := [.cell 2 68]) rfl ?_
  intro args os hp
  unfold ctToCore at hp ⊢
  dsimp only at hp ⊢
  split at hp
  · rename_i x cs es ps y zs u
    refine ⟨by simp, fun φ0 w0 => ?_⟩
    obtain ⟨h1, h2, h3, h4⟩ : (Co.mk x cs es ps y zs u).small := hp
    simp only at h1 h2 h3 h4
    refine goh trivial ?_
    exact finh [some 2, some 3, some 4, some 5] trivial
  · simp [no] at hp
theorem s_l6Copy_e : EnterOk Tryz.prog 92 := ⟨_, Tryz.func92, rfl, by decide⟩
@[go_sem] def s_l6Copy_lv : List (List Nat) := [[1, 2], [1, 2, 3], [1, 2, 3], [1, 2, 3], [1, 2, 3], [2, 3], [2]]
@[go_sem] noncomputable def s_l6Copy_K : Known := (Known.nil).cons 164 ctCloneEnt s_l5Copy s_l5Copy_e
set_option maxHeartbeats 8000000 in
theorem s_l6Copy : Sound Tryz.prog 92 ctToCore := by
  have ke := s_l6Copy_K.env []
  have kl : Lives s_l6Copy_lv := trivial
  refine sound_intro (E := ⟨ti, s_l6Copy_K.Γ, []⟩) ke Tryz.func92 Tryz.ntmps92 rfl (rs := [.cell 2 68]) rfl ?_
  intro args os hp
  unfold ctToCore at hp ⊢
  dsimp only at hp ⊢
  split at hp
  · rename_i x cs es ps y zs u
    refine ⟨by simp, fun φ0 w0 => ?_⟩
    obtain ⟨h1, h2, h3, h4⟩ : (Co.mk x cs es ps y zs u).small := hp
    simp only at h1 h2 h3 h4
    refine goh trivial ?_
    exact finh [some 4, some 5, some 7, some 9] trivial
  · simp [no] at hp
def Co.nil : Co := ⟨0, [], [], [], false, [], 0⟩
def Pl.nil : Pl := ⟨.nil, .nil, false⟩
structure Pl.fit (p : Pl) : Prop where
  disk : p.disk.small
  core : p.core.fit
noncomputable def poolFall (p : Pl) (fate : List Int) : Pl := if poolB p = true then ⟨dkFall p.disk fate, .nil, false⟩ else .nil
@[go_sem] noncomputable def ctPoolFall : Ct := ⟨false, [[some .str, some .str, some .late, none, some .cset, some .ent, some .ptr, none, some .int, none, none], [some .int]], fun args os => match args, os with
  | [.agg [.isl .str a, .isl .str b, .isl .late l, .val (.int .i64 x), .isl .cset cs, .isl .ent es, .isl .ptr ps, .val (.bool y), .isl .int zs, .val (.int .i64 u), .val (.bool o)], .one (.isl .int fate)], [] => ⟨(Pl.mk ⟨a, b, l⟩ ⟨x, cs, es, ps, y, zs, u⟩ o).fit ∧ fate.length ≤ 4000000, (poolFall ⟨⟨a, b, l⟩, ⟨x, cs, es, ps, y, zs, u⟩, o⟩ fate).v, [], (poolFall ⟨⟨a, b, l⟩, ⟨x, cs, es, ps, y, zs, u⟩, o⟩ fate).objs⟩
  | _, _ => no⟩
noncomputable def poolRot (p : Pl) (s at_ k mask : Int) : Pl := if poolB p = true then ⟨dkRot p.disk s at_ k mask, p.core, p.up⟩ else .nil
@[go_sem] noncomputable def ctPoolRot : Ct := ⟨false, [[some .str, some .str, some .late, none, some .cset, some .ent, some .ptr, none, some .int, none, none]], fun args os => match args, os with
  | [.agg [.isl .str a, .isl .str b, .isl .late l, .val (.int .i64 x), .isl .cset cs, .isl .ent es, .isl .ptr ps, .val (.bool y), .isl .int zs, .val (.int .i64 u), .val (.bool o)], .one (.val (.int .i64 s)), .one (.val (.int .i64 i)), .one (.val (.int .i64 k)), .one (.val (.int .i64 mask))], [] => ⟨(Pl.mk ⟨a, b, l⟩ ⟨x, cs, es, ps, y, zs, u⟩ o).fit, (poolRot ⟨⟨a, b, l⟩, ⟨x, cs, es, ps, y, zs, u⟩, o⟩ s i k mask).v, [], (poolRot ⟨⟨a, b, l⟩, ⟨x, cs, es, ps, y, zs, u⟩, o⟩ s i k mask).objs⟩
  | _, _ => no⟩
end Go.Proofs.YtmnbgppmfbnamaaGreatDoor
/- What the exact laws about a disk and what is known need besides: the lists that come out are not long. -/
namespace Go.Proofs.YtmnbgppmfbnamaaGreatDoor
open Go.RowKit

attribute [go_sem] markC_idem
theorem core_small {c : Co} {n : Int} (h : 0 ≤ szW c.wt n) : c.sets.length ≤ n ∧ c.ddt.length ≤ n ∧ c.parts.length ≤ n ∧ c.safe.length ≤ n :=
  ⟨szW_mem h (by simp [Co.wt, wC]), szW_mem h (by simp [Co.wt, wC]), szW_mem h (by simp [Co.wt, wC]), szW_mem h (by simp [Co.wt, wC])⟩
theorem Co.inn.fit {x : Int} {cs : List CSet} {es : List Ent} {ps : List Ptr} {y : Bool} {zs : List Int} {u : Int} (h : (Co.mk x cs es ps y zs u).inn) {n : Int} (hn : n ≤ 1048576) (hs : 0 ≤ szW (Co.mk x cs es ps y zs u).wt n) :
    (cs.length ≤ 1048576 ∧ es.length ≤ 1048576 ∧ ps.length ≤ 1048576 ∧ zs.length ≤ 1048576) ∧ (Co.mk x cs es ps y zs u).fit := by
  have h1 := core_small hs
  simp only at h1
  refine ⟨by omega, ⟨⟨by simp only; omega, by simp only; omega, by simp only; omega, by simp only; omega⟩, fun i => ?_⟩⟩
  obtain ⟨-, h2⟩ := h.sets
  exact ⟨(h2 i).1, (h2 i).2⟩
structure Co.mid (c : Co) : Prop where
  sets : c.sets.length ≤ 1100000
  ddt : c.ddt.length ≤ 1100000
  parts : c.parts.length ≤ 1100000
  safe : c.safe.length ≤ 1100000
theorem Dk.mid_nil : Dk.mid Dk.nil := ⟨Nat.zero_le _, Nat.zero_le _, Nat.zero_le _⟩
theorem Co.mid_nil : Co.mid Co.nil := ⟨Nat.zero_le _, Nat.zero_le _, Nat.zero_le _, Nat.zero_le _⟩
theorem Co.mid_of {c : Co} (h : c.sets.length ≤ 1048576 ∧ c.ddt.length ≤ 1048576 ∧ c.parts.length ≤ 1048576 ∧ c.safe.length ≤ 1048576) : c.mid := ⟨by omega, by omega, by omega, by omega⟩
theorem Dk.mid_of {d : Dk} (h : d.a.length ≤ 1048576 ∧ d.b.length ≤ 1048576 ∧ d.l.length ≤ 1048576) : d.mid := ⟨by omega, by omega, by omega⟩
end Go.Proofs.YtmnbgppmfbnamaaGreatDoor
/-
  DERIVED: THE SHELF's CONTRACTS AT THIS DUMP, IN PLAIN WORDS (tools/lay-plain.mjs out of 'YtmnbgppmfbnamaaGreatDoorTSh3Q.lean', which tools/lay-shelf.mjs wrote): THE SAME DECLARATIONS UNDER THE SAME NAMES: 'import', 'namespace', 'open', 'def', 'theorem' AND NOTHING ELSE: no command of the shelf's: FOR A HAND-IN. Each laying: the table of numbers ('.._ren') and one theorem, a field a fact of the dump's own or the kernel's comparison; each contract: ONE APPLICATION.
-/
namespace Go.Proofs
open Go.Shelf
def Tryz.lays171_ren : Go.Shelf.Ren := ⟨fun | 171 => 53 | 243 => 128 | 246 => 201 | 283 => 249 | 284 => 250 | 285 => 251 | 286 => 252 | 129 => 289 | 317 => 288 | 318 => 290 | 319 => 291 | 320 => 292 | 337 => 307 | 338 => 308 | n => n, fun | 3 => 3 | 9 => 9 | 2 => 2 | 4 => 4 | 171 => 272 | 0 => 0 | 53 => 273 | 37 => 22 | 5 => 5 | 173 => 276 | 212 => 304 | 51 => 305 | 20 => 20 | 213 => 306 | 46 => 153 | 232 => 331 | 233 => 332 | n => n, fun | 17 => 3 | 18 => 6 | 19 => 7 | n => n⟩
theorem Tryz.lays171 : Go.Proofs.LaysM.n171 Tryz.prog Tryz.lays171_ren := {
  mixed := by kernel_rfl
  f129 := Tryz.func289.trans (congrArg some (by kernel_rfl))
  f171 := Tryz.func53.trans (congrArg some (by kernel_rfl))
  f243 := Tryz.func128.trans (congrArg some (by kernel_rfl))
  f246 := Tryz.func201.trans (congrArg some (by kernel_rfl))
  f283 := Tryz.func249.trans (congrArg some (by kernel_rfl))
  f284 := Tryz.func250.trans (congrArg some (by kernel_rfl))
  f285 := Tryz.func251.trans (congrArg some (by kernel_rfl))
  f286 := Tryz.func252.trans (congrArg some (by kernel_rfl))
  f317 := Tryz.func288.trans (congrArg some (by kernel_rfl))
  f318 := Tryz.func290.trans (congrArg some (by kernel_rfl))
  f319 := Tryz.func291.trans (congrArg some (by kernel_rfl))
  f320 := Tryz.func292.trans (congrArg some (by kernel_rfl))
  f337 := Tryz.func307.trans (congrArg some (by kernel_rfl))
  f338 := Tryz.func308.trans (congrArg some (by kernel_rfl))
  t0 := Tryz.underlying0
  a0 := Tryz.isAgg0
  z0 := Tryz.sizeOf0
  v0 := Tryz.zeroValue0
  t2 := Tryz.underlying2
  a2 := Tryz.isAgg2
  z2 := Tryz.sizeOf2
  v2 := Tryz.zeroValue2
  t3 := Tryz.underlying3
  a3 := Tryz.isAgg3
  z3 := Tryz.sizeOf3
  v3 := Tryz.zeroValue3
  t4 := Tryz.underlying4
  a4 := Tryz.isAgg4
  z4 := Tryz.sizeOf4
  v4 := Tryz.zeroValue4
  t5 := Tryz.underlying5
  a5 := Tryz.isAgg5
  z5 := Tryz.sizeOf5
  v5 := Tryz.zeroValue5
  t9 := Tryz.underlying9
  a9 := Tryz.isAgg9
  z9 := Tryz.sizeOf9
  v9 := Tryz.zeroValue9
  t20 := Tryz.underlying20
  a20 := Tryz.isAgg20
  z20 := Tryz.sizeOf20
  v20 := Tryz.zeroValue20
  t37 := Tryz.underlying22
  a37 := Tryz.isAgg22
  z37 := Tryz.sizeOf22
  v37 := Tryz.zeroValue22
  t46 := Tryz.underlying153
  a46 := Tryz.isAgg153
  z46 := Tryz.sizeOf153
  v46 := Tryz.zeroValue153
  t51 := Tryz.underlying305
  a51 := Tryz.isAgg305
  z51 := Tryz.sizeOf305
  v51 := Tryz.zeroValue305
  t53 := Tryz.underlying273
  a53 := Tryz.isAgg273
  z53 := Tryz.sizeOf273
  v53 := Tryz.zeroValue273
  t171 := Tryz.underlying272
  a171 := Tryz.isAgg272
  z171 := Tryz.sizeOf272
  v171 := Tryz.zeroValue272
  t173 := Tryz.underlying276
  a173 := Tryz.isAgg276
  z173 := Tryz.sizeOf276
  v173 := Tryz.zeroValue276
  t212 := Tryz.underlying304
  a212 := Tryz.isAgg304
  z212 := Tryz.sizeOf304
  v212 := Tryz.zeroValue304
  t213 := Tryz.underlying306
  a213 := Tryz.isAgg306
  z213 := Tryz.sizeOf306
  t232 := Tryz.underlying331
  a232 := Tryz.isAgg331
  z232 := Tryz.sizeOf331
  v232 := Tryz.zeroValue331
  t233 := Tryz.underlying332
  a233 := Tryz.isAgg332
  z233 := Tryz.sizeOf332
  v233 := Tryz.zeroValue332
  g17 := by kernel_rfl
  g18 := by kernel_rfl
  g19 := by kernel_rfl
  i0 := by kernel_rfl
  i2 := by kernel_rfl
  i3 := by kernel_rfl
  i4 := by kernel_rfl
  i5 := by kernel_rfl
  i9 := by kernel_rfl
  i20 := by kernel_rfl
  i37 := by kernel_rfl
  i46 := by kernel_rfl
  i51 := by kernel_rfl
  i53 := by kernel_rfl
  i171 := by kernel_rfl
  i173 := by kernel_rfl
  i212 := by kernel_rfl
  i232 := by kernel_rfl
  i233 := by kernel_rfl
  m17 := by kernel_rfl
  m18 := by kernel_rfl
  m19 := by kernel_rfl }
end Go.Proofs
/- Functions: numerals. -/
namespace Go.Proofs.YtmnbgppmfbnamaaGreatDoor
open Go.RowKit

/-- The table of tens lies where it is looked for. -/
theorem glo_tab {w : World} (h : GloOk0 w) : Lib.TabIs Tryz.prog w "internal/strconv.uint64pow10" .u64 Lib.pow10Tab := by
  obtain ⟨c, e, f, h1, h2⟩ := h _ (List.mem_cons_self ..)
  have h2 : c = (Lib.pow10Tab.map fun z => Value.int .u64 z).toArray := h2
  subst h2
  unfold Lib.TabIs World.var?
  rw [show Tryz.prog.globalNamed "internal/strconv.uint64pow10" = some _ from by kernel_rfl]
  simp only [Option.bind_some]
  rw [h1]
def decS (n : Int) : ByteArray := ⟨(Lib.itoa n).toArray⟩
def decB (u : Nat) : ByteArray := ⟨(Lib.decDigits u).toArray⟩
theorem wrap_u8 {n : Nat} (h : n < 256) : IntKind.u8.wrap (n : Int) = n := IntWalk.u8_in _ ⟨by omega, by omega⟩
theorem ofNat_u8 {n : Nat} (h : n < 256) : (UInt8.ofNat n).toNat = n := by rw [UInt8.toNat_ofNat']; omega
theorem decS_nat (u : Nat) : decS u = decB u := by
  unfold decS decB Lib.itoa
  rw [if_neg (by omega), Int.toNat_natCast]
theorem decS_neg {n : Int} (h : n < 0) : decS n = ⟨#[45]⟩ ++ decB n.natAbs := by
  unfold decS decB Lib.itoa
  rw [if_pos h]
  apply ByteArray.ext
  simp
theorem decB_small {u : Nat} (h : u < 10) : decB u = ⟨#[UInt8.ofNat (48 + u)]⟩ := by unfold decB; rw [Lib.decDigits, dif_pos h]
theorem decB_big {u : Nat} (h : ¬ u < 10) : decB u = decB (u / 10) ++ ⟨#[UInt8.ofNat (48 + u % 10)]⟩ := by
  unfold decB
  rw [Lib.decDigits, dif_neg h]
  apply ByteArray.ext
  simp
theorem decB_size (k : Nat) : ∀ u : Nat, u < 10 ^ (k + 1) → (decB u).size ≤ k + 1 := by
  induction k with
  | zero => intro u hu; rw [decB_small (by omega)]; exact Nat.le_refl _
  | succ k ih =>
    intro u hu
    by_cases h : u < 10
    · rw [decB_small h]; show 1 ≤ _; omega
    · rw [decB_big h, ByteArray.size_append]
      have := ih (u / 10) (by rw [Nat.pow_succ] at hu; omega)
      have h1 : (⟨#[UInt8.ofNat (48 + u % 10)]⟩ : ByteArray).size = 1 := rfl
      omega
theorem decS_size {n : Int} (h0 : -9223372036854775808 ≤ n) (h1 : n ≤ 9223372036854775807) : (decS n).size ≤ 20 := by
  rcases Int.lt_or_le n 0 with h | h
  · rw [decS_neg h, ByteArray.size_append]
    have := decB_size 18 n.natAbs (by omega)
    have h1 : (⟨#[45]⟩ : ByteArray).size = 1 := rfl
    omega
  · obtain ⟨u, rfl⟩ := Int.eq_ofNat_of_zero_le h
    rw [decS_nat]
    have := decB_size 18 u (by omega)
    omega
@[go_sem] def ctItoa : Ct := ⟨false, [], fun args os => match args, os with
  | [.one (.val (.int .i64 n))], [] => ifp (-9223372036854775808 ≤ n ∧ n ≤ 9223372036854775807) (vs (decS n))
  | _, _ => no⟩
theorem s_itoa_e : EnterOk Tryz.prog 53 := ⟨_, Tryz.func53, rfl, by decide⟩
theorem s_itoa : Sound Tryz.prog 53 ctItoa := by
  refine sound_plain fun args os hp => ?_
  unfold ctItoa at hp ⊢
  dsimp only at hp ⊢
  split at hp
  · rename_i n
    obtain ⟨h0, h1⟩ : -9223372036854775808 ≤ n ∧ n ≤ 9223372036854775807 := hp
    refine ⟨rfl, [.int .i64 n], .string (decS n), rfl, rfl, fun w hw => ?_⟩
    refine (Any.strconv_Itoa Tryz.lays171 n h0 h1 w (glo_tab hw)).mono ?_
    rintro e w' ⟨he, k, os, rfl⟩
    refine ⟨he, rfl, rfl, rfl, ?_, fun j hj => ?_⟩
    · show w.heap.size ≤ (w.heap ++ os).size
      rw [Array.size_append]; omega
    · show (w.heap ++ os)[j]? = w.heap[j]?
      rw [Array.getElem?_append_left hj]
  · exact hp.elim
/-- The reference's numeral: for a number that is not negative n is 1, for all of them n is 2. -/
@[go_sem] def ctDec (k : Nat) : Ct := ⟨false, [], fun args os => match args, os with
  | [.one (.val (.int .i64 n))], [] => ifp (-9223372036854775808 ≤ n ∧ n ≤ 9223372036854775807 ∧ (0 ≤ n ∧ 1 ≤ k ∨ 2 ≤ k)) (vs (decS n))
  | _, _ => no⟩
theorem s_dec_e : EnterOk Tryz.prog 61 := ⟨_, Tryz.func61, rfl, by decide⟩
@[go_sem] def s_dec_lv : List (List Nat) := [[0], [0, 5], [2], [0, 7], [2], [0, 3], [0, 3, 13], [0, 3], [0, 3], [2]]
@[go_sem] noncomputable def s_dec_K (n : Nat) (ih : Sound Tryz.prog 61 (ctDec n)) : Known := (Known.nil).cons 61 (ctDec n) ih s_dec_e
set_option maxHeartbeats 8000000 in
theorem s_dec_step (n : Nat) (ih : Sound Tryz.prog 61 (ctDec n)) : Sound Tryz.prog 61 (ctDec (n + 1)) := by
  have ke := (s_dec_K n ih).env []
  have kl : Lives s_dec_lv := trivial
  refine sound_intro (E := ⟨ti, (s_dec_K n ih).Γ, []⟩) ke Tryz.func61 Tryz.ntmps61 rfl (rs := [.tmp 2]) rfl ?_
  intro args os hp
  unfold ctDec at hp ⊢
  dsimp only at hp ⊢
  split at hp
  · rename_i z
    refine ⟨by simp, fun φ0 w0 => ?_⟩
    obtain ⟨h0, h1, h2⟩ : -9223372036854775808 ≤ z ∧ z ≤ 9223372036854775807 ∧ (0 ≤ z ∧ 1 ≤ n + 1 ∨ 2 ≤ n + 1) := hp
    refine goh trivial ?_
    refine W_cnd ?_ ?_ <;> (try simp only [cnd_r]) <;> intro hc
    · obtain rfl : z = -9223372036854775808 := by omega
      have e : decS (-9223372036854775808) = ⟨#[45, 57, 50, 50, 51, 51, 55, 50, 48, 51, 54, 56, 53, 52, 55, 55, 53, 56, 48, 56]⟩ := by decide +kernel
      refine goh trivial ?_
      exact finh [] e
    · refine goh trivial ?_
      refine W_cnd ?_ ?_ <;> (try simp only [cnd_r]) <;> intro hn
      · have hw : IntKind.i64.wrap (0 - z) = -z := by rw [Int.zero_sub]; exact wrap_id _ (by omega) (by omega)
        obtain ⟨u, hu⟩ := Int.eq_ofNat_of_zero_le (show 0 ≤ -z by omega)
        have e : decS z = ⟨#[45]⟩ ++ decS (-z) := by
          rw [decS_neg hn, hu, decS_nat, show z.natAbs = u by omega]
        have hs := decS_size (n := -z) (by omega) (by omega)
        refine goh hw ?_
        exact finh [] e
      · obtain ⟨u, rfl⟩ := Int.eq_ofNat_of_zero_le (show 0 ≤ z by omega)
        have hsz := decB_size 18 u (by omega)
        refine goh trivial ?_
        refine W_le (σ' := ⟨[(0, vi u), (3, vs ⟨#[]⟩)], [], []⟩) [] (leh trivial) ?_
        refine W_loop (fun q σ => ∃ (m : Nat) (out : ByteArray), q = m ∧ m ≤ u ∧ decB m ++ out = decB u ∧ σ = ⟨[(0, vi m), (3, vs out)], [], []⟩) u ⟨u, ⟨#[]⟩, rfl, Nat.le_refl _, ByteArray.append_empty, rfl⟩ ?_
        rintro q σ ⟨m, out, rfl, hm, hd, rfl⟩
        have hos : out.size ≤ 20 := by
          have := congrArg ByteArray.size hd
          rw [ByteArray.size_append] at this
          omega
        refine goh trivial ?_
        refine W_cnd ?_ ?_ <;> (try simp only [cnd_r]) <;> intro hlt
        · have hr : ((q : Int)).tmod 10 = ((q % 10 : Nat) : Int) := (Int.ofNat_tmod q 10).symm
          have hv : ((q : Int)).tdiv 10 = ((q / 10 : Nat) : Int) := (Int.ofNat_tdiv q 10).symm
          have w1 : IntKind.i64.wrap ((q % 10 : Nat) : Int) = ((q % 10 : Nat) : Int) := wrap_id _ (by omega) (by omega)
          have w2 : IntKind.i64.wrap ((q / 10 : Nat) : Int) = ((q / 10 : Nat) : Int) := wrap_id _ (by omega) (by omega)
          have w3 : IntKind.i64.wrap (48 + ((q % 10 : Nat) : Int)) = ((48 + q % 10 : Nat) : Int) := wrap_id _ (by omega) (by omega)
          have w4 : IntKind.u8.wrap ((48 + q % 10 : Nat) : Int) = ((48 + q % 10 : Nat) : Int) := wrap_u8 (by omega)
          have hd2 : decB (q / 10) ++ (⟨#[UInt8.ofNat (48 + q % 10)]⟩ ++ out) = decB u := by
            rw [← ByteArray.append_assoc, ← decB_big (by omega), hd]
          have w5 : (UInt8.ofNat (48 + q % 10)).toNat = 48 + q % 10 := ofNat_u8 (by omega)
          refine goh (And.intro hr (And.intro hv (And.intro w1 (And.intro w2 (And.intro w3 (And.intro w4 w5)))))) ?_
          exact ⟨q / 10, [], ⟨[(0, vi (q / 10 : Nat)), (3, vs (⟨#[UInt8.ofNat (48 + q % 10)]⟩ ++ out))], [], []⟩, by omega, leh trivial, q / 10, _, rfl, by omega, hd2, rfl⟩
        · have w3 : IntKind.i64.wrap (48 + (q : Int)) = ((48 + q : Nat) : Int) := wrap_id _ (by omega) (by omega)
          have w4 : IntKind.u8.wrap ((48 + q : Nat) : Int) = ((48 + q : Nat) : Int) := wrap_u8 (by omega)
          have w5 : (UInt8.ofNat (48 + q)).toNat = 48 + q := ofNat_u8 (by omega)
          have e : decS u = ⟨#[UInt8.ofNat (48 + q)]⟩ ++ out := by rw [decS_nat, ← hd, decB_small (by omega)]
          refine goh (And.intro w3 (And.intro w4 w5)) ?_
          exact finh [] e
  · simp [no, ifp] at hp
theorem s_dec_all : ∀ n, Sound Tryz.prog 61 (ctDec n)
  | 0 => fun args os hp => by
    unfold ctDec at hp
    dsimp only at hp
    split at hp
    · obtain ⟨-, -, h⟩ : _ ∧ _ ∧ (_ ∧ 1 ≤ 0 ∨ 2 ≤ 0) := hp
      omega
    · exact hp.elim
  | n + 1 => s_dec_step n (s_dec_all n)
@[go_sem] def ctDecV : Ct := ⟨false, [], fun args os => match args, os with
  | [.one (.val (.int .i64 n))], [] => ifp (-9223372036854775808 ≤ n ∧ n ≤ 9223372036854775807) (vs (decS n))
  | _, _ => no⟩
theorem s_dec2 : Sound Tryz.prog 61 ctDecV := by
  intro args os hp
  unfold ctDecV at hp ⊢
  dsimp only at hp ⊢
  split at hp
  · rename_i n
    have h : -9223372036854775808 ≤ n ∧ n ≤ 9223372036854775807 := hp
    exact s_dec_all 2 [.one (.val (.int .i64 n))] [] (show _ ∧ _ ∧ _ from ⟨h.1, h.2, .inr (Nat.le_refl _)⟩)
  · exact hp.elim
theorem s_dec2_e : EnterOk Tryz.prog 61 := s_dec_e
end Go.Proofs.YtmnbgppmfbnamaaGreatDoor
/- Plain facts: texts cut at a byte, numerals. -/
namespace Go.Proofs.YtmnbgppmfbnamaaGreatDoor
open Go

abbrev Bs := List UInt8
/-- The pieces of a text between bytes c. -/
def cutL (c : UInt8) : Bs → List Bs
  | [] => [[]]
  | b :: r => if b = c then [] :: cutL c r else match cutL c r with
    | w :: ws => (b :: w) :: ws
    | [] => [[b]]
/-- Texts with a text between them. -/
def joinL (s : Bs) : List Bs → Bs
  | [] => []
  | [w] => w
  | w :: ws => w ++ s ++ joinL s ws
theorem cutL_ne (c : UInt8) : ∀ l, cutL c l ≠ []
  | [] => by simp [cutL]
  | b :: r => by
    unfold cutL
    split
    · simp
    · split <;> simp
theorem joinL_cons (s w : Bs) {ws : List Bs} (h : ws ≠ []) : joinL s (w :: ws) = w ++ s ++ joinL s ws := by
  cases ws with
  | nil => exact absurd rfl h
  | cons => rfl
theorem join_cut (c : UInt8) : ∀ l, joinL [c] (cutL c l) = l
  | [] => rfl
  | b :: r => by
    have ih := join_cut c r
    unfold cutL
    split
    · rename_i h
      rw [joinL_cons _ _ (cutL_ne c r), ih, h]; rfl
    · cases hc : cutL c r with
      | nil => exact absurd hc (cutL_ne c r)
      | cons w ws =>
        rw [hc] at ih
        cases ws with
        | nil => simpa [joinL] using ih
        | cons v vs =>
          simp only [joinL] at ih ⊢
          rw [← ih]; rfl
theorem cut_hit (c : UInt8) (r : Bs) : cutL c (c :: r) = [] :: cutL c r := by
  conv => lhs; unfold cutL
  rw [if_pos rfl]
theorem cut_miss {b c : UInt8} (h : ¬ b = c) {r w : Bs} {ws : List Bs} (hr : cutL c r = w :: ws) : cutL c (b :: r) = (b :: w) :: ws := by
  conv => lhs; unfold cutL
  rw [if_neg h, hr]
theorem cut_none (c : UInt8) : ∀ l : Bs, c ∉ l → cutL c l = [l]
  | [], _ => rfl
  | b :: r, h => by
    rw [List.mem_cons, not_or] at h
    exact cut_miss (fun e => h.1 e.symm) (cut_none c r h.2)
theorem cut_app (c : UInt8) : ∀ (w : Bs) (r : Bs), c ∉ w → cutL c (w ++ c :: r) = w :: cutL c r
  | [], r, _ => cut_hit c r
  | b :: w, r, h => by
    rw [List.mem_cons, not_or] at h
    exact cut_miss (fun e => h.1 e.symm) (cut_app c w r h.2)
theorem cut_join (c : UInt8) : ∀ ws : List Bs, ws ≠ [] → (∀ w ∈ ws, c ∉ w) → cutL c (joinL [c] ws) = ws
  | [], h, _ => absurd rfl h
  | [w], _, h => cut_none c w (h w (by simp))
  | w :: v :: ws, _, h => by
    show cutL c (w ++ [c] ++ joinL [c] (v :: ws)) = _
    rw [List.append_assoc, List.singleton_append, cut_app c w _ (h w (by simp)), cut_join c (v :: ws) (by simp) fun x hx => h x (List.mem_cons_of_mem _ hx)]
theorem cut_mem (c : UInt8) : ∀ (l : Bs), ∀ w ∈ cutL c l, c ∉ w
  | [], w, hw => by simp [cutL] at hw; subst hw; simp
  | b :: r, w, hw => by
    unfold cutL at hw
    split at hw
    · rcases List.mem_cons.1 hw with rfl | hw
      · simp
      · exact cut_mem c r w hw
    · rename_i hb
      cases hc : cutL c r with
      | nil => exact absurd hc (cutL_ne c r)
      | cons v vs =>
        rw [hc] at hw
        have h2 := cut_mem c r
        rw [hc] at h2
        simp only [List.mem_cons] at hw
        rcases hw with rfl | hw
        · rw [List.mem_cons, not_or]
          exact ⟨fun e => hb e.symm, h2 v (by simp)⟩
        · exact h2 w (List.mem_cons_of_mem _ hw)
theorem cut_len (c : UInt8) : ∀ l : Bs, (cutL c l).length ≤ l.length + 1
  | [] => by simp [cutL]
  | b :: r => by
    have ih := cut_len c r
    unfold cutL
    split
    · simpa using ih
    · split
      · rename_i h; rw [h] at ih; simp at ih ⊢; omega
      · simp

/-! Numerals. -/
def isDig (b : UInt8) : Prop := 48 ≤ b.toNat ∧ b.toNat ≤ 57
instance (b : UInt8) : Decidable (isDig b) := inferInstanceAs (Decidable (_ ∧ _))
theorem dig_of {k : Nat} (h : k < 10) : (UInt8.ofNat (48 + k)).toNat = 48 + k := by
  rw [UInt8.toNat_ofNat']; omega
theorem decD_small {u : Nat} (h : u < 10) : Lib.decDigits u = [UInt8.ofNat (48 + u)] := by rw [Lib.decDigits, dif_pos h]
theorem decD_big {u : Nat} (h : ¬ u < 10) : Lib.decDigits u = Lib.decDigits (u / 10) ++ [UInt8.ofNat (48 + u % 10)] := by rw [Lib.decDigits, dif_neg h]
theorem decD_dig (u : Nat) : ∀ b ∈ Lib.decDigits u, isDig b := by
  induction u using Nat.strongRecOn with
  | _ u ih =>
    intro b hb
    by_cases h : u < 10
    · rw [decD_small h] at hb
      simp only [List.mem_singleton] at hb
      subst hb
      unfold isDig; rw [dig_of h]; omega
    · rw [decD_big h, List.mem_append] at hb
      rcases hb with hb | hb
      · exact ih _ (by omega) b hb
      · simp only [List.mem_singleton] at hb
        subst hb
        unfold isDig; rw [dig_of (by omega)]; omega
theorem decD_ne (u : Nat) : Lib.decDigits u ≠ [] := by
  by_cases h : u < 10
  · rw [decD_small h]; simp
  · rw [decD_big h]; simp
theorem decD_len (k : Nat) : ∀ u : Nat, u < 10 ^ (k + 1) → (Lib.decDigits u).length ≤ k + 1 := by
  induction k with
  | zero => intro u hu; rw [decD_small (by omega)]; exact Nat.le_refl _
  | succ k ih =>
    intro u hu
    by_cases h : u < 10
    · rw [decD_small h]; simp
    · rw [decD_big h, List.length_append]
      have := ih (u / 10) (by rw [Nat.pow_succ] at hu; omega)
      simp; omega
/-- No leading zero, but of zero itself. -/
theorem decD_head (u : Nat) : 0 < u → ∃ b r, Lib.decDigits u = b :: r ∧ b.toNat ≠ 48 := by
  induction u using Nat.strongRecOn with
  | _ u ih =>
    intro hu
    by_cases h : u < 10
    · exact ⟨_, _, decD_small h, by rw [dig_of h]; omega⟩
    · obtain ⟨b, r, hb, h2⟩ := ih (u / 10) (by omega) (by omega)
      exact ⟨b, r ++ [_], by rw [decD_big h, hb]; rfl, h2⟩
theorem decFrom_app : ∀ (l : Bs) (acc : Nat) (m : Bs), Lib.decFrom acc (l ++ m) = (Lib.decFrom acc l).bind fun a => Lib.decFrom a m
  | [], acc, m => by simp [Lib.decFrom]
  | b :: l, acc, m => by
    simp only [List.cons_append, Lib.decFrom]
    cases h : Lib.digitVal b with
    | none => rfl
    | some d => exact decFrom_app l _ m
theorem digitVal_of {k : Nat} (h : k < 10) : Lib.digitVal (UInt8.ofNat (48 + k)) = some k := by
  unfold Lib.digitVal
  rw [dig_of h, if_pos (by omega)]
  congr 1; omega
theorem decFrom_decD (u : Nat) : Lib.decFrom 0 (Lib.decDigits u) = some u := by
  induction u using Nat.strongRecOn with
  | _ u ih =>
    by_cases h : u < 10
    · rw [decD_small h]
      simp only [Lib.decFrom, digitVal_of h]
      congr 1; omega
    · rw [decD_big h, decFrom_app, ih (u / 10) (by omega)]
      simp only [Option.bind_some, Lib.decFrom, digitVal_of (show u % 10 < 10 by omega)]
      congr 1; omega
theorem decD_inj {u v : Nat} (h : Lib.decDigits u = Lib.decDigits v) : u = v := by
  have h1 := decFrom_decD u
  rw [h, decFrom_decD] at h1
  exact (Option.some.inj h1).symm
end Go.Proofs.YtmnbgppmfbnamaaGreatDoor
/- Plain facts: the library's words are texts cut at a byte. -/
namespace Go.Proofs.YtmnbgppmfbnamaaGreatDoor
open Go

def bytesL (l : Bs) : ByteArray := ⟨l.toArray⟩
theorem bytesL_data (s : ByteArray) : bytesL s.data.toList = s := by
  cases s; simp [bytesL]
theorem bytesL_list (l : Bs) : (bytesL l).data.toList = l := by simp [bytesL]
theorem bytesL_app (l m : Bs) : bytesL (l ++ m) = bytesL l ++ bytesL m := by
  apply ByteArray.ext; simp [bytesL]
theorem bytesL_inj {l m : Bs} (h : bytesL l = bytesL m) : l = m := by
  have := congrArg (fun s : ByteArray => s.data.toList) h
  simpa [bytesL_list] using this
theorem index_not (c : UInt8) : ∀ l : Bs, c ∉ l → Lib.index l [c] = -1
  | [], _ => rfl
  | b :: l, h => by
    rw [List.mem_cons, not_or] at h
    have h1 : List.isPrefixOf [c] (b :: l) = false := by simp [List.isPrefixOf, h.1]
    unfold Lib.index
    rw [h1, index_not c l h.2]; rfl
theorem index_at (c : UInt8) : ∀ (w r : Bs), c ∉ w → Lib.index (w ++ c :: r) [c] = (w.length : Int)
  | [], r, _ => by
    have h1 : List.isPrefixOf [c] (c :: r) = true := by simp [List.isPrefixOf]
    show Lib.index (c :: r) [c] = 0
    unfold Lib.index
    rw [if_pos h1]
  | b :: w, r, h => by
    rw [List.mem_cons, not_or] at h
    have h1 : List.isPrefixOf [c] (b :: (w ++ c :: r)) = false := by simp [List.isPrefixOf, h.1]
    show Lib.index (b :: (w ++ c :: r)) [c] = _
    unfold Lib.index
    rw [h1, index_at c w r h.2]
    have : (((w.length : Int)) == -1) = false := by rw [beq_eq_false_iff_ne]; omega
    rw [this]
    simp
theorem split_cut (c : UInt8) : ∀ (n : Nat) (l : Bs), l.length ≤ n → Lib.splitK [c] 0 (Lib.count l [c]) l = cutL c l
  | n, l, hn => by
    by_cases hc : c ∈ l
    · obtain ⟨w, r, rfl, hw⟩ := List.eq_append_cons_of_mem hc
      have hi := index_at c w r hw
      rw [Lib.count_hit (by simp) hi, cut_app c w r hw, Nat.add_comm]
      have hm : ¬ (Lib.index (w ++ c :: r) [c] == -1) = true := fun e => by have := beq_iff_eq.1 e; omega
      rw [Lib.splitK, if_neg hm, hi]
      have e1 : (w ++ c :: r).drop ((w.length : Int).toNat + [c].length) = r := by
        rw [Int.toNat_natCast, List.length_singleton, show w ++ c :: r = (w ++ [c]) ++ r by simp]
        rw [List.drop_append, List.drop_eq_nil_of_le (by simp)]
        simp
      have e3 : (w ++ c :: r).drop (w.length + [c].length) = r := e1
      have e2 : (w ++ c :: r).take ((w.length : Int).toNat + 0) = w := by simp
      rw [e1, e2, e3]
      cases n with
      | zero => simp at hn
      | succ n =>
        rw [split_cut c n r (by simp at hn; omega)]
    · rw [Lib.count_miss (index_not c l hc), cut_none c l hc]
      rfl
def splitV (c : UInt8) (s : ByteArray) : List ByteArray := (cutL c s.data.toList).map bytesL
theorem split_lib (c : UInt8) (s : ByteArray) : Lib.splitB ⟨#[c]⟩ 0 (Lib.countB s ⟨#[c]⟩) s = splitV c s := by
  have h := Lib.splitB_data ⟨#[c]⟩ 0 (Lib.countB s ⟨#[c]⟩) s
  have h2 : Lib.splitK [c] 0 (Lib.count s.data.toList [c]) s.data.toList = cutL c s.data.toList := split_cut c _ _ (Nat.le_refl _)
  have h3 : (Lib.splitB ⟨#[c]⟩ 0 (Lib.countB s ⟨#[c]⟩) s).map (·.data.toList) = cutL c s.data.toList := h.trans h2
  unfold splitV
  rw [← h3, List.map_map]
  conv => lhs; rw [← List.map_id (Lib.splitB ⟨#[c]⟩ 0 (Lib.countB s ⟨#[c]⟩) s)]
  apply List.map_congr_left
  intro x _
  exact (bytesL_data x).symm
theorem splitV_len (c : UInt8) (s : ByteArray) : (splitV c s).length ≤ s.size + 1 := by
  unfold splitV
  rw [List.length_map]
  exact cut_len c _
/-- What stands before the first c, and behind it; is there one? -/
def cutV (c : UInt8) (s : ByteArray) : ByteArray × ByteArray × Bool :=
  (bytesL (Lib.cut s.data.toList [c]).1, bytesL (Lib.cut s.data.toList [c]).2.1, (Lib.cut s.data.toList [c]).2.2)
theorem cutV_not {c : UInt8} {s : ByteArray} (h : c ∉ s.data.toList) : cutV c s = (s, ⟨#[]⟩, false) := by
  unfold cutV Lib.cut
  rw [index_not c _ h, if_neg (by decide)]
  simp only [bytesL_data]; rfl
theorem cutV_at {c : UInt8} {s : ByteArray} {w r : Bs} (h : s.data.toList = w ++ c :: r) (hw : c ∉ w) : cutV c s = (bytesL w, bytesL r, true) := by
  unfold cutV Lib.cut
  rw [h, index_at c w r hw, if_pos (by omega)]
  have e1 : (w ++ c :: r).drop ((w.length : Int).toNat + [c].length) = r := by
    rw [Int.toNat_natCast, List.length_singleton, show w ++ c :: r = (w ++ [c]) ++ r by simp]
    rw [List.drop_append, List.drop_eq_nil_of_le (by simp)]
    simp
  have e2 : (w ++ c :: r).take (w.length : Int).toNat = w := by simp
  rw [e1, e2]
def joinV (sep : ByteArray) (xs : List ByteArray) : ByteArray := bytesL (Lib.join (xs.map (·.data.toList)) sep.data.toList)
theorem lib_join (sep : Bs) : ∀ xs : List Bs, Lib.join xs sep = joinL sep xs
  | [] => rfl
  | [x] => Lib.join_one x sep
  | x :: y :: r => by
    rw [joinL_cons _ _ (by simp), ← lib_join sep (y :: r)]
    simp [Lib.join, List.intercalate]
theorem splitV_join {c : UInt8} {ws : List ByteArray} (hn : ws ≠ []) (h : ∀ w ∈ ws, c ∉ w.data.toList) : splitV c (joinV ⟨#[c]⟩ ws) = ws := by
  unfold splitV joinV
  rw [bytesL_list, lib_join]
  have e : (⟨#[c]⟩ : ByteArray).data.toList = [c] := rfl
  rw [e, cut_join c _ (by simpa using hn) (by
    intro w hw
    obtain ⟨x, hx, rfl⟩ := List.mem_map.1 hw
    exact h x hx), List.map_map]
  conv => rhs; rw [← List.map_id ws]
  apply List.map_congr_left
  intro x _
  exact bytesL_data x
theorem joinV_split (c : UInt8) (s : ByteArray) : joinV ⟨#[c]⟩ (splitV c s) = s := by
  unfold splitV joinV
  rw [lib_join, List.map_map]
  have e : (cutL c s.data.toList).map ((fun x : ByteArray => x.data.toList) ∘ bytesL) = cutL c s.data.toList := by
    conv => rhs; rw [← List.map_id (cutL c s.data.toList)]
    apply List.map_congr_left
    intro x _
    exact bytesL_list x
  rw [e]
  have e2 : (⟨#[c]⟩ : ByteArray).data.toList = [c] := rfl
  rw [e2, join_cut, bytesL_data]
theorem joinV_three (c : UInt8) (x y z : ByteArray) : joinV ⟨#[c]⟩ [x, y, z] = x ++ ⟨#[c]⟩ ++ y ++ ⟨#[c]⟩ ++ z := by
  unfold joinV
  rw [lib_join]
  show bytesL (x.data.toList ++ [c] ++ (y.data.toList ++ [c] ++ z.data.toList)) = _
  rw [bytesL_app, bytesL_app, bytesL_app, bytesL_app, bytesL_data, bytesL_data, bytesL_data]
  have e : bytesL [c] = ⟨#[c]⟩ := rfl
  rw [e]
  simp only [ByteArray.append_assoc]
end Go.Proofs.YtmnbgppmfbnamaaGreatDoor
/-
  DERIVED: THE SHELF's CONTRACTS AT THIS DUMP, IN PLAIN WORDS (tools/lay-plain.mjs out of 'YtmnbgppmfbnamaaGreatDoorTSh4Q.lean', which tools/lay-shelf.mjs wrote): THE SAME DECLARATIONS UNDER THE SAME NAMES: 'import', 'namespace', 'open', 'def', 'theorem' AND NOTHING ELSE: no command of the shelf's: FOR A HAND-IN. Each laying: the table of numbers ('.._ren') and one theorem, a field a fact of the dump's own or the kernel's comparison; each contract: ONE APPLICATION.
-/
namespace Go.Proofs
open Go.Shelf
def Tryz.lays146_ren : Go.Shelf.Ren := ⟨fun | 146 => 55 | 221 => 129 | 268 => 202 | 138 => 203 | 143 => 204 | 195 => 253 | 197 => 244 | 218 => 254 | 219 => 205 | 260 => 285 | 217 => 211 | 225 => 255 | 224 => 256 | 267 => 257 | 266 => 261 | 314 => 293 | n => n, fun | 9 => 9 | 31 => 32 | 3 => 3 | 4 => 4 | 0 => 0 | 105 => 266 | 21 => 21 | 5 => 5 | 46 => 153 | 119 => 318 | 139 => 321 | 138 => 320 | 146 => 308 | 51 => 305 | n => n, fun | 1 => 0 | 3 => 4 | 4 => 5 | n => n⟩
theorem Tryz.lays146 : Go.Proofs.LaysM.n146 Tryz.prog Tryz.lays146_ren := {
  mixed := by kernel_rfl
  f138 := Tryz.func203.trans (congrArg some (by kernel_rfl))
  f143 := Tryz.func204.trans (congrArg some (by kernel_rfl))
  f146 := Tryz.func55.trans (congrArg some (by kernel_rfl))
  f195 := Tryz.func253.trans (congrArg some (by kernel_rfl))
  f197 := Tryz.func244.trans (congrArg some (by kernel_rfl))
  f217 := Tryz.func211.trans (congrArg some (by kernel_rfl))
  f218 := Tryz.func254.trans (congrArg some (by kernel_rfl))
  f219 := Tryz.func205.trans (congrArg some (by kernel_rfl))
  f221 := Tryz.func129.trans (congrArg some (by kernel_rfl))
  f224 := Tryz.func256.trans (congrArg some (by kernel_rfl))
  f225 := Tryz.func255.trans (congrArg some (by kernel_rfl))
  f260 := Tryz.func285.trans (congrArg some (by kernel_rfl))
  f266 := Tryz.func261.trans (congrArg some (by kernel_rfl))
  f267 := Tryz.func257.trans (congrArg some (by kernel_rfl))
  f268 := Tryz.func202.trans (congrArg some (by kernel_rfl))
  f314 := Tryz.func293.trans (congrArg some (by kernel_rfl))
  t0 := Tryz.underlying0
  a0 := Tryz.isAgg0
  z0 := Tryz.sizeOf0
  v0 := Tryz.zeroValue0
  t3 := Tryz.underlying3
  a3 := Tryz.isAgg3
  z3 := Tryz.sizeOf3
  v3 := Tryz.zeroValue3
  t4 := Tryz.underlying4
  a4 := Tryz.isAgg4
  z4 := Tryz.sizeOf4
  v4 := Tryz.zeroValue4
  t5 := Tryz.underlying5
  a5 := Tryz.isAgg5
  z5 := Tryz.sizeOf5
  v5 := Tryz.zeroValue5
  t9 := Tryz.underlying9
  a9 := Tryz.isAgg9
  z9 := Tryz.sizeOf9
  v9 := Tryz.zeroValue9
  t21 := Tryz.underlying21
  a21 := Tryz.isAgg21
  z21 := Tryz.sizeOf21
  v21 := Tryz.zeroValue21
  t31 := Tryz.underlying32
  a31 := Tryz.isAgg32
  z31 := Tryz.sizeOf32
  v31 := Tryz.zeroValue32
  t46 := Tryz.underlying153
  a46 := Tryz.isAgg153
  z46 := Tryz.sizeOf153
  v46 := Tryz.zeroValue153
  t51 := Tryz.underlying305
  a51 := Tryz.isAgg305
  z51 := Tryz.sizeOf305
  v51 := Tryz.zeroValue305
  t105 := Tryz.underlying266
  a105 := Tryz.isAgg266
  z105 := Tryz.sizeOf266
  v105 := Tryz.zeroValue266
  t119 := Tryz.underlying318
  a119 := Tryz.isAgg318
  z119 := Tryz.sizeOf318
  t138 := Tryz.underlying320
  a138 := Tryz.isAgg320
  z138 := Tryz.sizeOf320
  v138 := Tryz.zeroValue320
  t139 := Tryz.underlying321
  a139 := Tryz.isAgg321
  z139 := Tryz.sizeOf321
  v139 := Tryz.zeroValue321
  t146 := Tryz.underlying308
  a146 := Tryz.isAgg308
  z146 := Tryz.sizeOf308
  v146 := Tryz.zeroValue308
  g1 := by kernel_rfl
  g3 := by kernel_rfl
  g4 := by kernel_rfl
  i0 := by kernel_rfl
  i3 := by kernel_rfl
  i4 := by kernel_rfl
  i5 := by kernel_rfl
  i9 := by kernel_rfl
  i21 := by kernel_rfl
  i31 := by kernel_rfl
  i46 := by kernel_rfl
  i51 := by kernel_rfl
  i105 := by kernel_rfl
  i138 := by kernel_rfl
  i139 := by kernel_rfl
  i146 := by kernel_rfl
  m1 := by kernel_rfl
  s1_3 := fun w h => Go.Proofs.cell_of_shapedOpen_int (zero := #[.int .i64 0]) (t := 3) h (of_decide_eq_true (by kernel_rfl)) (by kernel_rfl) rfl (by kernel_rfl) (by kernel_rfl) Tryz.underlying3
  m3 := by kernel_rfl
  m4 := by kernel_rfl }
end Go.Proofs
/-
  DERIVED: THE SHELF's CONTRACTS AT THIS DUMP, IN PLAIN WORDS (tools/lay-plain.mjs out of 'YtmnbgppmfbnamaaGreatDoorTSh5Q.lean', which tools/lay-shelf.mjs wrote): THE SAME DECLARATIONS UNDER THE SAME NAMES: 'import', 'namespace', 'open', 'def', 'theorem' AND NOTHING ELSE: no command of the shelf's: FOR A HAND-IN. Each laying: the table of numbers ('.._ren') and one theorem, a field a fact of the dump's own or the kernel's comparison; each contract: ONE APPLICATION.
-/
namespace Go.Proofs
open Go.Shelf
def Tryz.lays145_ren : Go.Shelf.Ren := ⟨fun | 145 => 56 | 220 => 130 | 219 => 205 | 217 => 211 | 225 => 255 | 224 => 256 | 267 => 257 | 266 => 261 | 314 => 293 | n => n, fun | 9 => 9 | 4 => 4 | 59 => 95 | 3 => 3 | 5 => 5 | 46 => 153 | 146 => 308 | 51 => 305 | n => n, fun | 1 => 0 | n => n⟩
theorem Tryz.lays145 : Go.Proofs.LaysM.n145 Tryz.prog Tryz.lays145_ren := {
  mixed := by kernel_rfl
  f145 := Tryz.func56.trans (congrArg some (by kernel_rfl))
  f217 := Tryz.func211.trans (congrArg some (by kernel_rfl))
  f219 := Tryz.func205.trans (congrArg some (by kernel_rfl))
  f220 := Tryz.func130.trans (congrArg some (by kernel_rfl))
  f224 := Tryz.func256.trans (congrArg some (by kernel_rfl))
  f225 := Tryz.func255.trans (congrArg some (by kernel_rfl))
  f266 := Tryz.func261.trans (congrArg some (by kernel_rfl))
  f267 := Tryz.func257.trans (congrArg some (by kernel_rfl))
  f314 := Tryz.func293.trans (congrArg some (by kernel_rfl))
  t3 := Tryz.underlying3
  a3 := Tryz.isAgg3
  z3 := Tryz.sizeOf3
  v3 := Tryz.zeroValue3
  t4 := Tryz.underlying4
  a4 := Tryz.isAgg4
  z4 := Tryz.sizeOf4
  v4 := Tryz.zeroValue4
  t5 := Tryz.underlying5
  a5 := Tryz.isAgg5
  z5 := Tryz.sizeOf5
  v5 := Tryz.zeroValue5
  t9 := Tryz.underlying9
  a9 := Tryz.isAgg9
  z9 := Tryz.sizeOf9
  v9 := Tryz.zeroValue9
  t46 := Tryz.underlying153
  a46 := Tryz.isAgg153
  z46 := Tryz.sizeOf153
  v46 := Tryz.zeroValue153
  t51 := Tryz.underlying305
  a51 := Tryz.isAgg305
  z51 := Tryz.sizeOf305
  v51 := Tryz.zeroValue305
  t59 := Tryz.underlying95
  a59 := Tryz.isAgg95
  z59 := Tryz.sizeOf95
  v59 := Tryz.zeroValue95
  t146 := Tryz.underlying308
  a146 := Tryz.isAgg308
  z146 := Tryz.sizeOf308
  v146 := Tryz.zeroValue308
  g1 := by kernel_rfl
  i3 := by kernel_rfl
  i4 := by kernel_rfl
  i5 := by kernel_rfl
  i9 := by kernel_rfl
  i46 := by kernel_rfl
  i51 := by kernel_rfl
  i59 := by kernel_rfl
  i146 := by kernel_rfl
  m1 := by kernel_rfl
  s1_3 := fun w h => Go.Proofs.cell_of_shapedOpen_int (zero := #[.int .i64 0]) (t := 3) h (of_decide_eq_true (by kernel_rfl)) (by kernel_rfl) rfl (by kernel_rfl) (by kernel_rfl) Tryz.underlying3 }
end Go.Proofs
/-
  DERIVED: THE SHELF's CONTRACTS AT THIS DUMP, IN PLAIN WORDS (tools/lay-plain.mjs out of 'YtmnbgppmfbnamaaGreatDoorTSh6Q.lean', which tools/lay-shelf.mjs wrote): THE SAME DECLARATIONS UNDER THE SAME NAMES: 'import', 'namespace', 'open', 'def', 'theorem' AND NOTHING ELSE: no command of the shelf's: FOR A HAND-IN. Each laying: the table of numbers ('.._ren') and one theorem, a field a fact of the dump's own or the kernel's comparison; each contract: ONE APPLICATION.
-/
namespace Go.Proofs
open Go.Shelf
def Tryz.lays156_ren : Go.Shelf.Ren := ⟨fun | 156 => 52 | 165 => 125 | 166 => 126 | 169 => 127 | 240 => 199 | 241 => 200 | 276 => 247 | 277 => 248 | n => n, fun | 31 => 32 | 9 => 9 | 3 => 3 | 4 => 4 | 0 => 0 | 20 => 20 | 72 => 157 | 76 => 99 | 70 => 155 | 37 => 22 | 75 => 98 | 127 => 228 | 164 => 269 | 5 => 5 | 80 => 159 | n => n, fun | n => n⟩
theorem Tryz.lays156 : Go.Proofs.Lays.n156 Tryz.prog Tryz.lays156_ren := {
  mixed := by kernel_rfl
  f156 := Tryz.func52.trans (congrArg some (by kernel_rfl))
  f165 := Tryz.func125.trans (congrArg some (by kernel_rfl))
  f166 := Tryz.func126.trans (congrArg some (by kernel_rfl))
  f169 := Tryz.func127.trans (congrArg some (by kernel_rfl))
  f240 := Tryz.func199.trans (congrArg some (by kernel_rfl))
  f241 := Tryz.func200.trans (congrArg some (by kernel_rfl))
  f276 := Tryz.func247.trans (congrArg some (by kernel_rfl))
  f277 := Tryz.func248.trans (congrArg some (by kernel_rfl))
  t0 := Tryz.underlying0
  a0 := Tryz.isAgg0
  z0 := Tryz.sizeOf0
  v0 := Tryz.zeroValue0
  t3 := Tryz.underlying3
  a3 := Tryz.isAgg3
  z3 := Tryz.sizeOf3
  v3 := Tryz.zeroValue3
  t4 := Tryz.underlying4
  a4 := Tryz.isAgg4
  z4 := Tryz.sizeOf4
  v4 := Tryz.zeroValue4
  t9 := Tryz.underlying9
  a9 := Tryz.isAgg9
  z9 := Tryz.sizeOf9
  v9 := Tryz.zeroValue9
  t20 := Tryz.underlying20
  a20 := Tryz.isAgg20
  z20 := Tryz.sizeOf20
  v20 := Tryz.zeroValue20
  t31 := Tryz.underlying32
  a31 := Tryz.isAgg32
  z31 := Tryz.sizeOf32
  v31 := Tryz.zeroValue32
  t37 := Tryz.underlying22
  a37 := Tryz.isAgg22
  z37 := Tryz.sizeOf22
  v37 := Tryz.zeroValue22
  t70 := Tryz.underlying155
  a70 := Tryz.isAgg155
  z70 := Tryz.sizeOf155
  v70 := Tryz.zeroValue155
  t72 := Tryz.underlying157
  a72 := Tryz.isAgg157
  z72 := Tryz.sizeOf157
  v72 := Tryz.zeroValue157
  t75 := Tryz.underlying98
  a75 := Tryz.isAgg98
  z75 := Tryz.sizeOf98
  v75 := Tryz.zeroValue98
  t76 := Tryz.underlying99
  a76 := Tryz.isAgg99
  z76 := Tryz.sizeOf99
  v76 := Tryz.zeroValue99
  t127 := Tryz.underlying228
  a127 := Tryz.isAgg228
  z127 := Tryz.sizeOf228
  v127 := Tryz.zeroValue228
  t164 := Tryz.underlying269
  a164 := Tryz.isAgg269
  z164 := Tryz.sizeOf269
  v164 := Tryz.zeroValue269 }
end Go.Proofs
/-
  DERIVED: THE SHELF's CONTRACTS AT THIS DUMP, IN PLAIN WORDS (tools/lay-plain.mjs out of 'YtmnbgppmfbnamaaGreatDoorTSh7Q.lean', which tools/lay-shelf.mjs wrote): THE SAME DECLARATIONS UNDER THE SAME NAMES: 'import', 'namespace', 'open', 'def', 'theorem' AND NOTHING ELSE: no command of the shelf's: FOR A HAND-IN. Each laying: the table of numbers ('.._ren') and one theorem, a field a fact of the dump's own or the kernel's comparison; each contract: ONE APPLICATION.
-/
namespace Go.Proofs
open Go.Shelf
def Tryz.lays172_ren : Go.Shelf.Ren := ⟨fun | 172 => 57 | 244 => 131 | 245 => 132 | 247 => 206 | 279 => 207 | 280 => 208 | 281 => 209 | 282 => 210 | 287 => 258 | 316 => 259 | 171 => 53 | 205 => 260 | 321 => 294 | 322 => 295 | 243 => 128 | 246 => 201 | 283 => 249 | 284 => 250 | 285 => 251 | 286 => 252 | 129 => 289 | 317 => 288 | 318 => 290 | 319 => 291 | 320 => 292 | 337 => 307 | 338 => 308 | n => n, fun | 9 => 9 | 3 => 3 | 75 => 98 | 76 => 99 | 4 => 4 | 5 => 5 | 167 => 232 | 37 => 22 | 0 => 0 | 85 => 233 | 2 => 2 | 168 => 235 | 53 => 273 | 175 => 278 | 46 => 153 | 210 => 281 | 127 => 228 | 145 => 313 | 143 => 311 | 21 => 21 | 171 => 272 | 173 => 276 | 212 => 304 | 51 => 305 | 20 => 20 | 213 => 306 | 232 => 331 | 233 => 332 | 80 => 159 | n => n, fun | 15 => 1 | 16 => 2 | 17 => 3 | 18 => 6 | 19 => 7 | n => n⟩
theorem Tryz.lays172 : Go.Proofs.LaysC.n172 Tryz.prog Tryz.lays172_ren := {
  mixed := by kernel_rfl
  f129 := Tryz.func289.trans (congrArg some (by kernel_rfl))
  f171 := Tryz.func53.trans (congrArg some (by kernel_rfl))
  f172 := Tryz.func57.trans (congrArg some (by kernel_rfl))
  f205 := Tryz.func260.trans (congrArg some (by kernel_rfl))
  f243 := Tryz.func128.trans (congrArg some (by kernel_rfl))
  f244 := Tryz.func131.trans (congrArg some (by kernel_rfl))
  f245 := Tryz.func132.trans (congrArg some (by kernel_rfl))
  f246 := Tryz.func201.trans (congrArg some (by kernel_rfl))
  f247 := Tryz.func206.trans (congrArg some (by kernel_rfl))
  f279 := Tryz.func207.trans (congrArg some (by kernel_rfl))
  f280 := Tryz.func208.trans (congrArg some (by kernel_rfl))
  f281 := Tryz.func209.trans (congrArg some (by kernel_rfl))
  f282 := Tryz.func210.trans (congrArg some (by kernel_rfl))
  f283 := Tryz.func249.trans (congrArg some (by kernel_rfl))
  f284 := Tryz.func250.trans (congrArg some (by kernel_rfl))
  f285 := Tryz.func251.trans (congrArg some (by kernel_rfl))
  f286 := Tryz.func252.trans (congrArg some (by kernel_rfl))
  f287 := Tryz.func258.trans (congrArg some (by kernel_rfl))
  f316 := Tryz.func259.trans (congrArg some (by kernel_rfl))
  f317 := Tryz.func288.trans (congrArg some (by kernel_rfl))
  f318 := Tryz.func290.trans (congrArg some (by kernel_rfl))
  f319 := Tryz.func291.trans (congrArg some (by kernel_rfl))
  f320 := Tryz.func292.trans (congrArg some (by kernel_rfl))
  f321 := Tryz.func294.trans (congrArg some (by kernel_rfl))
  f322 := Tryz.func295.trans (congrArg some (by kernel_rfl))
  f337 := Tryz.func307.trans (congrArg some (by kernel_rfl))
  f338 := Tryz.func308.trans (congrArg some (by kernel_rfl))
  t0 := Tryz.underlying0
  a0 := Tryz.isAgg0
  z0 := Tryz.sizeOf0
  v0 := Tryz.zeroValue0
  t2 := Tryz.underlying2
  a2 := Tryz.isAgg2
  z2 := Tryz.sizeOf2
  v2 := Tryz.zeroValue2
  t3 := Tryz.underlying3
  a3 := Tryz.isAgg3
  z3 := Tryz.sizeOf3
  v3 := Tryz.zeroValue3
  t4 := Tryz.underlying4
  a4 := Tryz.isAgg4
  z4 := Tryz.sizeOf4
  v4 := Tryz.zeroValue4
  t5 := Tryz.underlying5
  a5 := Tryz.isAgg5
  z5 := Tryz.sizeOf5
  v5 := Tryz.zeroValue5
  t9 := Tryz.underlying9
  a9 := Tryz.isAgg9
  z9 := Tryz.sizeOf9
  v9 := Tryz.zeroValue9
  t20 := Tryz.underlying20
  a20 := Tryz.isAgg20
  z20 := Tryz.sizeOf20
  v20 := Tryz.zeroValue20
  t21 := Tryz.underlying21
  a21 := Tryz.isAgg21
  z21 := Tryz.sizeOf21
  v21 := Tryz.zeroValue21
  t37 := Tryz.underlying22
  a37 := Tryz.isAgg22
  z37 := Tryz.sizeOf22
  v37 := Tryz.zeroValue22
  t46 := Tryz.underlying153
  a46 := Tryz.isAgg153
  z46 := Tryz.sizeOf153
  v46 := Tryz.zeroValue153
  t51 := Tryz.underlying305
  a51 := Tryz.isAgg305
  z51 := Tryz.sizeOf305
  v51 := Tryz.zeroValue305
  t53 := Tryz.underlying273
  a53 := Tryz.isAgg273
  z53 := Tryz.sizeOf273
  v53 := Tryz.zeroValue273
  t75 := Tryz.underlying98
  a75 := Tryz.isAgg98
  z75 := Tryz.sizeOf98
  v75 := Tryz.zeroValue98
  t76 := Tryz.underlying99
  a76 := Tryz.isAgg99
  z76 := Tryz.sizeOf99
  v76 := Tryz.zeroValue99
  t85 := Tryz.underlying233
  a85 := Tryz.isAgg233
  z85 := Tryz.sizeOf233
  v85 := Tryz.zeroValue233
  t127 := Tryz.underlying228
  a127 := Tryz.isAgg228
  z127 := Tryz.sizeOf228
  v127 := Tryz.zeroValue228
  t143 := Tryz.underlying311
  a143 := Tryz.isAgg311
  z143 := Tryz.sizeOf311
  v143 := Tryz.zeroValue311
  t145 := Tryz.underlying313
  a145 := Tryz.isAgg313
  z145 := Tryz.sizeOf313
  v145 := Tryz.zeroValue313
  t167 := Tryz.underlying232
  a167 := Tryz.isAgg232
  z167 := Tryz.sizeOf232
  v167 := Tryz.zeroValue232
  t168 := Tryz.underlying235
  a168 := Tryz.isAgg235
  z168 := Tryz.sizeOf235
  v168 := Tryz.zeroValue235
  t171 := Tryz.underlying272
  a171 := Tryz.isAgg272
  z171 := Tryz.sizeOf272
  v171 := Tryz.zeroValue272
  t173 := Tryz.underlying276
  a173 := Tryz.isAgg276
  z173 := Tryz.sizeOf276
  v173 := Tryz.zeroValue276
  t175 := Tryz.underlying278
  a175 := Tryz.isAgg278
  z175 := Tryz.sizeOf278
  v175 := Tryz.zeroValue278
  t210 := Tryz.underlying281
  a210 := Tryz.isAgg281
  z210 := Tryz.sizeOf281
  v210 := Tryz.zeroValue281
  t212 := Tryz.underlying304
  a212 := Tryz.isAgg304
  z212 := Tryz.sizeOf304
  v212 := Tryz.zeroValue304
  t213 := Tryz.underlying306
  a213 := Tryz.isAgg306
  z213 := Tryz.sizeOf306
  t232 := Tryz.underlying331
  a232 := Tryz.isAgg331
  z232 := Tryz.sizeOf331
  v232 := Tryz.zeroValue331
  t233 := Tryz.underlying332
  a233 := Tryz.isAgg332
  z233 := Tryz.sizeOf332
  v233 := Tryz.zeroValue332
  g15 := by kernel_rfl
  g16 := by kernel_rfl
  g17 := by kernel_rfl
  g18 := by kernel_rfl
  g19 := by kernel_rfl
  t80 := Tryz.underlying159
  a80 := Tryz.isAgg159
  z80 := Tryz.sizeOf159
  v80 := Tryz.zeroValue159
  i0 := by kernel_rfl
  i2 := by kernel_rfl
  i3 := by kernel_rfl
  i4 := by kernel_rfl
  i5 := by kernel_rfl
  i9 := by kernel_rfl
  i20 := by kernel_rfl
  i21 := by kernel_rfl
  i37 := by kernel_rfl
  i46 := by kernel_rfl
  i51 := by kernel_rfl
  i53 := by kernel_rfl
  i75 := by kernel_rfl
  i76 := by kernel_rfl
  i80 := by kernel_rfl
  i85 := by kernel_rfl
  i127 := by kernel_rfl
  i143 := by kernel_rfl
  i145 := by kernel_rfl
  i167 := by kernel_rfl
  i168 := by kernel_rfl
  i171 := by kernel_rfl
  i173 := by kernel_rfl
  i175 := by kernel_rfl
  i210 := by kernel_rfl
  i212 := by kernel_rfl
  i232 := by kernel_rfl
  i233 := by kernel_rfl
  m15 := by kernel_rfl
  m16 := by kernel_rfl
  m17 := by kernel_rfl
  m18 := by kernel_rfl
  m19 := by kernel_rfl
  c0 := by kernel_rfl
  c2 := by kernel_rfl
  c3 := by kernel_rfl
  c4 := by kernel_rfl
  c5 := by kernel_rfl
  c9 := by kernel_rfl
  c20 := by kernel_rfl
  c21 := by kernel_rfl
  c37 := by kernel_rfl
  c46 := by kernel_rfl
  c51 := by kernel_rfl
  c53 := by kernel_rfl
  c75 := by kernel_rfl
  c76 := by kernel_rfl
  c80 := by kernel_rfl
  c85 := by kernel_rfl
  c127 := by kernel_rfl
  c143 := by kernel_rfl
  c145 := by kernel_rfl
  c167 := by kernel_rfl
  c168 := by kernel_rfl
  c171 := by kernel_rfl
  c173 := by kernel_rfl
  c175 := by kernel_rfl
  c210 := by kernel_rfl
  c212 := by kernel_rfl
  c213 := by kernel_rfl
  c232 := by kernel_rfl
  c233 := by kernel_rfl }
end Go.Proofs
/- The library's words: Split, Cut, Join, Atoi. -/
namespace Go.Proofs.YtmnbgppmfbnamaaGreatDoor
open Go.RowKit

/-- What is returned is plain, whatever the world; what was there is as it was. -/
theorem post_plain {φ : Phi} {w w' : World} {s : St} {r : Value} (hrel : Rel φ (tabOf []) w) (hu : s.upd = []) (hn : s.news = []) (hv : ∀ φ T w, VR φ T w s.v r) (hb : Below w.heap.size w w') : Post φ (tabOf []) w 0 s (.returned r) w' := by
  have hT : newT (tabOf []) 0 s = tabOf [] := newT_pure _ _ _ hu hn
  have no : ∀ b, ¬ Own φ (tabOf []) b := fun b ⟨k, base, h1, _⟩ => by simp [tabOf] at h1
  have old : ∀ b, b < w.heap.size → w'.heap[b]? = w.heap[b]? := fun b hb' => hb.block b hb'
  refine ⟨r, φ, rfl, hv _ _ _, ?_, ?_, fun k hk => .inl hk, fun b hb' _ => old b hb'⟩
  · rw [hT]
    exact ⟨fun k o h => by simp [tabOf] at h, fun k _ _ _ _ h _ _ _ => by simp [tabOf] at h, fun b h => ⟨Nat.lt_of_lt_of_le (hrel.frd b h).1 hb.size, no b⟩, fun q hq => by
      obtain ⟨-, c, e, f, h2, h3⟩ := hrel.glo q hq
      exact ⟨no _, c, e, f, (old _ (Array.getElem?_eq_some_iff.1 h2).1).trans h2, h3⟩⟩
  · rw [hT]
    exact ⟨hb.os, hb.tape, hb.output, hb.size, fun _ _ h => h, fun b hb' _ => old b hb', fun b _ h => h, fun b hb' => by unfold sizeAt; rw [old b hb'], fun _ => Iff.rfl⟩
theorem glo0 {φ : Phi} {T : Tab} {w : World} (h : Rel φ T w) : GloOk0 w := fun q hq => (h.glo q hq).2
theorem flat_str : ∀ xs : List ByteArray, xs.flatMap ET.str.cells = xs.map Value.string
  | [] => rfl
  | x :: xs => by rw [List.flatMap_cons, flat_str xs]; rfl
/-- Texts in a new array. -/
theorem post_texts {φ : Phi} {w : World} {s : St} {xs : List ByteArray} {t : TypeId} (hrel : Rel φ (tabOf []) w) (hφ : ∀ k, φ k = none) (hs : s.upd = [] ∧ s.news = [.arr .str xs] ∧ s.v = .one (.osl .str 0 0 xs.length)) :
    Post φ (tabOf []) w 0 s (.returned (.slice (some ⟨w.heap.size, 0, none⟩) xs.length xs.length)) (w.alloc (.cells (xs.map Value.string).toArray t)) := by
  obtain ⟨h1, h2, h3⟩ := hs
  have hT : newT (tabOf []) 0 s = fun k => if k = 0 then some (Obj.arr .str xs) else none := by
    funext k
    unfold newT
    rw [h1, h2]
    cases k with
    | zero => simp [addT, updT, tabOf]
    | succ k => simp [addT, updT, tabOf]
  have hheap : (w.alloc (.cells (xs.map Value.string).toArray t)).heap = w.heap.push (.cells (xs.map Value.string).toArray t) := rfl
  have old : ∀ b, b < w.heap.size → (w.alloc (.cells (xs.map Value.string).toArray t)).heap[b]? = w.heap[b]? := fun b hb => by
    rw [hheap, Array.getElem?_push, if_neg (by omega)]
  have new : (w.alloc (.cells (xs.map Value.string).toArray t)).heap[w.heap.size]? = some (.cells (xs.map Value.string).toArray t) := by
    rw [hheap, Array.getElem?_push, if_pos rfl]
  have hfl := flat_str xs
  let φ' : Phi := ⟨fun k => if k = 0 then some (w.heap.size, 0) else none, φ.fr⟩
  have own : ∀ b, Own φ' (newT (tabOf []) 0 s) b → b = w.heap.size := by
    rintro b ⟨k, base, -, h⟩
    have h : (if k = 0 then some (w.heap.size, 0) else none) = some (b, base) := h
    split at h
    · cases h; rfl
    · cases h
  refine ⟨_, φ', rfl, ?_, ?_, ?_, ?_, fun b hb _ => old b hb⟩
  · rw [h3]
    simp only [VR, CR]
    refine ⟨some ⟨w.heap.size, 0, none⟩, xs.length, rfl, Nat.le_refl _, ?_, ?_, fun _ => ⟨w.heap.size, 0, rfl, ?_, ?_⟩⟩
    · intro h; cases h
    · intro ad h; cases h; rfl
    · simp
    · unfold sizeAt
      rw [new]
      simp [ET.sz]
  · refine ⟨fun k o h => ?_, fun k k' b base base' hk hk' _ _ => ?_, fun b hb => ⟨?_, fun ho => ?_⟩, fun q hq => ?_⟩
    · rw [hT] at h
      simp only at h
      split at h
      · rename_i hk
        cases h
        subst hk
        refine .inr ⟨w.heap.size, 0, _, rfl, ⟨_, _, new, fun j _ => by simp⟩, fun i v hi => ?_⟩
        rw [hfl] at hi
        simpa using hi
      · cases h
    · rw [hT] at hk hk'
      by_cases e1 : k = 0
      · by_cases e2 : k' = 0
        · rw [e1, e2]
        · simp [e2] at hk'
      · simp [e1] at hk
    · have := (hrel.frd b hb).1
      rw [hheap, Array.size_push]; omega
    · have h4 := own b ho
      have := (hrel.frd b hb).1
      omega
    · obtain ⟨-, c, e, f, h5, h6⟩ := hrel.glo q hq
      have h7 := (Array.getElem?_eq_some_iff.1 h5).1
      exact ⟨fun ho => by have := own _ ho; omega, c, e, f, (old _ h7).trans h5, h6⟩
  · exact ⟨rfl, rfl, rfl, by rw [hheap, Array.size_push]; omega, fun k p h => (by rw [hφ k] at h; cases h), fun b hb _ => old b hb, fun b hb ho => (by have := own b ho; omega), fun b hb => (by unfold sizeAt; rw [old b hb]), fun _ => Iff.rfl⟩
  · intro k hk
    right
    by_cases e : k = 0
    · subst e
      exact ⟨Nat.le_refl _, by rw [h2]; exact Nat.zero_lt_one⟩
    · exact absurd (show (if k = 0 then some (w.heap.size, 0) else none) = none from if_neg e) hk
/-- The longest text that is looked for at once. -/
theorem size_one {s : ByteArray} (h : s.size = 1) : s = ⟨#[s.data.getD 0 0]⟩ := by
  apply ByteArray.ext
  apply Array.ext
  · simpa using h
  · intro i h1 h2
    have : i = 0 := by simp at h2; omega
    subst this
    simp [Array.getD, h1]
    intro he
    rw [he] at h
    cases h
@[go_sem] def ctSplit : Ct := ⟨false, [], fun args os => match args, os with
  | [.one (.val (.string s)), .one (.val (.string sep))], [] => ⟨s.size < 4294967281 ∧ sep.size = 1, .one (.osl .str 0 0 (splitV (sep.data.getD 0 0) s).length), [], [.arr .str (splitV (sep.data.getD 0 0) s)]⟩
  | _, _ => no⟩
@[go_sem] def ctCut : Ct := ⟨false, [], fun args os => match args, os with
  | [.one (.val (.string s)), .one (.val (.string sep))], [] => ifp (s.size < 4294967281 ∧ sep.size = 1) (.tup [vs (cutV (sep.data.getD 0 0) s).1, vs (cutV (sep.data.getD 0 0) s).2.1, vb (cutV (sep.data.getD 0 0) s).2.2])
  | _, _ => no⟩
@[go_sem] def ctJoin : Ct := ⟨false, [[some .str], []], fun args os => match args, os with
  | [.one (.isl .str xs), .one (.val (.string sep))], [] => ifp (xs.length ≤ 140737488355328 ∧ (joinV sep xs).size ≤ 140737488355328) (vs (joinV sep xs))
  | _, _ => no⟩
theorem s_join_e : EnterOk Tryz.prog 52 := ⟨_, Tryz.func52, rfl, by decide⟩
theorem join_extra : Builder.Extra Tryz.prog Tryz.lays156_ren where
  sizeBuilder := by kernel_rfl
  liesBuilder := by kernel_rfl
  t5 := Tryz.lays146.t5
  a5 := Tryz.lays146.a5
  z5 := Tryz.lays146.z5
  v5 := Tryz.lays146.v5
  infoByte := by kernel_rfl
  cellsByte := by kernel_rfl
  sizeByte := by kernel_rfl
  neB5 := by decide
theorem s_join : Sound Tryz.prog 52 ctJoin := by
  intro args os hp φ w rargs hrel hv hn
  unfold ctJoin at hp ⊢
  dsimp only at hp ⊢
  split at hp
  · rename_i xs sep
    obtain ⟨h1, h2⟩ : xs.length ≤ 140737488355328 ∧ (joinV sep xs).size ≤ 140737488355328 := hp
    obtain ⟨v0, v1, rfl⟩ : ∃ v0 v1, rargs = [v0, v1] := by
      match rargs, hv with
      | [v0, v1], _ => exact ⟨v0, v1, rfl⟩
      | [], hv => simp [VRs] at hv
      | [_], hv => simp [VRs] at hv
      | _ :: _ :: _ :: _, hv => simp [VRs] at hv
    simp only [VRs, VR, CR] at hv
    obtain ⟨⟨a, cap, rfl, hcap, hnone, hspot, hcells⟩, rfl, -⟩ := hv
    have hlen : (Lib.join (xs.map (·.data.toList)) sep.data.toList).length ≤ 140737488355328 := h2
    have fin : ∀ (e : Ending) (w' : World), e = .returned (.string ⟨(Lib.join (xs.map (·.data.toList)) sep.data.toList).toArray⟩) ∧ Below w.heap.size w w' → Post φ (tabOf []) w 0 (ifp (xs.length ≤ 140737488355328 ∧ (joinV sep xs).size ≤ 140737488355328) (vs (joinV sep xs))) e w' := by
      rintro e w' ⟨rfl, hb⟩
      exact post_plain hrel rfl rfl (fun φ T w => by simp only [ifp, VR, CR, vs]; rfl) hb
    match xs, hcells, fin, h1, hcap, hlen with
    | [], _, fin, _, _, _ =>
      refine (Any.strings_Join_none Tryz.lays156 join_extra a cap sep w).mono fun e w' h => fin _ _ ⟨h.1, ?_⟩
      rw [h.2]; exact Below.refl _ _
    | x :: xs, hcells, fin, h1, hcap, hlen =>
      obtain ⟨b, o, rfl, himm, hat⟩ := hcells (by simp)
      exact (Any.strings_Join Tryz.lays156 join_extra b o cap (x :: xs) sep w (fun j y hy => by
        have hfl := flat_str (x :: xs)
        refine hat j (.string y) ?_
        rw [hfl, List.getElem?_map, hy]; rfl) himm.1 h1 hcap hlen).mono fun e w' h => fin _ _ h
  · exact hp.elim
/-- A number that is read, or none. -/
def atoiV (s : ByteArray) : Option Int := match Lib.atoiAll s.data.toList with
  | .ok v => some v
  | _ => none
def atoiN (s : ByteArray) : Int := match Lib.atoiAll s.data.toList with
  | .ok v => v
  | .range => Lib.atoiSat s.data.toList
  | _ => 0
@[go_sem] def ctAtoi : Ct := ⟨false, [], fun args os => match args, os with
  | [.one (.val (.string s))], [] => ifp (s.size ≤ 281474976710656) (.tup [vi (atoiN s), match atoiV s with | some _ => .one (.val .nilIface) | none => .one .ifc])
  | _, _ => no⟩
end Go.Proofs.YtmnbgppmfbnamaaGreatDoor
