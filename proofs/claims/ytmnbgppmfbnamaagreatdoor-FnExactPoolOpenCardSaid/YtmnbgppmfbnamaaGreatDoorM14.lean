import Derived.Lib.SlicesCompact
import Derived.Test.YtmnbgppmfbnamaaGreatDoorProg
import Derived.WalkKit
import Derived.Ground.NamesProg
import Derived.Shelf.Sort.Plain
import Derived.Shelf.Slices.In.SortNone
import Derived.Ground.Names2Prog
import Derived.Shelf.Slices.CompactI
import Derived.Ground.SlgfProg
import Derived.Shelf.SlGeneric
import Derived.Shelf.SlicesE.DeleteFunc
import Derived.Shelf.Strconv.Itoa3
import Derived.Test.YtmnbgppmfbnamaaGreatDoorM5
import Derived.Test.YtmnbgppmfbnamaaGreatDoorM8
import Derived.Test.YtmnbgppmfbnamaaGreatDoorM10
import Derived.Test.YtmnbgppmfbnamaaGreatDoorM11
import Derived.Test.YtmnbgppmfbnamaaGreatDoorM12
import Derived.Test.YtmnbgppmfbnamaaGreatDoorM13
set_option linter.unusedSimpArgs false
set_option linter.unusedVariables false
set_option linter.unusedSectionVars false
/- Functions: cores and stores copied; a store behind a fall, or with a byte turned. -/
namespace Go.Proofs.YtmnbgppmfbnamaaGreatDoor
open Go.RowKit

@[go_sem] def ctCloneCset : Ct := ⟨false, [[some .cset]], fun args os => match args, os with
  | [.one (.isl .cset xs)], [] => ⟨xs.length ≤ 4000000, .one (.osl .cset 0 0 xs.length), [], [.arr .cset xs]⟩
  | _, _ => no⟩
theorem s_cloneCset_e : EnterOk Tryz.prog 178 := ⟨_, Tryz.func178, rfl, by decide⟩
@[go_sem] def s_cloneCset_lv : List (List Nat) := [[0], [0, 4], [2], [2]]
@[go_sem] noncomputable def s_cloneCset_K : Known := Known.nil
set_option maxHeartbeats 8000000 in
theorem s_cloneCset : Sound Tryz.prog 178 ctCloneCset := by
  have ke := s_cloneCset_K.env []
  have kl : Lives s_cloneCset_lv := trivial
  refine sound_intro (E := ⟨ti, s_cloneCset_K.Γ, []⟩) ke Tryz.func178 Tryz.ntmps178 rfl (rs := [.tmp 2]) rfl ?_
  intro args os hp
  unfold ctCloneCset at hp ⊢
  dsimp only at hp ⊢
  split at hp
  · rename_i xs
    refine ⟨by simp, fun φ0 w0 => ?_⟩
    have hlen : xs.length ≤ 4000000 := hp
    refine goh trivial ?_
    refine W_cond_nb _ _ (by exact rfl) (by exact trivial) ?_ ?_ <;> intro hx
    · refine goh trivial ?_
      subst hx
      exact finh [none] trivial
    · refine goh trivial ?_
      exact finh [some 1] trivial
  · simp [no, ifp] at hp
@[go_sem] def ctCloneEnt : Ct := ⟨false, [[some .ent]], fun args os => match args, os with
  | [.one (.isl .ent xs)], [] => ⟨xs.length ≤ 4000000, .one (.osl .ent 0 0 xs.length), [], [.arr .ent xs]⟩
  | _, _ => no⟩
theorem s_cloneEnt_e : EnterOk Tryz.prog 179 := ⟨_, Tryz.func179, rfl, by decide⟩
@[go_sem] def s_cloneEnt_lv : List (List Nat) := [[0], [0, 4], [2], [2]]
@[go_sem] noncomputable def s_cloneEnt_K : Known := Known.nil
set_option maxHeartbeats 8000000 in
theorem s_cloneEnt : Sound Tryz.prog 179 ctCloneEnt := by
  have ke := s_cloneEnt_K.env []
  have kl : Lives s_cloneEnt_lv := trivial
  refine sound_intro (E := ⟨ti, s_cloneEnt_K.Γ, []⟩) ke Tryz.func179 Tryz.ntmps179 rfl (rs := [.tmp 2]) rfl ?_
  intro args os hp
  unfold ctCloneEnt at hp ⊢
  dsimp only at hp ⊢
  split at hp
  · rename_i xs
    refine ⟨by simp, fun φ0 w0 => ?_⟩
    have hlen : xs.length ≤ 4000000 := hp
    refine goh trivial ?_
    refine W_cond_nb _ _ (by exact rfl) (by exact trivial) ?_ ?_ <;> intro hx
    · refine goh trivial ?_
      subst hx
      exact finh [none] trivial
    · refine goh trivial ?_
      exact finh [some 1] trivial
  · simp [no, ifp] at hp
theorem s_l5Copy_e : EnterOk Tryz.prog 164 := ⟨_, Tryz.func164, rfl, by decide⟩
@[go_sem] def s_l5Copy_lv : List (List Nat) := [[0], [2]]
@[go_sem] noncomputable def s_l5Copy_K : Known := Known.nil
set_option maxHeartbeats 8000000 in
theorem s_l5Copy : Sound Tryz.prog 164 ctCloneEnt := by
  have ke := s_l5Copy_K.env []
  have kl : Lives s_l5Copy_lv := trivial
  refine sound_intro (E := ⟨ti, s_l5Copy_K.Γ, []⟩) ke Tryz.func164 Tryz.ntmps164 rfl (rs := [.tmp 2]) rfl ?_
  intro args os hp
  unfold ctCloneEnt at hp ⊢
  dsimp only at hp ⊢
  split at hp
  · rename_i xs
    refine ⟨by simp, fun φ0 w0 => ?_⟩
    have hlen : xs.length ≤ 4000000 := hp
    refine goh trivial ?_
    exact finh [some 1] trivial
  · simp [no, ifp] at hp
@[go_sem] def ctClonePtr : Ct := ⟨false, [[some .ptr]], fun args os => match args, os with
  | [.one (.isl .ptr xs)], [] => ⟨xs.length ≤ 4000000, .one (.osl .ptr 0 0 xs.length), [], [.arr .ptr xs]⟩
  | _, _ => no⟩
theorem s_clonePtr_e : EnterOk Tryz.prog 180 := ⟨_, Tryz.func180, rfl, by decide⟩
@[go_sem] def s_clonePtr_lv : List (List Nat) := [[0], [0, 4], [2], [2]]
@[go_sem] noncomputable def s_clonePtr_K : Known := Known.nil
set_option maxHeartbeats 8000000 in
theorem s_clonePtr : Sound Tryz.prog 180 ctClonePtr := by
  have ke := s_clonePtr_K.env []
  have kl : Lives s_clonePtr_lv := trivial
  refine sound_intro (E := ⟨ti, s_clonePtr_K.Γ, []⟩) ke Tryz.func180 Tryz.ntmps180 rfl (rs := [.tmp 2]) rfl ?_
  intro args os hp
  unfold ctClonePtr at hp ⊢
  dsimp only at hp ⊢
  split at hp
  · rename_i xs
    refine ⟨by simp, fun φ0 w0 => ?_⟩
    have hlen : xs.length ≤ 4000000 := hp
    refine goh trivial ?_
    refine W_cond_nb _ _ (by exact rfl) (by exact trivial) ?_ ?_ <;> intro hx
    · refine goh trivial ?_
      subst hx
      exact finh [none] trivial
    · refine goh trivial ?_
      exact finh [some 1] trivial
  · simp [no, ifp] at hp
@[go_sem] def ctCloneInt : Ct := ⟨false, [[some .int]], fun args os => match args, os with
  | [.one (.isl .int xs)], [] => ⟨xs.length ≤ 4000000, .one (.osl .int 0 0 xs.length), [], [.arr .int xs]⟩
  | _, _ => no⟩
theorem s_cloneInt_e : EnterOk Tryz.prog 181 := ⟨_, Tryz.func181, rfl, by decide⟩
@[go_sem] def s_cloneInt_lv : List (List Nat) := [[0], [0, 4], [2], [2]]
@[go_sem] noncomputable def s_cloneInt_K : Known := Known.nil
set_option maxHeartbeats 8000000 in
theorem s_cloneInt : Sound Tryz.prog 181 ctCloneInt := by
  have ke := s_cloneInt_K.env []
  have kl : Lives s_cloneInt_lv := trivial
  refine sound_intro (E := ⟨ti, s_cloneInt_K.Γ, []⟩) ke Tryz.func181 Tryz.ntmps181 rfl (rs := [.tmp 2]) rfl ?_
  intro args os hp
  unfold ctCloneInt at hp ⊢
  dsimp only at hp ⊢
  split at hp
  · rename_i xs
    refine ⟨by simp, fun φ0 w0 => ?_⟩
    have hlen : xs.length ≤ 4000000 := hp
    refine goh trivial ?_
    refine W_cond_nb _ _ (by exact rfl) (by exact trivial) ?_ ?_ <;> intro hx
    · refine goh trivial ?_
      subst hx
      exact finh [none] trivial
    · refine goh trivial ?_
      exact finh [some 1] trivial
  · simp [no, ifp] at hp
theorem s_ownCore_e : EnterOk Tryz.prog 98 := ⟨_, Tryz.func98, rfl, by decide⟩
@[go_sem] def s_ownCore_lv : List (List Nat) := [[1, 2], [1, 2], [2]]
@[go_sem] noncomputable def s_ownCore_K : Known := ((((Known.nil).cons 178 ctCloneCset s_cloneCset s_cloneCset_e).cons 179 ctCloneEnt s_cloneEnt s_cloneEnt_e).cons 180 ctClonePtr s_clonePtr s_clonePtr_e).cons 181 ctCloneInt s_cloneInt s_cloneInt_e
set_option maxHeartbeats 8000000 in
theorem s_ownCore : Sound Tryz.prog 98 ctToCore := by
  have ke := s_ownCore_K.env []
  have kl : Lives s_ownCore_lv := trivial
  refine sound_intro (E := ⟨ti, s_ownCore_K.Γ, []⟩) ke Tryz.func98 Tryz.ntmps98 rfl (rs := [.cell 2 68]) rfl ?_
  intro args os hp
  unfold ctToCore at hp ⊢
  dsimp only at hp ⊢
  split at hp
  · rename_i x cs es ps y zs u
    refine ⟨by simp, fun φ0 w0 => ?_⟩
    obtain ⟨h1, h2, h3, h4⟩ : (Co.mk x cs es ps y zs u).small := hp
    simp only at h1 h2 h3 h4
    refine goh trivial ?_
    exact finh [some 2, some 3, some 4, some 5] trivial
  · simp [no] at hp
theorem s_l6Copy_e : EnterOk Tryz.prog 92 := ⟨_, Tryz.func92, rfl, by decide⟩
@[go_sem] def s_l6Copy_lv : List (List Nat) := [[1, 2], [1, 2, 3], [1, 2, 3], [1, 2, 3], [1, 2, 3], [2, 3], [2]]
@[go_sem] noncomputable def s_l6Copy_K : Known := (Known.nil).cons 164 ctCloneEnt s_l5Copy s_l5Copy_e
set_option maxHeartbeats 8000000 in
theorem s_l6Copy : Sound Tryz.prog 92 ctToCore := by
  have ke := s_l6Copy_K.env []
  have kl : Lives s_l6Copy_lv := trivial
  refine sound_intro (E := ⟨ti, s_l6Copy_K.Γ, []⟩) ke Tryz.func92 Tryz.ntmps92 rfl (rs := [.cell 2 68]) rfl ?_
  intro args os hp
  unfold ctToCore at hp ⊢
  dsimp only at hp ⊢
  split at hp
  · rename_i x cs es ps y zs u
    refine ⟨by simp, fun φ0 w0 => ?_⟩
    obtain ⟨h1, h2, h3, h4⟩ : (Co.mk x cs es ps y zs u).small := hp
    simp only at h1 h2 h3 h4
    refine goh trivial ?_
    exact finh [some 4, some 5, some 7, some 9] trivial
  · simp [no] at hp
def Co.nil : Co := ⟨0, [], [], [], false, [], 0⟩
def Pl.nil : Pl := ⟨.nil, .nil, false⟩
structure Pl.fit (p : Pl) : Prop where
  disk : p.disk.small
  core : p.core.fit
noncomputable def poolFall (p : Pl) (fate : List Int) : Pl := if poolB p = true then ⟨dkFall p.disk fate, .nil, false⟩ else .nil
@[go_sem] noncomputable def ctPoolFall : Ct := ⟨false, [[some .str, some .str, some .late, none, some .cset, some .ent, some .ptr, none, some .int, none, none], [some .int]], fun args os => match args, os with
  | [.agg [.isl .str a, .isl .str b, .isl .late l, .val (.int .i64 x), .isl .cset cs, .isl .ent es, .isl .ptr ps, .val (.bool y), .isl .int zs, .val (.int .i64 u), .val (.bool o)], .one (.isl .int fate)], [] => ⟨(Pl.mk ⟨a, b, l⟩ ⟨x, cs, es, ps, y, zs, u⟩ o).fit ∧ fate.length ≤ 4000000, (poolFall ⟨⟨a, b, l⟩, ⟨x, cs, es, ps, y, zs, u⟩, o⟩ fate).v, [], (poolFall ⟨⟨a, b, l⟩, ⟨x, cs, es, ps, y, zs, u⟩, o⟩ fate).objs⟩
  | _, _ => no⟩
noncomputable def poolRot (p : Pl) (s at_ k mask : Int) : Pl := if poolB p = true then ⟨dkRot p.disk s at_ k mask, p.core, p.up⟩ else .nil
@[go_sem] noncomputable def ctPoolRot : Ct := ⟨false, [[some .str, some .str, some .late, none, some .cset, some .ent, some .ptr, none, some .int, none, none]], fun args os => match args, os with
  | [.agg [.isl .str a, .isl .str b, .isl .late l, .val (.int .i64 x), .isl .cset cs, .isl .ent es, .isl .ptr ps, .val (.bool y), .isl .int zs, .val (.int .i64 u), .val (.bool o)], .one (.val (.int .i64 s)), .one (.val (.int .i64 i)), .one (.val (.int .i64 k)), .one (.val (.int .i64 mask))], [] => ⟨(Pl.mk ⟨a, b, l⟩ ⟨x, cs, es, ps, y, zs, u⟩ o).fit, (poolRot ⟨⟨a, b, l⟩, ⟨x, cs, es, ps, y, zs, u⟩, o⟩ s i k mask).v, [], (poolRot ⟨⟨a, b, l⟩, ⟨x, cs, es, ps, y, zs, u⟩, o⟩ s i k mask).objs⟩
  | _, _ => no⟩
end Go.Proofs.YtmnbgppmfbnamaaGreatDoor
/- What the exact laws about a disk and what is known need besides: the lists that come out are not long. -/
namespace Go.Proofs.YtmnbgppmfbnamaaGreatDoor
open Go.RowKit

attribute [go_sem] markC_idem
theorem core_small {c : Co} {n : Int} (h : 0 ≤ szW c.wt n) : c.sets.length ≤ n ∧ c.ddt.length ≤ n ∧ c.parts.length ≤ n ∧ c.safe.length ≤ n :=
  ⟨szW_mem h (by simp [Co.wt, wC]), szW_mem h (by simp [Co.wt, wC]), szW_mem h (by simp [Co.wt, wC]), szW_mem h (by simp [Co.wt, wC])⟩
theorem Co.inn.fit {x : Int} {cs : List CSet} {es : List Ent} {ps : List Ptr} {y : Bool} {zs : List Int} {u : Int} (h : (Co.mk x cs es ps y zs u).inn) {n : Int} (hn : n ≤ 1048576) (hs : 0 ≤ szW (Co.mk x cs es ps y zs u).wt n) :
    (cs.length ≤ 1048576 ∧ es.length ≤ 1048576 ∧ ps.length ≤ 1048576 ∧ zs.length ≤ 1048576) ∧ (Co.mk x cs es ps y zs u).fit := by
  have h1 := core_small hs
  simp only at h1
  refine ⟨by omega, ⟨⟨by simp only; omega, by simp only; omega, by simp only; omega, by simp only; omega⟩, fun i => ?_⟩⟩
  obtain ⟨-, h2⟩ := h.sets
  exact ⟨(h2 i).1, (h2 i).2⟩
structure Co.mid (c : Co) : Prop where
  sets : c.sets.length ≤ 1100000
  ddt : c.ddt.length ≤ 1100000
  parts : c.parts.length ≤ 1100000
  safe : c.safe.length ≤ 1100000
theorem Dk.mid_nil : Dk.mid Dk.nil := ⟨Nat.zero_le _, Nat.zero_le _, Nat.zero_le _⟩
theorem Co.mid_nil : Co.mid Co.nil := ⟨Nat.zero_le _, Nat.zero_le _, Nat.zero_le _, Nat.zero_le _⟩
theorem Co.mid_of {c : Co} (h : c.sets.length ≤ 1048576 ∧ c.ddt.length ≤ 1048576 ∧ c.parts.length ≤ 1048576 ∧ c.safe.length ≤ 1048576) : c.mid := ⟨by omega, by omega, by omega, by omega⟩
theorem Dk.mid_of {d : Dk} (h : d.a.length ≤ 1048576 ∧ d.b.length ≤ 1048576 ∧ d.l.length ≤ 1048576) : d.mid := ⟨by omega, by omega, by omega⟩
end Go.Proofs.YtmnbgppmfbnamaaGreatDoor
/- Functions: a block of a store. -/
namespace Go.Proofs.YtmnbgppmfbnamaaGreatDoor
open Go.RowKit

@[go_sem] def ctIsBlock : Ct := ⟨false, [], fun args os => match args, os with
  | [.one (.val (.int .i64 i))], [] => is (vb (decide (0 ≤ i) && decide (i ≤ 7)))
  | _, _ => no⟩
theorem s_isBlock_e : EnterOk Tryz.prog 48 := ⟨_, Tryz.func48, rfl, by decide⟩
@[go_sem] def s_isBlock_lv : List (List Nat) := [[0], [2]]
@[go_sem] noncomputable def s_isBlock_K : Known := (Known.nil).cons 46 ctWithin s_within s_within_e
set_option maxHeartbeats 8000000 in
theorem s_isBlock : Sound Tryz.prog 48 ctIsBlock := by
  have ke := s_isBlock_K.env []
  have kl : Lives s_isBlock_lv := trivial
  refine sound_intro (E := ⟨ti, s_isBlock_K.Γ, []⟩) ke Tryz.func48 Tryz.ntmps48 rfl (rs := [.tmp 2]) rfl ?_
  intro args os hp
  unfold ctIsBlock at hp ⊢
  dsimp only at hp ⊢
  split at hp
  · rename_i i
    refine ⟨by simp, fun φ0 w0 => ?_⟩
    refine goh trivial ?_
    exact finh [] trivial
  · simp [no, is] at hp
@[go_sem] noncomputable def ctGetName : Ct := ⟨true, [], fun args os => match args, os with
  | [.agg cs, .one (.ptr 0 0)], [.cells [.val (.string name)]] => (match csetOf cs with | some s => is (vb (same s.name name)) | none => no)
  | _, _ => no⟩
noncomputable def atC (cs : List CSet) (name : ByteArray) : Int := firstAt (fun s => same s.name name) cs
theorem atC_frame (cs : List CSet) (name : ByteArray) : atB (frameOf cs) name = atC cs name := by
  unfold atB atC firstAt frameOf
  rw [List.findIdx?_map]
  rfl
theorem atC_lt (xs : List CSet) (name : ByteArray) : atC xs name < xs.length := by
  have h := atB_lt (frameOf xs) name
  rw [atC_frame, frame_len] at h
  exact h
/-- What is read of a store. -/
noncomputable def poolGet (p : Pl) (name : ByteArray) (i : Int) : ByteArray × Int :=
  if poolB p = true ∧ 0 ≤ i ∧ i ≤ 7 then
    if p.up = true then
      if thereB (frameOf p.core.sets) name = true then
        if (blkRead p.disk ((p.core.sets.getD (lowN (frameOf p.core.sets) name) ET.cset.dflt).map.get i.toNat)).2 = 2 then (⟨#[]⟩, 8)
        else ((blkRead p.disk ((p.core.sets.getD (lowN (frameOf p.core.sets) name) ET.cset.dflt).map.get i.toNat)).1, 0)
      else (⟨#[]⟩, 1)
    else (⟨#[]⟩, 9)
  else (⟨#[]⟩, 5)
@[go_sem] noncomputable def ctPoolGet : Ct := ⟨false, [[some .str, some .str, some .late, none, some .cset, some .ent, some .ptr, none, some .int, none, none]], fun args os => match args, os with
  | [.agg [.isl .str a, .isl .str b, .isl .late l, .val (.int .i64 txg), .isl .cset cs, .isl .ent es, .isl .ptr ps, .val (.bool dirty), .isl .int zs, .val (.int .i64 logn), .val (.bool up)], .one (.val (.string name)), .one (.val (.int .i64 i))], [] => ifp ((Dk.mk a b l).small ∧ (Co.mk txg cs es ps dirty zs logn).fit) (.tup [vs (poolGet ⟨⟨a, b, l⟩, ⟨txg, cs, es, ps, dirty, zs, logn⟩, up⟩ name i).1, vi (poolGet ⟨⟨a, b, l⟩, ⟨txg, cs, es, ps, dirty, zs, logn⟩, up⟩ name i).2])
  | _, _ => no⟩
theorem poolB_parts {p : Pl} (h : poolB p = true) : p.disk.ok = true ∧ 13 < p.disk.a.length ∧ CoreP p.core := by
  unfold poolB at h
  simp only [Bool.and_eq_true, decide_eq_true_eq] at h
  exact ⟨h.1, h.2.1, Co.ok_true.1 h.2.2⟩
end Go.Proofs.YtmnbgppmfbnamaaGreatDoor
/- Functions: a store's writes performed. -/
namespace Go.Proofs.YtmnbgppmfbnamaaGreatDoor
open Go.RowKit

/-- The writes of a store's own disk are performed. -/
@[go_sem] def ctFlushP : Ct := ⟨true, [], fun args os => match args, os with
  | [.one (.ptr 0 0)], [.cells [.osl .str 1 0 na, .osl .str 2 0 nb, .osl .late 3 0 nl, .val (.int .i64 x), .osl .cset 4 0 n1, .osl .ent 5 0 n2, .osl .ptr 6 0 n3, .val (.bool y), .osl .int 7 0 n4, .val (.int .i64 u), .val (.bool o)], .arr .str a, .arr .str b, .arr .late l, .arr .cset cs, .arr .ent es, .arr .ptr ps, .arr .int zs] =>
    ⟨(Dk.mk a b l).ok = true ∧ na = a.length ∧ nb = b.length ∧ nl = l.length, .tup [], [(0, some (.cells [.osl .str 1 0 na, .osl .str 2 0 nb, .val (.slice none 0 0), .val (.int .i64 x), .osl .cset 4 0 n1, .osl .ent 5 0 n2, .osl .ptr 6 0 n3, .val (.bool y), .osl .int 7 0 n4, .val (.int .i64 u), .val (.bool o)])), (1, some (.arr .str (Dk.mk a b l).flushed.a)), (2, some (.arr .str (Dk.mk a b l).flushed.b))], []⟩
  | _, _ => no⟩
theorem s_flushP_e : EnterOk Tryz.prog 71 := ⟨_, Tryz.func71, rfl, by decide⟩
@[go_sem] def s_flushP_lv : List (List Nat) := [[0, 7, 8, 9], [0, 7, 8, 9, 10], [0, 3, 7, 8, 9], [0, 7, 8, 9], [0, 7, 8, 9], []]
@[go_sem] noncomputable def s_flushP_K : Known := Known.nil
set_option maxHeartbeats 8000000 in
theorem s_flushP : Sound Tryz.prog 71 ctFlushP := by
  have ke := s_flushP_K.env []
  have kl : Lives s_flushP_lv := trivial
  refine sound_intro (E := ⟨ti, s_flushP_K.Γ, []⟩) ke Tryz.func71 Tryz.ntmps71 rfl (rs := []) rfl ?_
  intro args os hp
  unfold ctFlushP at hp ⊢
  dsimp only at hp ⊢
  split at hp
  · rename_i na nb nl x n1 n2 n3 y n4 u o a b l cs es ps zs
    refine ⟨by simp, fun φ0 w0 => ?_⟩
    obtain ⟨hok, rfl, rfl, rfl⟩ : (Dk.mk a b l).ok = true ∧ na = a.length ∧ nb = b.length ∧ nl = l.length := hp
    have e3 : a.length ≤ 120 ∧ b.length ≤ 120 ∧ l.length ≤ 600 := Dk.ok_small hok
    have hz := Dk.done_zero (Dk.mk a b l)
    refine goh trivial ?_
    refine W_for l.length (fun i => True) (fun i => ⟨[(0, .one (.ptr 0 0)), (7, .one (.osl .late 3 0 l.length)), (8, vi l.length), (9, vi i)],
      [some (.cells [.osl .str 1 0 ((Dk.mk a b l).done i).1.length, .osl .str 2 0 ((Dk.mk a b l).done i).2.length, .osl .late 3 0 l.length, .val (.int .i64 x), .osl .cset 4 0 n1, .osl .ent 5 0 n2, .osl .ptr 6 0 n3, .val (.bool y), .osl .int 7 0 n4, .val (.int .i64 u), .val (.bool o)]), some (.arr .str ((Dk.mk a b l).done i).1), some (.arr .str ((Dk.mk a b l).done i).2), some (.arr .late l), some (.arr .cset cs), some (.arr .ent es), some (.arr .ptr ps), some (.arr .int zs)], [0, 1, 2]⟩) [some 0, some 1, some 2, some 3, some 4, some 5, some 6, some 7] (leh hz) trivial fun i hi _ => ?_
    obtain ⟨hl1, hl2⟩ := (Dk.mk a b l).done_len i
    simp only at hl1 hl2
    refine goh trivial ?_
    refine W_cnd ?_ ?_ <;> (try simp only [cnd_r]) <;> intro hlt
    · have hi' : i < l.length := by omega
      obtain ⟨ws, w1, w2, w3⟩ := Dk.ok_late hok i hi'
      have hd := (Dk.mk a b l).done_succ i hi'
      obtain ⟨-, -, hab, -⟩ := (Dk.ok_iff _).1 hok
      simp only at ws w1 w2 w3 hd hab
      generalize hx : (Dk.mk a b l).done i = x at *
      generalize hw : l.getD i ET.late.dflt = w at *
      obtain ⟨s, k, t⟩ := w
      simp only at ws w1 w2 w3
      rcases ws with rfl | rfl
      all_goals
        refine goh hw ?_
        refine ⟨[some 0, some 1, some 2, some 3, some 4, some 5, some 6, some 7], by omega, ?_, trivial⟩
        rw [hd]
        simp only [go_sem, putW, List.length_set, inj_r, ↓reduceIte, reduceCtorEq, Nat.reduceAdd, Nat.reduceLT, Nat.reduceLeDiff, Nat.reduceEqDiff, Int.reduceEq]
        all_goals (repeat' refine And.intro ?_ ?_) <;> try exact shut7
    · have : i = l.length := by omega
      subst this
      have e4 : (Dk.mk a b l).flushed = ⟨((Dk.mk a b l).done l.length).1, ((Dk.mk a b l).done l.length).2, []⟩ := rfl
      refine goh trivial ?_
      exact finh [some 0, some 1, some 2, some 3, some 4, some 5, some 6, some 7] e4
  · simp [no] at hp
theorem poolB_disk {p : Pl} (h : poolB p = true) : p.disk.ok = true := (poolB_parts h).1
theorem Dk.flushed_len (d : Dk) : d.flushed.a.length = d.a.length ∧ d.flushed.b.length = d.b.length ∧ d.flushed.l = [] := ⟨(d.done_len d.l.length).1, (d.done_len d.l.length).2, rfl⟩
noncomputable def poolSync (p : Pl) : Pl := if poolB p = true then if p.up = true then ⟨p.disk.flushed, p.core, p.up⟩ else p else .nil
@[go_sem] noncomputable def ctPoolSync : Ct := ⟨false, [[some .str, some .str, some .late, none, some .cset, some .ent, some .ptr, none, some .int, none, none]], fun args os => match args, os with
  | [.agg [.isl .str a, .isl .str b, .isl .late l, .val (.int .i64 x), .isl .cset cs, .isl .ent es, .isl .ptr ps, .val (.bool y), .isl .int zs, .val (.int .i64 u), .val (.bool o)]], [] => ⟨(Pl.mk ⟨a, b, l⟩ ⟨x, cs, es, ps, y, zs, u⟩ o).fit, (poolSync ⟨⟨a, b, l⟩, ⟨x, cs, es, ps, y, zs, u⟩, o⟩).v, [], (poolSync ⟨⟨a, b, l⟩, ⟨x, cs, es, ps, y, zs, u⟩, o⟩).objs⟩
  | _, _ => no⟩
end Go.Proofs.YtmnbgppmfbnamaaGreatDoor
/- Plain facts: places in order, each once. -/
namespace Go.Proofs.YtmnbgppmfbnamaaGreatDoor
open Go.RowKit

def AscI (xs : List Int) : Prop := xs.Pairwise (· < ·)
theorem asc_head {x : Int} {xs : List Int} (h : AscI (x :: xs)) : ∀ y ∈ xs, x < y := (List.pairwise_cons.1 h).1
theorem asc_tail {x : Int} {xs : List Int} (h : AscI (x :: xs)) : AscI xs := (List.pairwise_cons.1 h).2
/-- Two ascending lists with the same members are one. -/
theorem asc_ext : ∀ {xs ys : List Int}, AscI xs → AscI ys → (∀ z, z ∈ xs ↔ z ∈ ys) → xs = ys
  | [], [], _, _, _ => rfl
  | [], y :: ys, _, _, h => absurd ((h y).2 (List.mem_cons_self ..)) (by simp)
  | x :: xs, [], _, _, h => absurd ((h x).1 (List.mem_cons_self ..)) (by simp)
  | x :: xs, y :: ys, hx, hy, h => by
    have h1 := asc_head hx
    have h2 := asc_head hy
    have e : x = y := by
      rcases List.mem_cons.1 ((h x).1 (List.mem_cons_self ..)) with e | e
      · exact e
      · rcases List.mem_cons.1 ((h y).2 (List.mem_cons_self ..)) with e2 | e2
        · exact e2.symm
        · have := h1 y e2; have := h2 x e; omega
    subst e
    rw [asc_ext (asc_tail hx) (asc_tail hy) fun z => ⟨fun hz => ?_, fun hz => ?_⟩]
    · rcases List.mem_cons.1 ((h z).1 (List.mem_cons_of_mem _ hz)) with e | e
      · subst e; have := h1 z hz; omega
      · exact e
    · rcases List.mem_cons.1 ((h z).2 (List.mem_cons_of_mem _ hz)) with e | e
      · subst e; have := h2 z hz; omega
      · exact e
theorem compUp_facts (d : Array Int) (hs : ∀ i j, i < j → j < d.size → d[i]! ≤ d[j]!) : ∀ m, m ≤ d.size →
    (∀ x, x ∈ Lib.compactUpTo d m ↔ ∃ j, j < m ∧ d[j]! = x) ∧ AscI (Lib.compactUpTo d m) ∧ (∀ x ∈ Lib.compactUpTo d m, x ≤ d[m - 1]!)
  | 0, _ => ⟨fun x => by simp [Lib.compactUpTo], by simp [Lib.compactUpTo, AscI], by simp [Lib.compactUpTo]⟩
  | m + 1, hm => by
    obtain ⟨i1, i2, i3⟩ := compUp_facts d hs m (by omega)
    rw [Lib.compactUpTo_succ]
    have hle : ∀ x ∈ Lib.compactUpTo d m, x ≤ d[m]! := fun x hx => by
      obtain ⟨j, hj, rfl⟩ := (i1 x).1 hx
      exact hs j m hj (by omega)
    by_cases hk : Lib.keeps d m = true
    · rw [if_pos hk]
      have hlt : ∀ x ∈ Lib.compactUpTo d m, x < d[m]! := fun x hx => by
        rcases Nat.eq_zero_or_pos m with h0 | h0
        · subst h0; simp [Lib.compactUpTo] at hx
        · have h1 := i3 x hx
          have h2 := hs (m - 1) m (by omega) (by omega)
          have h3 : d[m]! ≠ d[m - 1]! := by
            unfold Lib.keeps at hk
            simp only [Bool.or_eq_true, beq_iff_eq, bne_iff_ne, ne_eq, decide_eq_true_eq] at hk
            rcases hk with hk | hk
            · omega
            · exact hk
          omega
      refine ⟨fun x => ?_, ?_, ?_⟩
      · rw [List.mem_append, i1, List.mem_singleton]
        constructor
        · rintro (⟨j, hj, rfl⟩ | rfl)
          · exact ⟨j, by omega, rfl⟩
          · exact ⟨m, by omega, rfl⟩
        · rintro ⟨j, hj, rfl⟩
          rcases Nat.lt_succ_iff_lt_or_eq.1 hj with h | rfl
          · exact .inl ⟨j, h, rfl⟩
          · exact .inr rfl
      · exact List.pairwise_append.2 ⟨i2, by simp, fun x hx y hy => by rw [List.mem_singleton.1 hy]; exact hlt x hx⟩
      · intro x hx
        rcases List.mem_append.1 hx with h | h
        · exact hle x h
        · rw [List.mem_singleton.1 h]; exact Int.le_refl _
    · rw [if_neg hk, List.append_nil]
      have h0 : m ≠ 0 := fun h => hk (by subst h; exact Lib.keeps_lt_one d 0 (by omega))
      have h3 : d[m]! = d[m - 1]! := by
        unfold Lib.keeps at hk
        simp only [Bool.or_eq_true, beq_iff_eq, bne_iff_ne, ne_eq, decide_eq_true_eq, not_or, Decidable.not_not] at hk
        exact hk.2
      refine ⟨fun x => ?_, i2, fun x hx => hle x hx⟩
      rw [i1]
      constructor
      · rintro ⟨j, hj, rfl⟩; exact ⟨j, by omega, rfl⟩
      · rintro ⟨j, hj, rfl⟩
        rcases Nat.lt_succ_iff_lt_or_eq.1 hj with h | rfl
        · exact ⟨j, h, rfl⟩
        · exact ⟨j - 1, by omega, h3.symm⟩
def sortI (zs : List Int) : List Int := zs.mergeSort fun x y => decide (x ≤ y)
theorem sortI_len (zs : List Int) : (sortI zs).length = zs.length := by unfold sortI; exact List.length_mergeSort _
theorem sortI_mem (zs : List Int) (x : Int) : x ∈ sortI zs ↔ x ∈ zs := by unfold sortI; exact List.mem_mergeSort
theorem sortI_le (zs : List Int) : (sortI zs).Pairwise (· ≤ ·) := by
  have h := List.pairwise_mergeSort (le := fun x y : Int => decide (x ≤ y)) (fun a b c h1 h2 => by simp at *; omega) (fun a b => by simp; omega) zs
  exact h.imp (by simp)
theorem compact_sorted (zs : List Int) : AscI (Lib.compact (sortI zs)) ∧ ∀ x, x ∈ Lib.compact (sortI zs) ↔ x ∈ zs := by
  have hle := sortI_le zs
  obtain ⟨h1, h2, -⟩ := compUp_facts (sortI zs).toArray (fun i j hij hj => by
    rw [List.size_toArray] at hj
    have := List.pairwise_iff_getElem.1 hle i j (by omega) hj hij
    simpa [show i < (sortI zs).length by omega, hj] using this) (sortI zs).length (by simp)
  refine ⟨h2, fun x => ?_⟩
  unfold Lib.compact
  rw [h1, ← sortI_mem zs x]
  constructor
  · rintro ⟨j, hj, rfl⟩
    have : (sortI zs).toArray[j]! = (sortI zs)[j] := by simp [hj]
    rw [this]; exact List.getElem_mem _
  · intro hx
    obtain ⟨j, hj, rfl⟩ := List.getElem_of_mem hx
    exact ⟨j, hj, by simp [hj]⟩
theorem compact_len (zs : List Int) : (Lib.compact zs).length ≤ zs.length := by
  unfold Lib.compact Lib.compactUpTo
  rw [List.length_map]
  exact Nat.le_trans (List.length_filter_le _ _) (by simp)
/-- A place among others, ascending, once. -/
def insP (xs : List Int) (x : Int) : List Int := xs.takeWhile (fun y => decide (y < x)) ++ x :: xs.dropWhile (fun y => decide (y < x))
def addP (xs : List Int) (x : Int) : List Int := if x < 13 ∨ x ∈ xs then xs else insP xs x
theorem insP_asc : ∀ {xs : List Int} {x : Int}, AscI xs → x ∉ xs → AscI (insP xs x) ∧ ∀ z, z ∈ insP xs x ↔ z = x ∨ z ∈ xs
  | [], x, _, _ => ⟨by simp [insP, AscI], by simp [insP]⟩
  | y :: ys, x, h, hn => by
    have hm : ∀ z, z ∈ insP (y :: ys) x ↔ z = x ∨ z ∈ y :: ys := fun z => by
      unfold insP
      conv => rhs; rw [← List.takeWhile_append_dropWhile (p := fun y => decide (y < x)) (l := y :: ys)]
      simp only [List.mem_append, List.mem_cons]
      constructor
      · rintro (h | h | h)
        · exact .inr (.inl h)
        · exact .inl h
        · exact .inr (.inr h)
      · rintro (h | h | h)
        · exact .inr (.inl h)
        · exact .inl h
        · exact .inr (.inr h)
    refine ⟨?_, hm⟩
    by_cases hc : y < x
    · have e : insP (y :: ys) x = y :: insP ys x := by unfold insP; simp [hc]
      obtain ⟨h1, h2⟩ := insP_asc (asc_tail h) (fun h => hn (List.mem_cons_of_mem _ h))
      rw [e]
      refine List.pairwise_cons.2 ⟨fun z hz => ?_, h1⟩
      rcases (h2 z).1 hz with rfl | hz
      · exact hc
      · exact asc_head h z hz
    · have e : insP (y :: ys) x = x :: y :: ys := by unfold insP; simp [hc]
      rw [e]
      have hxy : x ≠ y := fun e => hn (by rw [e]; exact List.mem_cons_self ..)
      refine List.pairwise_cons.2 ⟨fun z hz => ?_, h⟩
      rcases List.mem_cons.1 hz with rfl | hz
      · omega
      · have := asc_head h z hz; omega
theorem addP_asc {xs : List Int} {x : Int} (h : AscI xs) : AscI (addP xs x) ∧ ∀ z, z ∈ addP xs x ↔ (z = x ∧ 13 ≤ x) ∨ z ∈ xs := by
  unfold addP
  split
  · rename_i hc
    refine ⟨h, fun z => ⟨.inr, ?_⟩⟩
    rintro (⟨rfl, h1⟩ | h1)
    · rcases hc with hc | hc
      · omega
      · exact hc
    · exact h1
  · rename_i hc
    obtain ⟨h1, h2⟩ := insP_asc h (fun h => hc (.inr h))
    refine ⟨h1, fun z => ?_⟩
    rw [h2]
    constructor
    · rintro (rfl | h)
      · exact .inl ⟨rfl, Int.not_lt.1 fun h => hc (.inl h)⟩
      · exact .inr h
    · rintro (⟨h, -⟩ | h)
      · exact .inl h
      · exact .inr h
theorem foldP_asc : ∀ (ls : List Int) {xs : List Int}, AscI xs → AscI (ls.foldl addP xs) ∧ ∀ z, z ∈ ls.foldl addP xs ↔ (z ∈ ls ∧ 13 ≤ z) ∨ z ∈ xs
  | [], xs, h => ⟨h, by simp⟩
  | l :: ls, xs, h => by
    obtain ⟨h1, h2⟩ := addP_asc (x := l) h
    obtain ⟨h3, h4⟩ := foldP_asc ls h1
    refine ⟨h3, fun z => ?_⟩
    rw [List.foldl_cons, h4, h2, List.mem_cons]
    constructor
    · rintro (⟨h, h'⟩ | ⟨rfl, h⟩ | h)
      · exact .inl ⟨.inr h, h'⟩
      · exact .inl ⟨.inl rfl, h⟩
      · exact .inr h
    · rintro (⟨rfl | h, h'⟩ | h)
      · exact .inr (.inl ⟨rfl, h'⟩)
      · exact .inl ⟨h, h'⟩
      · exact .inr (.inr h)
/-- All places that a commit with this root reaches. -/
def reachL (c : Co) (root : Int) : List Int := root :: (c.ddt.map (·.at_) ++ (c.sets.map (·.home.at_) ++ c.parts.map (·.at_)))
def reachV (c : Co) (root : Int) : List Int := (reachL c root).foldl addP []
theorem reachV_eq (c : Co) (root : Int) : reachV c root = Lib.compact (sortI ((reachL c root).filter fun x => decide (13 ≤ x))) := by
  obtain ⟨h1, h2⟩ := foldP_asc (reachL c root) (xs := []) (by simp [AscI])
  obtain ⟨h3, h4⟩ := compact_sorted ((reachL c root).filter fun x => decide (13 ≤ x))
  refine asc_ext h1 h3 fun z => ?_
  show z ∈ (reachL c root).foldl addP [] ↔ _
  rw [h2, h4, List.mem_filter]
  simp
theorem addP_len (xs : List Int) (x : Int) : (addP xs x).length ≤ xs.length + 1 := by
  unfold addP
  split
  · omega
  · unfold insP
    have := congrArg List.length (List.takeWhile_append_dropWhile (p := fun y => decide (y < x)) (l := xs))
    rw [List.length_append] at this
    simp only [List.length_append, List.length_cons]; omega
theorem foldP_len : ∀ (ls xs : List Int), (ls.foldl addP xs).length ≤ xs.length + ls.length
  | [], xs => Nat.le_refl _
  | l :: ls, xs => by
    have h1 := foldP_len ls (addP xs l)
    have h2 := addP_len xs l
    rw [List.foldl_cons, List.length_cons]; omega
end Go.Proofs.YtmnbgppmfbnamaaGreatDoor
/-
  DERIVED: THE SHELF's CONTRACTS AT THIS DUMP, IN PLAIN WORDS (tools/lay-plain.mjs out of 'YtmnbgppmfbnamaaGreatDoorTSh9Q.lean', which tools/lay-shelf.mjs wrote): THE SAME DECLARATIONS UNDER THE SAME NAMES: 'import', 'namespace', 'open', 'def', 'theorem' AND NOTHING ELSE: no command of the shelf's: FOR A HAND-IN. Each laying: the table of numbers ('.._ren') and one theorem, a field a fact of the dump's own or the kernel's comparison; each contract: ONE APPLICATION.
-/
namespace Go.Proofs
open Go.Shelf
def Tryz.lays189_ren : Go.Shelf.Ren := ⟨fun | 189 => 283 | 125 => 305 | 257 => 304 | 128 => 319 | 129 => 289 | 294 => 311 | 295 => 312 | 296 => 313 | 297 => 314 | 298 => 315 | 299 => 316 | 216 => 309 | 300 => 317 | 301 => 318 | 328 => 321 | 329 => 322 | 330 => 323 | 331 => 324 | 332 => 325 | 215 => 320 | 343 => 326 | n => n, fun | 28 => 42 | 3 => 3 | 46 => 153 | 0 => 0 | 51 => 305 | 53 => 273 | 4 => 4 | 183 => 326 | 182 => 325 | 131 => 103 | 5 => 5 | 9 => 9 | 218 => 333 | 222 => 337 | 228 => 339 | 229 => 340 | n => n, fun | n => n⟩
theorem Tryz.lays189 : Go.Proofs.Lays.n189 Tryz.prog Tryz.lays189_ren := {
  mixed := by kernel_rfl
  f125 := Tryz.func305.trans (congrArg some (by kernel_rfl))
  f128 := Tryz.func319.trans (congrArg some (by kernel_rfl))
  f129 := Tryz.func289.trans (congrArg some (by kernel_rfl))
  f189 := Tryz.func283.trans (congrArg some (by kernel_rfl))
  f215 := Tryz.func320.trans (congrArg some (by kernel_rfl))
  f216 := Tryz.func309.trans (congrArg some (by kernel_rfl))
  f257 := Tryz.func304.trans (congrArg some (by kernel_rfl))
  f294 := Tryz.func311.trans (congrArg some (by kernel_rfl))
  f295 := Tryz.func312.trans (congrArg some (by kernel_rfl))
  f296 := Tryz.func313.trans (congrArg some (by kernel_rfl))
  f297 := Tryz.func314.trans (congrArg some (by kernel_rfl))
  f298 := Tryz.func315.trans (congrArg some (by kernel_rfl))
  f299 := Tryz.func316.trans (congrArg some (by kernel_rfl))
  f300 := Tryz.func317.trans (congrArg some (by kernel_rfl))
  f301 := Tryz.func318.trans (congrArg some (by kernel_rfl))
  f328 := Tryz.func321.trans (congrArg some (by kernel_rfl))
  f329 := Tryz.func322.trans (congrArg some (by kernel_rfl))
  f330 := Tryz.func323.trans (congrArg some (by kernel_rfl))
  f331 := Tryz.func324.trans (congrArg some (by kernel_rfl))
  f332 := Tryz.func325.trans (congrArg some (by kernel_rfl))
  f343 := Tryz.func326.trans (congrArg some (by kernel_rfl))
  t0 := Tryz.underlying0
  a0 := Tryz.isAgg0
  z0 := Tryz.sizeOf0
  v0 := Tryz.zeroValue0
  t3 := Tryz.underlying3
  a3 := Tryz.isAgg3
  z3 := Tryz.sizeOf3
  v3 := Tryz.zeroValue3
  t4 := Tryz.underlying4
  a4 := Tryz.isAgg4
  z4 := Tryz.sizeOf4
  v4 := Tryz.zeroValue4
  t5 := Tryz.underlying5
  a5 := Tryz.isAgg5
  z5 := Tryz.sizeOf5
  v5 := Tryz.zeroValue5
  t9 := Tryz.underlying9
  a9 := Tryz.isAgg9
  z9 := Tryz.sizeOf9
  v9 := Tryz.zeroValue9
  t28 := Tryz.underlying42
  a28 := Tryz.isAgg42
  z28 := Tryz.sizeOf42
  v28 := Tryz.zeroValue42
  t46 := Tryz.underlying153
  a46 := Tryz.isAgg153
  z46 := Tryz.sizeOf153
  v46 := Tryz.zeroValue153
  t51 := Tryz.underlying305
  a51 := Tryz.isAgg305
  z51 := Tryz.sizeOf305
  v51 := Tryz.zeroValue305
  t53 := Tryz.underlying273
  a53 := Tryz.isAgg273
  z53 := Tryz.sizeOf273
  v53 := Tryz.zeroValue273
  t131 := Tryz.underlying103
  a131 := Tryz.isAgg103
  z131 := Tryz.sizeOf103
  v131 := Tryz.zeroValue103
  t182 := Tryz.underlying325
  a182 := Tryz.isAgg325
  z182 := Tryz.sizeOf325
  v182 := Tryz.zeroValue325
  t183 := Tryz.underlying326
  a183 := Tryz.isAgg326
  z183 := Tryz.sizeOf326
  v183 := Tryz.zeroValue326
  t218 := Tryz.underlying333
  a218 := Tryz.isAgg333
  z218 := Tryz.sizeOf333
  v218 := Tryz.zeroValue333
  t222 := Tryz.underlying337
  a222 := Tryz.isAgg337
  z222 := Tryz.sizeOf337
  v222 := Tryz.zeroValue337
  t228 := Tryz.underlying339
  a228 := Tryz.isAgg339
  z228 := Tryz.sizeOf339
  v228 := Tryz.zeroValue339
  t229 := Tryz.underlying340
  a229 := Tryz.isAgg340
  z229 := Tryz.sizeOf340
  v229 := Tryz.zeroValue340 }
end Go.Proofs
/-
  DERIVED: THE SHELF's CONTRACTS AT THIS DUMP, IN PLAIN WORDS (tools/lay-plain.mjs out of 'YtmnbgppmfbnamaaGreatDoorTShAQ.lean', which tools/lay-shelf.mjs wrote): THE SAME DECLARATIONS UNDER THE SAME NAMES: 'import', 'namespace', 'open', 'def', 'theorem' AND NOTHING ELSE: no command of the shelf's: FOR A HAND-IN. Each laying: the table of numbers ('.._ren') and one theorem, a field a fact of the dump's own or the kernel's comparison; each contract: ONE APPLICATION.
-/
namespace Go.Proofs
open Go.Shelf
def Tryz.lays20_ren : Go.Shelf.Ren := ⟨fun | 20 => 284 | n => n, fun | 22 => 42 | 3 => 3 | 4 => 4 | 0 => 0 | n => n, fun | n => n⟩
theorem Tryz.lays20 : Go.Proofs.Lays2.n20 Tryz.prog Tryz.lays20_ren := {
  mixed := by kernel_rfl
  f20 := Tryz.func284.trans (congrArg some (by kernel_rfl))
  t0 := Tryz.underlying0
  a0 := Tryz.isAgg0
  z0 := Tryz.sizeOf0
  v0 := Tryz.zeroValue0
  t3 := Tryz.underlying3
  a3 := Tryz.isAgg3
  z3 := Tryz.sizeOf3
  v3 := Tryz.zeroValue3
  t4 := Tryz.underlying4
  a4 := Tryz.isAgg4
  z4 := Tryz.sizeOf4
  v4 := Tryz.zeroValue4
  t22 := Tryz.underlying42
  a22 := Tryz.isAgg42
  z22 := Tryz.sizeOf42
  v22 := Tryz.zeroValue42
  i3 := by kernel_rfl }
end Go.Proofs
/-
  DERIVED: THE SHELF's CONTRACTS AT THIS DUMP, IN PLAIN WORDS (tools/lay-plain.mjs out of 'YtmnbgppmfbnamaaGreatDoorTShBQ.lean', which tools/lay-shelf.mjs wrote): THE SAME DECLARATIONS UNDER THE SAME NAMES: 'import', 'namespace', 'open', 'def', 'theorem' AND NOTHING ELSE: no command of the shelf's: FOR A HAND-IN. Each laying: the table of numbers ('.._ren') and one theorem, a field a fact of the dump's own or the kernel's comparison; each contract: ONE APPLICATION.
-/
namespace Go.Proofs
open Go.Shelf
def Tryz.lays10_ren : Go.Shelf.Ren := ⟨fun | 10 => 281 | 6 => 303 | n => n, fun | 22 => 42 | 23 => 3 | 25 => 77 | 3 => 3 | 4 => 4 | 0 => 0 | n => n, fun | n => n⟩
theorem Tryz.lays10 : Go.Proofs.SlLaysH.n10 Tryz.prog Tryz.lays10_ren := {
  mixed := by kernel_rfl
  f6 := ⟨Tryz.f303.name, by decide, Tryz.func303.trans (congrArg some (by kernel_rfl))⟩
  f10 := ⟨Tryz.f281.name, by decide, Tryz.func281.trans (congrArg some (by kernel_rfl))⟩
  t0 := Tryz.underlying0
  a0 := Tryz.isAgg0
  z0 := Tryz.sizeOf0
  v0 := Tryz.zeroValue0
  t3 := Tryz.underlying3
  a3 := Tryz.isAgg3
  z3 := Tryz.sizeOf3
  v3 := Tryz.zeroValue3
  t4 := Tryz.underlying4
  a4 := Tryz.isAgg4
  z4 := Tryz.sizeOf4
  v4 := Tryz.zeroValue4
  t22 := Tryz.underlying42
  a22 := Tryz.isAgg42
  z22 := Tryz.sizeOf42
  v22 := Tryz.zeroValue42
  a23 := Tryz.isAgg3
  z23 := Tryz.sizeOf3
  t25 := Tryz.underlying77
  a25 := Tryz.isAgg77
  z25 := Tryz.sizeOf77
  v25 := Tryz.zeroValue77 }
end Go.Proofs
/- Functions of the library that work in place: numbers are sorted, and equal neighbours dropped. -/
namespace Go.Proofs.YtmnbgppmfbnamaaGreatDoor
open Go.RowKit Go.Sort

theorem grow_rel {φ : Phi} {T : Tab} {w w' : World} (hrel : Rel φ T w) (hos : w'.os = w.os) (htape : w'.tape = w.tape) (hout : w'.output = w.output) (hsize : w.heap.size ≤ w'.heap.size) (hold : ∀ b, b < w.heap.size → w'.heap[b]? = w.heap[b]?) : Rel φ T w' ∧ Ge φ T w φ T w' := by
  have ge : Ge φ T w φ T w' := ⟨hos, htape, hout, hsize, fun _ _ h => h, fun b hb _ => hold b hb, fun b _ h => h, fun b hb => by unfold sizeAt; rw [hold b hb], fun _ => Iff.rfl⟩
  exact ⟨⟨fun k o h => (hrel.obj k o h).mono ge (fun b base hφ => hold b ((hrel.obj k o h).lt hφ)) fun h => h, hrel.inj, Ge.frd hrel ge, Ge.glo hrel ge⟩, ge⟩
theorem putRow_other (enc : Int → Value) (w : World) (blk off : Nat) (d : Array Int) (b : Nat) (h : b ≠ blk) : (Go.Sort.putRow enc w blk off d).heap[b]? = w.heap[b]? := by
  unfold Go.Sort.putRow Go.Sort.mapBlock
  simp only [Array.getElem?_modify]
  rw [if_neg (by omega)]
theorem putRow_size (enc : Int → Value) (w : World) (blk off : Nat) (d : Array Int) : (Go.Sort.putRow enc w blk off d).heap.size = w.heap.size := by
  unfold Go.Sort.putRow Go.Sort.mapBlock
  simp
theorem putRow_at (enc : Int → Value) (w : World) (blk off : Nat) (d : Array Int) {c : Array Value} {e : TypeId} {fr : Nat × Nat} (h : w.heap[blk]? = some (.cells c e fr)) : (Go.Sort.putRow enc w blk off d).heap[blk]? = some (.cells (Go.Sort.putCells enc off d c) e fr) := by
  unfold Go.Sort.putRow Go.Sort.mapBlock
  simp only [Array.getElem?_modify, if_true, h, Option.map_some]
  rfl
theorem ints_flat : ∀ (xs : List Int) (i : Nat), (xs.flatMap ET.int.cells)[i]? = (xs[i]?).map (Value.int .i64)
  | [], i => by simp
  | x :: xs, 0 => rfl
  | x :: xs, i + 1 => by
    rw [List.flatMap_cons]
    show ([Value.int .i64 x] ++ xs.flatMap ET.int.cells)[i + 1]? = _
    rw [List.singleton_append, List.getElem?_cons_succ, ints_flat xs i, List.getElem?_cons_succ]
/-- What is handed to a function of the library that works in place. -/
theorem ints_in {φ : Phi} {w : World} {zs : List Int} {n : Nat} {v : Value} (hrel : Rel φ (tabOf [.arr .int zs]) w) (hv : VR φ (tabOf [.arr .int zs]) w (.one (.osl .int 0 0 n)) v) (hn : n ≤ zs.length) (h0 : 0 < n) :
    ∃ blk off cap, v = .slice (some ⟨blk, off, none⟩) n cap ∧ n ≤ cap ∧ φ 0 = some (blk, off) ∧ blk < w.heap.size ∧ Go.Sort.Holds (Value.int .i64) w blk off (zs.take n).toArray ∧
      ∀ ys : List Int, ys.length = n → ∀ k os w', w' = Go.Sort.grow (Go.Sort.putRow (Value.int .i64) (Go.Sort.ahead w k) blk off ys.toArray) os → Rel φ (updT (tabOf [.arr .int zs]) [(0, some (.arr .int (ys ++ zs.drop n)))]) w' ∧ Ge φ (tabOf [.arr .int zs]) w φ (updT (tabOf [.arr .int zs]) [(0, some (.arr .int (ys ++ zs.drop n)))]) w' ∧ Kept φ (tabOf [.arr .int zs]) (fun k => ∃ o : Option Obj, (k, o) ∈ [((0 : Nat), some (Obj.arr .int (ys ++ zs.drop n)))]) w w' := by
  simp only [VR, CR] at hv
  obtain ⟨a, cap, rfl, hl, -, hspot, hc⟩ := hv
  obtain ⟨b, base, hφ, rfl, hsz⟩ := hc (by omega)
  have hT : tabOf [Obj.arr .int zs] 0 = some (.arr .int zs) := rfl
  have ho := hrel.obj 0 _ hT
  obtain ⟨hno, -⟩ | ⟨b', base', c, hφ', hC, hcell⟩ := ho
  · rw [hφ] at hno; cases hno
  rw [hφ] at hφ'
  cases hφ'
  obtain ⟨e, fr, hb, hfz⟩ := hC
  have hlt := Cells.lt ⟨e, fr, hb, hfz⟩
  have hsa : sizeAt w b = c.size := by unfold sizeAt; rw [hb]
  have hz1 : ET.int.sz = 1 := rfl
  rw [hz1] at hsz
  have e0 : base + 0 * ET.int.sz = base := by omega
  rw [e0]
  refine ⟨b, base, cap, rfl, hl, hφ, hlt, fun j hj => ?_, fun ys hys k os w' hw => ?_⟩
  · have hj' : j < n := by
      have : j < (zs.take n).length := by simpa using hj
      rw [List.length_take] at this; omega
    refine ⟨?_, ?_⟩
    · rw [cell_of_Cells ⟨e, fr, hb, hfz⟩]
      refine hcell j _ ?_
      rw [ints_flat]
      simp [hj', show j < zs.length by omega]
    · have := hfz (base + j) (by omega)
      simp only [World.frozen?, hb]
      simp only [Bool.and_eq_false_iff, decide_eq_false_iff_not]
      omega
  · have hb1 : (Go.Sort.ahead w k).heap[b]? = some (.cells c e fr) := hb
    have hat := putRow_at (Value.int .i64) (Go.Sort.ahead w k) b base ys.toArray hb1
    have hcs : (Go.Sort.putCells (Value.int .i64) base ys.toArray c).size = c.size := by simp [Go.Sort.putCells]
    obtain ⟨r1, g1⟩ := write_obj (w' := Go.Sort.putRow (Value.int .i64) (Go.Sort.ahead w k) b base ys.toArray) (o := Obj.arr .int (ys ++ zs.drop n)) hrel (by rw [hT]; simp) hφ hlt (fun b' hne => putRow_other _ _ _ _ _ b' hne) (putRow_size _ _ _ _ _) rfl rfl rfl (by unfold sizeAt; rw [hat, hb]; exact hcs) (fun T' g => .inr ⟨b, base, _, hφ, ⟨e, fr, hat, fun j hj => hfz j (by omega)⟩, fun i v hv => by
      rw [ints_flat] at hv
      obtain ⟨y, hy, rfl⟩ := Option.map_eq_some_iff.1 hv
      simp only [Go.Sort.putCells, Array.getElem?_mapIdx]
      rw [List.getElem?_append] at hy
      by_cases hi : i < ys.length
      · rw [if_pos hi] at hy
        have hci : base + i < c.size := by omega
        rw [Array.getElem?_eq_getElem hci]
        simp only [Option.map_some]
        rw [if_pos ⟨by omega, by simp; omega⟩, show base + i - base = i by omega]
        obtain ⟨hi2, rfl⟩ := List.getElem?_eq_some_iff.1 hy
        simp [hi2]
      · rw [if_neg hi, List.getElem?_drop, show n + (i - ys.length) = i by omega] at hy
        have hold := hcell i (.int .i64 y) (by rw [ints_flat, hy]; rfl)
        rw [hold]
        simp only [Option.map_some]
        rw [if_neg (by simp; omega)]⟩)
    subst hw
    obtain ⟨r2, g2⟩ := grow_rel (w' := Go.Sort.grow (Go.Sort.putRow (Value.int .i64) (Go.Sort.ahead w k) b base ys.toArray) os) r1 rfl rfl rfl (by rw [Go.Sort.size_grow]; omega) (fun b' hb' => Go.Sort.heap_grow_old _ _ hb')
    refine ⟨r2, g1.trans g2, fun b' hb' hne => ?_⟩
    have hbne : b' ≠ b := fun h => hne 0 base ⟨_, List.mem_singleton.2 rfl⟩ (by rw [hT]; simp) (by rw [h]; exact hφ)
    rw [Go.Sort.heap_grow_old _ _ (by rw [putRow_size]; exact hb'), putRow_other _ _ _ _ _ _ hbne]
    rfl
/-- Nothing is done. -/
theorem ints_same {φ : Phi} {w : World} {zs ys : List Int} (hrel : Rel φ (tabOf [.arr .int zs]) w) (h : ys = zs) : Rel φ (updT (tabOf [.arr .int zs]) [(0, some (.arr .int ys))]) w ∧ Ge φ (tabOf [.arr .int zs]) w φ (updT (tabOf [.arr .int zs]) [(0, some (.arr .int ys))]) w := by
  subst h
  have : updT (tabOf [.arr .int ys]) [(0, some (.arr .int ys))] = tabOf [.arr .int ys] := by
    funext j
    simp only [updT]
    by_cases hj : j = 0
    · subst hj; simp [tabOf]
    · simp [hj]
  rw [this]
  exact ⟨hrel, Ge.refl _ _ _⟩
@[go_sem] def ctSort : Ct := ⟨true, [], fun args os => match args, os with
  | [.one (.osl .int 0 0 n)], [.arr .int zs] => ⟨n ≤ zs.length ∧ n ≤ 4000000, .tup [], [(0, some (.arr .int (sortI (zs.take n) ++ zs.drop n)))], []⟩
  | _, _ => no⟩
theorem s_sortI_e : EnterOk Tryz.prog 283 := ⟨_, Tryz.func283, rfl, by decide⟩
theorem s_sortI : Sound Tryz.prog 283 ctSort := by
  intro args os hp φ w rargs hrel hv hn
  unfold ctSort at hp ⊢
  dsimp only at hp ⊢
  split at hp
  · rename_i n zs
    obtain ⟨h1, h3⟩ : n ≤ zs.length ∧ n ≤ 4000000 := hp
    match rargs, hv with
    | [v], hv =>
      obtain ⟨hv, -⟩ := hv
      by_cases h2 : 0 < n
      · obtain ⟨blk, off, cap, rfl, hcap, hφ, hlt, hH, hpost⟩ := ints_in hrel hv h1 h2
        have hlen : (zs.take n).length = n := by rw [List.length_take]; omega
        have hc := Any.slices_Sort_int Tryz.lays189 blk off cap (zs.take n) w hH hlt (by omega)
        rw [hlen] at hc
        refine hc.mono ?_
        rintro e w' ⟨rfl, k, os, hw⟩
        obtain ⟨r, g, kp⟩ := hpost (sortI (zs.take n)) ((sortI_len _).trans hlen) k os w' hw
        refine ⟨.tuple #[], φ, rfl, ?_, ?_, ?_, fun k hk => .inl hk, kp⟩
        · simp only [VR]; exact ⟨#[], rfl, trivial⟩
        · simpa only [newT, addT_nil] using r
        · simpa only [newT, addT_nil] using g
      · obtain rfl : n = 0 := by omega
        simp only [VR, CR] at hv
        obtain ⟨a, cap, rfl, -⟩ := hv
        refine (Any.slices_Sort_int_none Tryz.lays189 a cap w).mono ?_
        rintro e w' ⟨rfl, rfl⟩
        obtain ⟨r, g⟩ := ints_same (ys := sortI (zs.take 0) ++ zs.drop 0) hrel (by simp [sortI])
        refine ⟨.tuple #[], φ, rfl, ?_, ?_, ?_, fun k hk => .inl hk, fun _ _ _ => rfl⟩
        · simp only [VR]; exact ⟨#[], rfl, trivial⟩
        · simpa only [newT, addT_nil] using r
        · simpa only [newT, addT_nil] using g
  · simp [no] at hp
def zeros (n : Nat) : List Int := List.replicate n 0
@[go_sem] def ctCompactI : Ct := ⟨true, [], fun args os => match args, os with
  | [.one (.osl .int 0 0 n)], [.arr .int zs] => ⟨n ≤ zs.length ∧ n ≤ 4000000, .one (.osl .int 0 0 (Lib.compact (zs.take n)).length), [(0, some (.arr .int ((Lib.compact (zs.take n) ++ zeros (n - (Lib.compact (zs.take n)).length)) ++ zs.drop n)))], []⟩
  | _, _ => no⟩
theorem s_compactI_e : EnterOk Tryz.prog 284 := ⟨_, Tryz.func284, rfl, by decide⟩
theorem s_compactI : Sound Tryz.prog 284 ctCompactI := by
  intro args os hp φ w rargs hrel hv hn
  unfold ctCompactI at hp ⊢
  dsimp only at hp ⊢
  split at hp
  · rename_i n zs
    obtain ⟨h1, h3⟩ : n ≤ zs.length ∧ n ≤ 4000000 := hp
    match rargs, hv with
    | [v], hv =>
      obtain ⟨hv, -⟩ := hv
      by_cases h2 : 0 < n
      · obtain ⟨blk, off, cap, rfl, hcap, hφ, hlt, hH, hpost⟩ := ints_in hrel hv h1 h2
        have hlen : (zs.take n).length = n := by rw [List.length_take]; omega
        have hcl := compact_len (zs.take n)
        have hl2 : (Lib.compact (zs.take n) ++ zeros (n - (Lib.compact (zs.take n)).length)).length = n := by simp [zeros]; omega
        have hc := Any.slices_Compact_int Tryz.lays20 blk off cap (zs.take n) w hH (by omega) (by omega)
        rw [hlen] at hc
        refine hc.mono ?_
        rintro e w' ⟨rfl, k, hw⟩
        obtain ⟨r, g, kp⟩ := hpost _ hl2 k #[] w' (by rw [hw, Go.Sort.grow_empty]; rfl)
        have hv' := hv.mono g
        simp only [VR, CR] at hv'
        obtain ⟨a, cap', ha, hl, hn0, hspot, hc⟩ := hv'
        cases ha
        refine ⟨_, φ, rfl, ?_, ?_, ?_, fun k hk => .inl hk, kp⟩
        · simp only [newT, addT_nil, VR, CR]
          exact ⟨_, _, rfl, by omega, hn0, hspot, hc⟩
        · simpa only [newT, addT_nil] using r
        · simpa only [newT, addT_nil] using g
      · obtain rfl : n = 0 := by omega
        have hv0 := hv
        simp only [VR, CR] at hv
        obtain ⟨a, cap, rfl, hv⟩ := hv
        refine (Any.slices_Compact_int_empty Tryz.lays20 a cap w).mono ?_
        rintro e w' ⟨rfl, rfl⟩
        have hl0 : (Lib.compact (zs.take 0)).length = 0 := by have := compact_len (zs.take 0); simp at this ⊢; exact this
        obtain ⟨r, g⟩ := ints_same (ys := (Lib.compact (zs.take 0) ++ zeros (0 - (Lib.compact (zs.take 0)).length)) ++ zs.drop 0) hrel (by rw [List.length_eq_zero_iff.1 hl0]; simp [zeros])
        have hv' := hv0.mono g
        refine ⟨_, φ, rfl, ?_, ?_, ?_, fun k hk => .inl hk, fun _ _ _ => rfl⟩
        · simp only [newT, addT_nil]
          rw [hl0]
          exact hv'
        · simpa only [newT, addT_nil] using r
        · simpa only [newT, addT_nil] using g
  · simp [no] at hp
/-- The places that count. -/
def high (zs : List Int) : List Int := zs.filter fun x => decide (13 ≤ x)
theorem high_not (zs : List Int) : zs.filter (fun x => !decide (x < 13)) = high zs := by
  unfold high
  congr 1
  funext x
  rw [Bool.eq_iff_iff]; simp
theorem high_len (zs : List Int) : (high zs).length ≤ zs.length := List.length_filter_le _ _
theorem gives_low (x : Int) (W : World) : FnGives Tryz.prog 282 #[] #[.int .i64 x] (.bool (decide (x < 13))) W := by
  show Calls Tryz.prog 282 #[.int .i64 x] W _
  go_enter Tryz.func282, Tryz.ntmps282
  go_wp2
  all_goals (go_ret; exact ⟨by simp_all, 0, rfl⟩)
@[go_sem] def ctDeleteI : Ct := ⟨true, [], fun args os => match args, os with
  | [.one (.osl .int 0 0 n), .one (.fn 282 [])], [.arr .int zs] => ⟨n ≤ zs.length ∧ 0 < n ∧ n ≤ 4000000, .one (.osl .int 0 0 (high (zs.take n)).length), [(0, some (.arr .int ((high (zs.take n) ++ zeros (n - (high (zs.take n)).length)) ++ zs.drop n)))], []⟩
  | _, _ => no⟩
theorem s_deleteI_e : EnterOk Tryz.prog 281 := ⟨_, Tryz.func281, rfl, by decide⟩
theorem s_deleteI : Sound Tryz.prog 281 ctDeleteI := by
  intro args os hp φ w rargs hrel hv hn
  unfold ctDeleteI at hp ⊢
  dsimp only at hp ⊢
  split at hp
  · rename_i n zs
    obtain ⟨h1, h2, h3⟩ : n ≤ zs.length ∧ 0 < n ∧ n ≤ 4000000 := hp
    match rargs, hv with
    | [v, f], hv =>
      obtain ⟨hv, hf, -⟩ := hv
      obtain ⟨blk, off, cap, rfl, hcap, hφ, hlt, hH, hpost⟩ := ints_in hrel hv h1 h2
      simp only [VR, CR] at hf
      obtain ⟨vs, rfl, hvs⟩ := hf
      obtain rfl : vs = #[] := by
        cases hq : vs.toList with
        | nil => exact Array.toList_eq_nil_iff.1 hq
        | cons a r => rw [hq] at hvs; exact hvs.elim
      have hlen : (zs.take n).length = n := by rw [List.length_take]; omega
      have hcl := high_len (zs.take n)
      have hl2 : (high (zs.take n) ++ zeros (n - (high (zs.take n)).length)).length = n := by simp [zeros]; omega
      have eg : ∀ args w, (callFunc 282 args).run Tryz.prog w = .ok (.enter 282 args) w := enters_of Tryz.func282 (by kernel_rfl) rfl
      have hc := AnyE.slices_DeleteFunc Tryz.lays10 (Value.int .i64) (fun _ => rfl) (fun x => decide (x < 13)) 282 #[] eg 0 Tryz.zeroValue3 blk off cap (zs.take n).toArray w (fun W x _ => gives_low x W) (fun k os dk x _ => gives_low x _) hH (by simp; omega) (by simp; omega)
      simp only [List.size_toArray, high_not, hlen] at hc
      refine hc.mono ?_
      rintro e w' ⟨rfl, k, hw⟩
      obtain ⟨r, g, kp⟩ := hpost _ hl2 k #[] w' (by rw [hw, Go.Sort.grow_empty]; rfl)
      have hv' := hv.mono g
      simp only [VR, CR] at hv'
      obtain ⟨a, cap', ha, hl, hn0, hspot, hc⟩ := hv'
      cases ha
      refine ⟨_, φ, rfl, ?_, ?_, ?_, fun k hk => .inl hk, kp⟩
      · simp only [newT, addT_nil, VR, CR]
        exact ⟨_, _, rfl, by omega, hn0, hspot, hc⟩
      · simpa only [newT, addT_nil] using r
      · simpa only [newT, addT_nil] using g
  · simp [no] at hp
end Go.Proofs.YtmnbgppmfbnamaaGreatDoor
/-
  DERIVED: THE SHELF's CONTRACTS AT THIS DUMP, IN PLAIN WORDS (tools/lay-plain.mjs out of 'YtmnbgppmfbnamaaGreatDoorTSh3Q.lean', which tools/lay-shelf.mjs wrote): THE SAME DECLARATIONS UNDER THE SAME NAMES: 'import', 'namespace', 'open', 'def', 'theorem' AND NOTHING ELSE: no command of the shelf's: FOR A HAND-IN. Each laying: the table of numbers ('.._ren') and one theorem, a field a fact of the dump's own or the kernel's comparison; each contract: ONE APPLICATION.
-/
namespace Go.Proofs
open Go.Shelf
def Tryz.lays171_ren : Go.Shelf.Ren := ⟨fun | 171 => 53 | 243 => 128 | 246 => 201 | 283 => 249 | 284 => 250 | 285 => 251 | 286 => 252 | 129 => 289 | 317 => 288 | 318 => 290 | 319 => 291 | 320 => 292 | 337 => 307 | 338 => 308 | n => n, fun | 3 => 3 | 9 => 9 | 2 => 2 | 4 => 4 | 171 => 272 | 0 => 0 | 53 => 273 | 37 => 22 | 5 => 5 | 173 => 276 | 212 => 304 | 51 => 305 | 20 => 20 | 213 => 306 | 46 => 153 | 232 => 331 | 233 => 332 | n => n, fun | 17 => 3 | 18 => 6 | 19 => 7 | n => n⟩
theorem Tryz.lays171 : Go.Proofs.LaysM.n171 Tryz.prog Tryz.lays171_ren := {
  mixed := by kernel_rfl
  f129 := Tryz.func289.trans (congrArg some (by kernel_rfl))
  f171 := Tryz.func53.trans (congrArg some (by kernel_rfl))
  f243 := Tryz.func128.trans (congrArg some (by kernel_rfl))
  f246 := Tryz.func201.trans (congrArg some (by kernel_rfl))
  f283 := Tryz.func249.trans (congrArg some (by kernel_rfl))
  f284 := Tryz.func250.trans (congrArg some (by kernel_rfl))
  f285 := Tryz.func251.trans (congrArg some (by kernel_rfl))
  f286 := Tryz.func252.trans (congrArg some (by kernel_rfl))
  f317 := Tryz.func288.trans (congrArg some (by kernel_rfl))
  f318 := Tryz.func290.trans (congrArg some (by kernel_rfl))
  f319 := Tryz.func291.trans (congrArg some (by kernel_rfl))
  f320 := Tryz.func292.trans (congrArg some (by kernel_rfl))
  f337 := Tryz.func307.trans (congrArg some (by kernel_rfl))
  f338 := Tryz.func308.trans (congrArg some (by kernel_rfl))
  t0 := Tryz.underlying0
  a0 := Tryz.isAgg0
  z0 := Tryz.sizeOf0
  v0 := Tryz.zeroValue0
  t2 := Tryz.underlying2
  a2 := Tryz.isAgg2
  z2 := Tryz.sizeOf2
  v2 := Tryz.zeroValue2
  t3 := Tryz.underlying3
  a3 := Tryz.isAgg3
  z3 := Tryz.sizeOf3
  v3 := Tryz.zeroValue3
  t4 := Tryz.underlying4
  a4 := Tryz.isAgg4
  z4 := Tryz.sizeOf4
  v4 := Tryz.zeroValue4
  t5 := Tryz.underlying5
  a5 := Tryz.isAgg5
  z5 := Tryz.sizeOf5
  v5 := Tryz.zeroValue5
  t9 := Tryz.underlying9
  a9 := Tryz.isAgg9
  z9 := Tryz.sizeOf9
  v9 := Tryz.zeroValue9
  t20 := Tryz.underlying20
  a20 := Tryz.isAgg20
  z20 := Tryz.sizeOf20
  v20 := Tryz.zeroValue20
  t37 := Tryz.underlying22
  a37 := Tryz.isAgg22
  z37 := Tryz.sizeOf22
  v37 := Tryz.zeroValue22
  t46 := Tryz.underlying153
  a46 := Tryz.isAgg153
  z46 := Tryz.sizeOf153
  v46 := Tryz.zeroValue153
  t51 := Tryz.underlying305
  a51 := Tryz.isAgg305
  z51 := Tryz.sizeOf305
  v51 := Tryz.zeroValue305
  t53 := Tryz.underlying273
  a53 := Tryz.isAgg273
  z53 := Tryz.sizeOf273
  v53 := Tryz.zeroValue273
  t171 := Tryz.underlying272
  a171 := Tryz.isAgg272
  z171 := Tryz.sizeOf272
  v171 := Tryz.zeroValue272
  t173 := Tryz.underlying276
  a173 := Tryz.isAgg276
  z173 := Tryz.sizeOf276
  v173 := Tryz.zeroValue276
  t212 := Tryz.underlying304
  a212 := Tryz.isAgg304
  z212 := Tryz.sizeOf304
  v212 := Tryz.zeroValue304
  t213 := Tryz.underlying306
  a213 := Tryz.isAgg306
  z213 := Tryz.sizeOf306
  t232 := Tryz.underlying331
  a232 := Tryz.isAgg331
  z232 := Tryz.sizeOf331
  v232 := Tryz.zeroValue331
  t233 := Tryz.underlying332
  a233 := Tryz.isAgg332
  z233 := Tryz.sizeOf332
  v233 := Tryz.zeroValue332
  g17 := by kernel_rfl
  g18 := by kernel_rfl
  g19 := by kernel_rfl
  i0 := by kernel_rfl
  i2 := by kernel_rfl
  i3 := by kernel_rfl
  i4 := by kernel_rfl
  i5 := by kernel_rfl
  i9 := by kernel_rfl
  i20 := by kernel_rfl
  i37 := by kernel_rfl
  i46 := by kernel_rfl
  i51 := by kernel_rfl
  i53 := by kernel_rfl
  i171 := by kernel_rfl
  i173 := by kernel_rfl
  i212 := by kernel_rfl
  i232 := by kernel_rfl
  i233 := by kernel_rfl
  m17 := by kernel_rfl
  m18 := by kernel_rfl
  m19 := by kernel_rfl }
end Go.Proofs
/- Functions: numerals. -/
namespace Go.Proofs.YtmnbgppmfbnamaaGreatDoor
open Go.RowKit

/-- The table of tens lies where it is looked for. -/
theorem glo_tab {w : World} (h : GloOk0 w) : Lib.TabIs Tryz.prog w "internal/strconv.uint64pow10" .u64 Lib.pow10Tab := by
  obtain ⟨c, e, f, h1, h2⟩ := h _ (List.mem_cons_self ..)
  have h2 : c = (Lib.pow10Tab.map fun z => Value.int .u64 z).toArray := h2
  subst h2
  unfold Lib.TabIs World.var?
  rw [show Tryz.prog.globalNamed "internal/strconv.uint64pow10" = some _ from by kernel_rfl]
  simp only [Option.bind_some]
  rw [h1]
def decS (n : Int) : ByteArray := ⟨(Lib.itoa n).toArray⟩
def decB (u : Nat) : ByteArray := ⟨(Lib.decDigits u).toArray⟩
theorem wrap_u8 {n : Nat} (h : n < 256) : IntKind.u8.wrap (n : Int) = n := IntWalk.u8_in _ ⟨by omega, by omega⟩
theorem ofNat_u8 {n : Nat} (h : n < 256) : (UInt8.ofNat n).toNat = n := by rw [UInt8.toNat_ofNat']; omega
theorem decS_nat (u : Nat) : decS u = decB u := by
  unfold decS decB Lib.itoa
  rw [if_neg (by omega), Int.toNat_natCast]
theorem decS_neg {n : Int} (h : n < 0) : decS n = ⟨#[45]⟩ ++ decB n.natAbs := by
  unfold decS decB Lib.itoa
  rw [if_pos h]
  apply ByteArray.ext
  simp
theorem decB_small {u : Nat} (h : u < 10) : decB u = ⟨#[UInt8.ofNat (48 + u)]⟩ := by unfold decB; rw [Lib.decDigits, dif_pos h]
theorem decB_big {u : Nat} (h : ¬ u < 10) : decB u = decB (u / 10) ++ ⟨#[UInt8.ofNat (48 + u % 10)]⟩ := by
  unfold decB
  rw [Lib.decDigits, dif_neg h]
  apply ByteArray.ext
  simp
theorem decB_size (k : Nat) : ∀ u : Nat, u < 10 ^ (k + 1) → (decB u).size ≤ k + 1 := by
  induction k with
  | zero => intro u hu; rw [decB_small (by omega)]; exact Nat.le_refl _
  | succ k ih =>
    intro u hu
    by_cases h : u < 10
    · rw [decB_small h]; show 1 ≤ _; omega
    · rw [decB_big h, ByteArray.size_append]
      have := ih (u / 10) (by rw [Nat.pow_succ] at hu; omega)
      have h1 : (⟨#[UInt8.ofNat (48 + u % 10)]⟩ : ByteArray).size = 1 := rfl
      omega
theorem decS_size {n : Int} (h0 : -9223372036854775808 ≤ n) (h1 : n ≤ 9223372036854775807) : (decS n).size ≤ 20 := by
  rcases Int.lt_or_le n 0 with h | h
  · rw [decS_neg h, ByteArray.size_append]
    have := decB_size 18 n.natAbs (by omega)
    have h1 : (⟨#[45]⟩ : ByteArray).size = 1 := rfl
    omega
  · obtain ⟨u, rfl⟩ := Int.eq_ofNat_of_zero_le h
    rw [decS_nat]
    have := decB_size 18 u (by omega)
    omega
@[go_sem] def ctItoa : Ct := ⟨false, [], fun args os => match args, os with
  | [.one (.val (.int .i64 n))], [] => ifp (-9223372036854775808 ≤ n ∧ n ≤ 9223372036854775807) (vs (decS n))
  | _, _ => no⟩
theorem s_itoa_e : EnterOk Tryz.prog 53 := ⟨_, Tryz.func53, rfl, by decide⟩
theorem s_itoa : Sound Tryz.prog 53 ctItoa := by
  refine sound_plain fun args os hp => ?_
  unfold ctItoa at hp ⊢
  dsimp only at hp ⊢
  split at hp
  · rename_i n
    obtain ⟨h0, h1⟩ : -9223372036854775808 ≤ n ∧ n ≤ 9223372036854775807 := hp
    refine ⟨rfl, [.int .i64 n], .string (decS n), rfl, rfl, fun w hw => ?_⟩
    refine (Any.strconv_Itoa Tryz.lays171 n h0 h1 w (glo_tab hw)).mono ?_
    rintro e w' ⟨he, k, os, rfl⟩
    refine ⟨he, rfl, rfl, rfl, ?_, fun j hj => ?_⟩
    · show w.heap.size ≤ (w.heap ++ os).size
      rw [Array.size_append]; omega
    · show (w.heap ++ os)[j]? = w.heap[j]?
      rw [Array.getElem?_append_left hj]
  · exact hp.elim
/-- The reference's numeral: for a number that is not negative n is 1, for all of them n is 2. -/
@[go_sem] def ctDec (k : Nat) : Ct := ⟨false, [], fun args os => match args, os with
  | [.one (.val (.int .i64 n))], [] => ifp (-9223372036854775808 ≤ n ∧ n ≤ 9223372036854775807 ∧ (0 ≤ n ∧ 1 ≤ k ∨ 2 ≤ k)) (vs (decS n))
  | _, _ => no⟩
theorem s_dec_e : EnterOk Tryz.prog 61 := ⟨_, Tryz.func61, rfl, by decide⟩
@[go_sem] def s_dec_lv : List (List Nat) := [[0], [0, 5], [2], [0, 7], [2], [0, 3], [0, 3, 13], [0, 3], [0, 3], [2]]
@[go_sem] noncomputable def s_dec_K (n : Nat) (ih : Sound Tryz.prog 61 (ctDec n)) : Known := (Known.nil).cons 61 (ctDec n) ih s_dec_e
set_option maxHeartbeats 8000000 in
theorem s_dec_step (n : Nat) (ih : Sound Tryz.prog 61 (ctDec n)) : Sound Tryz.prog 61 (ctDec (n + 1)) := by
  have ke := (s_dec_K n ih).env []
  have kl : Lives s_dec_lv := trivial
  refine sound_intro (E := ⟨ti, (s_dec_K n ih).Γ, []⟩) ke Tryz.func61 Tryz.ntmps61 rfl (rs := [.tmp 2]) rfl ?_
  intro args os hp
  unfold ctDec at hp ⊢
  dsimp only at hp ⊢
  split at hp
  · rename_i z
    refine ⟨by simp, fun φ0 w0 => ?_⟩
    obtain ⟨h0, h1, h2⟩ : -9223372036854775808 ≤ z ∧ z ≤ 9223372036854775807 ∧ (0 ≤ z ∧ 1 ≤ n + 1 ∨ 2 ≤ n + 1) := hp
    refine goh trivial ?_
    refine W_cnd ?_ ?_ <;> (try simp only [cnd_r]) <;> intro hc
    · obtain rfl : z = -9223372036854775808 := by omega
      have e : decS (-9223372036854775808) = ⟨#[45, 57, 50, 50, 51, 51, 55, 50, 48, 51, 54, 56, 53, 52, 55, 55, 53, 56, 48, 56]⟩ := by decide +kernel
      refine goh trivial ?_
      exact finh [] e
    · refine goh trivial ?_
      refine W_cnd ?_ ?_ <;> (try simp only [cnd_r]) <;> intro hn
      · have hw : IntKind.i64.wrap (0 - z) = -z := by rw [Int.zero_sub]; exact wrap_id _ (by omega) (by omega)
        obtain ⟨u, hu⟩ := Int.eq_ofNat_of_zero_le (show 0 ≤ -z by omega)
        have e : decS z = ⟨#[45]⟩ ++ decS (-z) := by
          rw [decS_neg hn, hu, decS_nat, show z.natAbs = u by omega]
        have hs := decS_size (n := -z) (by omega) (by omega)
        refine goh hw ?_
        exact finh [] e
      · obtain ⟨u, rfl⟩ := Int.eq_ofNat_of_zero_le (show 0 ≤ z by omega)
        have hsz := decB_size 18 u (by omega)
        refine goh trivial ?_
        refine W_le (σ' := ⟨[(0, vi u), (3, vs ⟨#[]⟩)], [], []⟩) [] (leh trivial) ?_
        refine W_loop (fun q σ => ∃ (m : Nat) (out : ByteArray), q = m ∧ m ≤ u ∧ decB m ++ out = decB u ∧ σ = ⟨[(0, vi m), (3, vs out)], [], []⟩) u ⟨u, ⟨#[]⟩, rfl, Nat.le_refl _, ByteArray.append_empty, rfl⟩ ?_
        rintro q σ ⟨m, out, rfl, hm, hd, rfl⟩
        have hos : out.size ≤ 20 := by
          have := congrArg ByteArray.size hd
          rw [ByteArray.size_append] at this
          omega
        refine goh trivial ?_
        refine W_cnd ?_ ?_ <;> (try simp only [cnd_r]) <;> intro hlt
        · have hr : ((q : Int)).tmod 10 = ((q % 10 : Nat) : Int) := (Int.ofNat_tmod q 10).symm
          have hv : ((q : Int)).tdiv 10 = ((q / 10 : Nat) : Int) := (Int.ofNat_tdiv q 10).symm
          have w1 : IntKind.i64.wrap ((q % 10 : Nat) : Int) = ((q % 10 : Nat) : Int) := wrap_id _ (by omega) (by omega)
          have w2 : IntKind.i64.wrap ((q / 10 : Nat) : Int) = ((q / 10 : Nat) : Int) := wrap_id _ (by omega) (by omega)
          have w3 : IntKind.i64.wrap (48 + ((q % 10 : Nat) : Int)) = ((48 + q % 10 : Nat) : Int) := wrap_id _ (by omega) (by omega)
          have w4 : IntKind.u8.wrap ((48 + q % 10 : Nat) : Int) = ((48 + q % 10 : Nat) : Int) := wrap_u8 (by omega)
          have hd2 : decB (q / 10) ++ (⟨#[UInt8.ofNat (48 + q % 10)]⟩ ++ out) = decB u := by
            rw [← ByteArray.append_assoc, ← decB_big (by omega), hd]
          have w5 : (UInt8.ofNat (48 + q % 10)).toNat = 48 + q % 10 := ofNat_u8 (by omega)
          refine goh (And.intro hr (And.intro hv (And.intro w1 (And.intro w2 (And.intro w3 (And.intro w4 w5)))))) ?_
          exact ⟨q / 10, [], ⟨[(0, vi (q / 10 : Nat)), (3, vs (⟨#[UInt8.ofNat (48 + q % 10)]⟩ ++ out))], [], []⟩, by omega, leh trivial, q / 10, _, rfl, by omega, hd2, rfl⟩
        · have w3 : IntKind.i64.wrap (48 + (q : Int)) = ((48 + q : Nat) : Int) := wrap_id _ (by omega) (by omega)
          have w4 : IntKind.u8.wrap ((48 + q : Nat) : Int) = ((48 + q : Nat) : Int) := wrap_u8 (by omega)
          have w5 : (UInt8.ofNat (48 + q)).toNat = 48 + q := ofNat_u8 (by omega)
          have e : decS u = ⟨#[UInt8.ofNat (48 + q)]⟩ ++ out := by rw [decS_nat, ← hd, decB_small (by omega)]
          refine goh (And.intro w3 (And.intro w4 w5)) ?_
          exact finh [] e
  · simp [no, ifp] at hp
theorem s_dec_all : ∀ n, Sound Tryz.prog 61 (ctDec n)
  | 0 => fun args os hp => by
    unfold ctDec at hp
    dsimp only at hp
    split at hp
    · obtain ⟨-, -, h⟩ : _ ∧ _ ∧ (_ ∧ 1 ≤ 0 ∨ 2 ≤ 0) := hp
      omega
    · exact hp.elim
  | n + 1 => s_dec_step n (s_dec_all n)
@[go_sem] def ctDecV : Ct := ⟨false, [], fun args os => match args, os with
  | [.one (.val (.int .i64 n))], [] => ifp (-9223372036854775808 ≤ n ∧ n ≤ 9223372036854775807) (vs (decS n))
  | _, _ => no⟩
theorem s_dec2 : Sound Tryz.prog 61 ctDecV := by
  intro args os hp
  unfold ctDecV at hp ⊢
  dsimp only at hp ⊢
  split at hp
  · rename_i n
    have h : -9223372036854775808 ≤ n ∧ n ≤ 9223372036854775807 := hp
    exact s_dec_all 2 [.one (.val (.int .i64 n))] [] (show _ ∧ _ ∧ _ from ⟨h.1, h.2, .inr (Nat.le_refl _)⟩)
  · exact hp.elim
theorem s_dec2_e : EnterOk Tryz.prog 61 := s_dec_e
end Go.Proofs.YtmnbgppmfbnamaaGreatDoor
