import Derived.Test.YtjedcphhajlnoaaDoorProg
import Derived.WalkKit
import Derived.Ground.NamesProg
import Derived.Shelf.Strings.SlTrimAscii
import Derived.Sort.Walk0
import Derived.Test.YtjedcphhajlnoaaDoorM5
set_option linter.unusedSimpArgs false
set_option linter.unusedVariables false
set_option linter.unusedSectionVars false
/- Functions: slices that are the same; the same pool. -/
namespace Go.Proofs.YtjedcphhajlnoaaDoor
open Go.RowKit

@[go_sem] theorem valsEq_cset (xn xf yn yf : ByteArray) (xk yk : Int) (x0 x1 x2 x3 x4 x5 x6 x7 x8 x9 x10 x11 x12 x13 x14 x15 x16 x17 x18 x19 x20 x21 x22 x23 x24 x25 x26 : Int) (y0 y1 y2 y3 y4 y5 y6 y7 y8 y9 y10 y11 y12 y13 y14 y15 y16 y17 y18 y19 y20 y21 y22 y23 y24 y25 y26 : Int) (xd yd : Bool) : valsEq [.string xn, .int .i64 xk, .string xf, .int .i64 x0, .int .i64 x1, .int .i64 x2, .int .i64 x3, .int .i64 x4, .int .i64 x5, .int .i64 x6, .int .i64 x7, .int .i64 x8, .int .i64 x9, .int .i64 x10, .int .i64 x11, .int .i64 x12, .int .i64 x13, .int .i64 x14, .int .i64 x15, .int .i64 x16, .int .i64 x17, .int .i64 x18, .int .i64 x19, .int .i64 x20, .int .i64 x21, .int .i64 x22, .int .i64 x23, .int .i64 x24, .int .i64 x25, .int .i64 x26, .bool xd] [.string yn, .int .i64 yk, .string yf, .int .i64 y0, .int .i64 y1, .int .i64 y2, .int .i64 y3, .int .i64 y4, .int .i64 y5, .int .i64 y6, .int .i64 y7, .int .i64 y8, .int .i64 y9, .int .i64 y10, .int .i64 y11, .int .i64 y12, .int .i64 y13, .int .i64 y14, .int .i64 y15, .int .i64 y16, .int .i64 y17, .int .i64 y18, .int .i64 y19, .int .i64 y20, .int .i64 y21, .int .i64 y22, .int .i64 y23, .int .i64 y24, .int .i64 y25, .int .i64 y26, .bool yd] = same (CSet.mk xn xk xf ⟨⟨x0, x1, x2⟩, ⟨x3, x4, x5⟩, ⟨x6, x7, x8⟩, ⟨x9, x10, x11⟩, ⟨x12, x13, x14⟩, ⟨x15, x16, x17⟩, ⟨x18, x19, x20⟩, ⟨x21, x22, x23⟩⟩ ⟨x24, x25, x26⟩ xd) (CSet.mk yn yk yf ⟨⟨y0, y1, y2⟩, ⟨y3, y4, y5⟩, ⟨y6, y7, y8⟩, ⟨y9, y10, y11⟩, ⟨y12, y13, y14⟩, ⟨y15, y16, y17⟩, ⟨y18, y19, y20⟩, ⟨y21, y22, y23⟩⟩ ⟨y24, y25, y26⟩ yd) := by
  rw [Bool.eq_iff_iff, same_true]
  simp only [valsEq, toList_same, Bool.and_eq_true, beq_iff_eq, same_true, CSet.mk.injEq, Eight.mk.injEq, Ptr.mk.injEq, and_assoc, and_true]
theorem ent_eq {x y : Ent} (h : Ptr.mk x.sum x.at_ x.count = Ptr.mk y.sum y.at_ y.count) : x = y := by
  simp only [Ptr.mk.injEq] at h
  obtain ⟨a, b, c⟩ := h
  cases x; cases y; simp_all
@[go_sem] noncomputable def ctEqualCset : Ct := ⟨false, [[some .cset], [some .cset]], fun args os => match args, os with
  | [.one (.isl .cset xs), .one (.isl .cset ys)], [] => ifp (xs.length ≤ 4000000) (vb (same xs ys))
  | _, _ => no⟩
@[go_sem] def sgEqualCset (xs ys : List CSet) (i : Nat) : Sg := ⟨[(13, vi i), (12, vi xs.length), (0, .one (.isl .cset xs)), (1, .one (.isl .cset ys))], [], []⟩
@[go_sem] noncomputable def ctEqualPtr : Ct := ⟨false, [[some .ptr], [some .ptr]], fun args os => match args, os with
  | [.one (.isl .ptr xs), .one (.isl .ptr ys)], [] => ifp (xs.length ≤ 4000000) (vb (same xs ys))
  | _, _ => no⟩
@[go_sem] def sgEqualPtr (xs ys : List Ptr) (i : Nat) : Sg := ⟨[(13, vi i), (12, vi xs.length), (0, .one (.isl .ptr xs)), (1, .one (.isl .ptr ys))], [], []⟩
@[go_sem] noncomputable def ctEqualEnt : Ct := ⟨false, [[some .ent], [some .ent]], fun args os => match args, os with
  | [.one (.isl .ent xs), .one (.isl .ent ys)], [] => ifp (xs.length ≤ 4000000) (vb (same xs ys))
  | _, _ => no⟩
@[go_sem] def sgEqualEnt (xs ys : List Ent) (i : Nat) : Sg := ⟨[(13, vi i), (12, vi xs.length), (0, .one (.isl .ent xs)), (1, .one (.isl .ent ys))], [], []⟩
@[go_sem] noncomputable def ctEqualInt : Ct := ⟨false, [[some .int], [some .int]], fun args os => match args, os with
  | [.one (.isl .int xs), .one (.isl .int ys)], [] => ifp (xs.length ≤ 4000000) (vb (same xs ys))
  | _, _ => no⟩
@[go_sem] def sgEqualInt (xs ys : List Int) (i : Nat) : Sg := ⟨[(13, vi i), (12, vi xs.length), (0, .one (.isl .int xs)), (1, .one (.isl .int ys))], [], []⟩
end Go.Proofs.YtjedcphhajlnoaaDoor
/- What is known in memory, and a store. -/
namespace Go.Proofs.YtjedcphhajlnoaaDoor
open Go.RowKit

/-- What is known in memory, and a store. -/
structure Co where
  txg : Int
  sets : List CSet
  ddt : List Ent
  parts : List Ptr
  dirty : Bool
  safe : List Int
  logn : Int
structure Pl where
  disk : Dk
  core : Co
  up : Bool
@[go_sem] def Co.small (c : Co) : Prop := c.sets.length ≤ 4000000 ∧ c.ddt.length ≤ 4000000 ∧ c.parts.length ≤ 4000000 ∧ c.safe.length ≤ 4000000
end Go.Proofs.YtjedcphhajlnoaaDoor
/- Functions of the exact laws: cores and pools. -/
namespace Go.Proofs.YtjedcphhajlnoaaDoor
open Go.RowKit

structure Co.inn (c : Co) : Prop where
  sets : inC c.sets
  ddt : c.ddt.length ≤ 9223372036854775807
  parts : c.parts.length ≤ 9223372036854775807
  safe : c.safe.length ≤ 9223372036854775807
def Co.wt (c : Co) : List Nat := wC c.sets ++ ([c.ddt.length] ++ ([c.parts.length] ++ [c.safe.length]))
@[go_sem] def Co.v (c : Co) (n : Nat) : TV := .agg [.val (.int .i64 c.txg), .osl .cset n 0 c.sets.length, .osl .ent (n + 1) 0 c.ddt.length, .osl .ptr (n + 2) 0 c.parts.length, .val (.bool c.dirty), .osl .int (n + 3) 0 c.safe.length, .val (.int .i64 c.logn)]
@[go_sem] def Co.objs (c : Co) : List Obj := [.arr .cset c.sets, .arr .ent c.ddt, .arr .ptr c.parts, .arr .int c.safe]
@[go_sem] def ctSzCore : Ct := ⟨false, [[none, some .cset, some .ent, some .ptr, none, some .int, none]], fun args os => match args, os with
  | [.agg [.val (.int .i64 x), .isl .cset cs, .isl .ent es, .isl .ptr ps, .val (.bool y), .isl .int zs, .val (.int .i64 u)], .one (.val (.int .i64 n))], [] => ifp ((Co.mk x cs es ps y zs u).inn ∧ 0 ≤ n ∧ n ≤ 1048576) (vi (szW (Co.mk x cs es ps y zs u).wt n))
  | _, _ => no⟩
def Pl.wt (p : Pl) : List Nat := p.disk.wt ++ p.core.wt
structure Pl.inn (p : Pl) : Prop where
  disk : p.disk.inn
  core : p.core.inn
@[go_sem] def ctSzPool : Ct := ⟨false, [[some .str, some .str, some .late, none, some .cset, some .ent, some .ptr, none, some .int, none, none]], fun args os => match args, os with
  | [.agg [.isl .str a, .isl .str b, .isl .late l, .val (.int .i64 x), .isl .cset cs, .isl .ent es, .isl .ptr ps, .val (.bool y), .isl .int zs, .val (.int .i64 u), .val (.bool o)], .one (.val (.int .i64 n))], [] => ifp ((Pl.mk ⟨a, b, l⟩ ⟨x, cs, es, ps, y, zs, u⟩ o).inn ∧ 0 ≤ n ∧ n ≤ 1048576) (vi (szW (Pl.mk ⟨a, b, l⟩ ⟨x, cs, es, ps, y, zs, u⟩ o).wt n))
  | _, _ => no⟩
theorem pool_small {p : Pl} {n : Int} (h : 0 ≤ szW p.wt n) : (p.disk.a.length ≤ n ∧ p.disk.b.length ≤ n ∧ p.disk.l.length ≤ n) ∧ p.core.sets.length ≤ n ∧ p.core.ddt.length ≤ n ∧ p.core.parts.length ≤ n ∧ p.core.safe.length ≤ n :=
  ⟨⟨szW_mem h (by simp [Pl.wt, Dk.wt, wS]), szW_mem h (by simp [Pl.wt, Dk.wt, wS]), szW_mem h (by simp [Pl.wt, Dk.wt, wL])⟩, szW_mem h (by simp [Pl.wt, Co.wt, wC]), szW_mem h (by simp [Pl.wt, Co.wt]), szW_mem h (by simp [Pl.wt, Co.wt]), szW_mem h (by simp [Pl.wt, Co.wt])⟩
@[go_sem] def ctToCore : Ct := ⟨false, [[none, some .cset, some .ent, some .ptr, none, some .int, none]], fun args os => match args, os with
  | [.agg [.val (.int .i64 x), .isl .cset cs, .isl .ent es, .isl .ptr ps, .val (.bool y), .isl .int zs, .val (.int .i64 u)]], [] => ⟨(Co.mk x cs es ps y zs u).small, (Co.mk x cs es ps y zs u).v 0, [], (Co.mk x cs es ps y zs u).objs⟩
  | _, _ => no⟩
@[go_sem] def Pl.v (p : Pl) : TV := .agg [.osl .str 0 0 p.disk.a.length, .osl .str 1 0 p.disk.b.length, .osl .late 2 0 p.disk.l.length, .val (.int .i64 p.core.txg), .osl .cset 3 0 p.core.sets.length, .osl .ent 4 0 p.core.ddt.length, .osl .ptr 5 0 p.core.parts.length, .val (.bool p.core.dirty), .osl .int 6 0 p.core.safe.length, .val (.int .i64 p.core.logn), .val (.bool p.up)]
@[go_sem] def Pl.objs (p : Pl) : List Obj := [.arr .str p.disk.a, .arr .str p.disk.b, .arr .late p.disk.l, .arr .cset p.core.sets, .arr .ent p.core.ddt, .arr .ptr p.core.parts, .arr .int p.core.safe]
def Pl.small (p : Pl) : Prop := p.disk.small ∧ p.core.small
@[go_sem] def ctToPool : Ct := ⟨false, [[some .str, some .str, some .late, none, some .cset, some .ent, some .ptr, none, some .int, none, none]], fun args os => match args, os with
  | [.agg [.isl .str a, .isl .str b, .isl .late l, .val (.int .i64 x), .isl .cset cs, .isl .ent es, .isl .ptr ps, .val (.bool y), .isl .int zs, .val (.int .i64 u), .val (.bool o)]], [] => ⟨(Pl.mk ⟨a, b, l⟩ ⟨x, cs, es, ps, y, zs, u⟩ o).small, (Pl.mk ⟨a, b, l⟩ ⟨x, cs, es, ps, y, zs, u⟩ o).v, [], (Pl.mk ⟨a, b, l⟩ ⟨x, cs, es, ps, y, zs, u⟩ o).objs⟩
  | _, _ => no⟩
@[go_sem] def ctEqCore : Ct := ⟨false, [[none, some .cset, some .ent, some .ptr, none, some .int, none], [none, some .cset, some .ent, some .ptr, none, some .int, none]], fun args os => match args, os with
  | [.agg [.val (.int .i64 x), .isl .cset cs, .isl .ent es, .isl .ptr ps, .val (.bool y), .isl .int zs, .val (.int .i64 u)], .agg [.val (.int .i64 x'), .isl .cset cs', .isl .ent es', .isl .ptr ps', .val (.bool y'), .isl .int zs', .val (.int .i64 u')]], [] => ifp ((x = x' ∧ cs = cs' ∧ es = es' ∧ ps = ps' ∧ y = y' ∧ zs = zs' ∧ u = u') ∧ (Co.mk x cs es ps y zs u).small) (vb true)
  | _, _ => no⟩
@[go_sem] def ctEqPool : Ct := ⟨false, [[some .str, some .str, some .late, none, some .cset, some .ent, some .ptr, none, some .int, none, none], [some .str, some .str, some .late, none, some .cset, some .ent, some .ptr, none, some .int, none, none]], fun args os => match args, os with
  | [.agg [.isl .str a, .isl .str b, .isl .late l, .val (.int .i64 x), .isl .cset cs, .isl .ent es, .isl .ptr ps, .val (.bool y), .isl .int zs, .val (.int .i64 u), .val (.bool o)], .agg [.isl .str a', .isl .str b', .isl .late l', .val (.int .i64 x'), .isl .cset cs', .isl .ent es', .isl .ptr ps', .val (.bool y'), .isl .int zs', .val (.int .i64 u'), .val (.bool o')]], [] =>
    ifp (((a = a' ∧ b = b' ∧ l = l') ∧ (x = x' ∧ cs = cs' ∧ es = es' ∧ ps = ps' ∧ y = y' ∧ zs = zs' ∧ u = u') ∧ o = o') ∧ (Pl.mk ⟨a, b, l⟩ ⟨x, cs, es, ps, y, zs, u⟩ o).small) (vb true)
  | _, _ => no⟩
end Go.Proofs.YtjedcphhajlnoaaDoor
/- Functions of the exact laws: the sets of a book, one by one. -/
namespace Go.Proofs.YtjedcphhajlnoaaDoor
open Go.RowKit

/-- Eight texts. -/
@[go_sem] def S8.cells (x : Eight ByteArray) : List Value := [.string x.x0, .string x.x1, .string x.x2, .string x.x3, .string x.x4, .string x.x5, .string x.x6, .string x.x7]
@[go_sem] def S8.ofCells (cs : List Value) : Eight ByteArray := ⟨Value.str (cell cs 0), Value.str (cell cs 1), Value.str (cell cs 2), Value.str (cell cs 3), Value.str (cell cs 4), Value.str (cell cs 5), Value.str (cell cs 6), Value.str (cell cs 7)⟩
@[go_sem] theorem s8_eta (x : Eight ByteArray) : (⟨x.x0, x.x1, x.x2, x.x3, x.x4, x.x5, x.x6, x.x7⟩ : Eight ByteArray) = x := rfl
@[go_sem] theorem bset_eta (x : BSet) : (⟨x.name, x.kind, x.from_, ⟨x.blocks.x0, x.blocks.x1, x.blocks.x2, x.blocks.x3, x.blocks.x4, x.blocks.x5, x.blocks.x6, x.blocks.x7⟩⟩ : BSet) = x := rfl
@[go_sem] theorem bset_eta2 (x : BSet) : (⟨x.name, x.kind, x.from_, x.blocks⟩ : BSet) = x := rfl
@[go_sem] def s8Of (cs : List TC) : Option (Eight ByteArray) := match plain cs with
  | some vs => if kindsOk [.str, .str, .str, .str, .str, .str, .str, .str] vs = true then some (S8.ofCells vs) else none
  | none => none
theorem s8_cells {vs : List Value} (h : kindsOk [.str, .str, .str, .str, .str, .str, .str, .str] vs = true) : S8.cells (S8.ofCells vs) = vs := by
  obtain ⟨a0, r0, rfl, h0⟩ := kStr h
  obtain ⟨a1, r1, rfl, h1⟩ := kStr h0
  obtain ⟨a2, r2, rfl, h2⟩ := kStr h1
  obtain ⟨a3, r3, rfl, h3⟩ := kStr h2
  obtain ⟨a4, r4, rfl, h4⟩ := kStr h3
  obtain ⟨a5, r5, rfl, h5⟩ := kStr h4
  obtain ⟨a6, r6, rfl, h6⟩ := kStr h5
  obtain ⟨a7, r7, rfl, h7⟩ := kStr h6
  obtain rfl := kNil h7
  rfl
theorem s8Of_some {cs : List TC} {x : Eight ByteArray} (h : s8Of cs = some x) : cs = (S8.cells x).map .val := by
  unfold s8Of at h
  split at h
  · rename_i vs hv
    split at h
    · rename_i hk
      simp only [Option.some.injEq] at h
      subst h
      rw [s8_cells hk]
      exact plain_val hv
    · cases h
  · cases h
@[go_sem] def bsetOf (cs : List TC) : Option (BSet) := match plain cs with
  | some vs => if kindsOk [.str, .int .i64, .str, .str, .str, .str, .str, .str, .str, .str, .str] vs = true then some (ET.bset.ofCells vs) else none
  | none => none
theorem bset_cells {vs : List Value} (h : kindsOk [.str, .int .i64, .str, .str, .str, .str, .str, .str, .str, .str, .str] vs = true) : ET.bset.cells (ET.bset.ofCells vs) = vs := by
  obtain ⟨a0, r0, rfl, h0⟩ := kStr h
  obtain ⟨a1, r1, rfl, h1⟩ := kInt h0
  obtain ⟨a2, r2, rfl, h2⟩ := kStr h1
  obtain ⟨a3, r3, rfl, h3⟩ := kStr h2
  obtain ⟨a4, r4, rfl, h4⟩ := kStr h3
  obtain ⟨a5, r5, rfl, h5⟩ := kStr h4
  obtain ⟨a6, r6, rfl, h6⟩ := kStr h5
  obtain ⟨a7, r7, rfl, h7⟩ := kStr h6
  obtain ⟨a8, r8, rfl, h8⟩ := kStr h7
  obtain ⟨a9, r9, rfl, h9⟩ := kStr h8
  obtain ⟨a10, r10, rfl, h10⟩ := kStr h9
  obtain rfl := kNil h10
  rfl
theorem bsetOf_some {cs : List TC} {x : BSet} (h : bsetOf cs = some x) : cs = (ET.bset.cells x).map .val := by
  unfold bsetOf at h
  split at h
  · rename_i vs hv
    split at h
    · rename_i hk
      simp only [Option.some.injEq] at h
      subst h
      rw [bset_cells hk]
      exact plain_val hv
    · cases h
  · cases h
@[go_sem] def s8mix (x : Eight ByteArray) (i : Nat) : List TC := ((S8.cells x).map .val).take i ++ ((S8.cells (Eight.rep ⟨#[]⟩)).map .val).drop i
@[go_sem] def ctToS8 : Ct := ⟨false, [], fun args os => match args, os with
  | [.agg cs], [] => (match s8Of cs with | some x => is (.agg ((S8.cells x).map .val)) | none => no)
  | _, _ => no⟩
@[go_sem] def sgS8 (x : Eight ByteArray) (i : Nat) : Sg := ⟨[(1, .one (.ptr 0 0)), (2, .one (.ptr 1 0)), (3, .one (.ptr 2 0)), (4, vi i)], [some (.cells ((S8.cells x).map .val)), some (.cells ((S8.cells (Eight.rep ⟨#[]⟩)).map .val)), some (.cells (s8mix x i))], []⟩
theorem s_toS8_e : EnterOk Tryd.prog 71 := ⟨_, Tryd.func71, rfl, by decide⟩
@[go_sem] def s_toS8_lv : List (List Nat) := [[1, 2], [1, 2, 3], [1, 2, 3, 4], [1, 2, 3, 4, 6], [1, 2, 3, 4], [1, 2, 3, 4], [2]]
@[go_sem] noncomputable def s_toS8_K : Known := Known.nil
set_option maxHeartbeats 8000000 in
theorem s_toS8 : Sound Tryd.prog 71 ctToS8 := by
  have ke := s_toS8_K.env []
  have kl : Lives s_toS8_lv := trivial
  refine sound_intro (E := ⟨ti, s_toS8_K.Γ, []⟩) ke Tryd.func71 Tryd.ntmps71 rfl (rs := [.cell 2 32]) rfl ?_
  intro args os hp
  unfold ctToS8 at hp ⊢
  dsimp only at hp ⊢
  split at hp
  · rename_i cs
    split at hp
    · rename_i x hx
      obtain rfl := s8Of_some hx
      clear hx hp
      refine ⟨by simp, fun φ0 w0 => ?_⟩
      refine goh trivial ?_
      refine W_le (σ' := sgS8 x 0) [some 0, some 1, some 2] (by
        simp only [go_sem, inj_r, ↓reduceIte, reduceCtorEq, Nat.reduceAdd, Nat.reduceLT, Nat.reduceLeDiff, Nat.reduceEqDiff, Int.reduceEq]
        all_goals (repeat' refine And.intro ?_ ?_) <;> try exact shut7
        ) ?_
      refine W_loop (fun q σ => ∃ i : Nat, i ≤ 8 ∧ q = 8 - i ∧ σ = sgS8 x i) 8 ⟨0, by omega, by omega, rfl⟩ ?_
      rintro q σ ⟨i, hi, rfl, rfl⟩
      unfold sgS8
      rcases (show i = 0 ∨ i = 1 ∨ i = 2 ∨ i = 3 ∨ i = 4 ∨ i = 5 ∨ i = 6 ∨ i = 7 ∨ i = 8 by omega) with hc | hc | hc | hc | hc | hc | hc | hc | hc
      all_goals try (
        refine goh hc ?_
        refine W_cnd ?_ ?_ <;> intro hlit <;> try (cases hlit; done)
        refine goh hc ?_
        refine ⟨8 - (i + 1), [some 0, some 1, some 2], sgS8 x (i + 1), by omega, ?_, i + 1, by omega, rfl, rfl⟩
        simp only [go_sem, hc, inj_r, ↓reduceIte, reduceCtorEq, Nat.reduceAdd, Nat.reduceLT, Nat.reduceLeDiff, Nat.reduceEqDiff, Int.reduceEq]
        all_goals (repeat' refine And.intro ?_ ?_) <;> try exact shut7
        done)
      refine goh hc ?_
      refine W_cnd ?_ ?_ <;> intro hlit <;> try (cases hlit; done)
      refine goh hc ?_
      exact finh [] trivial
    · simp [no] at hp
  · simp [no] at hp
@[go_sem] def ctEqS8 : Ct := ⟨false, [], fun args os => match args, os with
  | [.agg cs, .agg ds], [] => (match s8Of cs, s8Of ds with | some x, some y => ifp (x = y) (vb true) | _, _ => no)
  | _, _ => no⟩
@[go_sem] def sgR8 (x : Eight ByteArray) (i : Nat) : Sg := ⟨[(2, .one (.ptr 0 0)), (3, .one (.ptr 1 0)), (5, vi i)], [some (.cells ((S8.cells x).map .val)), some (.cells ((S8.cells x).map .val))], []⟩
theorem s_eqS8_e : EnterOk Tryd.prog 73 := ⟨_, Tryd.func73, rfl, by decide⟩
@[go_sem] def s_eqS8_lv : List (List Nat) := [[2, 3], [2, 3, 5], [2, 3, 5, 7], [2, 3, 5], [2, 3, 5, 16], [4], [4]]
@[go_sem] noncomputable def s_eqS8_K : Known := Known.nil
set_option maxHeartbeats 8000000 in
theorem s_eqS8 : Sound Tryd.prog 73 ctEqS8 := by
  have ke := s_eqS8_K.env []
  have kl : Lives s_eqS8_lv := trivial
  refine sound_intro (E := ⟨ti, s_eqS8_K.Γ, []⟩) ke Tryd.func73 Tryd.ntmps73 rfl (rs := [.tmp 4]) rfl ?_
  intro args os hp
  unfold ctEqS8 at hp ⊢
  dsimp only at hp ⊢
  split at hp
  · rename_i cs ds
    split at hp
    · rename_i x y hx hy
      obtain rfl := s8Of_some hx
      obtain rfl := s8Of_some hy
      obtain rfl : x = y := hp
      clear hx hy
      refine ⟨by simp, fun φ0 w0 => ?_⟩
      refine goh trivial ?_
      refine W_le (σ' := sgR8 x 0) [some 0, some 1] (by
        simp only [go_sem, inj_r, ↓reduceIte, reduceCtorEq, Nat.reduceAdd, Nat.reduceLT, Nat.reduceLeDiff, Nat.reduceEqDiff, Int.reduceEq]
        all_goals (repeat' refine And.intro ?_ ?_) <;> try exact shut7
        ) ?_
      refine W_loop (fun q σ => ∃ i : Nat, i ≤ 8 ∧ q = 8 - i ∧ σ = sgR8 x i) 8 ⟨0, by omega, by omega, rfl⟩ ?_
      rintro q σ ⟨i, hi, rfl, rfl⟩
      unfold sgR8
      rcases (show i = 0 ∨ i = 1 ∨ i = 2 ∨ i = 3 ∨ i = 4 ∨ i = 5 ∨ i = 6 ∨ i = 7 ∨ i = 8 by omega) with hc | hc | hc | hc | hc | hc | hc | hc | hc
      all_goals try (
        refine goh hc ?_
        refine W_cnd ?_ ?_ <;> intro hlit <;> try (cases hlit; done)
        refine goh hc ?_
        refine W_cnd ?_ ?_ <;> intro hlit <;> try (cases hlit; done)
        refine goh hc ?_
        refine ⟨8 - (i + 1), [some 0, some 1], sgR8 x (i + 1), by omega, ?_, i + 1, by omega, rfl, rfl⟩
        simp only [go_sem, hc, inj_r, ↓reduceIte, reduceCtorEq, Nat.reduceAdd, Nat.reduceLT, Nat.reduceLeDiff, Nat.reduceEqDiff, Int.reduceEq]
        all_goals (repeat' refine And.intro ?_ ?_) <;> try exact shut7
        done)
      refine goh hc ?_
      refine W_cnd ?_ ?_ <;> intro hlit <;> try (cases hlit; done)
      refine goh hc ?_
      exact finh [] trivial
    · simp [no] at hp
  · simp [no] at hp
@[go_sem] def ctToBset : Ct := ⟨false, [], fun args os => match args, os with
  | [.agg cs], [] => (match bsetOf cs with | some x => is (.agg ((ET.bset.cells x).map .val)) | none => no)
  | _, _ => no⟩
theorem s_toBset_e : EnterOk Tryd.prog 57 := ⟨_, Tryd.func57, rfl, by decide⟩
@[go_sem] def s_toBset_lv : List (List Nat) := [[1, 2], [1, 2, 3], [1, 2, 3], [1, 2, 3], [1, 2, 3], [2, 3], [2]]
@[go_sem] noncomputable def s_toBset_K : Known := (Known.nil).cons 71 ctToS8 s_toS8 s_toS8_e
set_option maxHeartbeats 8000000 in
theorem s_toBset : Sound Tryd.prog 57 ctToBset := by
  have ke := s_toBset_K.env []
  have kl : Lives s_toBset_lv := trivial
  refine sound_intro (E := ⟨ti, s_toBset_K.Γ, []⟩) ke Tryd.func57 Tryd.ntmps57 rfl (rs := [.cell 2 34]) rfl ?_
  intro args os hp
  unfold ctToBset at hp ⊢
  dsimp only at hp ⊢
  split at hp
  · rename_i cs
    split at hp
    · rename_i x hx
      obtain rfl := bsetOf_some hx
      clear hx hp
      refine ⟨by simp, fun φ0 w0 => ?_⟩
      refine goh trivial ?_
      exact finh [] trivial
    · simp [no] at hp
  · simp [no] at hp
@[go_sem] def ctEqBset : Ct := ⟨false, [], fun args os => match args, os with
  | [.agg cs, .agg ds], [] => (match bsetOf cs, bsetOf ds with | some x, some y => ifp (x = y) (vb true) | _, _ => no)
  | _, _ => no⟩
theorem s_eqBset_e : EnterOk Tryd.prog 60 := ⟨_, Tryd.func60, rfl, by decide⟩
@[go_sem] def s_eqBset_lv : List (List Nat) := [[2, 3], [2, 3, 9], [4], [2, 3, 14], [4], [2, 3, 19], [4], [25], [4], [4]]
@[go_sem] noncomputable def s_eqBset_K : Known := (Known.nil).cons 73 ctEqS8 s_eqS8 s_eqS8_e
set_option maxHeartbeats 8000000 in
theorem s_eqBset : Sound Tryd.prog 60 ctEqBset := by
  have ke := s_eqBset_K.env []
  have kl : Lives s_eqBset_lv := trivial
  refine sound_intro (E := ⟨ti, s_eqBset_K.Γ, []⟩) ke Tryd.func60 Tryd.ntmps60 rfl (rs := [.tmp 4]) rfl ?_
  intro args os hp
  unfold ctEqBset at hp ⊢
  dsimp only at hp ⊢
  split at hp
  · rename_i cs ds
    split at hp
    · rename_i x y hx hy
      obtain rfl := bsetOf_some hx
      obtain rfl := bsetOf_some hy
      obtain rfl : x = y := hp
      clear hx hy
      refine ⟨by simp, fun φ0 w0 => ?_⟩
      refine goh trivial ?_
      refine W_cnd ?_ ?_ <;> intro hlit <;> try (cases hlit; done)
      refine goh trivial ?_
      refine W_cnd ?_ ?_ <;> intro hlit <;> try (cases hlit; done)
      refine goh trivial ?_
      refine W_cnd ?_ ?_ <;> intro hlit <;> try (cases hlit; done)
      refine goh trivial ?_
      refine W_cnd ?_ ?_ <;> intro hlit <;> try (cases hlit; done)
      refine goh trivial ?_
      exact finh [] trivial
    · simp [no] at hp
  · simp [no] at hp
def w8 (x : Eight ByteArray) : List Nat := [x.x0.size, x.x1.size, x.x2.size, x.x3.size, x.x4.size, x.x5.size, x.x6.size, x.x7.size]
structure in8 (x : Eight ByteArray) : Prop where
  y0 : x.x0.size ≤ 9223372036854775807
  y1 : x.x1.size ≤ 9223372036854775807
  y2 : x.x2.size ≤ 9223372036854775807
  y3 : x.x3.size ≤ 9223372036854775807
  y4 : x.x4.size ≤ 9223372036854775807
  y5 : x.x5.size ≤ 9223372036854775807
  y6 : x.x6.size ≤ 9223372036854775807
  y7 : x.x7.size ≤ 9223372036854775807
@[go_sem] def ctSz8 : Ct := ⟨false, [], fun args os => match args, os with
  | [.agg cs, .one (.val (.int .i64 n))], [] => (match s8Of cs with | some x => ifp (in8 x ∧ 0 ≤ n ∧ n ≤ 1048576) (vi (szW (w8 x) n)) | none => no)
  | _, _ => no⟩
@[go_sem] def sgZ8 (x : Eight ByteArray) (n : Int) (i : Nat) : Sg := ⟨[(1, vi n), (2, .one (.ptr 0 0)), (5, vi i)], [some (.cells ((S8.cells x).map .val))], []⟩
theorem s_sz8_e : EnterOk Tryd.prog 70 := ⟨_, Tryd.func70, rfl, by decide⟩
@[go_sem] def s_sz8_lv : List (List Nat) := [[1, 2], [1, 2, 5], [1, 2, 5, 7], [1, 2, 5], [1, 2, 5], [1, 2, 5, 17], [4], [4]]
@[go_sem] noncomputable def s_sz8_K : Known := Known.nil
set_option maxHeartbeats 8000000 in
theorem s_sz8 : Sound Tryd.prog 70 ctSz8 := by
  have ke := s_sz8_K.env []
  have kl : Lives s_sz8_lv := trivial
  refine sound_intro (E := ⟨ti, s_sz8_K.Γ, []⟩) ke Tryd.func70 Tryd.ntmps70 rfl (rs := [.tmp 4]) rfl ?_
  intro args os hp
  unfold ctSz8 at hp ⊢
  dsimp only at hp ⊢
  split at hp
  · rename_i cs n
    split at hp
    · rename_i x hx
      obtain rfl := s8Of_some hx
      obtain ⟨⟨y0, y1, y2, y3, y4, y5, y6, y7⟩, h3, h4⟩ : in8 x ∧ 0 ≤ n ∧ n ≤ 1048576 := hp
      clear hx
      obtain ⟨R, hR⟩ : ∃ R, szW (w8 x) n = R := ⟨_, rfl⟩
      refine ⟨by simp, fun φ0 w0 => ?_⟩
      refine goh trivial ?_
      refine W_le (σ' := sgZ8 x n 0) [some 0] (by
        simp only [go_sem, inj_r, ↓reduceIte, reduceCtorEq, Nat.reduceAdd, Nat.reduceLT, Nat.reduceLeDiff, Nat.reduceEqDiff, Int.reduceEq]
        all_goals (repeat' refine And.intro ?_ ?_) <;> try exact shut7
        ) ?_
      refine W_loop (fun q σ => ∃ (i : Nat) (m : Int), i ≤ 8 ∧ q = 8 - i ∧ 0 ≤ m ∧ m ≤ 1048576 ∧ szW ((w8 x).drop i) m = R ∧ σ = sgZ8 x m i) 8 ⟨0, n, by omega, by omega, h3, h4, hR, rfl⟩ ?_
      rintro q σ ⟨i, m, hi, rfl, hm1, hm2, hs, rfl⟩
      unfold sgZ8
      have e0 : IntKind.i64.wrap (m - x.x0.size) = m - x.x0.size := wrap_id _ (by omega) (by omega)
      have e1 : IntKind.i64.wrap (m - x.x1.size) = m - x.x1.size := wrap_id _ (by omega) (by omega)
      have e2 : IntKind.i64.wrap (m - x.x2.size) = m - x.x2.size := wrap_id _ (by omega) (by omega)
      have e3 : IntKind.i64.wrap (m - x.x3.size) = m - x.x3.size := wrap_id _ (by omega) (by omega)
      have e4 : IntKind.i64.wrap (m - x.x4.size) = m - x.x4.size := wrap_id _ (by omega) (by omega)
      have e5 : IntKind.i64.wrap (m - x.x5.size) = m - x.x5.size := wrap_id _ (by omega) (by omega)
      have e6 : IntKind.i64.wrap (m - x.x6.size) = m - x.x6.size := wrap_id _ (by omega) (by omega)
      have e7 : IntKind.i64.wrap (m - x.x7.size) = m - x.x7.size := wrap_id _ (by omega) (by omega)
      rcases (show i < 8 ∨ i = 8 by omega) with hi8 | hc
      · rcases (show i = 0 ∨ i = 1 ∨ i = 2 ∨ i = 3 ∨ i = 4 ∨ i = 5 ∨ i = 6 ∨ i = 7 by omega) with hc | hc | hc | hc | hc | hc | hc | hc
        all_goals
          have hs2 := hs
          rw [hc] at hs2
          simp only [w8, List.drop_succ_cons, List.drop_zero] at hs2
          unfold szW at hs2
          refine goh hc ?_
          refine W_cnd ?_ ?_ <;> intro hlit <;> try (cases hlit; done)
          refine goh (And.intro hc (And.intro e0 (And.intro e1 (And.intro e2 (And.intro e3 (And.intro e4 (And.intro e5 (And.intro e6 e7)))))))) ?_
          refine W_cnd ?_ ?_ <;> (try simp only [cnd_r]) <;> intro hn
          · rw [if_pos hn] at hs2
            have hR2 : szW (w8 x) n = -1 := by rw [hR, ← hs2]
            refine goh trivial ?_
            exact finh [] hR2
          · rw [if_neg hn] at hs2
            refine goh hc ?_
            refine ⟨8 - (i + 1), [some 0], sgZ8 x _ (i + 1), by omega, ?_, i + 1, _, by omega, rfl, Int.not_lt.1 hn, by omega, ?_, rfl⟩
            · exact leh hc
            · rw [hc]; exact hs2
      · have hs2 := hs
        rw [hc] at hs2
        have hs3 : szW (w8 x) n = m := by rw [hR, ← hs2]; rfl
        refine goh hc ?_
        refine W_cnd ?_ ?_ <;> intro hlit <;> try (cases hlit; done)
        refine goh hc ?_
        exact finh [] hs3
    · simp [no] at hp
  · simp [no] at hp
def wB1 (x : BSet) : List Nat := x.name.size :: x.from_.size :: w8 x.blocks
structure inB1 (x : BSet) : Prop where
  name : x.name.size ≤ 9223372036854775807
  from_ : x.from_.size ≤ 9223372036854775807
  blocks : in8 x.blocks
@[go_sem] def ctSzBset : Ct := ⟨false, [], fun args os => match args, os with
  | [.agg cs, .one (.val (.int .i64 n))], [] => (match bsetOf cs with | some x => ifp (inB1 x ∧ 0 ≤ n ∧ n ≤ 1048576) (vi (szW (wB1 x) n)) | none => no)
  | _, _ => no⟩
theorem s_szBset_e : EnterOk Tryd.prog 54 := ⟨_, Tryd.func54, rfl, by decide⟩
@[go_sem] def s_szBset_lv : List (List Nat) := [[1, 2], [1, 2], [1, 2, 11], [4], [1, 2], [1, 2, 18], [4], [1], [1, 24], [4], [4]]
@[go_sem] noncomputable def s_szBset_K : Known := (Known.nil).cons 70 ctSz8 s_sz8 s_sz8_e
set_option maxHeartbeats 8000000 in
theorem s_szBset : Sound Tryd.prog 54 ctSzBset := by
  have ke := s_szBset_K.env []
  have kl : Lives s_szBset_lv := trivial
  refine sound_intro (E := ⟨ti, s_szBset_K.Γ, []⟩) ke Tryd.func54 Tryd.ntmps54 rfl (rs := [.tmp 4]) rfl ?_
  intro args os hp
  unfold ctSzBset at hp ⊢
  dsimp only at hp ⊢
  split at hp
  · rename_i cs n
    split at hp
    · rename_i x hx
      obtain rfl := bsetOf_some hx
      obtain ⟨⟨h1, h2, hb⟩, h3, h4⟩ : inB1 x ∧ 0 ≤ n ∧ n ≤ 1048576 := hp
      clear hx
      refine ⟨by simp, fun φ0 w0 => ?_⟩
      have e1 : IntKind.i64.wrap (n - x.name.size) = n - x.name.size := wrap_id _ (by omega) (by omega)
      have f1 : szW (wB1 x) n = if n - x.name.size < 0 then -1 else szW (x.from_.size :: w8 x.blocks) (n - x.name.size) := rfl
      refine goh e1 ?_
      refine W_cnd ?_ ?_ <;> (try simp only [cnd_r]) <;> intro hc
      · rw [if_pos hc] at f1
        refine goh trivial ?_
        exact finh [] f1
      · rw [if_neg hc] at f1
        have e2 : IntKind.i64.wrap (n - x.name.size - x.from_.size) = n - x.name.size - x.from_.size := wrap_id _ (by omega) (by omega)
        have f2 : szW (x.from_.size :: w8 x.blocks) (n - x.name.size) = if n - x.name.size - x.from_.size < 0 then -1 else szW (w8 x.blocks) (n - x.name.size - x.from_.size) := rfl
        refine goh e2 ?_
        refine W_cnd ?_ ?_ <;> (try simp only [cnd_r]) <;> intro hd
        · rw [if_pos hd] at f2
          have ez := f1.trans f2
          refine goh trivial ?_
          exact finh [] ez
        · rw [if_neg hd] at f2
          have ez := f1.trans f2
          have hin := szW_in (w8 x.blocks) (n - x.name.size - x.from_.size) (by omega)
          refine goh trivial ?_
          refine W_cnd ?_ ?_ <;> (try simp only [cnd_r]) <;> intro hn
          · have ez2 : szW (wB1 x) n = -1 := by rw [ez]; omega
            refine goh trivial ?_
            exact finh [] ez2
          · refine goh trivial ?_
            exact finh [] ez
    · simp [no] at hp
  · simp [no] at hp
end Go.Proofs.YtjedcphhajlnoaaDoor
/-
  DERIVED: THE SHELF's CONTRACTS AT THIS DUMP, IN PLAIN WORDS (tools/lay-plain.mjs out of 'YtjedcphhajlnoaaDoorTSh1Q.lean', which tools/lay-shelf.mjs wrote): THE SAME DECLARATIONS UNDER THE SAME NAMES: 'import', 'namespace', 'open', 'def', 'theorem' AND NOTHING ELSE: no command of the shelf's: FOR A HAND-IN. Each laying: the table of numbers ('.._ren') and one theorem, a field a fact of the dump's own or the kernel's comparison; each contract: ONE APPLICATION.
-/
namespace Go.Proofs
open Go.Shelf
def Tryd.lays160_ren : Go.Shelf.Ren := ⟨fun | 160 => 65 | 232 => 78 | 231 => 77 | 227 => 79 | 234 => 81 | 233 => 80 | 236 => 83 | 235 => 82 | 228 => 94 | 271 => 97 | 151 => 96 | 197 => 95 | 120 => 105 | 152 => 104 | 260 => 103 | 137 => 108 | 119 => 109 | 224 => 110 | 225 => 111 | 217 => 112 | 266 => 113 | n => n, fun | 9 => 9 | 4 => 4 | 3 => 3 | 5 => 5 | 117 => 101 | 116 => 100 | 0 => 0 | 124 => 104 | 21 => 21 | 105 => 117 | 46 => 77 | 119 => 128 | 139 => 131 | 138 => 130 | n => n, fun | 3 => 2 | 4 => 3 | n => n⟩
theorem Tryd.lays160 : Go.Proofs.Lays.n160 Tryd.prog Tryd.lays160_ren := {
  mixed := by kernel_rfl
  f119 := Tryd.func109.trans (congrArg some (by kernel_rfl))
  f120 := Tryd.func105.trans (congrArg some (by kernel_rfl))
  f137 := Tryd.func108.trans (congrArg some (by kernel_rfl))
  f151 := Tryd.func96.trans (congrArg some (by kernel_rfl))
  f152 := Tryd.func104.trans (congrArg some (by kernel_rfl))
  f160 := Tryd.func65.trans (congrArg some (by kernel_rfl))
  f197 := Tryd.func95.trans (congrArg some (by kernel_rfl))
  f217 := Tryd.func112.trans (congrArg some (by kernel_rfl))
  f224 := Tryd.func110.trans (congrArg some (by kernel_rfl))
  f225 := Tryd.func111.trans (congrArg some (by kernel_rfl))
  f227 := Tryd.func79.trans (congrArg some (by kernel_rfl))
  f228 := Tryd.func94.trans (congrArg some (by kernel_rfl))
  f231 := Tryd.func77.trans (congrArg some (by kernel_rfl))
  f232 := Tryd.func78.trans (congrArg some (by kernel_rfl))
  f233 := Tryd.func80.trans (congrArg some (by kernel_rfl))
  f234 := Tryd.func81.trans (congrArg some (by kernel_rfl))
  f235 := Tryd.func82.trans (congrArg some (by kernel_rfl))
  f236 := Tryd.func83.trans (congrArg some (by kernel_rfl))
  f260 := Tryd.func103.trans (congrArg some (by kernel_rfl))
  f266 := Tryd.func113.trans (congrArg some (by kernel_rfl))
  f271 := Tryd.func97.trans (congrArg some (by kernel_rfl))
  t0 := Tryd.underlying0
  a0 := Tryd.isAgg0
  z0 := Tryd.sizeOf0
  v0 := Tryd.zeroValue0
  t3 := Tryd.underlying3
  a3 := Tryd.isAgg3
  z3 := Tryd.sizeOf3
  v3 := Tryd.zeroValue3
  t4 := Tryd.underlying4
  a4 := Tryd.isAgg4
  z4 := Tryd.sizeOf4
  v4 := Tryd.zeroValue4
  t5 := Tryd.underlying5
  a5 := Tryd.isAgg5
  z5 := Tryd.sizeOf5
  v5 := Tryd.zeroValue5
  t9 := Tryd.underlying9
  a9 := Tryd.isAgg9
  z9 := Tryd.sizeOf9
  v9 := Tryd.zeroValue9
  t21 := Tryd.underlying21
  a21 := Tryd.isAgg21
  z21 := Tryd.sizeOf21
  v21 := Tryd.zeroValue21
  t46 := Tryd.underlying77
  a46 := Tryd.isAgg77
  z46 := Tryd.sizeOf77
  v46 := Tryd.zeroValue77
  t105 := Tryd.underlying117
  a105 := Tryd.isAgg117
  z105 := Tryd.sizeOf117
  v105 := Tryd.zeroValue117
  t116 := Tryd.underlying100
  a116 := Tryd.isAgg100
  z116 := Tryd.sizeOf100
  t117 := Tryd.underlying101
  a117 := Tryd.isAgg101
  z117 := Tryd.sizeOf101
  v117 := Tryd.zeroValue101
  t119 := Tryd.underlying128
  a119 := Tryd.isAgg128
  z119 := Tryd.sizeOf128
  t124 := Tryd.underlying104
  a124 := Tryd.isAgg104
  z124 := Tryd.sizeOf104
  v124 := Tryd.zeroValue104
  t138 := Tryd.underlying130
  a138 := Tryd.isAgg130
  z138 := Tryd.sizeOf130
  v138 := Tryd.zeroValue130
  t139 := Tryd.underlying131
  a139 := Tryd.isAgg131
  z139 := Tryd.sizeOf131
  v139 := Tryd.zeroValue131
  g3 := by kernel_rfl
  g4 := by kernel_rfl }
end Go.Proofs
/- strings.Trim at the small letters. -/
namespace Go.Proofs.YtjedcphhajlnoaaDoor
open Go.RowKit

def small : ByteArray := ⟨#[97, 98, 99, 100, 101, 102, 103, 104, 105, 106, 107, 108, 109, 110, 111, 112, 113, 114, 115, 116, 117, 118, 119, 120, 121, 122]⟩
def trimmed (s : ByteArray) : ByteArray := ⟨(Lib.trimS s.data.toList small.data.toList).toArray⟩
@[go_sem] def ctTrim : Ct := ⟨false, [], fun args os => match args, os with
  | [.one (.val (.string s)), .one (.val (.string c))], [] => ifp (s.size ≤ 9223372036854775807 ∧ c = small) (vs (trimmed s))
  | _, _ => no⟩
theorem s_trim_e : EnterOk Tryd.prog 65 := ⟨_, Tryd.func65, rfl, by decide⟩
theorem s_trim : Sound Tryd.prog 65 ctTrim := by
  refine sound_plain fun args os hp => ?_
  unfold ctTrim at hp ⊢
  dsimp only at hp ⊢
  split at hp
  · rename_i s c
    obtain ⟨hs, rfl⟩ : s.size ≤ 9223372036854775807 ∧ c = small := hp
    refine ⟨rfl, [.string s, .string small], .string (trimmed s), rfl, rfl, fun w _ => ?_⟩
    exact Any.strings_Trim_laid Tryd.lays160 (by kernel_rfl) s small w hs (by decide) (ascii_of_all (by decide))
  · exact hp.elim
end Go.Proofs.YtjedcphhajlnoaaDoor
/- Plain facts: names. -/
namespace Go.Proofs.YtjedcphhajlnoaaDoor
open Go.RowKit

def isLow (b : UInt8) : Bool := decide (97 ≤ b.toNat) && decide (b.toNat ≤ 122)
/-- Is it a name: one to six small letters. -/
def nameB (s : ByteArray) : Bool := (decide (1 ≤ s.size) && decide (s.size ≤ 6)) && s.data.toList.all isLow
theorem small_low : ∀ n : Fin 256, small.data.toList.contains (UInt8.ofNat n.val) = isLow (UInt8.ofNat n.val) := by decide +kernel
theorem small_low' (b : UInt8) : small.data.toList.contains b = isLow b := by
  have h := small_low ⟨b.toNat, b.toNat_lt⟩
  simpa using h
theorem dropWhile_nil {α : Type} (p : α → Bool) : ∀ l : List α, l.dropWhile p = [] ↔ l.all p = true
  | [] => by simp
  | a :: l => by
    rw [List.dropWhile_cons, List.all_cons]
    cases h : p a
    · simp
    · simpa using dropWhile_nil p l
theorem trimmed_nil (s : ByteArray) : trimmed s = ⟨#[]⟩ ↔ s.data.toList.all isLow = true := by
  have hp : (fun b => small.data.toList.contains b) = isLow := funext small_low'
  have hsub : ∀ l : List UInt8, (l.reverse.dropWhile isLow).reverse.all isLow = true → l.all isLow = true := by
    intro l h
    rw [List.all_reverse] at h
    have h2 : l.reverse.all isLow = true := by
      rw [← List.takeWhile_append_dropWhile (p := isLow) (l := l.reverse), List.all_append, h, Bool.and_true]
      exact List.all_takeWhile
    rwa [List.all_reverse] at h2
  have hback : ∀ l : List UInt8, l.all isLow = true → l.reverse.dropWhile isLow = [] := fun l h => (dropWhile_nil _ _).2 (by rwa [List.all_reverse])
  unfold trimmed Lib.trimS Lib.trimLeftS Lib.trimRightS
  rw [hp]
  constructor
  · intro h
    have h1 : ((s.data.toList.reverse.dropWhile isLow).reverse.dropWhile isLow) = [] := by
      have h2 := congrArg (fun x : ByteArray => x.data.toList) h
      simpa using h2
    exact hsub _ ((dropWhile_nil _ _).1 h1)
  · intro h
    rw [hback _ h]
    rfl
theorem all_low (s : ByteArray) : s.data.toList.all isLow = true ↔ ∀ j, j < s.size → isLow (s.data.getD j 0) = true := by
  rw [List.all_eq_true]
  constructor
  · intro h j hj
    have hj2 : j < s.data.size := hj
    have : s.data.getD j 0 = s.data[j] := dif_pos hj2
    rw [this]
    exact h _ (by simp)
  · intro h b hb
    obtain ⟨j, hj, rfl⟩ := List.getElem_of_mem hb
    have hj2 : j < s.data.size := by simpa using hj
    have h3 := h j hj2
    rw [show s.data.getD j 0 = s.data[j] from dif_pos hj2] at h3
    simpa using h3
theorem nameB_same (s : ByteArray) : nameB s = (if 1 ≤ (s.size : Int) ∧ (s.size : Int) ≤ 6 then same (trimmed s) ⟨#[]⟩ else false) := by
  have e : same (trimmed s) ⟨#[]⟩ = s.data.toList.all isLow := by
    rw [Bool.eq_iff_iff, same_true, trimmed_nil]
  unfold nameB
  rw [e]
  by_cases h : 1 ≤ (s.size : Int) ∧ (s.size : Int) ≤ 6
  · rw [if_pos h, decide_eq_true (show 1 ≤ s.size by omega), decide_eq_true (show s.size ≤ 6 by omega)]; rfl
  · rw [if_neg h, Bool.and_eq_false_iff]
    left
    rw [Bool.and_eq_false_iff, decide_eq_false_iff_not, decide_eq_false_iff_not]
    omega
theorem nameB_false {s : ByteArray} {i : Nat} (hi : i < s.size) (h : isLow (s.data.getD i 0) = false) : nameB s = false := by
  unfold nameB
  have : s.data.toList.all isLow = false := by
    rw [← Bool.not_eq_true, all_low]
    intro h2
    rw [h2 i hi] at h; cases h
  rw [this, Bool.and_false]
theorem nameB_low {s : ByteArray} (h : ∀ j, j < s.size → isLow (s.data.getD j 0) = true) : nameB s = (if (s.size : Int) > 0 then decide ((s.size : Int) ≤ 6) else false) := by
  unfold nameB
  rw [(all_low s).2 h, Bool.and_true]
  by_cases h1 : (s.size : Int) > 0
  · rw [if_pos h1, decide_eq_true (show 1 ≤ s.size by omega), Bool.true_and, decide_eq_decide]; omega
  · rw [if_neg h1, decide_eq_false (show ¬ 1 ≤ s.size by omega)]; rfl
end Go.Proofs.YtjedcphhajlnoaaDoor
/- Functions: names. -/
namespace Go.Proofs.YtjedcphhajlnoaaDoor
open Go.RowKit

@[go_sem] def ctName : Ct := ⟨false, [], fun args os => match args, os with
  | [.one (.val (.string s))], [] => ifp (s.size ≤ 9223372036854775807) (vb (nameB s))
  | _, _ => no⟩
theorem s_bookName_e : EnterOk Tryd.prog 44 := ⟨_, Tryd.func44, rfl, by decide⟩
@[go_sem] def s_bookName_lv : List (List Nat) := [[0], [2]]
@[go_sem] noncomputable def s_bookName_K : Known := ((Known.nil).cons 64 ctWithin s_within s_within_e).cons 65 ctTrim s_trim s_trim_e
set_option maxHeartbeats 8000000 in
theorem s_bookName : Sound Tryd.prog 44 ctName := by
  have ke := s_bookName_K.env []
  have kl : Lives s_bookName_lv := trivial
  refine sound_intro (E := ⟨ti, s_bookName_K.Γ, []⟩) ke Tryd.func44 Tryd.ntmps44 rfl (rs := [.tmp 2]) rfl ?_
  intro args os hp
  unfold ctName at hp ⊢
  dsimp only at hp ⊢
  split at hp
  · rename_i s
    refine ⟨by simp, fun φ0 w0 => ?_⟩
    have hs : s.size ≤ 9223372036854775807 := hp
    clear hp
    repeat' first
      | with_reducible refine red ?_
      | refine W_seq ?_
      | (refine W_reg (s_bookName_K.env []) s_bookName_lv fun K' hK' => ?_
         simp only [go_sem, small, ↓reduceIte, ↓reduceDIte, reduceCtorEq, Nat.reduceAdd, Nat.reduceMul, Nat.reduceSub, Nat.reduceDiv, Nat.reduceMod, Nat.reduceLT, Nat.reduceLeDiff, Nat.reduceEqDiff, Nat.reduceBEq, Int.reduceToNat, Int.reduceLE, Int.reduceLT, Int.reduceEq, Int.reduceNe, Int.reduceNeg]
         (repeat' refine And.intro ?_ ?_) <;> try first | with_reducible refine hK' ?_ | exact shut6)
      | with_reducible refine blockG_o (by decide) ?_
    refine ⟨by (simp only [go_sem, ↓reduceIte, reduceCtorEq, Nat.reduceAdd, Nat.reduceLT, Nat.reduceLeDiff, Nat.reduceEqDiff]) <;> trivial, [], ?_⟩
    all_goals try simp only [go_sem, inj_r, ↓reduceIte, reduceCtorEq, Nat.reduceAdd, Nat.reduceLT, Nat.reduceLeDiff, Nat.reduceEqDiff, Int.reduceEq]
    all_goals (repeat' refine And.intro ?_ ?_) <;> try exact shut7
    exact (nameB_same s).symm
  · simp [no, ifp] at hp
@[go_sem] def sgName (s : ByteArray) (i : Nat) : Sg := ⟨[(0, vs s), (3, vi i)], [], []⟩
theorem s_specName_e : EnterOk Tryd.prog 25 := ⟨_, Tryd.func25, rfl, by decide⟩
@[go_sem] def s_specName_lv : List (List Nat) := [[0], [0, 3], [0, 3, 7], [0, 3], [0, 3, 19], [2], [2]]
@[go_sem] noncomputable def s_specName_K : Known := Known.nil
set_option maxHeartbeats 8000000 in
theorem s_specName : Sound Tryd.prog 25 ctName := by
  have ke := s_specName_K.env []
  have kl : Lives s_specName_lv := trivial
  refine sound_intro (E := ⟨ti, s_specName_K.Γ, []⟩) ke Tryd.func25 Tryd.ntmps25 rfl (rs := [.tmp 2]) rfl ?_
  intro args os hp
  unfold ctName at hp ⊢
  dsimp only at hp ⊢
  split at hp
  · rename_i s
    refine ⟨by simp, fun φ0 w0 => ?_⟩
    have hs : s.size ≤ 9223372036854775807 := hp
    clear hp
    refine goh trivial ?_
    refine W_le (σ' := sgName s 0) [] (by
      simp only [go_sem, inj_r, ↓reduceIte, reduceCtorEq, Nat.reduceAdd, Nat.reduceLT, Nat.reduceLeDiff, Nat.reduceEqDiff, Int.reduceEq]
      all_goals (repeat' refine And.intro ?_ ?_) <;> try exact shut7
      ) ?_
    refine W_loop (fun q σ => ∃ i : Nat, i ≤ s.size ∧ q = s.size - i ∧ (∀ j, j < i → isLow (s.data.getD j 0) = true) ∧ σ = sgName s i) s.size ⟨0, by omega, by omega, by omega, rfl⟩ ?_
    rintro q σ ⟨i, hi, rfl, hbef, rfl⟩
    unfold sgName
    refine goh trivial ?_
    refine W_cnd ?_ ?_ <;> (try simp only [cnd_r]) <;> intro hlt
    · refine goh trivial ?_
      refine W_cnd ?_ ?_ <;> (try simp only [cnd_r]) <;> intro hc
      · have hl : isLow (s.data.getD i 0) = false := by
          unfold isLow
          rw [Bool.and_eq_false_iff, decide_eq_false_iff_not, decide_eq_false_iff_not]; omega
        have e := nameB_false (by omega) hl
        refine goh trivial ?_
        exact finh [] e
      · have hl : isLow (s.data.getD i 0) = true := by
          unfold isLow
          rw [Bool.and_eq_true, decide_eq_true_eq, decide_eq_true_eq]; omega
        refine goh trivial ?_
        refine ⟨s.size - (i + 1), [], sgName s (i + 1), by omega, ?_, i + 1, by omega, rfl, fun j hj => ?_, rfl⟩
        · exact leh trivial
        · rcases Nat.lt_succ_iff_lt_or_eq.1 hj with h | rfl
          · exact hbef j h
          · exact hl
    · have e := nameB_low (s := s) fun j hj => hbef j (by omega)
      refine goh trivial ?_
      exact finh [] e
  · simp [no, ifp] at hp
end Go.Proofs.YtjedcphhajlnoaaDoor
/- Plain facts: books. -/
namespace Go.Proofs.YtjedcphhajlnoaaDoor
open Go.RowKit

def long24 (t : ByteArray) : Bool := decide ((t.size : Int) > 24)
noncomputable def atB (xs : List BSet) (name : ByteArray) : Int := firstAt (fun x => same x.name name) xs
/-- The set of that name, or none. -/
noncomputable def setOf (xs : List BSet) (name : ByteArray) : BSet := xs.getD (atB xs name).toNat ET.bset.dflt
/-- Does following From lead to a volume without one, in so many rounds? -/
noncomputable def leadsN (xs : List BSet) : Nat → BSet → Bool
  | 0, _ => false
  | n + 1, s => if same s.from_ ⟨#[]⟩ = true then s.kind == 1 else if atB xs s.from_ < 0 ∨ (setOf xs s.from_).kind = s.kind then false else leadsN xs n (setOf xs s.from_)
def big8 (x : BSet) : Bool := [x.blocks.x0, x.blocks.x1, x.blocks.x2, x.blocks.x3, x.blocks.x4, x.blocks.x5, x.blocks.x6, x.blocks.x7].any long24
def lessB (a b : ByteArray) : Bool := Op.bytesLess a.toList b.toList
/-- The set of place i is well formed. -/
structure SetOk (xs : List BSet) (i : Nat) : Prop where
  name : nameB (xs.getD i ET.bset.dflt).name = true
  less : 0 < i → lessB (xs.getD (i - 1) ET.bset.dflt).name (xs.getD i ET.bset.dflt).name = true
  kind : (xs.getD i ET.bset.dflt).kind = 1 ∨ (xs.getD i ET.bset.dflt).kind = 2
  small : big8 (xs.getD i ET.bset.dflt) = false
structure BookP (xs : List BSet) : Prop where
  few : xs.length ≤ 6
  each : ∀ i, i < xs.length → SetOk xs i
  leads : xs.any (fun s => !leadsN xs xs.length s) = false
noncomputable def bookB (xs : List BSet) : Bool := @decide (BookP xs) (Classical.propDecidable _)
theorem bookB_true {xs : List BSet} : bookB xs = true ↔ BookP xs := by simp [bookB]
theorem bookB_false {xs : List BSet} : bookB xs = false ↔ ¬ BookP xs := by simp [bookB]
theorem bad_expr (A B k1 k2 G : Bool) (P : Prop) [Decidable P] : (if (if (if (!A) = true then true else if P then !B else false) = true then true else if k1 = true then k2 else false) = true then true else G) = false ↔ A = true ∧ (P → B = true) ∧ (k1 = false ∨ k2 = false) ∧ G = false := by
  by_cases h : P <;> cases A <;> cases B <;> cases k1 <;> cases k2 <;> cases G <;> simp [h]
end Go.Proofs.YtjedcphhajlnoaaDoor
/- Plain facts: books in order. -/
namespace Go.Proofs.YtjedcphhajlnoaaDoor
open Go.RowKit

theorem bl_irrefl : ∀ x : List UInt8, Op.bytesLess x x = false
  | [] => rfl
  | a :: x => by
    show (decide (a < a) || (a == a && Op.bytesLess x x)) = false
    rw [bl_irrefl x]; simp
theorem bl_trans : ∀ x y z : List UInt8, Op.bytesLess x y = true → Op.bytesLess y z = true → Op.bytesLess x z = true
  | [], [], z, h, _ => by simp [Op.bytesLess] at h
  | [], b :: y, [], _, h => by simp [Op.bytesLess] at h
  | [], b :: y, c :: z, _, _ => rfl
  | a :: x, [], z, h, _ => by simp [Op.bytesLess] at h
  | a :: x, b :: y, [], _, h => by simp [Op.bytesLess] at h
  | a :: x, b :: y, c :: z, h1, h2 => by
    simp only [Op.bytesLess, Bool.or_eq_true, Bool.and_eq_true, decide_eq_true_eq, beq_iff_eq] at h1 h2 ⊢
    rcases h1 with h1 | ⟨rfl, h1⟩
    · rcases h2 with h2 | ⟨rfl, h2⟩
      · exact .inl (by rw [UInt8.lt_iff_toNat_lt] at *; omega)
      · exact .inl h1
    · rcases h2 with h2 | ⟨rfl, h2⟩
      · exact .inl h2
      · exact .inr ⟨rfl, bl_trans x y z h1 h2⟩
theorem bl_total : ∀ x y : List UInt8, Op.bytesLess x y = true ∨ x = y ∨ Op.bytesLess y x = true
  | [], [] => .inr (.inl rfl)
  | [], _ :: _ => .inl rfl
  | _ :: _, [] => .inr (.inr rfl)
  | a :: x, b :: y => by
    simp only [Op.bytesLess, Bool.or_eq_true, Bool.and_eq_true, decide_eq_true_eq, beq_iff_eq]
    by_cases h : a < b
    · exact .inl (.inl h)
    · by_cases h2 : b < a
      · exact .inr (.inr (.inl h2))
      · have e : a = b := by
          rw [UInt8.lt_iff_toNat_lt] at h h2
          exact UInt8.toNat_inj.1 (by omega)
        subst e
        rcases bl_total x y with h3 | rfl | h3
        · exact .inl (.inr ⟨rfl, h3⟩)
        · exact .inr (.inl rfl)
        · exact .inr (.inr (.inr ⟨rfl, h3⟩))
theorem toList_inj {a b : ByteArray} (h : a.toList = b.toList) : a = b := by
  have := toList_same a b
  rw [h, beq_self_eq_true] at this
  exact same_true.1 this.symm
theorem less_irrefl (a : ByteArray) : lessB a a = false := bl_irrefl _
theorem less_trans {a b c : ByteArray} (h1 : lessB a b = true) (h2 : lessB b c = true) : lessB a c = true := bl_trans _ _ _ h1 h2
theorem less_total (a b : ByteArray) : lessB a b = true ∨ a = b ∨ lessB b a = true := by
  rcases bl_total a.toList b.toList with h | h | h
  · exact .inl h
  · exact .inr (.inl (toList_inj h))
  · exact .inr (.inr h)
/-- One name after the other. -/
structure Sorted (xs : List BSet) : Prop where
  next : ∀ i, 0 < i → i < xs.length → lessB (xs.getD (i - 1) ET.bset.dflt).name (xs.getD i ET.bset.dflt).name = true
theorem Sorted.lt {xs : List BSet} (h : Sorted xs) (i : Nat) : ∀ d, i + d + 1 < xs.length → lessB (xs.getD i ET.bset.dflt).name (xs.getD (i + d + 1) ET.bset.dflt).name = true
  | 0, hd => h.next (i + 1) (by omega) hd
  | d + 1, hd => less_trans (h.lt i d (by omega)) (h.next (i + (d + 1) + 1) (by omega) hd)
/-- How many names stand ahead. -/
def lowN (xs : List BSet) (name : ByteArray) : Nat := xs.findIdx fun s => !lessB s.name name
noncomputable def thereB (xs : List BSet) (name : ByteArray) : Bool := decide (lowN xs name < xs.length) && same (xs.getD (lowN xs name) ET.bset.dflt).name name
theorem lowN_le (xs : List BSet) (name : ByteArray) : lowN xs name ≤ xs.length := List.findIdx_le_length
theorem lowN_before {xs : List BSet} {name : ByteArray} {i : Nat} (h : i < lowN xs name) : lessB (xs.getD i ET.bset.dflt).name name = true := by
  have hl := lowN_le xs name
  have h1 := List.not_of_lt_findIdx (p := fun s : BSet => !lessB s.name name) h
  have h2 : xs.getD i ET.bset.dflt = xs[i]'(by omega) := by simp [show i < xs.length by omega]
  rw [h2]; simpa using h1
theorem lowN_at {xs : List BSet} {name : ByteArray} (h : lowN xs name < xs.length) : lessB (xs.getD (lowN xs name) ET.bset.dflt).name name = false := by
  have h1 := List.findIdx_getElem (p := fun s : BSet => !lessB s.name name) (w := h)
  have h2 : xs.getD (lowN xs name) ET.bset.dflt = xs[lowN xs name]'h := by simp [h]
  rw [h2]
  have h3 : (!lessB (xs[lowN xs name]'h).name name) = true := h1
  simpa using h3
theorem lowN_eq {xs : List BSet} {name : ByteArray} {i : Nat} (hi : i ≤ xs.length) (hb : ∀ j, j < i → lessB (xs.getD j ET.bset.dflt).name name = true) (hs : i = xs.length ∨ lessB (xs.getD i ET.bset.dflt).name name = false) : lowN xs name = i := by
  have hl := lowN_le xs name
  rcases Nat.lt_trichotomy (lowN xs name) i with h | h | h
  · have h1 := hb _ h
    rw [lowN_at (by omega)] at h1; cases h1
  · exact h
  · have h1 := lowN_before h
    rcases hs with hs | hs
    · omega
    · rw [hs] at h1; cases h1
/-- In order: the two ways to look a name up agree. -/
theorem at_low {xs : List BSet} (h : Sorted xs) (name : ByteArray) : (thereB xs name = true → atB xs name = lowN xs name) ∧ (thereB xs name = false → atB xs name < 0) := by
  have hl := lowN_le xs name
  constructor
  · intro ht
    unfold thereB at ht
    rw [Bool.and_eq_true, decide_eq_true_eq, same_true] at ht
    refine firstAt_some (d := ET.bset.dflt) ht.1 (fun j hj => ?_) (same_true.2 ht.2)
    rw [same_false]
    intro he
    have := lowN_before hj
    rw [he, less_irrefl] at this; cases this
  · intro ht
    have e : atB xs name = -1 := firstAt_none (d := ET.bset.dflt) fun j hj => by
      rw [same_false]
      intro he
      rcases Nat.lt_trichotomy j (lowN xs name) with hlt | hlt | hlt
      · have := lowN_before hlt
        rw [he, less_irrefl] at this; cases this
      · subst hlt
        have : thereB xs name = true := by
          unfold thereB
          rw [Bool.and_eq_true, decide_eq_true_eq, same_true]; exact ⟨hj, he⟩
        rw [this] at ht; cases ht
      · have h1 := lowN_at (xs := xs) (name := name) (by omega)
        have h2 := h.lt (lowN xs name) (j - lowN xs name - 1) (by omega)
        rw [show lowN xs name + (j - lowN xs name - 1) + 1 = j by omega, he] at h2
        rw [h2] at h1; cases h1
    rw [e]; decide
theorem pigeon : ∀ (n : Nat) (l : List Nat), l.Nodup → (∀ j ∈ l, j < n) → l.length ≤ n
  | 0, l, _, h => by
    cases l with
    | nil => exact Nat.le_refl _
    | cons a r => exact absurd (h a (by simp)) (Nat.not_lt_zero _)
  | n + 1, l, hd, h => by
    have h1 := pigeon n (l.erase n) (hd.erase n) (fun j hj => by
      have h2 := h j (List.mem_of_mem_erase hj)
      have h3 : j ≠ n := fun e => by subst e; exact hd.not_mem_erase hj
      omega)
    have h2 := List.length_erase (a := n) (l := l)
    split at h2 <;> omega
theorem leads_mono (xs : List BSet) : ∀ (n : Nat) (s : BSet), leadsN xs n s = true → leadsN xs (n + 1) s = true
  | 0, s, h => by simp [leadsN] at h
  | n + 1, s, h => by
    unfold leadsN at h ⊢
    split
    · rename_i hf; rw [if_pos hf] at h; exact h
    · rename_i hf
      rw [if_neg hf] at h
      split
      · rename_i hk; rw [if_pos hk] at h; exact h
      · rename_i hk
        rw [if_neg hk] at h
        exact leads_mono xs n _ h
theorem setOf_at (xs : List BSet) (name : ByteArray) (h : ¬ atB xs name < 0) : (atB xs name).toNat < xs.length := by
  unfold atB firstAt at h ⊢
  split at h
  · rename_i i hi
    rw [List.findIdx?_eq_some_iff_getElem] at hi
    obtain ⟨hi, -⟩ := hi
    simpa using hi
  · exact absurd (by decide) h
/-- Who needs so many rounds has so many sets ahead. -/
theorem leads_chain (xs : List BSet) : ∀ (m k : Nat), k < xs.length → leadsN xs (m + 1) (xs.getD k ET.bset.dflt) = true → leadsN xs m (xs.getD k ET.bset.dflt) = false →
    ∃ l : List Nat, l.length = m + 1 ∧ l.Nodup ∧ ∀ j ∈ l, j < xs.length ∧ leadsN xs (m + 1) (xs.getD j ET.bset.dflt) = true
  | 0, k, hk, h1, _ => ⟨[k], rfl, by simp, fun j hj => by rw [List.mem_singleton] at hj; subst hj; exact ⟨hk, h1⟩⟩
  | m + 1, k, hk, h1, h2 => by
    have h1' := h1
    have h2' := h2
    unfold leadsN at h1 h2
    by_cases hf : same (xs.getD k ET.bset.dflt).from_ ⟨#[]⟩ = true
    · rw [if_pos hf] at h1 h2
      rw [h1] at h2; cases h2
    · rw [if_neg hf] at h1 h2
      by_cases hc : atB xs (xs.getD k ET.bset.dflt).from_ < 0 ∨ (setOf xs (xs.getD k ET.bset.dflt).from_).kind = (xs.getD k ET.bset.dflt).kind
      · rw [if_pos hc] at h1; cases h1
      · rw [if_neg hc] at h1 h2
        have hj := setOf_at xs (xs.getD k ET.bset.dflt).from_ fun h => hc (.inl h)
        obtain ⟨l, l1, l2, l3⟩ := leads_chain xs m (atB xs (xs.getD k ET.bset.dflt).from_).toNat hj h1 h2
        refine ⟨k :: l, by simp [l1], ?_, fun j hj => ?_⟩
        · rw [List.nodup_cons]
          refine ⟨fun hm => ?_, l2⟩
          have := (l3 k hm).2
          rw [h2'] at this; cases this
        · rcases List.mem_cons.1 hj with rfl | hm
          · exact ⟨hk, h1'⟩
          · exact ⟨(l3 j hm).1, leads_mono xs _ _ (l3 j hm).2⟩
/-- One round more says no more. -/
theorem leads_more (xs : List BSet) (k : Nat) (hk : k < xs.length) : leadsN xs (xs.length + 1) (xs.getD k ET.bset.dflt) = leadsN xs xs.length (xs.getD k ET.bset.dflt) := by
  cases h : leadsN xs xs.length (xs.getD k ET.bset.dflt) with
  | true => exact leads_mono xs _ _ h
  | false =>
    rw [← Bool.not_eq_true]
    intro h2
    obtain ⟨l, l1, l2, l3⟩ := leads_chain xs xs.length k hk h2 h
    have := pigeon xs.length l l2 fun j hj => (l3 j hj).1
    omega
theorem there_lt {xs : List BSet} {name : ByteArray} (h : thereB xs name = true) : lowN xs name < xs.length ∧ (xs.getD (lowN xs name) ET.bset.dflt).name = name := by
  unfold thereB at h
  rw [Bool.and_eq_true, decide_eq_true_eq, same_true] at h
  exact h
theorem book_sorted {xs : List BSet} (h : BookP xs) : Sorted xs := ⟨fun i h0 hi => (h.each i hi).less h0⟩
end Go.Proofs.YtjedcphhajlnoaaDoor
