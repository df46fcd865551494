import Derived.Below
import Derived.ChangeOld
import Derived.OpenShut
import Derived.ProofKit
import Derived.ShutString
import Derived.Test.YtfmjgoeclilcnaaGreatDoorRows
import Derived.Test.YtfmjgoeclilcnaaGreatDoorM5
import Derived.Test.YtfmjgoeclilcnaaGreatDoorM7
import Derived.Test.YtfmjgoeclilcnaaGreatDoorM9
import Derived.Test.YtfmjgoeclilcnaaGreatDoorM11
import Derived.Test.YtfmjgoeclilcnaaGreatDoorM12
import Derived.Test.YtfmjgoeclilcnaaGreatDoorM14
import Derived.Test.YtfmjgoeclilcnaaGreatDoorM16
import Derived.Test.YtfmjgoeclilcnaaGreatDoorM18
set_option linter.unusedSimpArgs false
set_option linter.unusedVariables false
set_option linter.unusedSectionVars false
namespace Go.Proofs.YtfmjgoeclilcnaaGreatDoor
open Go.RowKit
theorem poolB_parts {p : Pl} (h : poolB p = true) : p.disk.ok = true ∧ 13 < p.disk.a.length ∧ CoreP p.core := by
 unfold poolB at h
 simp only [Bool.and_eq_true, decide_eq_true_eq] at h
 exact ⟨h.1, h.2.1, Co.ok_true.1 h.2.2⟩
end Go.Proofs.YtfmjgoeclilcnaaGreatDoor
namespace Go.Proofs.YtfmjgoeclilcnaaGreatDoor
open Go.RowKit
@[go_sem] def ctFlushP : Ct := ⟨true, [], fun args os => match args, os with
  | [.one (.ptr 0 0)], [.cells [.osl .str 1 0 na, .osl .str 2 0 nb, .osl .late 3 0 nl, .val (.int .i64 x), .osl .cset 4 0 n1, .osl .ent 5 0 n2, .osl .ptr 6 0 n3, .val (.bool y), .osl .int 7 0 n4, .val (.int .i64 u), .val (.bool o)], .arr .str a, .arr .str b, .arr .late l, .arr .cset cs, .arr .ent es, .arr .ptr ps, .arr .int zs] =>
    ⟨(Dk.mk a b l).ok = true ∧ na = a.length ∧ nb = b.length ∧ nl = l.length, .tup [], [(0, some (.cells [.osl .str 1 0 na, .osl .str 2 0 nb, .val (.slice none 0 0), .val (.int .i64 x), .osl .cset 4 0 n1, .osl .ent 5 0 n2, .osl .ptr 6 0 n3, .val (.bool y), .osl .int 7 0 n4, .val (.int .i64 u), .val (.bool o)])), (1, some (.arr .str (Dk.mk a b l).flushed.a)), (2, some (.arr .str (Dk.mk a b l).flushed.b))], []⟩
  | _, _ => no⟩
theorem s_flushP_e : EnterOk Tryz.prog 41 := ⟨_, Tryz.func41, rfl, by decide⟩
@[go_sem] def s_flushP_lv : List (List Nat) := [[0, 7, 8, 9], [0, 7, 8, 9, 10], [0, 3, 7, 8, 9], [0, 7, 8, 9], [0, 7, 8, 9], []]
@[go_sem] noncomputable def s_flushP_K : Known := Known.nil
set_option maxHeartbeats 8000000 in
theorem s_flushP : Sound Tryz.prog 41 ctFlushP := by
 have ke := s_flushP_K.env []
 have kl : Lives s_flushP_lv := trivial
 refine sound_intro (E := ⟨ti, s_flushP_K.Γ, []⟩) ke Tryz.func41 Tryz.ntmps41 rfl (rs := []) rfl ?_
 intro args os hp
 unfold ctFlushP at hp ⊢
 dsimp only at hp ⊢
 split at hp
 ·rename_i na nb nl x n1 n2 n3 y n4 u o a b l cs es ps zs
  refine ⟨by simp, fun φ0 w0 => ?_⟩
  obtain ⟨hok, rfl, rfl, rfl⟩ : (Dk.mk a b l).ok = true ∧ na = a.length ∧ nb = b.length ∧ nl = l.length := hp
  have e3 : a.length ≤ 120 ∧ b.length ≤ 120 ∧ l.length ≤ 600 := Dk.ok_small hok
  have hz := Dk.done_zero (Dk.mk a b l)
  refine goh trivial ?_
  refine W_for l.length (fun i => True) (fun i => ⟨[(0, .one (.ptr 0 0)), (7, .one (.osl .late 3 0 l.length)), (8, vi l.length), (9, vi i)],
   [some (.cells [.osl .str 1 0 ((Dk.mk a b l).done i).1.length, .osl .str 2 0 ((Dk.mk a b l).done i).2.length, .osl .late 3 0 l.length, .val (.int .i64 x), .osl .cset 4 0 n1, .osl .ent 5 0 n2, .osl .ptr 6 0 n3, .val (.bool y), .osl .int 7 0 n4, .val (.int .i64 u), .val (.bool o)]), some (.arr .str ((Dk.mk a b l).done i).1), some (.arr .str ((Dk.mk a b l).done i).2), some (.arr .late l), some (.arr .cset cs), some (.arr .ent es), some (.arr .ptr ps), some (.arr .int zs)], [0, 1, 2]⟩) [some 0, some 1, some 2, some 3, some 4, some 5, some 6, some 7] (leh hz) trivial fun i hi _ => ?_
  obtain ⟨hl1, hl2⟩ := (Dk.mk a b l).done_len i
  simp only at hl1 hl2
  refine goh trivial ?_
  refine W_cnd ?_ ?_ <;> (try simp only [cnd_r]) <;> intro hlt
  ·have hi' : i < l.length := by omega
   obtain ⟨ws, w1, w2, w3⟩ := Dk.ok_late hok i hi'
   have hd := (Dk.mk a b l).done_succ i hi'
   obtain ⟨-, -, hab, -⟩ := (Dk.ok_iff _).1 hok
   simp only at ws w1 w2 w3 hd hab
   generalize hx : (Dk.mk a b l).done i = x at *
   generalize hw : l.getD i ET.late.dflt = w at *
   obtain ⟨s, k, t⟩ := w
   simp only at ws w1 w2 w3
   rcases ws with rfl | rfl
   all_goals
    refine goh hw ?_
    refine ⟨[some 0, some 1, some 2, some 3, some 4, some 5, some 6, some 7], by omega, ?_, trivial⟩
    rw [hd]
    simp only [go_sem, putW, List.length_set, inj_r, ↓reduceIte, reduceCtorEq, Nat.reduceAdd, Nat.reduceLT, Nat.reduceLeDiff, Nat.reduceEqDiff, Int.reduceEq]
    all_goals (repeat' refine And.intro ?_ ?_) <;> try exact shut7
  ·have : i = l.length := by omega
   subst this
   have e4 : (Dk.mk a b l).flushed = ⟨((Dk.mk a b l).done l.length).1, ((Dk.mk a b l).done l.length).2, []⟩ := rfl
   refine goh trivial ?_
   exact finh [some 0, some 1, some 2, some 3, some 4, some 5, some 6, some 7] e4
 ·simp [no] at hp
theorem poolB_disk {p : Pl} (h : poolB p = true) : p.disk.ok = true := (poolB_parts h).1
theorem Dk.flushed_len (d : Dk) : d.flushed.a.length = d.a.length ∧ d.flushed.b.length = d.b.length ∧ d.flushed.l = [] := ⟨(d.done_len d.l.length).1, (d.done_len d.l.length).2, rfl⟩
end Go.Proofs.YtfmjgoeclilcnaaGreatDoor
namespace Go.Proofs.YtfmjgoeclilcnaaGreatDoor
open Go.ChangeShapes Go.WideShapes Go.ChangeAt Go.RowKit
theorem own : ownKnob Tryz.prog.godebug = none := by kernel_rfl
theorem laidOut : laidOutB Tryz.prog = true := by kernel_rfl
def phi0 : Phi := ⟨fun _ => none, fun _ => False⟩
theorem not_own0 {b : Nat} : ¬ Own phi0 (tabOf []) b := fun ⟨k, base, h, _⟩ => by simp [tabOf] at h
theorem rel0 (w : World) (hg : GloOk0 w) : Rel phi0 (tabOf []) w := ⟨fun k o h => by simp [tabOf] at h, fun k _ _ _ _ h _ _ _ => by simp [tabOf] at h, fun b h => h.elim, fun q hq => ⟨fun ⟨k, _, h, _⟩ => h (by simp [tabOf]), hg q hq⟩⟩
theorem post_below {w w' : World} {n : Nat} {s : St} {e : Ending} (h : Post phi0 (tabOf []) w n s e w') : ∃ r φ', e = .returned r ∧ VR φ' (newT (tabOf []) n s) w' s.v r ∧ Below w.heap.size w w' := by
 obtain ⟨r, φ', h1, h2, -, hg, -⟩ := h
 exact ⟨r, φ', h1, h2, hg.os, hg.tape, hg.output, hg.size, fun b hb => hg.block b hb not_own0⟩
end Go.Proofs.YtfmjgoeclilcnaaGreatDoor
namespace Go.Proofs.YtfmjgoeclilcnaaGreatDoor
open Go.RowKit
def lq {α β : Type} (f : α → β) (xs : List α) (o : List β) (i : Nat) : List β := o ++ (xs.take i).map f
theorem lq_zero {α β : Type} (f : α → β) (xs : List α) (o : List β) : lq f xs o 0 = o := by simp [lq]
theorem lq_succ {α β : Type} (f : α → β) {xs : List α} (o : List β) {i : Nat} (d : α) (h : i < xs.length) : lq f xs o (i + 1) = lq f xs o i ++ [f (xs.getD i d)] := by
 unfold lq
 rw [List.take_add_one, List.map_append, List.getElem?_eq_getElem h, show xs.getD i d = xs[i] by simp [h], ← List.append_assoc]; rfl
theorem lq_all {α β : Type} (f : α → β) (xs : List α) (o : List β) : lq f xs o xs.length = o ++ xs.map f := by unfold lq; rw [List.take_length]
theorem lq_len {α β : Type} (f : α → β) (xs : List α) (o : List β) (i : Nat) : (lq f xs o i).length ≤ o.length + xs.length := by
 unfold lq
 rw [List.length_append, List.length_map, List.length_take]; omega
def entQ (e : Ent) : Ptr := ⟨e.at_, e.sum, 0⟩
def allC (c : Co) (r : Ptr) : List Ptr := ([r] ++ c.sets.map (·.home) ++ c.parts) ++ c.ddt.map entQ
noncomputable def scrubV (d : Dk) : List Ptr := if (riseV d).2 = 0 then allC (riseV d).1 (bestR d 8).2 else []
noncomputable def scrubP (p : Pl) : List Ptr := if poolB p = true then (if p.up = true then scrubV p.disk else []) else []
theorem rise_best {d : Dk} (h : (riseV d).2 = 0) : (bestR d 8).1 > 0 := by
 unfold riseV at h
 split at h
 ·split at h
  ·assumption
  ·cases h
 ·cases h
theorem rise_few (d : Dk) : (riseV d).1.sets.length ≤ 48 ∧ (riseV d).1.ddt.length ≤ 48 ∧ (riseV d).1.parts.length ≤ 48 := by
 have nil : Co.nil.sets.length ≤ 48 ∧ Co.nil.ddt.length ≤ 48 ∧ Co.nil.parts.length ≤ 48 := ⟨by decide, by decide, by decide⟩
 unfold riseV
 split
 ·split
  ·unfold riseT
   split
   ·split
    ·unfold riseW
     split
     ·rename_i h
      rw [Bool.and_eq_true] at h
      obtain ⟨h1, h2, h3⟩ := core_few h.2
      unfold riseC at h1 h2 h3
      simp only at h1 h2 h3
      exact ⟨by simp only; omega, by simp only; omega, by simp only; omega⟩
     ·exact nil
    ·exact nil
   ·exact nil
  ·exact nil
 ·exact nil
theorem allC_len (c : Co) (r : Ptr) : (allC c r).length = 1 + c.sets.length + c.parts.length + c.ddt.length := by
 unfold allC
 simp
 omega
theorem scrubV_len (d : Dk) : (scrubV d).length ≤ 145 := by
 unfold scrubV
 split
 ·have := rise_few d
  rw [allC_len]; omega
 ·simp
theorem scrubP_len (p : Pl) : (scrubP p).length ≤ 145 := by
 unfold scrubP
 split
 ·split
  ·exact scrubV_len _
  ·simp
 ·simp
noncomputable def sndN (d : Dk) (xs : List Ptr) : Nat → Int
 | 0 => 0
 | i + 1 => (sndN d xs i + if blkSide d (xs.getD i ET.ptr.dflt) 0 = true then 1 else 0) + if blkSide d (xs.getD i ET.ptr.dflt) 1 = true then 1 else 0
theorem sndN_in (d : Dk) (xs : List Ptr) : ∀ i, 0 ≤ sndN d xs i ∧ sndN d xs i ≤ 2 * i
 | 0 => ⟨Int.le_refl _, Int.le_refl _⟩
 | i + 1 => by
   have := sndN_in d xs i
   unfold sndN
   split <;> split <;> omega
noncomputable def scN (d : Dk) (xs : List Ptr) : Nat → Dk × Int × Int
 | 0 => (d, 0, 0)
 | i + 1 => ((blkHeal (scN d xs i).1 (xs.getD i ET.ptr.dflt)).1,
     if (blkHeal (scN d xs i).1 (xs.getD i ET.ptr.dflt)).2 ≠ 0 then (scN d xs i).2.1 else if (blkSide (scN d xs i).1 (xs.getD i ET.ptr.dflt) 0 != blkSide (scN d xs i).1 (xs.getD i ET.ptr.dflt) 1) = true then (scN d xs i).2.1 + 1 else (scN d xs i).2.1,
     if (blkHeal (scN d xs i).1 (xs.getD i ET.ptr.dflt)).2 ≠ 0 then (scN d xs i).2.2 + 1 else (scN d xs i).2.2)
theorem heal_ok {d : Dk} (h : d.ok = true) (p : Ptr) : (blkHeal d p).1.ok = true := by
 unfold blkHeal
 rw [if_pos h]
 split
 ·exact h
 ·split
  ·rename_i hm; exact Dk.add_ok h hm
  ·exact h
theorem scN_ok {d : Dk} (h : d.ok = true) (xs : List Ptr) : ∀ i, (scN d xs i).1.ok = true
 | 0 => h
 | i + 1 => heal_ok (scN_ok h xs i) _
theorem scN_in (d : Dk) (xs : List Ptr) : ∀ i, (0 ≤ (scN d xs i).2.1 ∧ (scN d xs i).2.1 ≤ i) ∧ 0 ≤ (scN d xs i).2.2 ∧ (scN d xs i).2.2 ≤ i
 | 0 => ⟨⟨Int.le_refl _, Int.le_refl _⟩, Int.le_refl _, Int.le_refl _⟩
 | i + 1 => by
   have := scN_in d xs i
   unfold scN
   simp only
   refine ⟨?_, ?_⟩
   ·split
    ·omega
    ·split <;> omega
   ·split <;> omega
noncomputable def scrubD (p : Pl) : Pl × Int × Int :=
 if poolB p = true then (⟨(scN p.disk (scrubP p) (scrubP p).length).1.flushed, p.core, p.up⟩, (scN p.disk (scrubP p) (scrubP p).length).2.1, (scN p.disk (scrubP p) (scrubP p).length).2.2) else (.nil, 0, 0)
noncomputable def sndV (p : Pl) : Int × Int := (sndN p.disk (scrubP p) (scrubP p).length, 2 * (scrubP p).length)
end Go.Proofs.YtfmjgoeclilcnaaGreatDoor
namespace Go.Proofs.YtfmjgoeclilcnaaGreatDoor
open Go.RowKit
@[go_sem] def ctAllC : Ct := ⟨false, [[none, some .cset, some .ent, some .ptr, none, some .int, none]], fun args os => match args, os with
  | [.agg [.val (.int .i64 x), .isl .cset cs, .isl .ent es, .isl .ptr ps, .val (.bool y), .isl .int zs, .val (.int .i64 u)], .agg [.val (.int .i64 ra), .val (.int .i64 rs), .val (.int .i64 rb)]], [] =>
    ⟨(Co.mk x cs es ps y zs u).small, .one (.osl .ptr 0 0 (allC ⟨x, cs, es, ps, y, zs, u⟩ ⟨ra, rs, rb⟩).length), [], [.arr .ptr (allC ⟨x, cs, es, ps, y, zs, u⟩ ⟨ra, rs, rb⟩)]⟩
  | _, _ => no⟩
theorem s_allC_e : EnterOk Tryz.prog 77 := ⟨_, Tryz.func77, rfl, by decide⟩
@[go_sem] def s_allC_lv : List (List Nat) := [[2, 3], [2, 5], [2, 5, 6], [2, 5, 6, 14], [2, 5, 6], [2, 5, 6], [2, 5], [2, 5, 7], [2, 5, 7, 34], [2, 5, 7], [2, 5, 7], [4]]
@[go_sem] noncomputable def s_allC_K : Known := Known.nil
set_option maxHeartbeats 8000000 in
theorem s_allC : Sound Tryz.prog 77 ctAllC := by
 have ke := s_allC_K.env []
 have kl : Lives s_allC_lv := trivial
 refine sound_intro (E := ⟨ti, s_allC_K.Γ, []⟩) ke Tryz.func77 Tryz.ntmps77 rfl (rs := [.tmp 4]) rfl ?_
 intro args os hp
 unfold ctAllC at hp ⊢
 dsimp only at hp ⊢
 split at hp
 ·rename_i x cs es ps y zs u ra rs rb
  refine ⟨by simp, fun φ0 w0 => ?_⟩
  obtain ⟨h1, h2, h3, h4⟩ : (Co.mk x cs es ps y zs u).small := hp
  simp only at h1 h2 h3 h4
  obtain ⟨E, hE⟩ : ∃ E : Nat → List Ptr, E = lq (·.home) cs [⟨ra, rs, rb⟩] := ⟨_, rfl⟩
  have t0 : E 0 = [⟨ra, rs, rb⟩] := by rw [hE]; exact lq_zero ..
  have tl : ∀ i, (E i).length ≤ 1 + cs.length := fun i => by rw [hE]; exact lq_len ..
  obtain ⟨F, hF⟩ : ∃ F : Nat → List Ptr, F = lq entQ es (E cs.length ++ ps) := ⟨_, rfl⟩
  have u0 : F 0 = E cs.length ++ ps := by rw [hF]; exact lq_zero ..
  have ul : ∀ i, (F i).length ≤ (E cs.length ++ ps).length + es.length := fun i => by rw [hF]; exact lq_len ..
  have hall : allC ⟨x, cs, es, ps, y, zs, u⟩ ⟨ra, rs, rb⟩ = F es.length := by rw [hF, lq_all, hE, lq_all]; rfl
  refine goh trivial ?_
  refine W_for cs.length (fun i => True) (fun i => ⟨[(2, .one (.ptr 0 0)), (5, .one (.osl .ptr 1 0 (E i).length)), (6, vi i)], [some (.cells [.val (.int .i64 x), .isl .cset cs, .isl .ent es, .isl .ptr ps, .val (.bool y), .isl .int zs, .val (.int .i64 u)]), some (.arr .ptr (E i))], []⟩) [some 0, some 2] (leh t0) trivial fun i hi hI => ?_
  have hel := tl i
  refine goh trivial ?_
  refine W_cnd ?_ ?_ <;> (try simp only [cnd_r]) <;> intro hlt
  ·have hi' : i < cs.length := by omega
   have hms : E (i + 1) = E i ++ [(cs.getD i ET.cset.dflt).home] := by rw [hE]; exact lq_succ _ _ _ hi'
   have hla : (E i ++ [(cs.getD i ET.cset.dflt).home]).length = (E i).length + 1 := by simp
   obtain ⟨s, hs0⟩ : ∃ s, cs.getD i ET.cset.dflt = s := ⟨_, rfl⟩
   rw [hs0] at hms hla
   obtain ⟨nm, kd, fr, ⟨⟨ka0, kb0, kc0⟩, ⟨ka1, kb1, kc1⟩, ⟨ka2, kb2, kc2⟩, ⟨ka3, kb3, kc3⟩, ⟨ka4, kb4, kc4⟩, ⟨ka5, kb5, kc5⟩, ⟨ka6, kb6, kc6⟩, ⟨ka7, kb7, kc7⟩⟩, ⟨pa, pb, pc⟩, dt⟩ := s
   have tE : (E i).take (E i).length = E i := List.take_length
   refine goh (And.intro hs0 tE) ?_
   exact ⟨[some 0, some 3], by omega, leh (And.intro hms hla), trivial⟩
  obtain rfl : i = cs.length := by omega
  have tE : (E cs.length).take (E cs.length).length = E cs.length := List.take_length
  have tp : ps.take ps.length = ps := List.take_length
  have hap : (E cs.length ++ ps).length = (E cs.length).length + ps.length := List.length_append
  refine goh (And.intro tE tp) ?_
  refine W_for es.length (fun i => True) (fun i => ⟨[(2, .one (.ptr 0 0)), (5, .one (.osl .ptr 1 0 (F i).length)), (7, vi i)], [some (.cells [.val (.int .i64 x), .isl .cset cs, .isl .ent es, .isl .ptr ps, .val (.bool y), .isl .int zs, .val (.int .i64 u)]), some (.arr .ptr (F i))], []⟩) [some 0, some 2] (leh (And.intro u0 hap)) trivial fun i hi hI => ?_
  have hfl := ul i
  refine goh trivial ?_
  refine W_cnd ?_ ?_ <;> (try simp only [cnd_r]) <;> intro hlt
  ·have hi' : i < es.length := by omega
   have hms : F (i + 1) = F i ++ [entQ (es.getD i ET.ent.dflt)] := by rw [hF]; exact lq_succ _ _ _ hi'
   have hla : (F i ++ [entQ (es.getD i ET.ent.dflt)]).length = (F i).length + 1 := by simp
   obtain ⟨s, hs0⟩ : ∃ s, es.getD i ET.ent.dflt = s := ⟨_, rfl⟩
   rw [hs0] at hms hla
   obtain ⟨ea, eb, ec⟩ := s
   have tF : (F i).take (F i).length = F i := List.take_length
   refine goh (And.intro hs0 tF) ?_
   exact ⟨[some 0, some 3], by omega, leh (And.intro hms hla), trivial⟩
  obtain rfl : i = es.length := by omega
  refine goh trivial ?_
  exact finh [some 1] hall
 ·simp [no] at hp
@[go_sem] noncomputable def ctScrubbed : Ct := ⟨false, [[some .str, some .str, some .late]], fun args os => match args, os with
  | [.agg [.isl .str a, .isl .str b, .isl .late l]], [] => ⟨(Dk.mk a b l).small, .one (.osl .ptr 0 0 (scrubV ⟨a, b, l⟩).length), [], [.arr .ptr (scrubV ⟨a, b, l⟩)]⟩
  | _, _ => no⟩
theorem s_scrubbed_e : EnterOk Tryz.prog 78 := ⟨_, Tryz.func78, rfl, by decide⟩
@[go_sem] def s_scrubbed_lv : List (List Nat) := [[1], [1, 3, 4], [1, 3, 19], [2], [3, 6], [3, 8], [3, 8, 29, 30, 31], [3, 8, 29, 30, 31, 32], [3, 8, 10, 29, 30, 31], [3, 8, 29, 30, 31], [3, 8, 29, 30, 31], [3, 8], [8, 46, 47, 48], [8, 46, 47, 48, 49], [8, 12, 46, 47, 48], [8, 46, 47, 48], [8, 46, 47, 48], [2]]
@[go_sem] noncomputable def s_scrubbed_K : Known := ((Known.nil).cons 17 ctRise s_rise s_rise_e).cons 55 ctBest s_best s_best_e
set_option maxHeartbeats 8000000 in
theorem s_scrubbed : Sound Tryz.prog 78 ctScrubbed := by
 have ke := s_scrubbed_K.env []
 have kl : Lives s_scrubbed_lv := trivial
 refine sound_intro (E := ⟨ti, s_scrubbed_K.Γ, []⟩) ke Tryz.func78 Tryz.ntmps78 rfl (rs := [.tmp 2]) rfl ?_
 intro args os hp
 unfold ctScrubbed at hp ⊢
 dsimp only at hp ⊢
 split at hp
 ·rename_i a b l
  refine ⟨by simp, fun φ0 w0 => ?_⟩
  obtain ⟨s1, s2, s3⟩ : a.length ≤ 4000000 ∧ b.length ≤ 4000000 ∧ l.length ≤ 4000000 := hp
  obtain ⟨d, hd⟩ : ∃ d, Dk.mk a b l = d := ⟨_, rfl⟩
  obtain ⟨h1, h2, h3⟩ := rise_few d
  have e0 : scrubV d = if (riseV d).2 = 0 then allC (riseV d).1 (bestR d 8).2 else [] := rfl
  obtain ⟨⟨⟨x, cs, es, ps, y, zs, u⟩, code⟩, hr⟩ : ∃ z, riseV d = z := ⟨_, rfl⟩
  obtain ⟨⟨bx, ⟨ra, rs, rb⟩⟩, hb⟩ : ∃ z, bestR d 8 = z := ⟨_, rfl⟩
  rw [hr] at h1 h2 h3
  rw [hr, hb] at e0
  simp only at h1 h2 h3 e0
  by_cases hc : code = 0
  rotate_left
  ·have c2 : (code != 0) = true := by simpa using hc
   rw [if_neg hc] at e0
   refine goh (And.intro hd (And.intro hr c2)) ?_
   refine W_cnd ?_ ?_ <;> intro hlit <;> try (cases hlit; done)
   refine goh trivial ?_
   exact finh [none] (And.intro hd e0)
  subst hc
  rw [if_pos rfl] at e0
  obtain ⟨E, hE⟩ : ∃ E : Nat → List Ptr, E = lq (·.home) cs [⟨ra, rs, rb⟩] := ⟨_, rfl⟩
  have t0 : E 0 = [⟨ra, rs, rb⟩] := by rw [hE]; exact lq_zero ..
  have tl : ∀ i, (E i).length ≤ 1 + cs.length := fun i => by rw [hE]; exact lq_len ..
  obtain ⟨F, hF⟩ : ∃ F : Nat → List Ptr, F = lq entQ es (E cs.length ++ ps) := ⟨_, rfl⟩
  have u0 : F 0 = E cs.length ++ ps := by rw [hF]; exact lq_zero ..
  have ul : ∀ i, (F i).length ≤ (E cs.length ++ ps).length + es.length := fun i => by rw [hF]; exact lq_len ..
  have hall : allC ⟨x, cs, es, ps, y, zs, u⟩ ⟨ra, rs, rb⟩ = F es.length := by rw [hF, lq_all, hE, lq_all]; rfl
  rw [hall] at e0
  refine goh (And.intro hd hr) ?_
  refine W_cnd ?_ ?_ <;> intro hlit <;> try (cases hlit; done)
  refine goh (And.intro hd hb) ?_
  refine W_for cs.length (fun i => True) (fun i => ⟨[(3, .one (.ptr 4 0)), (8, .one (.osl .ptr 5 0 (E i).length)), (29, .one (.osl .cset 0 0 cs.length)), (30, vi cs.length), (31, vi i)], [some (.arr .cset cs), some (.arr .ent es), some (.arr .ptr ps), some (.arr .int zs), some (.cells [.val (.int .i64 x), .osl .cset 0 0 cs.length, .osl .ent 1 0 es.length, .osl .ptr 2 0 ps.length, .val (.bool y), .osl .int 3 0 zs.length, .val (.int .i64 u)]), some (.arr .ptr (E i))], []⟩) [some 1, some 2, some 3, some 4, some 5, some 7] (leh t0) trivial fun i hi hI => ?_
  have hel := tl i
  refine goh trivial ?_
  refine W_cnd ?_ ?_ <;> (try simp only [cnd_r]) <;> intro hlt
  ·have hi' : i < cs.length := by omega
   have hms : E (i + 1) = E i ++ [(cs.getD i ET.cset.dflt).home] := by rw [hE]; exact lq_succ _ _ _ hi'
   have hla : (E i ++ [(cs.getD i ET.cset.dflt).home]).length = (E i).length + 1 := by simp
   obtain ⟨s, hs0⟩ : ∃ s, cs.getD i ET.cset.dflt = s := ⟨_, rfl⟩
   rw [hs0] at hms hla
   obtain ⟨nm, kd, fr, ⟨⟨ka0, kb0, kc0⟩, ⟨ka1, kb1, kc1⟩, ⟨ka2, kb2, kc2⟩, ⟨ka3, kb3, kc3⟩, ⟨ka4, kb4, kc4⟩, ⟨ka5, kb5, kc5⟩, ⟨ka6, kb6, kc6⟩, ⟨ka7, kb7, kc7⟩⟩, ⟨pa, pb, pc⟩, dt⟩ := s
   have tE : (E i).take (E i).length = E i := List.take_length
   refine goh (And.intro hs0 tE) ?_
   exact ⟨[some 0, some 1, some 2, some 3, some 4, some 8], by omega, leh (And.intro hms hla), trivial⟩
  obtain rfl : i = cs.length := by omega
  have tE : (E cs.length).take (E cs.length).length = E cs.length := List.take_length
  have tp : ps.take ps.length = ps := List.take_length
  have hap : (E cs.length ++ ps).length = (E cs.length).length + ps.length := List.length_append
  refine goh (And.intro tE tp) ?_
  refine W_for es.length (fun i => True) (fun i => ⟨[(8, .one (.osl .ptr 1 0 (F i).length)), (46, .one (.osl .ent 0 0 es.length)), (47, vi es.length), (48, vi i)], [some (.arr .ent es), some (.arr .ptr (F i))], []⟩) [some 1, some 6] (leh (And.intro u0 hap)) trivial fun i hi hI => ?_
  have hfl := ul i
  refine goh trivial ?_
  refine W_cnd ?_ ?_ <;> (try simp only [cnd_r]) <;> intro hlt
  ·have hi' : i < es.length := by omega
   have hms : F (i + 1) = F i ++ [entQ (es.getD i ET.ent.dflt)] := by rw [hF]; exact lq_succ _ _ _ hi'
   have hla : (F i ++ [entQ (es.getD i ET.ent.dflt)]).length = (F i).length + 1 := by simp
   obtain ⟨s, hs0⟩ : ∃ s, es.getD i ET.ent.dflt = s := ⟨_, rfl⟩
   rw [hs0] at hms hla
   obtain ⟨ea, eb, ec⟩ := s
   have tF : (F i).take (F i).length = F i := List.take_length
   refine goh (And.intro hs0 tF) ?_
   exact ⟨[some 0, some 4], by omega, leh (And.intro hms hla), trivial⟩
  obtain rfl : i = es.length := by omega
  refine goh trivial ?_
  exact finh [some 1] (And.intro hd e0)
 ·simp [no] at hp
@[go_sem] noncomputable def ctScrubAll : Ct := ⟨false, [[some .str, some .str, some .late, none, some .cset, some .ent, some .ptr, none, some .int, none, none]], fun args os => match args, os with
  | [.agg [.isl .str a, .isl .str b, .isl .late l, .val (.int .i64 x), .isl .cset cs, .isl .ent es, .isl .ptr ps, .val (.bool y), .isl .int zs, .val (.int .i64 u), .val (.bool o)]], [] => ⟨(Pl.mk ⟨a, b, l⟩ ⟨x, cs, es, ps, y, zs, u⟩ o).fit, .one (.osl .ptr 0 0 (scrubP ⟨⟨a, b, l⟩, ⟨x, cs, es, ps, y, zs, u⟩, o⟩).length), [], [.arr .ptr (scrubP ⟨⟨a, b, l⟩, ⟨x, cs, es, ps, y, zs, u⟩, o⟩)]⟩
  | _, _ => no⟩
theorem s_scrubAll_e : EnterOk Tryz.prog 26 := ⟨_, Tryz.func26, rfl, by decide⟩
@[go_sem] def s_scrubAll_lv : List (List Nat) := [[1], [1, 10], [2], [2]]
@[go_sem] noncomputable def s_scrubAll_K : Known := ((Known.nil).cons 37 ctPoolOk s_poolOk s_poolOk_e).cons 78 ctScrubbed s_scrubbed s_scrubbed_e
set_option maxHeartbeats 8000000 in
theorem s_scrubAll : Sound Tryz.prog 26 ctScrubAll := by
 have ke := s_scrubAll_K.env []
 have kl : Lives s_scrubAll_lv := trivial
 refine sound_intro (E := ⟨ti, s_scrubAll_K.Γ, []⟩) ke Tryz.func26 Tryz.ntmps26 rfl (rs := [.tmp 2]) rfl ?_
 intro args os hp
 unfold ctScrubAll at hp ⊢
 dsimp only at hp ⊢
 split at hp
 ·rename_i a b l x cs es ps y zs u o
  refine ⟨by simp, fun φ0 w0 => ?_⟩
  obtain ⟨⟨g1, g2, g3⟩, hf⟩ : (Pl.mk ⟨a, b, l⟩ ⟨x, cs, es, ps, y, zs, u⟩ o).fit := hp
  simp only at g1 g2 g3 hf
  have nt : (!true) = false := rfl
  have nf : (!false) = true := rfl
  cases hc : poolB ⟨⟨a, b, l⟩, ⟨x, cs, es, ps, y, zs, u⟩, o⟩ with
  | false =>
    have e : scrubP ⟨⟨a, b, l⟩, ⟨x, cs, es, ps, y, zs, u⟩, o⟩ = [] := by unfold scrubP; rw [if_neg (by rw [hc]; decide)]
    refine goh (And.intro hc (And.intro nf hf)) ?_
    refine W_cnd ?_ ?_ <;> intro hlit <;> try (cases hlit; done)
    refine goh trivial ?_
    exact finh [none] e
  | true =>
    cases o with
    | false =>
      have e : scrubP ⟨⟨a, b, l⟩, ⟨x, cs, es, ps, y, zs, u⟩, false⟩ = [] := by unfold scrubP; rw [if_pos hc, if_neg Bool.false_ne_true]
      refine goh (And.intro hc (And.intro nf (And.intro nt hf))) ?_
      refine W_cnd ?_ ?_ <;> intro hlit <;> try (cases hlit; done)
      refine goh trivial ?_
      exact finh [none] e
    | true =>
      have e : scrubP ⟨⟨a, b, l⟩, ⟨x, cs, es, ps, y, zs, u⟩, true⟩ = scrubV ⟨a, b, l⟩ := by unfold scrubP; rw [if_pos hc, if_pos rfl]
      refine goh (And.intro hc (And.intro nt hf)) ?_
      refine W_cnd ?_ ?_ <;> intro hlit <;> try (cases hlit; done)
      refine goh trivial ?_
      exact finh [some 1] e
 ·simp [no] at hp
theorem s_specScrubAll_e : EnterOk Tryz.prog 25 := ⟨_, Tryz.func25, rfl, by decide⟩
@[go_sem] def s_specScrubAll_lv : List (List Nat) := [[1], [1, 4, 5], [1, 4, 5, 6, 7], [4, 6, 36], [2], [2]]
@[go_sem] noncomputable def s_specScrubAll_K : Known := ((((Known.nil).cons 45 ctBest s_specBest s_specBest_e).cons 15 ctRise s_specRise s_specRise_e).cons 31 ctPoolOk s_specPoolOk s_specPoolOk_e).cons 77 ctAllC s_allC s_allC_e
set_option maxHeartbeats 8000000 in
theorem s_specScrubAll : Sound Tryz.prog 25 ctScrubAll := by
 have ke := s_specScrubAll_K.env []
 have kl : Lives s_specScrubAll_lv := trivial
 refine sound_intro (E := ⟨ti, s_specScrubAll_K.Γ, []⟩) ke Tryz.func25 Tryz.ntmps25 rfl (rs := [.tmp 2]) rfl ?_
 intro args os hp
 unfold ctScrubAll at hp ⊢
 dsimp only at hp ⊢
 split at hp
 ·rename_i a b l x cs es ps y zs u o
  refine ⟨by simp, fun φ0 w0 => ?_⟩
  obtain ⟨⟨g1, g2, g3⟩, hf⟩ : (Pl.mk ⟨a, b, l⟩ ⟨x, cs, es, ps, y, zs, u⟩ o).fit := hp
  simp only at g1 g2 g3 hf
  have nt : (!true) = false := rfl
  have nf : (!false) = true := rfl
  obtain ⟨d, hd⟩ : ∃ d, Dk.mk a b l = d := ⟨_, rfl⟩
  obtain ⟨h1, h2, h3⟩ := rise_few d
  have h4 := (mid_rise d).4
  have e0 : scrubV d = if (riseV d).2 = 0 then allC (riseV d).1 (bestR d 8).2 else [] := rfl
  have e1 := rise_best (d := d)
  obtain ⟨⟨⟨x', cs', es', ps', y', zs', u'⟩, code⟩, hr⟩ : ∃ z, riseV d = z := ⟨_, rfl⟩
  obtain ⟨⟨bx, ⟨ra, rs, rb⟩⟩, hb⟩ : ∃ z, bestR d 8 = z := ⟨_, rfl⟩
  rw [hr] at h1 h2 h3 h4
  rw [hr, hb] at e0 e1
  simp only at h1 h2 h3 h4 e0 e1
  cases hc : poolB ⟨⟨a, b, l⟩, ⟨x, cs, es, ps, y, zs, u⟩, o⟩ with
  | false =>
    have e : scrubP ⟨⟨a, b, l⟩, ⟨x, cs, es, ps, y, zs, u⟩, o⟩ = [] := by unfold scrubP; rw [if_neg (by rw [hc]; decide)]
    rw [hd] at hc e
    refine goh (And.intro hd (And.intro hb (And.intro hr (And.intro hc (And.intro nf hf))))) ?_
    refine W_cnd ?_ ?_ <;> intro hlit <;> try (cases hlit; done)
    refine goh trivial ?_
    exact finh [some 7] (And.intro hd e)
  | true =>
    cases o with
    | false =>
      have e : scrubP ⟨⟨a, b, l⟩, ⟨x, cs, es, ps, y, zs, u⟩, false⟩ = [] := by unfold scrubP; rw [if_pos hc, if_neg Bool.false_ne_true]
      rw [hd] at hc e
      refine goh (And.intro hd (And.intro hb (And.intro hr (And.intro hc (And.intro nf (And.intro nt hf)))))) ?_
      refine W_cnd ?_ ?_ <;> intro hlit <;> try (cases hlit; done)
      refine goh trivial ?_
      exact finh [some 7] (And.intro hd e)
    | true =>
      have e : scrubP ⟨⟨a, b, l⟩, ⟨x, cs, es, ps, y, zs, u⟩, true⟩ = scrubV d := by unfold scrubP; rw [if_pos hc, if_pos rfl, ← hd]
      rw [hd] at hc e
      by_cases hk : code = 0
      rotate_left
      ·rw [if_neg hk] at e0
       have c2 : (code != 0) = true := by simpa using hk
       by_cases hx : bx > 0
       ·have c1 : decide (bx > 0) = true := decide_eq_true hx
        refine goh (And.intro hd (And.intro hb (And.intro hr (And.intro hc (And.intro nf (And.intro nt (And.intro hf (And.intro c1 c2)))))))) ?_
        refine W_cnd ?_ ?_ <;> intro hlit <;> try (cases hlit; done)
        refine goh trivial ?_
        exact finh [some 7] (And.intro hd (And.intro e e0))
       ·have c1 : decide (bx > 0) = false := decide_eq_false hx
        refine goh (And.intro hd (And.intro hb (And.intro hr (And.intro hc (And.intro nf (And.intro nt (And.intro hf (And.intro c1 c2)))))))) ?_
        refine W_cnd ?_ ?_ <;> intro hlit <;> try (cases hlit; done)
        refine goh trivial ?_
        exact finh [some 7] (And.intro hd (And.intro e e0))
      subst hk
      rw [if_pos rfl] at e0
      have c1 : decide (bx > 0) = true := decide_eq_true (e1 rfl)
      have hsm : (Co.mk x' cs' es' ps' y' zs' u').small := ⟨by simp only; omega, by simp only; omega, by simp only; omega, by simp only; omega⟩
      refine goh (And.intro hd (And.intro hb (And.intro hr (And.intro hc (And.intro nf (And.intro nt (And.intro hf c1))))))) ?_
      refine W_cnd ?_ ?_ <;> intro hlit <;> try (cases hlit; done)
      refine goh hsm ?_
      exact finh [some 7] (And.intro hd (And.intro e e0))
 ·simp [no] at hp
end Go.Proofs.YtfmjgoeclilcnaaGreatDoor
namespace Go.Proofs.YtfmjgoeclilcnaaGreatDoor
open Go.RowKit
theorem Pl.inn.fit {a b : List ByteArray} {l : List Late} {x : Int} {cs : List CSet} {es : List Ent} {ps : List Ptr} {y : Bool} {zs : List Int} {u : Int} {o : Bool} (h : (Pl.mk ⟨a, b, l⟩ ⟨x, cs, es, ps, y, zs, u⟩ o).inn) {n : Int} (hn : n ≤ 1048576) (hs : 0 ≤ szW (Pl.mk ⟨a, b, l⟩ ⟨x, cs, es, ps, y, zs, u⟩ o).wt n) :
  (a.length ≤ 1048576 ∧ b.length ≤ 1048576 ∧ l.length ≤ 1048576) ∧ (cs.length ≤ 1048576 ∧ es.length ≤ 1048576 ∧ ps.length ≤ 1048576 ∧ zs.length ≤ 1048576) ∧ (Co.mk x cs es ps y zs u).fit := by
 have h1 := pool_small hs
 simp only at h1
 refine ⟨by omega, by omega, ⟨⟨by simp only; omega, by simp only; omega, by simp only; omega, by simp only; omega⟩, fun i => ?_⟩⟩
 obtain ⟨-, h2⟩ := h.core.sets
 exact ⟨(h2 i).1, (h2 i).2⟩
end Go.Proofs.YtfmjgoeclilcnaaGreatDoor
namespace Go.Proofs.YtfmjgoeclilcnaaGreatDoor
open Go.RowKit
attribute [go_sem] markC_idem
def Pl.mid (p : Pl) : Prop := (p.disk.a.length ≤ 1100000 ∧ p.disk.b.length ≤ 1100000 ∧ p.disk.l.length ≤ 1100000) ∧ p.core.sets.length ≤ 1100000 ∧ p.core.ddt.length ≤ 1100000 ∧ p.core.parts.length ≤ 1100000 ∧ p.core.safe.length ≤ 1100000
theorem mid_nil : Pl.nil.mid := by simp [Pl.mid, Pl.nil, Dk.nil, Co.nil]
end Go.Proofs.YtfmjgoeclilcnaaGreatDoor
namespace Go.Proofs.YtfmjgoeclilcnaaGreatDoor
open Go.RowKit
theorem mid_scrubD {p : Pl} (h2 : p.core.sets.length ≤ 1048576 ∧ p.core.ddt.length ≤ 1048576 ∧ p.core.parts.length ≤ 1048576 ∧ p.core.safe.length ≤ 1048576) : (scrubD p).1.mid := by
 unfold scrubD
 split
 ·rename_i h
  have hk := scN_ok (poolB_disk h) (scrubP p) (scrubP p).length
  obtain ⟨e1, e2, e3⟩ := Dk.ok_small hk
  obtain ⟨k1, k2, k3⟩ := (scN p.disk (scrubP p) (scrubP p).length).1.flushed_len
  refine ⟨⟨?_, ?_, ?_⟩, Nat.le_trans h2.1 (by decide), Nat.le_trans h2.2.1 (by decide), Nat.le_trans h2.2.2.1 (by decide), Nat.le_trans h2.2.2.2 (by decide)⟩
  ·show (scN p.disk (scrubP p) (scrubP p).length).1.flushed.a.length ≤ _; omega
  ·show (scN p.disk (scrubP p) (scrubP p).length).1.flushed.b.length ≤ _; omega
  ·show (scN p.disk (scrubP p) (scrubP p).length).1.flushed.l.length ≤ _; rw [k3]; exact Nat.zero_le _
 ·exact mid_nil
end Go.Proofs.YtfmjgoeclilcnaaGreatDoor
namespace Go.Proofs.YtfmjgoeclilcnaaGreatDoor
open Go.RowKit
@[go_sem] def ct_s_xScrubAll : Ct := ⟨false, [[some .str, some .str, some .late, none, some .cset, some .ent, some .ptr, none, some .int, none, none]], fun args os => match args, os with
  | [.agg [.isl .str a, .isl .str b, .isl .late l, .val (.int .i64 x), .isl .cset cs, .isl .ent es, .isl .ptr ps, .val (.bool y), .isl .int zs, .val (.int .i64 u), .val (.bool o)]], [] => ifp ((Pl.mk ⟨a, b, l⟩ ⟨x, cs, es, ps, y, zs, u⟩ o).inn) (vb true)
  | _, _ => no⟩
@[go_sem] def s_xScrubAll_lv : List (List Nat) := [[1], [1, 3], [1, 3], [1, 15], [2], [1, 4], [1, 4, 5], [1, 4, 5, 6], [1, 4, 5, 6, 26], [2], [1, 4, 5, 6, 31], [2], [1, 4, 5, 6, 7], [1, 4, 6, 7], [1, 4, 6, 42], [2], [1, 4, 6, 8], [1, 4, 6, 8], [1, 4, 6, 8, 9], [1, 4, 6, 8, 9], [1, 4, 6, 8, 9, 50], [2], [1, 4, 6, 8, 53], [2], [4, 6, 8, 10], [6, 8, 60], [2], [6, 8, 9], [8, 9], [8, 9, 65], [2], [68], [2], [2]]
@[go_sem] noncomputable def s_xScrubAll_K : Known := (((((((((Known.nil).cons 7 ctSzPool s_szPool s_szPool_e).cons 9 ctToPool s_toPool s_toPool_e).cons 25 ctScrubAll s_specScrubAll s_specScrubAll_e).cons 26 ctScrubAll s_scrubAll s_scrubAll_e).cons 27 ctEqPs s_eqPs s_eqPs_e).cons 11 ctEqPool s_eqPool s_eqPool_e).cons 12 ctMarkPool s_markPool s_markPool_e).cons 28 ctMarkP s_markP s_markP_e).cons 29 ctHeldP s_heldP s_heldP_e
set_option maxHeartbeats 8000000 in
theorem s_xScrubAll : Sound Tryz.prog 6 ct_s_xScrubAll := by
 have ke := s_xScrubAll_K.env []
 have kl : Lives s_xScrubAll_lv := trivial
 refine sound_intro (E := ⟨ti, s_xScrubAll_K.Γ, []⟩) ke Tryz.func6 Tryz.ntmps6 rfl (rs := [.tmp 2]) rfl ?_
 intro args os hp
 unfold ct_s_xScrubAll at hp ⊢
 dsimp only at hp ⊢
 split at hp
 ·rename_i a b l x cs es ps y zs u o
  refine ⟨by simp, fun φ0 w0 => ?_⟩
  have hin : (Pl.mk ⟨a, b, l⟩ ⟨x, cs, es, ps, y, zs, u⟩ o).inn := hp
  have i1 := szW_in (Pl.mk ⟨a, b, l⟩ ⟨x, cs, es, ps, y, zs, u⟩ o).wt 1048576 (by decide)
  refine goh trivial ?_
  refine W_cnd ?_ ?_ <;> (try simp only [cnd_r]) <;> intro hc
  ·refine goh trivial ?_
   exact finh [] trivial
  ·skip
   obtain ⟨⟨q1, q2, q3⟩, ⟨q4, q5, q6, q7⟩, hfit⟩ := hin.fit (n := 1048576) (by decide) (by omega)
   have hpf : (Pl.mk ⟨a, b, l⟩ ⟨x, cs, es, ps, y, zs, u⟩ o).fit := ⟨⟨by simp only; omega, by simp only; omega, by simp only; omega⟩, hfit⟩
   have nt : (!true) = false := rfl
   have nf : (!false) = true := rfl
   have hmid := scrubP_len ⟨⟨a, b, l⟩, ⟨x, cs, es, ps, y, zs, u⟩, o⟩
   obtain ⟨r, hx⟩ : ∃ r, scrubP ⟨⟨a, b, l⟩, ⟨x, cs, es, ps, y, zs, u⟩, o⟩ = r := ⟨_, rfl⟩
   rw [hx] at hmid
   clear hc i1
   have c0 : decide (1 + (a.length : Int) + b.length + 3 * l.length + 7 * cs.length + 3 * es.length + 3 * ps.length + zs.length < 0) = false := by simp; omega
   have c1 : decide (1 + 3 * (r.length : Int) < 0) = false := by simp; omega
   refine goh (And.intro hx (And.intro nt (And.intro nf (And.intro c0 c1)))) ?_
   refine W_cnd ?_ ?_ <;> intro hlit <;> try (cases hlit; done)
   refine goh (And.intro hx (And.intro nt (And.intro nf (And.intro c0 c1)))) ?_
   refine W_cnd ?_ ?_ <;> intro hlit <;> try (cases hlit; done)
   refine goh (And.intro hx (And.intro nt (And.intro nf (And.intro c0 c1)))) ?_
   refine W_cnd ?_ ?_ <;> intro hlit <;> try (cases hlit; done)
   refine goh (And.intro hx (And.intro nt (And.intro nf (And.intro c0 c1)))) ?_
   refine W_cnd ?_ ?_ <;> intro hlit <;> try (cases hlit; done)
   refine goh (And.intro hx (And.intro nt (And.intro nf (And.intro c0 c1)))) ?_
   refine W_cnd ?_ ?_ <;> intro hlit <;> try (cases hlit; done)
   refine goh (And.intro hx (And.intro nt (And.intro nf (And.intro c0 c1)))) ?_
   refine W_cnd ?_ ?_ <;> intro hlit <;> try (cases hlit; done)
   refine goh (And.intro hx (And.intro nt (And.intro nf (And.intro c0 c1)))) ?_
   refine W_cnd ?_ ?_ <;> intro hlit <;> try (cases hlit; done)
   refine goh (And.intro hx (And.intro nt (And.intro nf (And.intro c0 c1)))) ?_
   refine W_cnd ?_ ?_ <;> intro hlit <;> try (cases hlit; done)
   refine goh trivial ?_
   exact finh [] trivial
 ·simp [no, ifp] at hp
end Go.Proofs.YtfmjgoeclilcnaaGreatDoor
namespace Go.Proofs.YtfmjgoeclilcnaaGreatDoor
open Go.RowKit
theorem scrub_no {p : Pl} (h : poolB p = false) : scrubD p = (.nil, 0, 0) := by unfold scrubD; rw [if_neg (by rw [h]; decide)]
theorem scrub_is {p : Pl} {L : List Ptr} (h : poolB p = true) (hL : scrubP p = L) : scrubD p = (⟨(scN p.disk L L.length).1.flushed, p.core, p.up⟩, (scN p.disk L L.length).2.1, (scN p.disk L L.length).2.2) := by unfold scrubD; rw [if_pos h, hL]
@[go_sem] noncomputable def ctScrubDo : Ct := ⟨false, [[some .str, some .str, some .late, none, some .cset, some .ent, some .ptr, none, some .int, none, none]], fun args os => match args, os with
  | [.agg [.isl .str a, .isl .str b, .isl .late l, .val (.int .i64 x), .isl .cset cs, .isl .ent es, .isl .ptr ps, .val (.bool y), .isl .int zs, .val (.int .i64 u), .val (.bool o)]], [] => ⟨(Pl.mk ⟨a, b, l⟩ ⟨x, cs, es, ps, y, zs, u⟩ o).fit, .tup [(scrubD ⟨⟨a, b, l⟩, ⟨x, cs, es, ps, y, zs, u⟩, o⟩).1.v, vi (scrubD ⟨⟨a, b, l⟩, ⟨x, cs, es, ps, y, zs, u⟩, o⟩).2.1, vi (scrubD ⟨⟨a, b, l⟩, ⟨x, cs, es, ps, y, zs, u⟩, o⟩).2.2], [], (scrubD ⟨⟨a, b, l⟩, ⟨x, cs, es, ps, y, zs, u⟩, o⟩).1.objs⟩
  | _, _ => no⟩
theorem s_scrubDo_e : EnterOk Tryz.prog 10 := ⟨_, Tryz.func10, rfl, by decide⟩
@[go_sem] def s_scrubDo_lv : List (List Nat) := [[1, 2], [1, 2, 15], [2, 3, 4], [1, 2, 5], [1, 2, 5, 6, 7], [2, 5, 6, 7, 20, 21, 22], [2, 5, 6, 7, 20, 21, 22, 23], [2, 5, 6, 7, 9, 20, 21, 22], [2, 5, 6, 7, 9, 10, 20, 21, 22], [2, 5, 6, 7, 10, 11, 12, 20, 21, 22], [2, 5, 6, 7, 10, 12, 20, 21, 22], [2, 5, 6, 7, 10, 20, 21, 22, 44], [2, 5, 6, 7, 20, 21, 22], [2, 5, 6, 7, 20, 21, 22, 49], [2, 5, 6, 7, 20, 21, 22], [2, 5, 6, 7, 20, 21, 22], [2, 5, 6, 7], [2, 3, 4]]
@[go_sem] noncomputable def s_scrubDo_K : Known := ((((((Known.nil).cons 37 ctPoolOk s_poolOk s_poolOk_e).cons 38 ctToPool s_ownPool s_ownPool_e).cons 26 ctScrubAll s_scrubAll s_scrubAll_e).cons 39 ctBlkSide s_blkSide s_blkSide_e).cons 40 ctBlkHeal s_blkHeal s_blkHeal_e).cons 41 ctFlushP s_flushP s_flushP_e
set_option maxHeartbeats 8000000 in
theorem s_scrubDo : Sound Tryz.prog 10 ctScrubDo := by
 have ke := s_scrubDo_K.env []
 have kl : Lives s_scrubDo_lv := trivial
 refine sound_intro (E := ⟨ti, s_scrubDo_K.Γ, []⟩) ke Tryz.func10 Tryz.ntmps10 rfl (rs := [.cell 2 45, .tmp 3, .tmp 4]) rfl ?_
 intro args os hp
 unfold ctScrubDo at hp ⊢
 dsimp only at hp ⊢
 split at hp
 ·rename_i a b l x cs es ps y zs u o
  refine ⟨by simp, fun φ0 w0 => ?_⟩
  have hpf : (Pl.mk ⟨a, b, l⟩ ⟨x, cs, es, ps, y, zs, u⟩ o).fit := hp
  obtain ⟨⟨g1, g2, g3⟩, hf⟩ := id hpf
  obtain ⟨f1, f2, f3, f4⟩ := hf.small
  simp only at g1 g2 g3 hf f1 f2 f3 f4
  have nt : (!true) = false := rfl
  have nf : (!false) = true := rfl
  cases hc : poolB ⟨⟨a, b, l⟩, ⟨x, cs, es, ps, y, zs, u⟩, o⟩ with
  | false =>
    have e := scrub_no hc
    refine goh (And.intro hc (And.intro nf hf)) ?_
    refine W_cnd ?_ ?_ <;> intro hlit <;> try (cases hlit; done)
    refine goh trivial ?_
    refine ⟨by (simp only [go_sem, e, Pl.nil, Dk.nil, Co.nil, ↓reduceIte, reduceCtorEq, Nat.reduceAdd, Nat.reduceLT, Nat.reduceLeDiff, Nat.reduceEqDiff]) <;> trivial, [none, none, none, none, none, none, none], ?_⟩
    all_goals try simp only [go_sem, e, Pl.nil, Dk.nil, Co.nil, inj_r, ↓reduceIte, reduceCtorEq, Nat.reduceAdd, Nat.reduceLT, Nat.reduceLeDiff, Nat.reduceEqDiff, Int.reduceEq]
    all_goals (repeat' refine And.intro ?_ ?_) <;> try exact shut7
  | true =>
  have hl := scrubP_len ⟨⟨a, b, l⟩, ⟨x, cs, es, ps, y, zs, u⟩, o⟩
  have hdk : (Dk.mk a b l).ok = true := poolB_disk hc
  obtain ⟨L, hL⟩ : ∃ L, scrubP ⟨⟨a, b, l⟩, ⟨x, cs, es, ps, y, zs, u⟩, o⟩ = L := ⟨_, rfl⟩
  have e := scrub_is hc hL
  simp only at e
  rw [hL] at hl
  obtain ⟨D, hD⟩ : ∃ D : Nat → Dk × Int × Int, D = scN ⟨a, b, l⟩ L := ⟨_, rfl⟩
  have d0 : D 0 = (⟨a, b, l⟩, 0, 0) := by rw [hD]; rfl
  have dok : ∀ i, (D i).1.ok = true := fun i => by rw [hD]; exact scN_ok hdk L i
  have din : ∀ i, (0 ≤ (D i).2.1 ∧ (D i).2.1 ≤ i) ∧ 0 ≤ (D i).2.2 ∧ (D i).2.2 ≤ i := fun i => by rw [hD]; exact scN_in _ L i
  rw [← hD] at e
  repeat' first
   | with_reducible refine red ?_
   | refine W_seq ?_
   | (refine W_reg (s_scrubDo_K.env []) s_scrubDo_lv fun K' hK' => ?_
      simp only [go_sem, hc, nt, hf, hpf, hL, Dk.small, Pl.small, ↓reduceIte, ↓reduceDIte, reduceCtorEq, Nat.reduceAdd, Nat.reduceMul, Nat.reduceSub, Nat.reduceDiv, Nat.reduceMod, Nat.reduceLT, Nat.reduceLeDiff, Nat.reduceEqDiff, Nat.reduceBEq, Int.reduceToNat, Int.reduceLE, Int.reduceLT, Int.reduceEq, Int.reduceNe, Int.reduceNeg]
      (repeat' refine And.intro ?_ ?_) <;> try first | with_reducible refine hK' ?_ | exact shut6)
   | with_reducible refine blockG_o (by decide) ?_
  refine W_cnd ?_ ?_ <;> intro hlit <;> try (cases hlit; done)
  repeat' first
   | with_reducible refine red ?_
   | refine W_seq ?_
   | (refine W_reg (s_scrubDo_K.env []) s_scrubDo_lv fun K' hK' => ?_
      simp only [go_sem, hc, nt, hf, hpf, hL, Dk.small, Pl.small, ↓reduceIte, ↓reduceDIte, reduceCtorEq, Nat.reduceAdd, Nat.reduceMul, Nat.reduceSub, Nat.reduceDiv, Nat.reduceMod, Nat.reduceLT, Nat.reduceLeDiff, Nat.reduceEqDiff, Nat.reduceBEq, Int.reduceToNat, Int.reduceLE, Int.reduceLT, Int.reduceEq, Int.reduceNe, Int.reduceNeg]
      (repeat' refine And.intro ?_ ?_) <;> try first | with_reducible refine hK' ?_ | exact shut6)
   | with_reducible refine blockG_o (by decide) ?_
  refine W_for L.length (fun i => True) (fun i => ⟨[(2, .one (.ptr 0 0)), (5, .one (.ptr 8 0)), (6, vi (D i).2.1), (7, vi (D i).2.2), (20, .one (.osl .ptr 9 0 L.length)), (21, vi L.length), (22, vi i)],
   [some (.cells [.val (.slice none 0 0), .val (.slice none 0 0), .val (.slice none 0 0), .val (.int .i64 0), .val (.slice none 0 0), .val (.slice none 0 0), .val (.slice none 0 0), .val (.bool false), .val (.slice none 0 0), .val (.int .i64 0), .val (.bool false)]), some (.arr .str (D i).1.a), some (.arr .str (D i).1.b), some (.arr .late (D i).1.l), some (.arr .cset cs), some (.arr .ent es), some (.arr .ptr ps), some (.arr .int zs),
    some (.cells [.osl .str 1 0 (D i).1.a.length, .osl .str 2 0 (D i).1.b.length, .osl .late 3 0 (D i).1.l.length, .val (.int .i64 x), .osl .cset 4 0 cs.length, .osl .ent 5 0 es.length, .osl .ptr 6 0 ps.length, .val (.bool y), .osl .int 7 0 zs.length, .val (.int .i64 u), .val (.bool o)]), some (.arr .ptr L)], []⟩) [some 1, some 2, some 3, some 4, some 5, some 6, some 7, some 8, some 9, some 10] (leh d0) trivial fun i hi hI => ?_
  refine goh trivial ?_
  refine W_cnd ?_ ?_ <;> (try simp only [cnd_r]) <;> intro hlt
  ·have hi' : i < L.length := by omega
   have hds : D (i + 1) = ((blkHeal (D i).1 (L.getD i ET.ptr.dflt)).1, if (blkHeal (D i).1 (L.getD i ET.ptr.dflt)).2 ≠ 0 then (D i).2.1 else if (blkSide (D i).1 (L.getD i ET.ptr.dflt) 0 != blkSide (D i).1 (L.getD i ET.ptr.dflt) 1) = true then (D i).2.1 + 1 else (D i).2.1, if (blkHeal (D i).1 (L.getD i ET.ptr.dflt)).2 ≠ 0 then (D i).2.2 + 1 else (D i).2.2) := by rw [hD]; rfl
   have hok := dok i
   obtain ⟨⟨n1, n2⟩, n3, n4⟩ := din i
   obtain ⟨q, hq⟩ : ∃ q, L.getD i ET.ptr.dflt = q := ⟨_, rfl⟩
   rw [hq] at hds
   obtain ⟨pa, pb, pc⟩ := q
   obtain ⟨⟨⟨a', b', l'⟩, hl', lo'⟩, hDi⟩ : ∃ z, D i = z := ⟨_, rfl⟩
   rw [hDi] at hds hok n1 n2 n3 n4
   simp only at hds hok n1 n2 n3 n4
   obtain ⟨m1, m2, m3⟩ := Dk.ok_small hok
   simp only at m1 m2 m3
   obtain ⟨t0, ht0⟩ : ∃ t, blkSide ⟨a', b', l'⟩ ⟨pa, pb, pc⟩ 0 = t := ⟨_, rfl⟩
   obtain ⟨t1, ht1⟩ : ∃ t, blkSide ⟨a', b', l'⟩ ⟨pa, pb, pc⟩ 1 = t := ⟨_, rfl⟩
   obtain ⟨⟨⟨a2, b2, l2⟩, code⟩, hh⟩ : ∃ z, blkHeal ⟨a', b', l'⟩ ⟨pa, pb, pc⟩ = z := ⟨_, rfl⟩
   rw [ht0, ht1, hh] at hds
   simp only at hds
   have w1 : IntKind.i64.wrap (hl' + 1) = hl' + 1 := wrap_id _ (by omega) (by omega)
   have w2 : IntKind.i64.wrap (lo' + 1) = lo' + 1 := wrap_id _ (by omega) (by omega)
   by_cases hk : code = 0
   ·subst hk
    have hz : ¬ ((0 : Int) ≠ 0) := fun h => h rfl
    rw [if_neg hz, if_neg hz] at hds
    cases ht : (t0 != t1) with
    | true =>
      rw [ht, if_pos rfl] at hds
      have ht2 : (!(t0 == t1)) = true := ht
      refine goh (And.intro hDi (And.intro hq (And.intro ht0 (And.intro ht1 (And.intro ht (And.intro ht2 hh)))))) ?_
      refine W_cnd ?_ ?_ <;> intro hlit <;> try (cases hlit; done)
      refine goh (And.intro ht ht2) ?_
      refine W_cnd ?_ ?_ <;> intro hlit <;> try (cases hlit; done)
      refine goh w1 ?_
      exact ⟨[some 0, some 11, some 12, some 13, some 4, some 5, some 6, some 7, some 8, some 9], by omega, leh hds, trivial⟩
    | false =>
      rw [ht, if_neg Bool.false_ne_true] at hds
      have ht2 : (!(t0 == t1)) = false := ht
      refine goh (And.intro hDi (And.intro hq (And.intro ht0 (And.intro ht1 (And.intro ht (And.intro ht2 hh)))))) ?_
      refine W_cnd ?_ ?_ <;> intro hlit <;> try (cases hlit; done)
      refine goh (And.intro ht ht2) ?_
      refine W_cnd ?_ ?_ <;> intro hlit <;> try (cases hlit; done)
      refine goh trivial ?_
      exact ⟨[some 0, some 11, some 12, some 13, some 4, some 5, some 6, some 7, some 8, some 9], by omega, leh hds, trivial⟩
   ·have c2 : (code != 0) = true := by simpa using hk
    rw [if_pos hk, if_pos hk] at hds
    refine goh (And.intro hDi (And.intro hq (And.intro ht0 (And.intro ht1 (And.intro hh c2))))) ?_
    refine W_cnd ?_ ?_ <;> intro hlit <;> try (cases hlit; done)
    refine goh w2 ?_
    exact ⟨[some 0, some 11, some 12, some 13, some 4, some 5, some 6, some 7, some 8, some 9], by omega, leh hds, trivial⟩
  obtain rfl : i = L.length := by omega
  have hok := dok L.length
  obtain ⟨⟨⟨a', b', l'⟩, hl', lo'⟩, hDi⟩ : ∃ z, D L.length = z := ⟨_, rfl⟩
  rw [hDi] at hok e
  obtain ⟨k1, k2, k3⟩ := Dk.flushed_len (Dk.mk a' b' l')
  simp only at k1 k2 k3 hok
  refine goh (And.intro hDi hok) ?_
  exact finh [some 1, some 2, none, some 4, some 5, some 6, some 7] (And.intro e (And.intro k1 (And.intro k2 k3)))
 ·simp [no] at hp
theorem s_specScrubDo_e : EnterOk Tryz.prog 8 := ⟨_, Tryz.func8, rfl, by decide⟩
@[go_sem] def s_specScrubDo_lv : List (List Nat) := [[1, 2], [1, 2, 16], [2, 3, 4], [1, 2, 5], [2, 5, 6], [2, 5, 6, 7], [2, 5, 6, 7, 8], [2, 5, 6, 7, 8, 9], [2, 5, 6, 7, 8, 9, 25], [2, 5, 6, 7, 8, 9], [2, 5, 6, 7, 8, 9, 10], [2, 5, 6, 7, 8, 9, 10, 11], [2, 5, 6, 7, 8, 9, 10, 11, 12, 13], [2, 5, 6, 7, 8, 9, 10, 11, 12, 52], [2, 5, 6, 7, 8, 9, 12], [2, 5, 6, 7, 8, 9, 12, 57], [2, 5, 6, 7, 8, 9, 12], [2, 5, 6, 7, 8, 9], [2, 5, 7, 8], [2, 3, 4]]
@[go_sem] noncomputable def s_specScrubDo_K : Known := ((((((Known.nil).cons 31 ctPoolOk s_specPoolOk s_specPoolOk_e).cons 32 ctToPool s_l10Copy s_l10Copy_e).cons 25 ctScrubAll s_specScrubAll s_specScrubAll_e).cons 33 ctBlkSide s_specSide s_specSide_e).cons 34 ctBlkHeal s_specHeal s_specHeal_e).cons 35 ctDiskFlush s_specFlush s_specFlush_e
set_option maxHeartbeats 8000000 in
theorem s_specScrubDo : Sound Tryz.prog 8 ctScrubDo := by
 have ke := s_specScrubDo_K.env []
 have kl : Lives s_specScrubDo_lv := trivial
 refine sound_intro (E := ⟨ti, s_specScrubDo_K.Γ, []⟩) ke Tryz.func8 Tryz.ntmps8 rfl (rs := [.cell 2 45, .tmp 3, .tmp 4]) rfl ?_
 intro args os hp
 unfold ctScrubDo at hp ⊢
 dsimp only at hp ⊢
 split at hp
 ·rename_i a b l x cs es ps y zs u o
  refine ⟨by simp, fun φ0 w0 => ?_⟩
  have hpf : (Pl.mk ⟨a, b, l⟩ ⟨x, cs, es, ps, y, zs, u⟩ o).fit := hp
  obtain ⟨⟨g1, g2, g3⟩, hf⟩ := id hpf
  obtain ⟨f1, f2, f3, f4⟩ := hf.small
  simp only at g1 g2 g3 hf f1 f2 f3 f4
  have nt : (!true) = false := rfl
  have nf : (!false) = true := rfl
  cases hc : poolB ⟨⟨a, b, l⟩, ⟨x, cs, es, ps, y, zs, u⟩, o⟩ with
  | false =>
    have e := scrub_no hc
    refine goh (And.intro hc (And.intro nf hf)) ?_
    refine W_cnd ?_ ?_ <;> intro hlit <;> try (cases hlit; done)
    refine goh trivial ?_
    refine ⟨by (simp only [go_sem, e, Pl.nil, Dk.nil, Co.nil, ↓reduceIte, reduceCtorEq, Nat.reduceAdd, Nat.reduceLT, Nat.reduceLeDiff, Nat.reduceEqDiff]) <;> trivial, [none, none, none, none, none, none, none], ?_⟩
    all_goals try simp only [go_sem, e, Pl.nil, Dk.nil, Co.nil, inj_r, ↓reduceIte, reduceCtorEq, Nat.reduceAdd, Nat.reduceLT, Nat.reduceLeDiff, Nat.reduceEqDiff, Int.reduceEq]
    all_goals (repeat' refine And.intro ?_ ?_) <;> try exact shut7
  | true =>
  have hl := scrubP_len ⟨⟨a, b, l⟩, ⟨x, cs, es, ps, y, zs, u⟩, o⟩
  have hdk : (Dk.mk a b l).ok = true := poolB_disk hc
  obtain ⟨L, hL⟩ : ∃ L, scrubP ⟨⟨a, b, l⟩, ⟨x, cs, es, ps, y, zs, u⟩, o⟩ = L := ⟨_, rfl⟩
  have e := scrub_is hc hL
  simp only at e
  rw [hL] at hl
  obtain ⟨D, hD⟩ : ∃ D : Nat → Dk × Int × Int, D = scN ⟨a, b, l⟩ L := ⟨_, rfl⟩
  have d0 : D 0 = (⟨a, b, l⟩, 0, 0) := by rw [hD]; rfl
  have dok : ∀ i, (D i).1.ok = true := fun i => by rw [hD]; exact scN_ok hdk L i
  have din : ∀ i, (0 ≤ (D i).2.1 ∧ (D i).2.1 ≤ i) ∧ 0 ≤ (D i).2.2 ∧ (D i).2.2 ≤ i := fun i => by rw [hD]; exact scN_in _ L i
  rw [← hD] at e
  repeat' first
   | with_reducible refine red ?_
   | refine W_seq ?_
   | (refine W_reg (s_specScrubDo_K.env []) s_specScrubDo_lv fun K' hK' => ?_
      simp only [go_sem, hc, nt, hf, hpf, hL, Dk.small, Pl.small, ↓reduceIte, ↓reduceDIte, reduceCtorEq, Nat.reduceAdd, Nat.reduceMul, Nat.reduceSub, Nat.reduceDiv, Nat.reduceMod, Nat.reduceLT, Nat.reduceLeDiff, Nat.reduceEqDiff, Nat.reduceBEq, Int.reduceToNat, Int.reduceLE, Int.reduceLT, Int.reduceEq, Int.reduceNe, Int.reduceNeg]
      (repeat' refine And.intro ?_ ?_) <;> try first | with_reducible refine hK' ?_ | exact shut6)
   | with_reducible refine blockG_o (by decide) ?_
  refine W_cnd ?_ ?_ <;> intro hlit <;> try (cases hlit; done)
  repeat' first
   | with_reducible refine red ?_
   | refine W_seq ?_
   | (refine W_reg (s_specScrubDo_K.env []) s_specScrubDo_lv fun K' hK' => ?_
      simp only [go_sem, hc, nt, hf, hpf, hL, Dk.small, Pl.small, ↓reduceIte, ↓reduceDIte, reduceCtorEq, Nat.reduceAdd, Nat.reduceMul, Nat.reduceSub, Nat.reduceDiv, Nat.reduceMod, Nat.reduceLT, Nat.reduceLeDiff, Nat.reduceEqDiff, Nat.reduceBEq, Int.reduceToNat, Int.reduceLE, Int.reduceLT, Int.reduceEq, Int.reduceNe, Int.reduceNeg]
      (repeat' refine And.intro ?_ ?_) <;> try first | with_reducible refine hK' ?_ | exact shut6)
   | with_reducible refine blockG_o (by decide) ?_
  refine W_for L.length (fun i => True) (fun i => ⟨[(2, .one (.ptr 0 0)), (5, .one (.ptr 8 0)), (6, .one (.osl .ptr 9 0 L.length)), (7, vi (D i).2.1), (8, vi (D i).2.2), (9, vi i)],
   [some (.cells [.val (.slice none 0 0), .val (.slice none 0 0), .val (.slice none 0 0), .val (.int .i64 0), .val (.slice none 0 0), .val (.slice none 0 0), .val (.slice none 0 0), .val (.bool false), .val (.slice none 0 0), .val (.int .i64 0), .val (.bool false)]), some (.arr .str (D i).1.a), some (.arr .str (D i).1.b), some (.arr .late (D i).1.l), some (.arr .cset cs), some (.arr .ent es), some (.arr .ptr ps), some (.arr .int zs),
    some (.cells [.osl .str 1 0 (D i).1.a.length, .osl .str 2 0 (D i).1.b.length, .osl .late 3 0 (D i).1.l.length, .val (.int .i64 x), .osl .cset 4 0 cs.length, .osl .ent 5 0 es.length, .osl .ptr 6 0 ps.length, .val (.bool y), .osl .int 7 0 zs.length, .val (.int .i64 u), .val (.bool o)]), some (.arr .ptr L)], []⟩) [some 1, some 2, some 3, some 4, some 5, some 6, some 7, some 8, some 9, some 10] (leh d0) trivial fun i hi hI => ?_
  refine goh trivial ?_
  refine W_cnd ?_ ?_ <;> (try simp only [cnd_r]) <;> intro hlt
  ·have hi' : i < L.length := by omega
   have hds : D (i + 1) = ((blkHeal (D i).1 (L.getD i ET.ptr.dflt)).1, if (blkHeal (D i).1 (L.getD i ET.ptr.dflt)).2 ≠ 0 then (D i).2.1 else if (blkSide (D i).1 (L.getD i ET.ptr.dflt) 0 != blkSide (D i).1 (L.getD i ET.ptr.dflt) 1) = true then (D i).2.1 + 1 else (D i).2.1, if (blkHeal (D i).1 (L.getD i ET.ptr.dflt)).2 ≠ 0 then (D i).2.2 + 1 else (D i).2.2) := by rw [hD]; rfl
   have hok := dok i
   obtain ⟨⟨n1, n2⟩, n3, n4⟩ := din i
   obtain ⟨q, hq⟩ : ∃ q, L.getD i ET.ptr.dflt = q := ⟨_, rfl⟩
   rw [hq] at hds
   obtain ⟨pa, pb, pc⟩ := q
   obtain ⟨⟨⟨a', b', l'⟩, hl', lo'⟩, hDi⟩ : ∃ z, D i = z := ⟨_, rfl⟩
   rw [hDi] at hds hok n1 n2 n3 n4
   simp only at hds hok n1 n2 n3 n4
   obtain ⟨m1, m2, m3⟩ := Dk.ok_small hok
   simp only at m1 m2 m3
   obtain ⟨t0, ht0⟩ : ∃ t, blkSide ⟨a', b', l'⟩ ⟨pa, pb, pc⟩ 0 = t := ⟨_, rfl⟩
   obtain ⟨t1, ht1⟩ : ∃ t, blkSide ⟨a', b', l'⟩ ⟨pa, pb, pc⟩ 1 = t := ⟨_, rfl⟩
   obtain ⟨⟨⟨a2, b2, l2⟩, code⟩, hh⟩ : ∃ z, blkHeal ⟨a', b', l'⟩ ⟨pa, pb, pc⟩ = z := ⟨_, rfl⟩
   rw [ht0, ht1, hh] at hds
   simp only at hds
   have w1 : IntKind.i64.wrap (hl' + 1) = hl' + 1 := wrap_id _ (by omega) (by omega)
   have w2 : IntKind.i64.wrap (lo' + 1) = lo' + 1 := wrap_id _ (by omega) (by omega)
   by_cases hk : code = 0
   ·subst hk
    have hz : ¬ ((0 : Int) ≠ 0) := fun h => h rfl
    rw [if_neg hz, if_neg hz] at hds
    cases ht : (t0 != t1) with
    | true =>
      rw [ht, if_pos rfl] at hds
      have ht2 : (!(t0 == t1)) = true := ht
      refine goh (And.intro hDi (And.intro hq (And.intro ht0 (And.intro ht1 (And.intro ht (And.intro ht2 hh)))))) ?_
      refine W_cnd ?_ ?_ <;> intro hlit <;> try (cases hlit; done)
      refine goh (And.intro ht ht2) ?_
      refine W_cnd ?_ ?_ <;> intro hlit <;> try (cases hlit; done)
      refine goh w1 ?_
      exact ⟨[some 0, some 10, some 11, some 12, some 4, some 5, some 6, some 7, some 8, some 9], by omega, leh hds, trivial⟩
    | false =>
      rw [ht, if_neg Bool.false_ne_true] at hds
      have ht2 : (!(t0 == t1)) = false := ht
      refine goh (And.intro hDi (And.intro hq (And.intro ht0 (And.intro ht1 (And.intro ht (And.intro ht2 hh)))))) ?_
      refine W_cnd ?_ ?_ <;> intro hlit <;> try (cases hlit; done)
      refine goh (And.intro ht ht2) ?_
      refine W_cnd ?_ ?_ <;> intro hlit <;> try (cases hlit; done)
      refine goh trivial ?_
      exact ⟨[some 0, some 10, some 11, some 12, some 4, some 5, some 6, some 7, some 8, some 9], by omega, leh hds, trivial⟩
   ·have c2 : (code != 0) = true := by simpa using hk
    rw [if_pos hk, if_pos hk] at hds
    refine goh (And.intro hDi (And.intro hq (And.intro ht0 (And.intro ht1 (And.intro hh c2))))) ?_
    refine W_cnd ?_ ?_ <;> intro hlit <;> try (cases hlit; done)
    refine goh w2 ?_
    exact ⟨[some 0, some 10, some 11, some 12, some 4, some 5, some 6, some 7, some 8, some 9], by omega, leh hds, trivial⟩
  obtain rfl : i = L.length := by omega
  have hok := dok L.length
  obtain ⟨⟨⟨a', b', l'⟩, hl', lo'⟩, hDi⟩ : ∃ z, D L.length = z := ⟨_, rfl⟩
  rw [hDi] at hok e
  have hfl : dkFlush ⟨a', b', l'⟩ = (Dk.mk a' b' l').flushed := by unfold dkFlush; rw [hok]; rfl
  obtain ⟨m1, m2, m3⟩ := Dk.ok_small hok
  simp only at m1 m2 m3
  refine goh (And.intro hDi hfl) ?_
  exact finh [some 10, some 11, some 12, some 4, some 5, some 6, some 7] e
 ·simp [no] at hp
end Go.Proofs.YtfmjgoeclilcnaaGreatDoor
namespace Go.Proofs.YtfmjgoeclilcnaaGreatDoor
open Go.RowKit
@[go_sem] def ct_s_xScrubDo : Ct := ⟨false, [[some .str, some .str, some .late, none, some .cset, some .ent, some .ptr, none, some .int, none, none]], fun args os => match args, os with
  | [.agg [.isl .str a, .isl .str b, .isl .late l, .val (.int .i64 x), .isl .cset cs, .isl .ent es, .isl .ptr ps, .val (.bool y), .isl .int zs, .val (.int .i64 u), .val (.bool o)]], [] => ifp ((Pl.mk ⟨a, b, l⟩ ⟨x, cs, es, ps, y, zs, u⟩ o).inn) (vb true)
  | _, _ => no⟩
@[go_sem] def s_xScrubDo_lv : List (List Nat) := [[1], [1, 3], [1, 3], [1, 21], [2], [1, 4, 5, 6], [1, 4, 5, 6, 7], [1, 4, 5, 6, 7, 8, 9, 10], [1, 4, 5, 6, 7, 8, 9, 10, 50], [2], [1, 4, 5, 6, 7, 8, 9, 10, 55], [2], [1, 4, 5, 6, 7, 8, 9, 10, 11], [1, 4, 5, 6, 8, 9, 10, 11], [1, 4, 5, 6, 8, 76], [2], [1, 4, 5, 6, 8, 12], [1, 4, 5, 6, 8, 12], [1, 4, 5, 6, 8, 12, 13], [1, 4, 5, 6, 8, 12, 13], [1, 4, 5, 6, 8, 12, 13, 84], [2], [1, 4, 5, 6, 8, 12, 87], [2], [4, 5, 6, 8, 12, 14, 15, 16], [8, 12, 108], [2], [8, 12, 13], [12, 13], [12, 13, 113], [2], [116], [2], [2]]
@[go_sem] noncomputable def s_xScrubDo_K : Known := (((((((Known.nil).cons 7 ctSzPool s_szPool s_szPool_e).cons 9 ctToPool s_toPool s_toPool_e).cons 8 ctScrubDo s_specScrubDo s_specScrubDo_e).cons 10 ctScrubDo s_scrubDo s_scrubDo_e).cons 11 ctEqPool s_eqPool s_eqPool_e).cons 12 ctMarkPool s_markPool s_markPool_e).cons 13 ctHeldPool s_heldPool s_heldPool_e
set_option maxHeartbeats 8000000 in
theorem s_xScrubDo : Sound Tryz.prog 3 ct_s_xScrubDo := by
 have ke := s_xScrubDo_K.env []
 have kl : Lives s_xScrubDo_lv := trivial
 refine sound_intro (E := ⟨ti, s_xScrubDo_K.Γ, []⟩) ke Tryz.func3 Tryz.ntmps3 rfl (rs := [.tmp 2]) rfl ?_
 intro args os hp
 unfold ct_s_xScrubDo at hp ⊢
 dsimp only at hp ⊢
 split at hp
 ·rename_i a b l x cs es ps y zs u o
  refine ⟨by simp, fun φ0 w0 => ?_⟩
  have hin : (Pl.mk ⟨a, b, l⟩ ⟨x, cs, es, ps, y, zs, u⟩ o).inn := hp
  have i1 := szW_in (Pl.mk ⟨a, b, l⟩ ⟨x, cs, es, ps, y, zs, u⟩ o).wt 1048576 (by decide)
  refine goh trivial ?_
  refine W_cnd ?_ ?_ <;> (try simp only [cnd_r]) <;> intro hc
  ·refine goh trivial ?_
   exact finh [] trivial
  ·skip
   obtain ⟨⟨q1, q2, q3⟩, ⟨q4, q5, q6, q7⟩, hfit⟩ := hin.fit (n := 1048576) (by decide) (by omega)
   have hpf : (Pl.mk ⟨a, b, l⟩ ⟨x, cs, es, ps, y, zs, u⟩ o).fit := ⟨⟨by simp only; omega, by simp only; omega, by simp only; omega⟩, hfit⟩
   have nt : (!true) = false := rfl
   have nf : (!false) = true := rfl
   have hmid := mid_scrubD (p := ⟨⟨a, b, l⟩, ⟨x, cs, es, ps, y, zs, u⟩, o⟩) ⟨q4, q5, q6, q7⟩
   obtain ⟨r, hx⟩ : ∃ r, scrubD ⟨⟨a, b, l⟩, ⟨x, cs, es, ps, y, zs, u⟩, o⟩ = r := ⟨_, rfl⟩
   rw [hx] at hmid
   obtain ⟨r, r1, r2⟩ := r
   obtain ⟨⟨y1, y2, y3⟩, y4, y5, y6, y7⟩ := hmid
   simp only at y1 y2 y3 y4 y5 y6 y7
   clear hc i1
   have c0 : decide (1 + (a.length : Int) + b.length + 3 * l.length + 7 * cs.length + 3 * es.length + 3 * ps.length + zs.length < 0) = false := by simp; omega
   have c1 : decide (1 + (r.disk.a.length : Int) + r.disk.b.length + 3 * r.disk.l.length + 7 * r.core.sets.length + 3 * r.core.ddt.length + 3 * r.core.parts.length + r.core.safe.length < 0) = false := by simp; omega
   refine goh (And.intro hx (And.intro nt (And.intro nf (And.intro c0 c1)))) ?_
   refine W_cnd ?_ ?_ <;> intro hlit <;> try (cases hlit; done)
   refine goh (And.intro hx (And.intro nt (And.intro nf (And.intro c0 c1)))) ?_
   refine W_cnd ?_ ?_ <;> intro hlit <;> try (cases hlit; done)
   refine goh (And.intro hx (And.intro nt (And.intro nf (And.intro c0 c1)))) ?_
   refine W_cnd ?_ ?_ <;> intro hlit <;> try (cases hlit; done)
   refine goh (And.intro hx (And.intro nt (And.intro nf (And.intro c0 c1)))) ?_
   refine W_cnd ?_ ?_ <;> intro hlit <;> try (cases hlit; done)
   refine goh (And.intro hx (And.intro nt (And.intro nf (And.intro c0 c1)))) ?_
   refine W_cnd ?_ ?_ <;> intro hlit <;> try (cases hlit; done)
   refine goh (And.intro hx (And.intro nt (And.intro nf (And.intro c0 c1)))) ?_
   refine W_cnd ?_ ?_ <;> intro hlit <;> try (cases hlit; done)
   refine goh (And.intro hx (And.intro nt (And.intro nf (And.intro c0 c1)))) ?_
   refine W_cnd ?_ ?_ <;> intro hlit <;> try (cases hlit; done)
   refine goh (And.intro hx (And.intro nt (And.intro nf (And.intro c0 c1)))) ?_
   refine W_cnd ?_ ?_ <;> intro hlit <;> try (cases hlit; done)
   refine goh trivial ?_
   exact finh [] trivial
 ·simp [no, ifp] at hp
end Go.Proofs.YtfmjgoeclilcnaaGreatDoor
