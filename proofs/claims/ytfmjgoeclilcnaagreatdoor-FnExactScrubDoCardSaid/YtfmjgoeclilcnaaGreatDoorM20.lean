import Derived.Handed
import Derived.LaidMore
import Derived.Lay
import Derived.Lib.LaidTab
import Derived.Test.YtfmjgoeclilcnaaGreatDoorM4
import Derived.Test.YtfmjgoeclilcnaaGreatDoorM5
import Derived.Test.YtfmjgoeclilcnaaGreatDoorM9
import Derived.Test.YtfmjgoeclilcnaaGreatDoorM11
import Derived.Test.YtfmjgoeclilcnaaGreatDoorM12
import Derived.Test.YtfmjgoeclilcnaaGreatDoorM13
import Derived.Test.YtfmjgoeclilcnaaGreatDoorM19
set_option linter.unusedSimpArgs false
set_option linter.unusedVariables false
set_option linter.unusedSectionVars false
namespace Go.Proofs.YtfmjgoeclilcnaaGreatDoor
open Go.RowKit
@[go_sem] noncomputable def ctScrubSound : Ct := ⟨false, [[some .str, some .str, some .late, none, some .cset, some .ent, some .ptr, none, some .int, none, none]], fun args os => match args, os with
  | [.agg [.isl .str a, .isl .str b, .isl .late l, .val (.int .i64 x), .isl .cset cs, .isl .ent es, .isl .ptr ps, .val (.bool y), .isl .int zs, .val (.int .i64 u), .val (.bool o)]], [] => ifp ((Pl.mk ⟨a, b, l⟩ ⟨x, cs, es, ps, y, zs, u⟩ o).fit) (.tup [vi (sndV ⟨⟨a, b, l⟩, ⟨x, cs, es, ps, y, zs, u⟩, o⟩).1, vi (sndV ⟨⟨a, b, l⟩, ⟨x, cs, es, ps, y, zs, u⟩, o⟩).2])
  | _, _ => no⟩
def sdN (n : Int) (p q : Bool) : Nat → Int
 | 0 => n
 | 1 => n + if p = true then 1 else 0
 | _ => (n + if p = true then 1 else 0) + if q = true then 1 else 0
theorem s_scrubSound_e : EnterOk Tryz.prog 24 := ⟨_, Tryz.func24, rfl, by decide⟩
@[go_sem] def s_scrubSound_lv : List (List Nat) := [[1], [1, 4], [1, 4, 5], [1, 4, 5, 11, 12, 13], [1, 4, 5, 11, 12, 13, 14], [1, 4, 5, 7, 11, 12, 13], [1, 4, 5, 7, 11, 12, 13, 17], [1, 4, 5, 7, 11, 12, 13, 17, 18], [1, 4, 5, 7, 8, 11, 12, 13, 17], [1, 4, 5, 7, 11, 12, 13, 17, 24], [1, 4, 5, 7, 11, 12, 13, 17], [1, 4, 5, 7, 11, 12, 13, 17], [1, 4, 5, 11, 12, 13], [2, 3]]
@[go_sem] noncomputable def s_scrubSound_K : Known := ((Known.nil).cons 26 ctScrubAll s_scrubAll s_scrubAll_e).cons 39 ctBlkSide s_blkSide s_blkSide_e
set_option maxHeartbeats 8000000 in
theorem s_scrubSound : Sound Tryz.prog 24 ctScrubSound := by
 have ke := s_scrubSound_K.env []
 have kl : Lives s_scrubSound_lv := trivial
 refine sound_intro (E := ⟨ti, s_scrubSound_K.Γ, []⟩) ke Tryz.func24 Tryz.ntmps24 rfl (rs := [.tmp 2, .tmp 3]) rfl ?_
 intro args os hp
 unfold ctScrubSound at hp ⊢
 dsimp only at hp ⊢
 split at hp
 ·rename_i a b l x cs es ps y zs u o
  refine ⟨by simp, fun φ0 w0 => ?_⟩
  have hpf : (Pl.mk ⟨a, b, l⟩ ⟨x, cs, es, ps, y, zs, u⟩ o).fit := hp
  obtain ⟨⟨g1, g2, g3⟩, hf⟩ := id hpf
  simp only at g1 g2 g3 hf
  have hl := scrubP_len ⟨⟨a, b, l⟩, ⟨x, cs, es, ps, y, zs, u⟩, o⟩
  have hv : sndV ⟨⟨a, b, l⟩, ⟨x, cs, es, ps, y, zs, u⟩, o⟩ = (sndN ⟨a, b, l⟩ (scrubP ⟨⟨a, b, l⟩, ⟨x, cs, es, ps, y, zs, u⟩, o⟩) (scrubP ⟨⟨a, b, l⟩, ⟨x, cs, es, ps, y, zs, u⟩, o⟩).length, 2 * ((scrubP ⟨⟨a, b, l⟩, ⟨x, cs, es, ps, y, zs, u⟩, o⟩).length : Int)) := rfl
  obtain ⟨L, hL⟩ : ∃ L, scrubP ⟨⟨a, b, l⟩, ⟨x, cs, es, ps, y, zs, u⟩, o⟩ = L := ⟨_, rfl⟩
  rw [hL] at hl hv
  obtain ⟨d, hd⟩ : ∃ d, Dk.mk a b l = d := ⟨_, rfl⟩
  obtain ⟨S, hS⟩ : ∃ S : Nat → Int, S = sndN d L := ⟨_, rfl⟩
  rw [hd, ← hS] at hv
  have s0 : S 0 = 0 := by rw [hS]; rfl
  have sl : ∀ i, 0 ≤ S i ∧ S i ≤ 2 * i := fun i => by rw [hS]; exact sndN_in d L i
  refine goh (And.intro hpf hL) ?_
  refine W_for L.length (fun i => True) (fun i => ⟨[(1, .one (.ptr 0 0)), (4, .one (.osl .ptr 1 0 L.length)), (5, vi (S i)), (11, .one (.osl .ptr 1 0 L.length)), (12, vi L.length), (13, vi i)], [some (.cells [.isl .str a, .isl .str b, .isl .late l, .val (.int .i64 x), .isl .cset cs, .isl .ent es, .isl .ptr ps, .val (.bool y), .isl .int zs, .val (.int .i64 u), .val (.bool o)]), some (.arr .ptr L)], []⟩) [some 0, some 1] (leh s0) trivial fun i hi hI => ?_
  refine goh trivial ?_
  refine W_cnd ?_ ?_ <;> (try simp only [cnd_r]) <;> intro hlt
  ·have hi' : i < L.length := by omega
   obtain ⟨k1, k2⟩ := sl i
   have hsn : S (i + 1) = (S i + if blkSide d (L.getD i ET.ptr.dflt) 0 = true then 1 else 0) + if blkSide d (L.getD i ET.ptr.dflt) 1 = true then 1 else 0 := by rw [hS]; rfl
   obtain ⟨q, hq⟩ : ∃ q, L.getD i ET.ptr.dflt = q := ⟨_, rfl⟩
   rw [hq] at hsn
   obtain ⟨pa, pb, pc⟩ := q
   obtain ⟨c0, hc0⟩ : ∃ c, blkSide d ⟨pa, pb, pc⟩ 0 = c := ⟨_, rfl⟩
   obtain ⟨c1, hc1⟩ : ∃ c, blkSide d ⟨pa, pb, pc⟩ 1 = c := ⟨_, rfl⟩
   rw [hc0, hc1] at hsn
   obtain ⟨n0, hn0⟩ : ∃ n, S i = n := ⟨_, rfl⟩
   rw [hn0] at k1 k2 hsn
   refine goh (And.intro hq hn0) ?_
   refine W_for 2 (fun j => True) (fun j => ⟨[(1, .one (.ptr 0 0)), (4, .one (.osl .ptr 1 0 L.length)), (5, vi (sdN n0 c0 c1 j)), (7, .one (.ptr 2 0)), (11, .one (.osl .ptr 1 0 L.length)), (12, vi L.length), (13, vi i), (17, vi j)], [some (.cells [.isl .str a, .isl .str b, .isl .late l, .val (.int .i64 x), .isl .cset cs, .isl .ent es, .isl .ptr ps, .val (.bool y), .isl .int zs, .val (.int .i64 u), .val (.bool o)]), some (.arr .ptr L), some (.cells [.val (.int .i64 pa), .val (.int .i64 pb), .val (.int .i64 pc)])], []⟩) [some 0, some 1, some 2] (leh (show sdN n0 c0 c1 0 = n0 from rfl)) trivial fun j hj hJ => ?_
   rcases (show j = 0 ∨ j = 1 ∨ j = 2 by omega) with rfl | rfl | rfl
   ·refine goh trivial ?_
    refine W_cnd ?_ ?_ <;> intro hlit <;> try (cases hlit; done)
    have w1 : IntKind.i64.wrap (n0 + 1) = n0 + 1 := wrap_id _ (by omega) (by omega)
    have r0 : sdN n0 c0 c1 0 = n0 := rfl
    cases c0 with
    | true =>
      have r1 : sdN n0 true c1 1 = n0 + 1 := rfl
      refine goh (And.intro hd (And.intro hc0 r0)) ?_
      refine W_cnd ?_ ?_ <;> intro hlit <;> try (cases hlit; done)
      refine goh w1 ?_
      exact ⟨[some 0, some 1, some 2], by omega, leh r1, trivial⟩
    | false =>
      have r1 : sdN n0 false c1 1 = n0 := Int.add_zero n0
      refine goh (And.intro hd (And.intro hc0 r0)) ?_
      refine W_cnd ?_ ?_ <;> intro hlit <;> try (cases hlit; done)
      refine goh trivial ?_
      exact ⟨[some 0, some 1, some 2], by omega, leh r1, trivial⟩
   ·refine goh trivial ?_
    refine W_cnd ?_ ?_ <;> intro hlit <;> try (cases hlit; done)
    obtain ⟨n1, hn1⟩ : ∃ n, sdN n0 c0 c1 1 = n := ⟨_, rfl⟩
    have hb1 : n0 ≤ n1 ∧ n1 ≤ n0 + 1 := by rw [← hn1]; cases c0 <;> simp [sdN] <;> omega
    have w1 : IntKind.i64.wrap (n1 + 1) = n1 + 1 := wrap_id _ (by omega) (by omega)
    cases c1 with
    | true =>
      have r1 : sdN n0 c0 true 2 = n1 + 1 := by rw [← hn1]; rfl
      refine goh (And.intro hd (And.intro hc1 hn1)) ?_
      refine W_cnd ?_ ?_ <;> intro hlit <;> try (cases hlit; done)
      refine goh w1 ?_
      exact ⟨[some 0, some 1, some 2], by omega, leh r1, trivial⟩
    | false =>
      have r1 : sdN n0 c0 false 2 = n1 := by rw [← hn1]; exact Int.add_zero _
      refine goh (And.intro hd (And.intro hc1 hn1)) ?_
      refine W_cnd ?_ ?_ <;> intro hlit <;> try (cases hlit; done)
      refine goh trivial ?_
      exact ⟨[some 0, some 1, some 2], by omega, leh r1, trivial⟩
   ·have r2 : sdN n0 c0 c1 2 = S (i + 1) := hsn.symm
    refine goh trivial ?_
    refine W_cnd ?_ ?_ <;> intro hlit <;> try (cases hlit; done)
    refine goh trivial ?_
    exact ⟨[some 0, some 1], by omega, leh r2, trivial⟩
  obtain rfl : i = L.length := by omega
  refine goh trivial ?_
  exact finh [] (And.intro hd hv)
 ·simp [no, ifp] at hp
theorem s_specScrubSound_e : EnterOk Tryz.prog 23 := ⟨_, Tryz.func23, rfl, by decide⟩
@[go_sem] def s_specScrubSound_lv : List (List Nat) := [[1], [1, 4], [1, 4, 5], [1, 4, 5, 6], [1, 4, 5, 6, 13], [1, 4, 5, 6], [1, 4, 5, 6, 7], [1, 4, 5, 6, 7, 17], [1, 4, 5, 6, 7], [1, 4, 5, 6, 7, 27], [1, 4, 5, 6, 7], [2, 3]]
@[go_sem] noncomputable def s_specScrubSound_K : Known := ((Known.nil).cons 25 ctScrubAll s_specScrubAll s_specScrubAll_e).cons 33 ctBlkSide s_specSide s_specSide_e
set_option maxHeartbeats 8000000 in
theorem s_specScrubSound : Sound Tryz.prog 23 ctScrubSound := by
 have ke := s_specScrubSound_K.env []
 have kl : Lives s_specScrubSound_lv := trivial
 refine sound_intro (E := ⟨ti, s_specScrubSound_K.Γ, []⟩) ke Tryz.func23 Tryz.ntmps23 rfl (rs := [.tmp 2, .tmp 3]) rfl ?_
 intro args os hp
 unfold ctScrubSound at hp ⊢
 dsimp only at hp ⊢
 split at hp
 ·rename_i a b l x cs es ps y zs u o
  refine ⟨by simp, fun φ0 w0 => ?_⟩
  have hpf : (Pl.mk ⟨a, b, l⟩ ⟨x, cs, es, ps, y, zs, u⟩ o).fit := hp
  obtain ⟨⟨g1, g2, g3⟩, hf⟩ := id hpf
  simp only at g1 g2 g3 hf
  have hl := scrubP_len ⟨⟨a, b, l⟩, ⟨x, cs, es, ps, y, zs, u⟩, o⟩
  have hv : sndV ⟨⟨a, b, l⟩, ⟨x, cs, es, ps, y, zs, u⟩, o⟩ = (sndN ⟨a, b, l⟩ (scrubP ⟨⟨a, b, l⟩, ⟨x, cs, es, ps, y, zs, u⟩, o⟩) (scrubP ⟨⟨a, b, l⟩, ⟨x, cs, es, ps, y, zs, u⟩, o⟩).length, 2 * ((scrubP ⟨⟨a, b, l⟩, ⟨x, cs, es, ps, y, zs, u⟩, o⟩).length : Int)) := rfl
  obtain ⟨L, hL⟩ : ∃ L, scrubP ⟨⟨a, b, l⟩, ⟨x, cs, es, ps, y, zs, u⟩, o⟩ = L := ⟨_, rfl⟩
  rw [hL] at hl hv
  obtain ⟨d, hd⟩ : ∃ d, Dk.mk a b l = d := ⟨_, rfl⟩
  obtain ⟨S, hS⟩ : ∃ S : Nat → Int, S = sndN d L := ⟨_, rfl⟩
  rw [hd, ← hS] at hv
  have s0 : S 0 = 0 := by rw [hS]; rfl
  have sl : ∀ i, 0 ≤ S i ∧ S i ≤ 2 * i := fun i => by rw [hS]; exact sndN_in d L i
  refine goh (And.intro hpf hL) ?_
  refine W_for L.length (fun i => True) (fun i => ⟨[(1, .one (.ptr 0 0)), (4, .one (.osl .ptr 1 0 L.length)), (5, vi (S i)), (6, vi i)], [some (.cells [.isl .str a, .isl .str b, .isl .late l, .val (.int .i64 x), .isl .cset cs, .isl .ent es, .isl .ptr ps, .val (.bool y), .isl .int zs, .val (.int .i64 u), .val (.bool o)]), some (.arr .ptr L)], []⟩) [some 0, some 1] (leh s0) trivial fun i hi hI => ?_
  refine goh trivial ?_
  refine W_cnd ?_ ?_ <;> (try simp only [cnd_r]) <;> intro hlt
  ·have hi' : i < L.length := by omega
   obtain ⟨k1, k2⟩ := sl i
   have hsn : S (i + 1) = (S i + if blkSide d (L.getD i ET.ptr.dflt) 0 = true then 1 else 0) + if blkSide d (L.getD i ET.ptr.dflt) 1 = true then 1 else 0 := by rw [hS]; rfl
   obtain ⟨q, hq⟩ : ∃ q, L.getD i ET.ptr.dflt = q := ⟨_, rfl⟩
   rw [hq] at hsn
   obtain ⟨pa, pb, pc⟩ := q
   obtain ⟨c0, hc0⟩ : ∃ c, blkSide d ⟨pa, pb, pc⟩ 0 = c := ⟨_, rfl⟩
   obtain ⟨c1, hc1⟩ : ∃ c, blkSide d ⟨pa, pb, pc⟩ 1 = c := ⟨_, rfl⟩
   rw [hc0, hc1] at hsn
   obtain ⟨n0, hn0⟩ : ∃ n, S i = n := ⟨_, rfl⟩
   rw [hn0] at k1 k2 hsn
   refine goh hn0 ?_
   refine W_for 2 (fun j => True) (fun j => ⟨[(1, .one (.ptr 0 0)), (4, .one (.osl .ptr 1 0 L.length)), (5, vi (sdN n0 c0 c1 j)), (6, vi i), (7, vi j)], [some (.cells [.isl .str a, .isl .str b, .isl .late l, .val (.int .i64 x), .isl .cset cs, .isl .ent es, .isl .ptr ps, .val (.bool y), .isl .int zs, .val (.int .i64 u), .val (.bool o)]), some (.arr .ptr L)], []⟩) [some 0, some 1] (leh (And.intro hn0 (show sdN n0 c0 c1 0 = n0 from rfl))) trivial fun j hj hJ => ?_
   rcases (show j = 0 ∨ j = 1 ∨ j = 2 by omega) with rfl | rfl | rfl
   ·refine goh trivial ?_
    refine W_cnd ?_ ?_ <;> intro hlit <;> try (cases hlit; done)
    have w1 : IntKind.i64.wrap (n0 + 1) = n0 + 1 := wrap_id _ (by omega) (by omega)
    have r0 : sdN n0 c0 c1 0 = n0 := rfl
    cases c0 with
    | true =>
      have r1 : sdN n0 true c1 1 = n0 + 1 := rfl
      refine goh (And.intro hq (And.intro hd (And.intro hc0 r0))) ?_
      refine W_cnd ?_ ?_ <;> intro hlit <;> try (cases hlit; done)
      refine goh w1 ?_
      exact ⟨[some 0, some 1], by omega, leh r1, trivial⟩
    | false =>
      have r1 : sdN n0 false c1 1 = n0 := Int.add_zero n0
      refine goh (And.intro hq (And.intro hd (And.intro hc0 r0))) ?_
      refine W_cnd ?_ ?_ <;> intro hlit <;> try (cases hlit; done)
      refine goh trivial ?_
      exact ⟨[some 0, some 1], by omega, leh r1, trivial⟩
   ·refine goh trivial ?_
    refine W_cnd ?_ ?_ <;> intro hlit <;> try (cases hlit; done)
    obtain ⟨n1, hn1⟩ : ∃ n, sdN n0 c0 c1 1 = n := ⟨_, rfl⟩
    have hb1 : n0 ≤ n1 ∧ n1 ≤ n0 + 1 := by rw [← hn1]; cases c0 <;> simp [sdN] <;> omega
    have w1 : IntKind.i64.wrap (n1 + 1) = n1 + 1 := wrap_id _ (by omega) (by omega)
    cases c1 with
    | true =>
      have r1 : sdN n0 c0 true 2 = n1 + 1 := by rw [← hn1]; rfl
      refine goh (And.intro hq (And.intro hd (And.intro hc1 hn1))) ?_
      refine W_cnd ?_ ?_ <;> intro hlit <;> try (cases hlit; done)
      refine goh w1 ?_
      exact ⟨[some 0, some 1], by omega, leh r1, trivial⟩
    | false =>
      have r1 : sdN n0 c0 false 2 = n1 := by rw [← hn1]; exact Int.add_zero _
      refine goh (And.intro hq (And.intro hd (And.intro hc1 hn1))) ?_
      refine W_cnd ?_ ?_ <;> intro hlit <;> try (cases hlit; done)
      refine goh trivial ?_
      exact ⟨[some 0, some 1], by omega, leh r1, trivial⟩
   ·have r2 : sdN n0 c0 c1 2 = S (i + 1) := hsn.symm
    refine goh trivial ?_
    refine W_cnd ?_ ?_ <;> intro hlit <;> try (cases hlit; done)
    refine goh trivial ?_
    exact ⟨[some 0, some 1], by omega, leh r2, trivial⟩
  obtain rfl : i = L.length := by omega
  refine goh trivial ?_
  exact finh [] (And.intro hd hv)
 ·simp [no, ifp] at hp
end Go.Proofs.YtfmjgoeclilcnaaGreatDoor
namespace Go.Proofs.YtfmjgoeclilcnaaGreatDoor
open Go.RowKit
@[go_sem] def ct_s_xScrubSound : Ct := ⟨false, [[some .str, some .str, some .late, none, some .cset, some .ent, some .ptr, none, some .int, none, none]], fun args os => match args, os with
  | [.agg [.isl .str a, .isl .str b, .isl .late l, .val (.int .i64 x), .isl .cset cs, .isl .ent es, .isl .ptr ps, .val (.bool y), .isl .int zs, .val (.int .i64 u), .val (.bool o)]], [] => ifp ((Pl.mk ⟨a, b, l⟩ ⟨x, cs, es, ps, y, zs, u⟩ o).inn) (vb true)
  | _, _ => no⟩
@[go_sem] def s_xScrubSound_lv : List (List Nat) := [[1], [1, 3], [1, 3], [1, 13], [2], [1, 4, 5], [1, 4, 5, 6], [1, 4, 5, 6, 7, 8], [1, 6, 34], [2], [39], [2], [2]]
@[go_sem] noncomputable def s_xScrubSound_K : Known := (((((Known.nil).cons 7 ctSzPool s_szPool s_szPool_e).cons 9 ctToPool s_toPool s_toPool_e).cons 23 ctScrubSound s_specScrubSound s_specScrubSound_e).cons 24 ctScrubSound s_scrubSound s_scrubSound_e).cons 11 ctEqPool s_eqPool s_eqPool_e
set_option maxHeartbeats 8000000 in
theorem s_xScrubSound : Sound Tryz.prog 5 ct_s_xScrubSound := by
 have ke := s_xScrubSound_K.env []
 have kl : Lives s_xScrubSound_lv := trivial
 refine sound_intro (E := ⟨ti, s_xScrubSound_K.Γ, []⟩) ke Tryz.func5 Tryz.ntmps5 rfl (rs := [.tmp 2]) rfl ?_
 intro args os hp
 unfold ct_s_xScrubSound at hp ⊢
 dsimp only at hp ⊢
 split at hp
 ·rename_i a b l x cs es ps y zs u o
  refine ⟨by simp, fun φ0 w0 => ?_⟩
  have hin : (Pl.mk ⟨a, b, l⟩ ⟨x, cs, es, ps, y, zs, u⟩ o).inn := hp
  have i1 := szW_in (Pl.mk ⟨a, b, l⟩ ⟨x, cs, es, ps, y, zs, u⟩ o).wt 1048576 (by decide)
  refine goh trivial ?_
  refine W_cnd ?_ ?_ <;> (try simp only [cnd_r]) <;> intro hc
  ·refine goh trivial ?_
   exact finh [] trivial
  ·skip
   obtain ⟨⟨q1, q2, q3⟩, ⟨q4, q5, q6, q7⟩, hfit⟩ := hin.fit (n := 1048576) (by decide) (by omega)
   have hpf : (Pl.mk ⟨a, b, l⟩ ⟨x, cs, es, ps, y, zs, u⟩ o).fit := ⟨⟨by simp only; omega, by simp only; omega, by simp only; omega⟩, hfit⟩
   have nt : (!true) = false := rfl
   have nf : (!false) = true := rfl
   obtain ⟨r, hx⟩ : ∃ r, sndV ⟨⟨a, b, l⟩, ⟨x, cs, es, ps, y, zs, u⟩, o⟩ = r := ⟨_, rfl⟩
   obtain ⟨r, r1⟩ := r
   clear hc i1
   have c0 : decide (1 + (a.length : Int) + b.length + 3 * l.length + 7 * cs.length + 3 * es.length + 3 * ps.length + zs.length < 0) = false := by simp; omega
   refine goh (And.intro hx (And.intro nt (And.intro nf c0))) ?_
   refine W_cnd ?_ ?_ <;> intro hlit <;> try (cases hlit; done)
   refine goh (And.intro hx (And.intro nt (And.intro nf c0))) ?_
   refine W_cnd ?_ ?_ <;> intro hlit <;> try (cases hlit; done)
   refine goh trivial ?_
   exact finh [] trivial
 ·simp [no, ifp] at hp
end Go.Proofs.YtfmjgoeclilcnaaGreatDoor
namespace Go.Proofs.YtfmjgoeclilcnaaGreatDoor
open Go.ChangeShapes Go.WideShapes Go.ChangeAt Go.RowKit
abbrev VR0 (w : World) (x : TV) (v : Value) : Prop := VR phi0 (tabOf []) w x v
theorem isSl_R {w : World} {t : ET} {v : Value} {xs : List t.α} (h : IsSl w t v xs) : CR phi0 (tabOf []) w (.isl t xs) v := by
 obtain ⟨a, cap, h1, h2, h3, h4, h5⟩ := h
 simp only [CR]
 exact ⟨a, cap, h1, h2, h3, h4, fun hne => by
  obtain ⟨b, o, h6, h7, h8⟩ := h5 hne
  exact ⟨b, o, h6, ⟨h7, not_own0, fun hf => hf⟩, h8⟩⟩
theorem str_all {xs : List ByteArray} (h : ∀ i, i < xs.length → EksOk ET.str.eks (ET.str.cells (xs.getD i ET.str.dflt))) (i : Nat) : (xs.getD i ET.str.dflt).size ≤ 9223372036854775807 := by
 rcases Nat.lt_or_ge i xs.length with hi | hi
 ·obtain ⟨⟨s, hs, h2⟩, -⟩ := h i hi
  have : xs.getD i ET.str.dflt = s := by injection hs
  rw [this]; exact h2
 ·rw [List.getD_eq_getElem?_getD, List.getElem?_eq_none hi]; exact Nat.zero_le _
theorem late_all {xs : List Late} (h : ∀ i, i < xs.length → EksOk ET.late.eks (ET.late.cells (xs.getD i ET.late.dflt))) (i : Nat) : (xs.getD i ET.late.dflt).text.size ≤ 9223372036854775807 := by
 rcases Nat.lt_or_ge i xs.length with hi | hi
 ·obtain ⟨-, -, ⟨s, hs, h2⟩, -⟩ := h i hi
  have : (xs.getD i ET.late.dflt).text = s := by injection hs
  rw [this]; exact h2
 ·rw [List.getD_eq_getElem?_getD, List.getElem?_eq_none hi]; exact Nat.zero_le _
section
variable {H : Type} {enc : TypeId × Value → H} {P : Program} {w : World} {base : Nat} {sp : Nat → Bool} {held : Bool} {t : TypeId} {v : Value} {d : DataW H} {ps : List MemPlace}
theorem lks_cons {k : LK} {ks : List LK} {cs : List Value} (h : LksOk w (k :: ks) cs) : ∃ x r, cs = x :: r ∧ LkOk w k x ∧ LksOk w ks r := by
 cases cs with
 | nil => exact h.elim
 | cons x r => exact ⟨x, r, rfl, h.1, h.2⟩
theorem lks_nil {cs : List Value} (h : LksOk w [] cs) : cs = [] := by
 cases cs with
 | nil => rfl
 | cons x r => exact h.elim
theorem okWide_agg (n : Nat) (hu : (match P.underlying t with | some (.struct _) => true | some (.array _ _) => true | _ => false) = true) (h : Value.okWide P w .any n t v) : ∃ cs, v = .agg cs := by
 unfold Value.okWide at h
 split at h
 ·obtain ⟨cs, h1, -⟩ := h; exact ⟨cs, h1⟩
 ·obtain ⟨cs, h1, -⟩ := h; exact ⟨cs, h1⟩
 ·rename_i h1 h2
  split at hu
  ·rename_i fs e; exact (h1 fs e).elim
  ·rename_i a b e; exact (h2 a b e).elim
  ·cases hu
theorem arg_disk (n : Nat) (hsh : shapeL P n t = some [.sl ET.str.eks, .sl ET.str.eks, .sl ET.late.eks]) (hu : (match P.underlying t with | some (.struct _) => true | some (.array _ _) => true | _ => false) = true) (hv : Value.okWide P w .any base t v) (h : DataW.Trod enc P w 0 sp held t v d ps) :
  ∃ a b l, (Dk.mk a b l).inn ∧ VR0 w (.agg [.isl .str a, .isl .str b, .isl .late l]) v := by
 obtain ⟨fuel, hf⟩ := h
 obtain ⟨cs, rfl⟩ := okWide_agg base hu hv
 have hns := value_noSpot hv
 have h0 := open_l n t _ hsh _ _ _ hf
 obtain ⟨x, _, e1, h1, h0⟩ := lks_cons h0
 obtain ⟨y, _, rfl, h2, h0⟩ := lks_cons h0
 obtain ⟨z, _, rfl, h3, h0⟩ := lks_cons h0
 obtain rfl := lks_nil h0
 rw [e1] at hns
 have hcs : cs.toList = [x, y, z] := by simpa [Value.cells] using e1
 obtain ⟨a, a1, a2, a3⟩ := sl_open h1 (hns x (by simp)) rfl (by decide) fun vs h => eks_str h
 obtain ⟨b, b1, b2, b3⟩ := sl_open h2 (hns y (by simp)) rfl (by decide) fun vs h => eks_str h
 obtain ⟨l, l1, l2, l3⟩ := sl_open h3 (hns z (by simp)) rfl (by decide) fun vs h => eks_late h
 refine ⟨a, b, l, ⟨⟨a2, str_all a3⟩, ⟨b2, str_all b3⟩, ⟨l2, late_all l3⟩⟩, ?_⟩
 simp only [VR]
 exact ⟨cs, rfl, by rw [hcs]; exact ⟨isSl_R a1, isSl_R b1, isSl_R l1, trivial⟩⟩
end
theorem lawN {f : FuncId} {ct : Ct} (h : Sound Tryz.prog f ct) {w : World} {vs : List Value} {args : List TV} (hs : ct.spec args [] = ifp True (vb true) ∨ ∃ p, p ∧ ct.spec args [] = ifp p (vb true)) (hr : VRs phi0 (tabOf []) w args vs) (hg : GloOk0 w) :
  Calls Tryz.prog f vs.toArray w fun e w' => e = .returned (.bool true) ∧ Below w.heap.size w w' := by
 have hpre : (ct.spec args []).pre ∧ (ct.spec args []).v = vb true := by
  rcases hs with hs | ⟨p, hp, hs⟩
  ·rw [hs]; exact ⟨trivial, rfl⟩
  ·rw [hs]; exact ⟨hp, rfl⟩
 refine (h args [] hpre.1 phi0 w vs (rel0 w hg) hr fun _ _ => rfl).mono ?_
 rintro e w' hp
 obtain ⟨r, φ', rfl, hv, hbl⟩ := post_below hp
 rw [hpre.2] at hv
 simp only [vb, VR, CR] at hv
 subst hv
 exact ⟨rfl, hbl⟩
end Go.Proofs.YtfmjgoeclilcnaaGreatDoor
namespace Go.Proofs.YtfmjgoeclilcnaaGreatDoor
open Go.ChangeShapes Go.WideShapes Go.ChangeAt Go.RowKit
set_option maxRecDepth 100000 in
theorem mapsR7 : mapsRowed Tryz.prog = true := by kernel_rfl
def laid7 : List (String × DataW Unit) := [("math/bits.deBruijn32tab", Rows.laid_math_bits_deBruijn32tab), ("math/bits.deBruijn64tab", Rows.laid_math_bits_deBruijn64tab), ("internal/strconv.uint64pow10", Rows.laid_internal_strconv_uint64pow10), ("unicode/utf8.acceptRanges", Rows.laid_unicode_utf8_acceptRanges), ("strconv.ErrRange", Rows.laid_strconv_ErrRange), ("strconv.ErrSyntax", Rows.laid_strconv_ErrSyntax), ("unicode/utf8.first", Rows.laid_unicode_utf8_first)]
set_option maxRecDepth 100000 in
theorem laid7_met (os : Os) (args : Array Value) : laidMetH Tryz.prog laid7 ((World.laidAll Tryz.prog os laid7).forCall (fun _ _ => 0) ⟨#[], args, []⟩).memory := by
 rw [MakeChecks.laidMetH_plain _ _ _ (by kernel_rfl)]
 exact laidMet_laidAll _ (by kernel_rfl) (by kernel_rfl)
set_option maxRecDepth 100000 in
theorem laid7_shaped (os : Os) : World.Shaped Tryz.prog (World.laidAll Tryz.prog os laid7) := World.shaped_of_ZipB (by kernel_rfl) (by kernel_rfl)
theorem laidVars_at7 {P : Program} {w : World} : ∀ {l : List (String × DataW Unit)} {ps : List MemPlace}, DataW.LaidVars P w l ps → ∀ {n : String} {d : DataW Unit}, (n, d) ∈ l →
  ∃ g t cs fuel p, P.globalNamed n = some g ∧ (P.globals[g]?).map (·.type) = some t ∧ w.var? P n = some cs ∧ DataW.trod (fun _ => ()) P w 0 (fun _ => true) false fuel t cs.toList = some (d, p)
 | [], _, _, n, d, hm => by cases hm
 | (n', d') :: r, ps, h, n, d, hm => by
   obtain ⟨g, t, cs, fuel, p, q, h1, h2, h3, h4, h5, -⟩ := h
   rcases List.mem_cons.1 hm with he | hm
   ·cases he
    exact ⟨g, t, cs, fuel, p, h1, h2, h3, h4⟩
   ·exact laidVars_at7 h5 hm
theorem var_heap7 {P : Program} {w : World} {n : String} {g : Nat} {cs : Array Value} (hg : P.globalNamed n = some g) (h : w.var? P n = some cs) : ∃ e f, w.heap[g]? = some (.cells cs e f) := by
 unfold World.var? at h
 rw [hg, Option.bind_some] at h
 split at h
 ·rename_i c e f hc
  cases h
  exact ⟨e, f, hc⟩
 ·cases h
theorem iface_cells {P : Program} {w : World} {fuel : Nat} {t : TypeId} {cs : List Value} {s : String} {d : DataW Unit} {p : List MemPlace} (ht : ∃ ms, P.underlying t = some (.interface ms))
  (h : DataW.trod (fun _ => ()) P w 0 (fun _ => true) false fuel t cs = some (.iface s d, p)) : ∃ u v, cs = [.iface u v] := by
 obtain ⟨ms, ht⟩ := ht
 cases fuel with
 | zero => simp [DataW.trod] at h
 | succ fuel =>
   match cs, h with
   | [], h => simp [DataW.trod, ht] at h
   | v :: v2 :: r, h => simp [DataW.trod, ht] at h
   | [v], h => cases v <;> first | exact ⟨_, _, rfl⟩ | (simp [DataW.trod, ht] at h; done)
set_option maxRecDepth 100000 in
theorem laid7_plain : (laid7.filter fun x => x.2.handleName?.isSome) = [] := by kernel_rfl
set_option maxRecDepth 100000 in
theorem pow10_laid7 : (Rows.laid_internal_strconv_uint64pow10 : DataW Unit) = Lib.tabData .u64 Lib.pow10Tab := by kernel_rfl
set_option maxRecDepth 100000 in
theorem glo_laid7 {W : World} (hs : W.ShapedOpen Tryz.prog) (h : laidMetH Tryz.prog laid7 W) : GloOk0 W := by
 unfold laidMetH at h
 rw [laid7_plain] at h
 obtain ⟨ps, hv, -, -⟩ := h
 have err : ∀ (n : String) (g : Nat) (d : DataW Unit), (n, d) ∈ laid7 → (∃ s d', d = .iface s d') → Tryz.prog.globalNamed n = some g → (Tryz.prog.globals[g]?).map (·.type) = some 207 → ∃ c e f, W.heap[g]? = some (.cells c e f) ∧ ∃ t p, c = #[.iface t p] := by
  rintro n g d hm ⟨s, d', rfl⟩ hg ht
  obtain ⟨g', t, cs, fuel, p, h1, h2, h3, h4⟩ := laidVars_at7 hv hm
  obtain rfl := Option.some.inj (hg.symm.trans h1)
  obtain rfl := Option.some.inj (ht.symm.trans h2)
  obtain ⟨e, f, h5⟩ := var_heap7 h1 h3
  obtain ⟨u, v, h6⟩ := iface_cells ⟨_, Tryz.underlying207⟩ h4
  exact ⟨cs, e, f, h5, u, v, by cases cs; simpa using h6⟩
 intro q hq
 unfold gloL at hq
 simp only [List.mem_cons, List.not_mem_nil, or_false] at hq
 rcases hq with rfl | rfl | rfl | rfl
 ·obtain ⟨g, t, cs, fuel, p, h1, h2, h3, h4⟩ := laidVars_at7 hv (n := "internal/strconv.uint64pow10") (d := Rows.laid_internal_strconv_uint64pow10) (by simp [laid7])
  have hg : Tryz.prog.globalNamed "internal/strconv.uint64pow10" = some 5 := by kernel_rfl
  obtain rfl := Option.some.inj (hg.symm.trans h1)
  obtain ⟨e, f, h5⟩ := var_heap7 h1 h3
  refine ⟨cs, e, f, h5, ?_⟩
  rw [pow10_laid7] at h4
  have ht : (Tryz.prog.globals[5]?).map (·.type) = some 304 := by kernel_rfl
  obtain rfl := Option.some.inj (ht.symm.trans h2)
  have h6 := Lib.cells_of_tab (n := 20) (e := 249) (by kernel_rfl) (by kernel_rfl) (by kernel_rfl) (by kernel_rfl) h4
  show cs = _
  rw [← h6]
 ·exact err "strconv.ErrSyntax" 0 Rows.laid_strconv_ErrSyntax (by simp [laid7]) ⟨_, _, rfl⟩ (by kernel_rfl) (by kernel_rfl)
 ·exact err "strconv.ErrRange" 1 Rows.laid_strconv_ErrRange (by simp [laid7]) ⟨_, _, rfl⟩ (by kernel_rfl) (by kernel_rfl)
 ·obtain ⟨m, hm⟩ := Tryz.lays146.s1_3 W hs
  have hm : W.cell? ⟨2, 0, none⟩ = some (.int .i64 m) := hm
  cases hh : W.heap[2]? with
  | none => simp [World.cell?, hh] at hm
  | some o =>
    cases o with
    | cells c e f => exact ⟨c, e, f, rfl, m, by simpa [World.cell?, hh] using hm⟩
    | _ => simp [World.cell?, hh] at hm
theorem handed_and_shaped {H : Type} {enc : TypeId × Value → H} {a : Assume} {C : Checked} {os : Os} {f : FuncId} {fn : Func} {s : ChangeSpec} {conds : List PathCond} {apart fresh handsOn again : Bool} {X : World → Array Value → Prop}
  (hX : ∀ (w w' : World) (args : Array Value), w.heap = w'.heap → X w args → X w' args)
  (own : ownKnob C.prog.godebug = none) (started : os.Started) (noInit : C.prog.inits.idxOf? f = none) (hfn : C.prog.funcs[f]? = some fn)
  (witness : ∃ (w : World) (tape : Tape) (i : Input), w.os = os ∧ (w.forCall tape i).Shaped C.prog ∧ i.vars = [] ∧ Input.okWide C.prog (w.forCall tape i) .any w.heap.size f i ∧
   ((s.pre enc C.prog fn conds apart (w.forCall tape i).memory i.args ∧ X (w.forCall tape i).memory i.args) ∧ sizedMet enc C.prog fn (OpenSpec.ofChange s) apart (w.forCall tape i).memory i.args) ∧ a.holds C.prog (lone (Frame.enter C.prog f i.args .normal) [] (w.forCall tape i)))
  (contract : ∀ (W : World) (base : Nat) (args : Array Value) (ds gs : List (DataW H)) (before : List MemPlace),
   (∀ (j : Nat) t v, fn.params[j]? = some t → args[j]? = some v → Value.okWide C.prog W .any base t v) →
   DataW.Whole enc C.prog fn.params.toList s.vars apart W args.toList ds gs before →
   conds.all (PathCond.test C.prog ⟨fn.params.toList, ds, s.plain.varTypes C.prog, gs⟩) = true →
   (DataW.weightsEach C.prog (fn.params.toList ++ s.plain.varTypes C.prog) (ds ++ gs)).all (· ≤ reachBytes) = true → W.ShapedOpen C.prog ∧ X W args →
   a.holds C.prog (lone (Frame.enter C.prog f args .normal) [] W) →
   Calls C.prog f args W fun e W' => ∃ v, e = .returned v ∧ s.post enc C.prog fn apart fresh handsOn again W args v W') :
  ReturnsInHanded a C os f .any (fun w args => (s.pre enc C.prog fn conds apart w args ∧ X w args) ∧ sizedMet enc C.prog fn (OpenSpec.ofChange s) apart w args) (s.post enc C.prog fn apart fresh handsOn again) := by
 refine returnsInHanded_of_calls own started noInit witness ?_
 intro w tape i _ hsh _ hok hpre hholds
 obtain ⟨_, _, _, fn', hfn', _, _, _, _, hval⟩ := hok
 have e : fn' = fn := Option.some.inj (hfn'.symm.trans hfn)
 subst e
 obtain ⟨⟨⟨ds, gs, before, hw, hc⟩, hx⟩, hz⟩ := hpre
 have hw' := DataW.Whole.of_heap (w' := w.forCall tape i) (by rfl) hw
 refine (contract (w.forCall tape i) w.heap.size i.args ds gs before hval hw' hc (hz.weights hw) ⟨hsh, hX _ _ _ (by rfl) hx⟩ hholds).mono fun e W' ⟨v, he, hp⟩ => ?_
 subst he
 exact ChangeSpec.post_blind hp
end Go.Proofs.YtfmjgoeclilcnaaGreatDoor
namespace Go.Proofs.YtfmjgoeclilcnaaGreatDoor
open Go.ChangeShapes Go.WideShapes Go.ChangeAt Go.RowKit
def EK.wide : EK → Bool
 | .int .i64 => true
 | .int _ => false
 | _ => true
theorem eks_kinds : ∀ {ks : List EK} {vs : List Value}, ks.all EK.wide = true → EksOk ks vs → kindsOk (ks.map EK.tk) vs = true
 | [], [], _, _ => rfl
 | [], _ :: _, _, h => h.elim
 | _ :: _, [], _, h => h.elim
 | k :: ks, v :: vs, hw, ⟨h, h2⟩ => by
   rw [List.all_cons, Bool.and_eq_true] at hw
   have ih := eks_kinds hw.2 h2
   cases k with
   | int q =>
     obtain ⟨n, rfl, -⟩ := h
     cases q <;> simp [EK.wide] at hw
     simpa [kindsOk, EK.tk] using ih
   | str => obtain ⟨n, rfl, -⟩ := h; simpa [kindsOk, EK.tk] using ih
   | bool => obtain ⟨n, rfl⟩ := h; simpa [kindsOk, EK.tk] using ih
theorem eks_cset {vs : List Value} (h : EksOk ET.cset.eks vs) : ∃ x, ET.cset.cells x = vs := ⟨_, cset_cells (eks_kinds (by decide) h)⟩
theorem eks_ent {vs : List Value} (h : EksOk ET.ent.eks vs) : ∃ x, ET.ent.cells x = vs := by
 obtain ⟨_, _, rfl, ⟨a, rfl, _⟩, h1⟩ := eks_cons h
 obtain ⟨_, _, rfl, ⟨b, rfl, _⟩, h2⟩ := eks_cons h1
 obtain ⟨_, _, rfl, ⟨c, rfl, _⟩, h3⟩ := eks_cons h2
 obtain rfl := eks_nil h3
 exact ⟨⟨a, b, c⟩, rfl⟩
theorem cset_all {xs : List CSet} (h : ∀ i, i < xs.length → EksOk ET.cset.eks (ET.cset.cells (xs.getD i ET.cset.dflt))) (i : Nat) : (xs.getD i ET.cset.dflt).name.size ≤ 9223372036854775807 ∧ (xs.getD i ET.cset.dflt).from_.size ≤ 9223372036854775807 := by
 rcases Nat.lt_or_ge i xs.length with hi | hi
 ·obtain ⟨⟨s, hs, h2⟩, -, ⟨f, hf, hf2⟩, -⟩ := h i hi
  have e1 : (xs.getD i ET.cset.dflt).name = s := by injection hs
  have e2 : (xs.getD i ET.cset.dflt).from_ = f := by injection hf
  rw [e1, e2]; exact ⟨h2, hf2⟩
 ·rw [List.getD_eq_getElem?_getD, List.getElem?_eq_none hi]; exact ⟨Nat.zero_le _, Nat.zero_le _⟩
section
variable {H : Type} {enc : TypeId × Value → H} {P : Program} {w : World} {base : Nat} {sp : Nat → Bool} {held : Bool} {t : TypeId} {v : Value} {d : DataW H} {ps : List MemPlace}
theorem arg_pool (n : Nat) (hsh : shapeL P n t = some [.sl ET.str.eks, .sl ET.str.eks, .sl ET.late.eks, .e (.int .i64), .sl ET.cset.eks, .sl ET.ent.eks, .sl ET.ptr.eks, .e .bool, .sl ET.int.eks, .e (.int .i64), .e .bool]) (hu : (match P.underlying t with | some (.struct _) => true | some (.array _ _) => true | _ => false) = true) (hv : Value.okWide P w .any base t v) (h : DataW.Trod enc P w 0 sp held t v d ps) :
  ∃ a b l x cs es ps' y zs u o, (Pl.mk ⟨a, b, l⟩ ⟨x, cs, es, ps', y, zs, u⟩ o).inn ∧ VR0 w (.agg [.isl .str a, .isl .str b, .isl .late l, .val (.int .i64 x), .isl .cset cs, .isl .ent es, .isl .ptr ps', .val (.bool y), .isl .int zs, .val (.int .i64 u), .val (.bool o)]) v := by
 obtain ⟨fuel, hf⟩ := h
 obtain ⟨vs, rfl⟩ := okWide_agg base hu hv
 have hns := value_noSpot hv
 have h0 := open_l n t _ hsh _ _ _ hf
 obtain ⟨v1, _, e1, h1, g1⟩ := lks_cons h0
 obtain ⟨v2, _, rfl, h2, g2⟩ := lks_cons g1
 obtain ⟨v3, _, rfl, h3, g3⟩ := lks_cons g2
 obtain ⟨_, _, rfl, ⟨x, rfl, -⟩, g4⟩ := lks_cons g3
 obtain ⟨v5, _, rfl, h5, g5⟩ := lks_cons g4
 obtain ⟨v6, _, rfl, h6, g6⟩ := lks_cons g5
 obtain ⟨v7, _, rfl, h7, g7⟩ := lks_cons g6
 obtain ⟨_, _, rfl, ⟨y, rfl⟩, g8⟩ := lks_cons g7
 obtain ⟨v9, _, rfl, h9, g9⟩ := lks_cons g8
 obtain ⟨_, _, rfl, ⟨u, rfl, -⟩, g10⟩ := lks_cons g9
 obtain ⟨_, _, rfl, ⟨o, rfl⟩, g11⟩ := lks_cons g10
 obtain rfl := lks_nil g11
 rw [e1] at hns
 have hcs : vs.toList = [v1, v2, v3, .int .i64 x, v5, v6, v7, .bool y, v9, .int .i64 u, .bool o] := by simpa [Value.cells] using e1
 obtain ⟨a, a1, a2, a3⟩ := sl_open h1 (hns v1 (by simp)) rfl (by decide) fun vs h => eks_str h
 obtain ⟨b, b1, b2, b3⟩ := sl_open h2 (hns v2 (by simp)) rfl (by decide) fun vs h => eks_str h
 obtain ⟨l, l1, l2, l3⟩ := sl_open h3 (hns v3 (by simp)) rfl (by decide) fun vs h => eks_late h
 obtain ⟨cs, c1, c2, c3⟩ := sl_open h5 (hns v5 (by simp)) rfl (by decide) fun vs h => eks_cset h
 obtain ⟨es, s1, s2, -⟩ := sl_open h6 (hns v6 (by simp)) rfl (by decide) fun vs h => eks_ent h
 obtain ⟨qs, p1, p2, -⟩ := sl_open h7 (hns v7 (by simp)) rfl (by decide) fun vs h => eks_ptr h
 obtain ⟨zs, z1, z2, -⟩ := sl_open h9 (hns v9 (by simp)) rfl (by decide) fun vs h => eks_int h
 refine ⟨a, b, l, x, cs, es, qs, y, zs, u, o, ⟨⟨⟨a2, str_all a3⟩, ⟨b2, str_all b3⟩, ⟨l2, late_all l3⟩⟩, ⟨⟨c2, cset_all c3⟩, s2, p2, z2⟩⟩, ?_⟩
 simp only [VR]
 exact ⟨vs, rfl, by rw [hcs]; exact ⟨isSl_R a1, isSl_R b1, isSl_R l1, rfl, isSl_R c1, isSl_R s1, isSl_R p1, rfl, isSl_R z1, rfl, rfl, trivial⟩⟩
end
end Go.Proofs.YtfmjgoeclilcnaaGreatDoor
