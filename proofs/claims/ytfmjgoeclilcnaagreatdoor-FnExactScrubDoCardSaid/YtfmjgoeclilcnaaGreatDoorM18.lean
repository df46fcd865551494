import Derived.Test.YtfmjgoeclilcnaaGreatDoorM9
import Derived.Test.YtfmjgoeclilcnaaGreatDoorM12
import Derived.Test.YtfmjgoeclilcnaaGreatDoorM15
import Derived.Test.YtfmjgoeclilcnaaGreatDoorM16
import Derived.Test.YtfmjgoeclilcnaaGreatDoorM17
set_option linter.unusedSimpArgs false
set_option linter.unusedVariables false
set_option linter.unusedSectionVars false
namespace Go.Proofs.YtfmjgoeclilcnaaGreatDoor
open Go.RowKit
def entS (w : ByteArray) : Ent := (spec3 w).getD ⟨0, 0, 0⟩
theorem entS_is {w x y z : ByteArray} (h : splitV 46 w = [x, y, z]) : spec3 w = some (entS w) ∧ entS w = ⟨(numV x).getD 0, (numV y).getD 0, (numV z).getD 0⟩ := by
 have e : spec3 w = some ⟨(numV x).getD 0, (numV y).getD 0, (numV z).getD 0⟩ := by unfold spec3; rw [h]
 unfold entS
 rw [e]
 exact ⟨rfl, rfl⟩
theorem spec3_not {w : ByteArray} {fs : List ByteArray} (h : splitV 46 w = fs) (h3 : fs.length ≠ 3) : spec3 w = none := by
 unfold spec3
 rw [h]
 match fs, h3 with
 | [], _ => rfl
 | [_], _ => rfl
 | [_, _], _ => rfl
 | _ :: _ :: _ :: _ :: _, _ => rfl
 | [_, _, _], h3 => exact absurd rfl h3
theorem all_spec {ws : List ByteArray} (h : ∀ k, k < ws.length → spec3 (ws.getD k ET.str.dflt) = some (entS (ws.getD k ET.str.dflt))) : ws.map spec3 = (ws.map entS).map some := by
 apply List.ext_getElem
 ·simp
 ·intro i h1 h2
  simp only [List.length_map] at h1
  have := h i h1
  rw [show ws.getD i ET.str.dflt = ws[i] by simp [h1]] at this
  simp [this]
theorem s_specMapRead_e : EnterOk Tryz.prog 111 := ⟨_, Tryz.func111, rfl, by decide⟩
@[go_sem] def s_specMapRead_lv : List (List Nat) := [[0, 2], [0, 2, 4], [0, 2, 4, 5], [0, 2, 4, 5, 19], [2, 3], [0, 2, 4, 5, 6], [0, 2, 4, 5, 6, 22], [0, 2, 4, 5, 6], [0, 2, 4, 5, 6, 7, 8], [0, 2, 4, 5, 6, 7, 34], [2, 3], [0, 2, 4, 5, 6], [2, 4, 42], [2, 3], [2, 3]]
@[go_sem] noncomputable def s_specMapRead_K : Known := (((Known.nil).cons 106 ctCutB s_cutB s_cutB_e).cons 170 ctPtrRead s_specPtrRead s_specPtrRead_e).cons 177 ctMapT s_specCoreMap s_specCoreMap_e
set_option maxHeartbeats 8000000 in
theorem s_specMapRead : Sound Tryz.prog 111 ctMapR := by
 have ke := s_specMapRead_K.env []
 have kl : Lives s_specMapRead_lv := trivial
 refine sound_intro (E := ⟨ti, s_specMapRead_K.Γ, []⟩) ke Tryz.func111 Tryz.ntmps111 rfl (rs := [.cell 2 91, .tmp 3]) rfl ?_
 intro args os hp
 unfold ctMapR at hp ⊢
 dsimp only at hp ⊢
 split at hp
 ·rename_i t
  refine ⟨by simp, fun φ0 w0 => ?_⟩
  have hlen : t.size ≤ 1000000 := hp
  have h32 : UInt8.ofNat 32 = 32 := rfl
  have hsz : (⟨#[32]⟩ : ByteArray).size = 1 := rfl
  have nt : (!true) = false := rfl
  have nf : (!false) = true := rfl
  have hwl := splitV_len 32 t
  by_cases hz : 400 < t.size
  ·have e := mapP_long hz
   have c1 : decide ((t.size : Int) > 400) = true := by simp; omega
   refine goh (And.intro c1 (And.intro h32 hsz)) ?_
   refine W_cnd ?_ ?_ <;> intro hlit <;> try (cases hlit; done)
   refine goh trivial ?_
   exact finh [] e
  have c1 : decide ((t.size : Int) > 400) = false := by simp; omega
  by_cases h8 : (splitV 32 t).length = 8
  rotate_left
  ·have e := mapP_len h8
   have c2 : (((splitV 32 t).length : Int) != 8) = true := by simp; omega
   refine goh (And.intro c1 (And.intro c2 (And.intro h32 hsz))) ?_
   refine W_cnd ?_ ?_ <;> intro hlit <;> try (cases hlit; done)
   refine goh trivial ?_
   exact finh [] e
  obtain ⟨v0, v1, v2, v3, v4, v5, v6, v7, hw⟩ := list8 h8
  clear h8 hz
  have hms : ∀ w ∈ splitV 32 t, w.size ≤ 1000000 := fun w h => Nat.le_trans (splitV_size h) hlen
  have hbad := fun w (h : w ∈ splitV 32 t) => mapP_bad (t := t) (w := w) h
  rw [hw] at hms hbad hwl
  have c2 : ((8 : Int) != 8) = false := rfl
  have m0 := hms v0 (by simp)
  obtain ⟨⟨pa0, pb0, pc0⟩, hp0⟩ : ∃ p, (ptrReadV v0).getD Ptr.zero = p := ⟨_, rfl⟩
  have m1 := hms v1 (by simp)
  obtain ⟨⟨pa1, pb1, pc1⟩, hp1⟩ : ∃ p, (ptrReadV v1).getD Ptr.zero = p := ⟨_, rfl⟩
  have m2 := hms v2 (by simp)
  obtain ⟨⟨pa2, pb2, pc2⟩, hp2⟩ : ∃ p, (ptrReadV v2).getD Ptr.zero = p := ⟨_, rfl⟩
  have m3 := hms v3 (by simp)
  obtain ⟨⟨pa3, pb3, pc3⟩, hp3⟩ : ∃ p, (ptrReadV v3).getD Ptr.zero = p := ⟨_, rfl⟩
  have m4 := hms v4 (by simp)
  obtain ⟨⟨pa4, pb4, pc4⟩, hp4⟩ : ∃ p, (ptrReadV v4).getD Ptr.zero = p := ⟨_, rfl⟩
  have m5 := hms v5 (by simp)
  obtain ⟨⟨pa5, pb5, pc5⟩, hp5⟩ : ∃ p, (ptrReadV v5).getD Ptr.zero = p := ⟨_, rfl⟩
  have m6 := hms v6 (by simp)
  obtain ⟨⟨pa6, pb6, pc6⟩, hp6⟩ : ∃ p, (ptrReadV v6).getD Ptr.zero = p := ⟨_, rfl⟩
  have m7 := hms v7 (by simp)
  obtain ⟨⟨pa7, pb7, pc7⟩, hp7⟩ : ∃ p, (ptrReadV v7).getD Ptr.zero = p := ⟨_, rfl⟩
  clear hms
  refine goh (And.intro c1 (And.intro c2 (And.intro h32 (And.intro hsz (And.intro hw hwl))))) ?_
  refine W_cnd ?_ ?_ <;> intro hlit <;> try (cases hlit; done)
  refine goh trivial ?_
  refine W_for 8 (fun i => ∀ k, k < i → ptrReadV ([v0, v1, v2, v3, v4, v5, v6, v7].getD k ⟨#[]⟩) = some ([(⟨pa0, pb0, pc0⟩ : Ptr), (⟨pa1, pb1, pc1⟩ : Ptr), (⟨pa2, pb2, pc2⟩ : Ptr), (⟨pa3, pb3, pc3⟩ : Ptr), (⟨pa4, pb4, pc4⟩ : Ptr), (⟨pa5, pb5, pc5⟩ : Ptr), (⟨pa6, pb6, pc6⟩ : Ptr), (⟨pa7, pb7, pc7⟩ : Ptr)].getD k Ptr.zero)) (fun i => ⟨[(0, vs t), (2, .one (.ptr 0 0)), (4, .one (.ptr 1 0)), (5, .one (.osl .str 2 0 8)), (6, vi i)], [some (.cells ((P8.cells (Eight.rep Ptr.zero)).map .val)), some (.cells (p8mix ⟨⟨pa0, pb0, pc0⟩, ⟨pa1, pb1, pc1⟩, ⟨pa2, pb2, pc2⟩, ⟨pa3, pb3, pc3⟩, ⟨pa4, pb4, pc4⟩, ⟨pa5, pb5, pc5⟩, ⟨pa6, pb6, pc6⟩, ⟨pa7, pb7, pc7⟩⟩ i)), some (.arr .str [v0, v1, v2, v3, v4, v5, v6, v7])], []⟩) [some 0, some 1, some 2] (leh trivial) (fun k hk => absurd hk (Nat.not_lt_zero k)) fun i hi hI => ?_
  rcases (show i = 0 ∨ i = 1 ∨ i = 2 ∨ i = 3 ∨ i = 4 ∨ i = 5 ∨ i = 6 ∨ i = 7 ∨ i = 8 by omega) with rfl | rfl | rfl | rfl | rfl | rfl | rfl | rfl | rfl
  ·cases hr : ptrReadV v0 with
   | none =>
     have e := hbad v0 (by simp) hr
     refine goh trivial ?_
     refine W_cnd ?_ ?_ <;> intro hlit <;> try (cases hlit; done)
     refine goh (And.intro hr (And.intro m0 nf)) ?_
     refine W_cnd ?_ ?_ <;> intro hlit <;> try (cases hlit; done)
     refine goh trivial ?_
     exact finh [] e
   | some q =>
     rw [hr] at hp0
     obtain rfl : q = ⟨pa0, pb0, pc0⟩ := hp0
     refine goh trivial ?_
     refine W_cnd ?_ ?_ <;> intro hlit <;> try (cases hlit; done)
     refine goh (And.intro hr (And.intro m0 nt)) ?_
     refine W_cnd ?_ ?_ <;> intro hlit <;> try (cases hlit; done)
     refine goh trivial ?_
     exact ⟨[some 0, some 1, some 2], by omega, leh trivial, upto_more hI hr⟩
  ·cases hr : ptrReadV v1 with
   | none =>
     have e := hbad v1 (by simp) hr
     refine goh trivial ?_
     refine W_cnd ?_ ?_ <;> intro hlit <;> try (cases hlit; done)
     refine goh (And.intro hr (And.intro m1 nf)) ?_
     refine W_cnd ?_ ?_ <;> intro hlit <;> try (cases hlit; done)
     refine goh trivial ?_
     exact finh [] e
   | some q =>
     rw [hr] at hp1
     obtain rfl : q = ⟨pa1, pb1, pc1⟩ := hp1
     refine goh trivial ?_
     refine W_cnd ?_ ?_ <;> intro hlit <;> try (cases hlit; done)
     refine goh (And.intro hr (And.intro m1 nt)) ?_
     refine W_cnd ?_ ?_ <;> intro hlit <;> try (cases hlit; done)
     refine goh trivial ?_
     exact ⟨[some 0, some 1, some 2], by omega, leh trivial, upto_more hI hr⟩
  ·cases hr : ptrReadV v2 with
   | none =>
     have e := hbad v2 (by simp) hr
     refine goh trivial ?_
     refine W_cnd ?_ ?_ <;> intro hlit <;> try (cases hlit; done)
     refine goh (And.intro hr (And.intro m2 nf)) ?_
     refine W_cnd ?_ ?_ <;> intro hlit <;> try (cases hlit; done)
     refine goh trivial ?_
     exact finh [] e
   | some q =>
     rw [hr] at hp2
     obtain rfl : q = ⟨pa2, pb2, pc2⟩ := hp2
     refine goh trivial ?_
     refine W_cnd ?_ ?_ <;> intro hlit <;> try (cases hlit; done)
     refine goh (And.intro hr (And.intro m2 nt)) ?_
     refine W_cnd ?_ ?_ <;> intro hlit <;> try (cases hlit; done)
     refine goh trivial ?_
     exact ⟨[some 0, some 1, some 2], by omega, leh trivial, upto_more hI hr⟩
  ·cases hr : ptrReadV v3 with
   | none =>
     have e := hbad v3 (by simp) hr
     refine goh trivial ?_
     refine W_cnd ?_ ?_ <;> intro hlit <;> try (cases hlit; done)
     refine goh (And.intro hr (And.intro m3 nf)) ?_
     refine W_cnd ?_ ?_ <;> intro hlit <;> try (cases hlit; done)
     refine goh trivial ?_
     exact finh [] e
   | some q =>
     rw [hr] at hp3
     obtain rfl : q = ⟨pa3, pb3, pc3⟩ := hp3
     refine goh trivial ?_
     refine W_cnd ?_ ?_ <;> intro hlit <;> try (cases hlit; done)
     refine goh (And.intro hr (And.intro m3 nt)) ?_
     refine W_cnd ?_ ?_ <;> intro hlit <;> try (cases hlit; done)
     refine goh trivial ?_
     exact ⟨[some 0, some 1, some 2], by omega, leh trivial, upto_more hI hr⟩
  ·cases hr : ptrReadV v4 with
   | none =>
     have e := hbad v4 (by simp) hr
     refine goh trivial ?_
     refine W_cnd ?_ ?_ <;> intro hlit <;> try (cases hlit; done)
     refine goh (And.intro hr (And.intro m4 nf)) ?_
     refine W_cnd ?_ ?_ <;> intro hlit <;> try (cases hlit; done)
     refine goh trivial ?_
     exact finh [] e
   | some q =>
     rw [hr] at hp4
     obtain rfl : q = ⟨pa4, pb4, pc4⟩ := hp4
     refine goh trivial ?_
     refine W_cnd ?_ ?_ <;> intro hlit <;> try (cases hlit; done)
     refine goh (And.intro hr (And.intro m4 nt)) ?_
     refine W_cnd ?_ ?_ <;> intro hlit <;> try (cases hlit; done)
     refine goh trivial ?_
     exact ⟨[some 0, some 1, some 2], by omega, leh trivial, upto_more hI hr⟩
  ·cases hr : ptrReadV v5 with
   | none =>
     have e := hbad v5 (by simp) hr
     refine goh trivial ?_
     refine W_cnd ?_ ?_ <;> intro hlit <;> try (cases hlit; done)
     refine goh (And.intro hr (And.intro m5 nf)) ?_
     refine W_cnd ?_ ?_ <;> intro hlit <;> try (cases hlit; done)
     refine goh trivial ?_
     exact finh [] e
   | some q =>
     rw [hr] at hp5
     obtain rfl : q = ⟨pa5, pb5, pc5⟩ := hp5
     refine goh trivial ?_
     refine W_cnd ?_ ?_ <;> intro hlit <;> try (cases hlit; done)
     refine goh (And.intro hr (And.intro m5 nt)) ?_
     refine W_cnd ?_ ?_ <;> intro hlit <;> try (cases hlit; done)
     refine goh trivial ?_
     exact ⟨[some 0, some 1, some 2], by omega, leh trivial, upto_more hI hr⟩
  ·cases hr : ptrReadV v6 with
   | none =>
     have e := hbad v6 (by simp) hr
     refine goh trivial ?_
     refine W_cnd ?_ ?_ <;> intro hlit <;> try (cases hlit; done)
     refine goh (And.intro hr (And.intro m6 nf)) ?_
     refine W_cnd ?_ ?_ <;> intro hlit <;> try (cases hlit; done)
     refine goh trivial ?_
     exact finh [] e
   | some q =>
     rw [hr] at hp6
     obtain rfl : q = ⟨pa6, pb6, pc6⟩ := hp6
     refine goh trivial ?_
     refine W_cnd ?_ ?_ <;> intro hlit <;> try (cases hlit; done)
     refine goh (And.intro hr (And.intro m6 nt)) ?_
     refine W_cnd ?_ ?_ <;> intro hlit <;> try (cases hlit; done)
     refine goh trivial ?_
     exact ⟨[some 0, some 1, some 2], by omega, leh trivial, upto_more hI hr⟩
  ·cases hr : ptrReadV v7 with
   | none =>
     have e := hbad v7 (by simp) hr
     refine goh trivial ?_
     refine W_cnd ?_ ?_ <;> intro hlit <;> try (cases hlit; done)
     refine goh (And.intro hr (And.intro m7 nf)) ?_
     refine W_cnd ?_ ?_ <;> intro hlit <;> try (cases hlit; done)
     refine goh trivial ?_
     exact finh [] e
   | some q =>
     rw [hr] at hp7
     obtain rfl : q = ⟨pa7, pb7, pc7⟩ := hp7
     refine goh trivial ?_
     refine W_cnd ?_ ?_ <;> intro hlit <;> try (cases hlit; done)
     refine goh (And.intro hr (And.intro m7 nt)) ?_
     refine W_cnd ?_ ?_ <;> intro hlit <;> try (cases hlit; done)
     refine goh trivial ?_
     exact ⟨[some 0, some 1, some 2], by omega, leh trivial, upto_more hI hr⟩
  ·have e := mapP_words hw (hI 0 (by omega)) (hI 1 (by omega)) (hI 2 (by omega)) (hI 3 (by omega)) (hI 4 (by omega)) (hI 5 (by omega)) (hI 6 (by omega)) (hI 7 (by omega))
   have hst : same (mapT ⟨⟨pa0, pb0, pc0⟩, ⟨pa1, pb1, pc1⟩, ⟨pa2, pb2, pc2⟩, ⟨pa3, pb3, pc3⟩, ⟨pa4, pb4, pc4⟩, ⟨pa5, pb5, pc5⟩, ⟨pa6, pb6, pc6⟩, ⟨pa7, pb7, pc7⟩⟩) t = true := same_true.2 (mapP_canon e)
   refine goh (And.intro hst nf) ?_
   refine W_cnd ?_ ?_ <;> intro hlit <;> try (cases hlit; done)
   refine goh (And.intro hst nt) ?_
   refine W_cnd ?_ ?_ <;> intro hlit <;> try (cases hlit; done)
   refine goh trivial ?_
   exact finh [] e
 ·simp [no, ifp] at hp
theorem s_specDdtRead_e : EnterOk Tryz.prog 112 := ⟨_, Tryz.func112, rfl, by decide⟩
@[go_sem] def s_specDdtRead_lv : List (List Nat) := [[0], [0, 4], [0, 4, 17], [2, 3], [0, 4, 5], [0, 4, 5, 6], [0, 4, 5, 6, 27], [0, 4, 5, 6], [0, 4, 5, 6, 7], [0, 4, 5, 6, 7, 37], [2, 3], [0, 4, 5, 6, 7, 8], [0, 4, 5, 6, 7, 8, 10], [0, 4, 5, 6, 8, 10, 12], [0, 4, 5, 6], [4, 74], [2, 3], [2, 3]]
@[go_sem] noncomputable def s_specDdtRead_K : Known := ((((Known.nil).cons 106 ctCutB s_cutB s_cutB_e).cons 169 ctNumS s_numS s_numS_e).cons 113 ctDdtOk s_specDdtOk s_specDdtOk_e).cons 178 ctDdtT s_specDdtText s_specDdtText_e
set_option maxHeartbeats 8000000 in
theorem s_specDdtRead : Sound Tryz.prog 112 ctDdtR := by
 have ke := s_specDdtRead_K.env []
 have kl : Lives s_specDdtRead_lv := trivial
 refine sound_intro (E := ⟨ti, s_specDdtRead_K.Γ, []⟩) ke Tryz.func112 Tryz.ntmps112 rfl (rs := [.tmp 2, .tmp 3]) rfl ?_
 intro args os hp
 unfold ctDdtR at hp ⊢
 dsimp only at hp ⊢
 split at hp
 ·rename_i t
  refine ⟨by simp, fun φ0 w0 => ?_⟩
  have hlen : t.size ≤ 1000000 := hp
  have h32 : UInt8.ofNat 32 = 32 := rfl
  have h46 : UInt8.ofNat 46 = 46 := rfl
  have nt : (!true) = false := rfl
  have nf : (!false) = true := rfl
  have hwl := splitV_len 32 t
  by_cases hz : 1000 < t.size
  ·have e := ddtR_long hz
   have c1 : decide ((t.size : Int) > 1000) = true := by simp; omega
   refine goh c1 ?_
   refine W_cnd ?_ ?_ <;> intro hlit <;> try (cases hlit; done)
   refine goh trivial ?_
   exact finh [none] e
  have c1 : decide ((t.size : Int) > 1000) = false := by simp; omega
  cases hc : same t ⟨#[]⟩ with
  | true =>
    obtain rfl := same_true.1 hc
    have e := ddtR_empty
    have hb0 : ddtB [] = true := ddtB_true.2 ⟨by simp, fun i hi => by simp at hi⟩
    have ht0 := ddtT_nil
    refine goh c1 ?_
    refine W_cnd ?_ ?_ <;> intro hlit <;> try (cases hlit; done)
    refine goh h32 ?_
    refine W_for 0 (fun i => True) (fun i => ⟨[(0, vs ⟨#[]⟩), (4, .one (.osl .ent 0 0 0))], [some (.arr .ent [])], []⟩) [some 0] (leh trivial) trivial fun i hi _ => ?_
    refine goh (And.intro hc nt) ?_
    refine W_cnd ?_ ?_ <;> intro hlit <;> try (cases hlit; done)
    refine goh (And.intro hb0 (And.intro ht0 (And.intro hc nt))) ?_
    refine W_cnd ?_ ?_ <;> intro hlit <;> try (cases hlit; done)
    refine goh trivial ?_
    exact finh [some 0] e
  | false =>
    have hn := same_false.1 hc
    have hms : ∀ w ∈ splitV 32 t, w.size ≤ 1000000 := fun w h => Nat.le_trans (splitV_size h) hlen
    have hbad := fun w (h : w ∈ splitV 32 t) => spec3_none (t := t) (w := w) hn h
    have hfin : ∀ es : List Ent, (splitV 32 t).map spec3 = es.map some → ddtR t = (if ddtB es = true ∧ ddtT es = t then some es else none) := fun es h => spec3_all hn h
    obtain ⟨ws, hws⟩ : ∃ ws, splitV 32 t = ws := ⟨_, rfl⟩
    rw [hws] at hms hbad hwl hfin
    refine goh c1 ?_
    refine W_cnd ?_ ?_ <;> intro hlit <;> try (cases hlit; done)
    refine goh (And.intro h32 hws) ?_
    refine W_for ws.length (fun i => ∀ k, k < i → spec3 (ws.getD k ET.str.dflt) = some (entS (ws.getD k ET.str.dflt))) (fun i => ⟨[(0, vs t), (4, .one (.osl .ent 1 0 i)), (5, .one (.osl .str 0 0 ws.length)), (6, vi i)], [some (.arr .str ws), some (.arr .ent ((ws.take i).map entS))], []⟩) [some 1, some 0] (leh trivial) (fun k hk => absurd hk (Nat.not_lt_zero k)) fun i hi hI => ?_
    have hl := take_map_len entS hi
    have ht3 := take_map_take entS ws i
    refine goh (And.intro hl (And.intro hc nf)) ?_
    refine W_cnd ?_ ?_ <;> (try simp only [cnd_r]) <;> intro hlt
    ·have hi' : i < ws.length := by omega
     have hm := hms _ (getD_mem hi')
     have hb := hbad _ (getD_mem hi')
     have hs := take_map_at entS hi' ET.str.dflt
     have hsp := fun {x y z} => @entS_is (ws.getD i ET.str.dflt) x y z
     have hup := fun h => upto_all (n := i) hI h
     obtain ⟨w, hw⟩ : ∃ w, ws.getD i ET.str.dflt = w := ⟨_, rfl⟩
     rw [hw] at hm hb hs hsp hup
     have hfl := splitV_len 46 w
     have hfs : ∀ v ∈ splitV 46 w, v.size ≤ 1000000 := fun v h => Nat.le_trans (splitV_size h) hm
     obtain ⟨fs, hf⟩ : ∃ fs, splitV 46 w = fs := ⟨_, rfl⟩
     rw [hf] at hfl hfs
     by_cases h3 : fs.length = 3
     ·match fs, h3 with
      | [x, y, z], _ =>
      obtain ⟨k1, k2⟩ := hsp hf
      have m0 := hfs x (by simp)
      have m1 := hfs y (by simp)
      have m2 := hfs z (by simp)
      have c3 : ((3 : Int) != 3) = false := rfl
      rw [k2] at hs
      cases hx : numV x <;> cases hy : numV y <;> cases hz : numV z
      all_goals
       rw [hx, hy, hz] at hs
       simp only [Option.getD_some, Option.getD_none] at hs
       refine goh (And.intro hw (And.intro hm (And.intro h46 (And.intro hf hfl)))) ?_
       refine W_cnd ?_ ?_ <;> intro hlit <;> try (cases hlit; done)
       refine goh (And.intro hx (And.intro hy (And.intro hz (And.intro m0 (And.intro m1 (And.intro m2 (And.intro hl ht3))))))) ?_
       exact ⟨[some 0, some 4], by omega, leh (And.intro hs hl), hup k1⟩
     ·have e := hb (spec3_not hf h3)
      have c3 : ((fs.length : Int) != 3) = true := by simp; omega
      refine goh (And.intro hw (And.intro hm (And.intro h46 (And.intro hf (And.intro hfl c3))))) ?_
      refine W_cnd ?_ ?_ <;> intro hlit <;> try (cases hlit; done)
      refine goh trivial ?_
      exact finh [none] e
    ·obtain rfl : i = ws.length := by omega
     have e := hfin _ (all_spec hI)
     have ht : ws.take ws.length = ws := List.take_length
     rw [ht] at hl ht3 ⊢
     cases hd : ddtB (ws.map entS) with
     | false =>
       rw [if_neg (by rw [hd]; exact fun h => by cases h.1)] at e
       refine goh (And.intro hl (And.intro ht3 (And.intro hd nf))) ?_
       refine W_cnd ?_ ?_ <;> intro hlit <;> try (cases hlit; done)
       refine goh trivial ?_
       exact finh [none] e
     | true =>
       cases hs : same (ddtT (ws.map entS)) t with
       | false =>
         rw [if_neg (fun h => by rw [same_true.2 h.2] at hs; cases hs)] at e
         refine goh (And.intro hl (And.intro ht3 (And.intro hd (And.intro nt (And.intro hs nf))))) ?_
         refine W_cnd ?_ ?_ <;> intro hlit <;> try (cases hlit; done)
         refine goh trivial ?_
         exact finh [none] e
       | true =>
         rw [if_pos ⟨hd, same_true.1 hs⟩] at e
         refine goh (And.intro hl (And.intro ht3 (And.intro hd (And.intro nt hs)))) ?_
         refine W_cnd ?_ ?_ <;> intro hlit <;> try (cases hlit; done)
         refine goh trivial ?_
         exact finh [some 1] e
 ·simp [no] at hp
end Go.Proofs.YtfmjgoeclilcnaaGreatDoor
namespace Go.Proofs.YtfmjgoeclilcnaaGreatDoor
open Go.RowKit
theorem lineS_two {l a b : ByteArray} (h : splitV 32 l = [a, b]) : lineS l = if a = ⟨#[46]⟩ then (ptrReadV b).map .inr else none := by unfold lineS; rw [h]
theorem lineS_four {l a b c d : ByteArray} (h : splitV 32 l = [a, b, c, d]) : lineS l = (match ptrReadV d, numV b with
  | some p, some k => some (.inl (csetMk a k c p))
  | _, _ => none) := by unfold lineS; rw [h]; rfl
theorem lineS_other {l : ByteArray} {ws : List ByteArray} (h : splitV 32 l = ws) (h2 : ws.length ≠ 2) (h4 : ws.length ≠ 4) : lineS l = none := by
 unfold lineS
 rw [h]
 match ws, h2, h4 with
 | [], _, _ => rfl
 | [_], _, _ => rfl
 | [_, _, _], _, _ => rfl
 | _ :: _ :: _ :: _ :: _ :: _, _, _ => rfl
 | [_, _], h2, _ => exact absurd rfl h2
 | [_, _, _, _], _, h4 => exact absurd rfl h4
theorem root_head {t l0 : ByteArray} {ls : List ByteArray} (hl : splitV 10 t = l0 :: ls) (h : l0 ≠ root0) : rootR t = none := rootR_none fun cs ps h1 h2 => by
 have := h1.lines
 rw [h2, hl] at this
 simp only [List.cons.injEq] at this
 exact h this.1
noncomputable def lineD (l : ByteArray) : Option (CSet ⊕ Ptr) := match splitV 32 l with
 | [a, b] => if a = ⟨#[46]⟩ then some (.inr ((ptrReadV b).getD Ptr.zero)) else none
 | [a, b, c, d] => some (.inl (csetMk a ((numV b).getD 0) c ((ptrReadV d).getD Ptr.zero)))
 | _ => none
theorem lineD_two {l a b : ByteArray} (h : splitV 32 l = [a, b]) : lineD l = if a = ⟨#[46]⟩ then some (.inr ((ptrReadV b).getD Ptr.zero)) else none := by unfold lineD; rw [h]
theorem lineD_four {l a b c d : ByteArray} (h : splitV 32 l = [a, b, c, d]) : lineD l = some (.inl (csetMk a ((numV b).getD 0) c ((ptrReadV d).getD Ptr.zero))) := by unfold lineD; rw [h]
theorem lineD_other {l : ByteArray} {ws : List ByteArray} (h : splitV 32 l = ws) (h2 : ws.length ≠ 2) (h4 : ws.length ≠ 4) : lineD l = none := by
 unfold lineD
 rw [h]
 match ws, h2, h4 with
 | [], _, _ => rfl
 | [_], _, _ => rfl
 | [_, _, _], _, _ => rfl
 | _ :: _ :: _ :: _ :: _ :: _, _, _ => rfl
 | [_, _], h2, _ => exact absurd rfl h2
 | [_, _, _, _], _, h4 => exact absurd rfl h4
theorem lineD_some {l : ByteArray} {z : CSet ⊕ Ptr} (h : lineS l = some z) : lineD l = some z := by
 unfold lineS at h
 unfold lineD
 split at h
 ·rename_i a b he
  simp only [he]
  split at h
  ·rename_i h46
   rw [if_pos h46]
   cases hr : ptrReadV b with
   | none => rw [hr] at h; cases h
   | some p => rw [hr] at h; exact h
  ·cases h
 ·rename_i a b c d he
  simp only [he]
  split at h
  ·rename_i p k hp hk
   rw [hp, hk]; exact h
  ·cases h
 ·cases h
@[go_sem] noncomputable def ctLine : Ct := ⟨true, [], fun args os => match args, os with
  | [.agg [.val (.int .i64 x), .osl .cset 0 0 n1, .val (.slice none 0 0), .osl .ptr 1 0 n3, .val (.bool y), .val (.slice none 0 0), .val (.int .i64 u)], .one (.val (.string t))], [.arr .cset cs, .arr .ptr ps] =>
    (match lineD t with
     | some (.inl s) => ⟨(t.size ≤ 1000000 ∧ cs.length ≤ 1000000 ∧ ps.length ≤ 1000000) ∧ n1 = cs.length ∧ n3 = ps.length, .tup [.agg [.val (.int .i64 x), .osl .cset 2 0 (n1 + 1), .val (.slice none 0 0), .osl .ptr 1 0 n3, .val (.bool y), .val (.slice none 0 0), .val (.int .i64 u)], vb (lineS t).isSome], [(0, none)], [.arr .cset (cs ++ [s])]⟩
     | some (.inr p) => ⟨(t.size ≤ 1000000 ∧ cs.length ≤ 1000000 ∧ ps.length ≤ 1000000) ∧ n1 = cs.length ∧ n3 = ps.length, .tup [.agg [.val (.int .i64 x), .osl .cset 0 0 n1, .val (.slice none 0 0), .osl .ptr 2 0 (n3 + 1), .val (.bool y), .val (.slice none 0 0), .val (.int .i64 u)], vb (lineS t).isSome], [(1, none)], [.arr .ptr (ps ++ [p])]⟩
     | none => ⟨(t.size ≤ 1000000 ∧ cs.length ≤ 1000000 ∧ ps.length ≤ 1000000) ∧ n1 = cs.length ∧ n3 = ps.length, .tup [.agg [.val (.int .i64 x), .osl .cset 0 0 n1, .val (.slice none 0 0), .osl .ptr 1 0 n3, .val (.bool y), .val (.slice none 0 0), .val (.int .i64 u)], vb (lineS t).isSome], [], []⟩)
  | _, _ => no⟩
theorem s_line_e : EnterOk Tryz.prog 107 := ⟨_, Tryz.func107, rfl, by decide⟩
@[go_sem] def s_line_lv : List (List Nat) := [[1, 2, 4], [2, 4, 6], [2, 4, 6, 24], [2, 4, 7, 8], [2, 4, 8], [4, 5], [2, 4, 6, 42], [4, 5], [2, 4, 6, 9, 10], [2, 4, 6, 9, 10, 11, 12], [2, 4, 6, 10, 12, 13], [2, 4, 6, 10, 12, 13, 67], [2, 4, 10, 12, 13], [2, 4, 10, 12], [4, 5]]
@[go_sem] noncomputable def s_line_K : Known := (((Known.nil).cons 106 ctCutB s_cutB s_cutB_e).cons 170 ctPtrRead s_specPtrRead s_specPtrRead_e).cons 169 ctNumS s_numS s_numS_e
set_option maxHeartbeats 8000000 in
theorem s_line : Sound Tryz.prog 107 ctLine := by
 have ke := s_line_K.env []
 have kl : Lives s_line_lv := trivial
 refine sound_intro (E := ⟨ti, s_line_K.Γ, []⟩) ke Tryz.func107 Tryz.ntmps107 rfl (rs := [.cell 4 43, .tmp 5]) rfl ?_
 intro args os hp
 unfold ctLine at hp ⊢
 dsimp only at hp ⊢
 split at hp
 ·rename_i x n1 n3 y u t cs ps
  have hp' : (t.size ≤ 1000000 ∧ cs.length ≤ 1000000 ∧ ps.length ≤ 1000000) ∧ n1 = cs.length ∧ n3 = ps.length := by
   cases h : lineD t with
   | none => rw [h] at hp; exact hp
   | some z => cases z <;> (rw [h] at hp; exact hp)
  clear hp
  obtain ⟨⟨hlen, f1, f3⟩, rfl, rfl⟩ := hp'
  refine ⟨by simp, fun φ0 w0 => ?_⟩
  have h32 : UInt8.ofNat 32 = 32 := rfl
  have nt : (!true) = false := rfl
  have nf : (!false) = true := rfl
  have hwl := splitV_len 32 t
  have hms : ∀ w ∈ splitV 32 t, w.size ≤ 1000000 := fun w h => Nat.le_trans (splitV_size h) hlen
  have tc : cs.take cs.length = cs := List.take_length
  have tp : ps.take ps.length = ps := List.take_length
  obtain ⟨ws, hws⟩ : ∃ ws, splitV 32 t = ws := ⟨_, rfl⟩
  rw [hws] at hms hwl
  by_cases h2 : ws.length = 2
  ·match ws, h2 with
   | [a, b], _ =>
   have e := lineS_two hws
   have d := lineD_two hws
   have m1 := hms b (by simp)
   have c2 : ((2 : Int) == 2) = true := rfl
   cases hs : same a ⟨#[46]⟩ with
   | true =>
     rw [if_pos (same_true.1 hs)] at e d
     cases hr : ptrReadV b with
     | none =>
       rw [hr] at e d
       have e : (lineS t).isSome = false := by rw [e]; rfl
       have d : lineD t = some (.inr ⟨0, 0, 0⟩) := d
       refine goh (And.intro h32 (And.intro hws (And.intro hwl hs))) ?_
       refine W_cnd ?_ ?_ <;> intro hlit <;> try (cases hlit; done)
       refine goh (And.intro hr (And.intro m1 tp)) ?_
       exact finh [some 0, some 1, some 7] (And.intro e d)
     | some p =>
       obtain ⟨pa, pb, pc⟩ := p
       rw [hr] at e d
       have e : (lineS t).isSome = true := by rw [e]; rfl
       have d : lineD t = some (.inr ⟨pa, pb, pc⟩) := d
       refine goh (And.intro h32 (And.intro hws (And.intro hwl hs))) ?_
       refine W_cnd ?_ ?_ <;> intro hlit <;> try (cases hlit; done)
       refine goh (And.intro hr (And.intro m1 tp)) ?_
       exact finh [some 0, some 1, some 7] (And.intro e d)
   | false =>
     rw [if_neg (same_false.1 hs)] at e d
     have e : (lineS t).isSome = false := by rw [e]; rfl
     have c4 : ((2 : Int) != 4) = true := rfl
     refine goh (And.intro h32 (And.intro hws (And.intro hwl hs))) ?_
     refine W_cnd ?_ ?_ <;> intro hlit <;> try (cases hlit; done)
     refine goh c4 ?_
     refine W_cnd ?_ ?_ <;> intro hlit <;> try (cases hlit; done)
     refine goh trivial ?_
     exact finh [some 0, some 1] (And.intro e d)
  by_cases h4 : ws.length = 4
  ·match ws, h4 with
   | [a, b, c, d], _ =>
   have e := lineS_four hws
   have dd := lineD_four hws
   have m3 := hms d (by simp)
   have m1 := hms b (by simp)
   have c2 : ((4 : Int) == 2) = false := rfl
   have c4 : ((4 : Int) != 4) = false := rfl
   cases hr : ptrReadV d with
   | none =>
     cases hn : numV b with
     | none =>
       have e : (lineS t).isSome = false := by rw [e, hr, hn]; rfl
       rw [hr, hn] at dd
       have dd : lineD t = some (.inl (csetMk a 0 c ⟨0, 0, 0⟩)) := dd
       refine goh (And.intro h32 (And.intro hws (And.intro hwl c2))) ?_
       refine W_cnd ?_ ?_ <;> intro hlit <;> try (cases hlit; done)
       refine goh c4 ?_
       refine W_cnd ?_ ?_ <;> intro hlit <;> try (cases hlit; done)
       refine goh (And.intro hr (And.intro hn (And.intro m1 m3))) ?_
       refine W_cnd ?_ ?_ <;> (try simp only [cnd_r]) <;> intro hd
       ·have dd : lineD t = some (.inl ⟨a, 0, c, Eight.rep Ptr.zero, ⟨0, 0, 0⟩, false⟩) := by rw [dd]; unfold csetMk dash; rw [if_neg hd]
        refine goh tc ?_
        exact finh [some 0, some 1, some 8] (And.intro e dd)
       ·have dd : lineD t = some (.inl ⟨a, 0, ⟨#[]⟩, Eight.rep Ptr.zero, ⟨0, 0, 0⟩, false⟩) := by rw [dd]; unfold csetMk dash; rw [if_pos hd]
        refine goh tc ?_
        exact finh [some 0, some 1, some 8] (And.intro e dd)
     | some k =>
       have e : (lineS t).isSome = false := by rw [e, hr, hn]; rfl
       rw [hr, hn] at dd
       have dd : lineD t = some (.inl (csetMk a k c ⟨0, 0, 0⟩)) := dd
       refine goh (And.intro h32 (And.intro hws (And.intro hwl c2))) ?_
       refine W_cnd ?_ ?_ <;> intro hlit <;> try (cases hlit; done)
       refine goh c4 ?_
       refine W_cnd ?_ ?_ <;> intro hlit <;> try (cases hlit; done)
       refine goh (And.intro hr (And.intro hn (And.intro m1 m3))) ?_
       refine W_cnd ?_ ?_ <;> (try simp only [cnd_r]) <;> intro hd
       ·have dd : lineD t = some (.inl ⟨a, k, c, Eight.rep Ptr.zero, ⟨0, 0, 0⟩, false⟩) := by rw [dd]; unfold csetMk dash; rw [if_neg hd]
        refine goh tc ?_
        exact finh [some 0, some 1, some 8] (And.intro e dd)
       ·have dd : lineD t = some (.inl ⟨a, k, ⟨#[]⟩, Eight.rep Ptr.zero, ⟨0, 0, 0⟩, false⟩) := by rw [dd]; unfold csetMk dash; rw [if_pos hd]
        refine goh tc ?_
        exact finh [some 0, some 1, some 8] (And.intro e dd)
   | some p =>
     obtain ⟨pa, pb, pc⟩ := p
     cases hn : numV b with
     | none =>
       have e : (lineS t).isSome = false := by rw [e, hr, hn]; rfl
       rw [hr, hn] at dd
       have dd : lineD t = some (.inl (csetMk a 0 c ⟨pa, pb, pc⟩)) := dd
       refine goh (And.intro h32 (And.intro hws (And.intro hwl c2))) ?_
       refine W_cnd ?_ ?_ <;> intro hlit <;> try (cases hlit; done)
       refine goh c4 ?_
       refine W_cnd ?_ ?_ <;> intro hlit <;> try (cases hlit; done)
       refine goh (And.intro hr (And.intro hn (And.intro m1 m3))) ?_
       refine W_cnd ?_ ?_ <;> (try simp only [cnd_r]) <;> intro hd
       ·have dd : lineD t = some (.inl ⟨a, 0, c, Eight.rep Ptr.zero, ⟨pa, pb, pc⟩, false⟩) := by rw [dd]; unfold csetMk dash; rw [if_neg hd]
        refine goh tc ?_
        exact finh [some 0, some 1, some 8] (And.intro e dd)
       ·have dd : lineD t = some (.inl ⟨a, 0, ⟨#[]⟩, Eight.rep Ptr.zero, ⟨pa, pb, pc⟩, false⟩) := by rw [dd]; unfold csetMk dash; rw [if_pos hd]
        refine goh tc ?_
        exact finh [some 0, some 1, some 8] (And.intro e dd)
     | some k =>
       have e : (lineS t).isSome = true := by rw [e, hr, hn]; rfl
       rw [hr, hn] at dd
       have dd : lineD t = some (.inl (csetMk a k c ⟨pa, pb, pc⟩)) := dd
       refine goh (And.intro h32 (And.intro hws (And.intro hwl c2))) ?_
       refine W_cnd ?_ ?_ <;> intro hlit <;> try (cases hlit; done)
       refine goh c4 ?_
       refine W_cnd ?_ ?_ <;> intro hlit <;> try (cases hlit; done)
       refine goh (And.intro hr (And.intro hn (And.intro m1 m3))) ?_
       refine W_cnd ?_ ?_ <;> (try simp only [cnd_r]) <;> intro hd
       ·have dd : lineD t = some (.inl ⟨a, k, c, Eight.rep Ptr.zero, ⟨pa, pb, pc⟩, false⟩) := by rw [dd]; unfold csetMk dash; rw [if_neg hd]
        refine goh tc ?_
        exact finh [some 0, some 1, some 8] (And.intro e dd)
       ·have dd : lineD t = some (.inl ⟨a, k, ⟨#[]⟩, Eight.rep Ptr.zero, ⟨pa, pb, pc⟩, false⟩) := by rw [dd]; unfold csetMk dash; rw [if_pos hd]
        refine goh tc ?_
        exact finh [some 0, some 1, some 8] (And.intro e dd)
  have e : (lineS t).isSome = false := by rw [lineS_other hws h2 h4]; rfl
  have d := lineD_other hws h2 h4
  have c2 : ((ws.length : Int) == 2) = false := by simp; omega
  have c4 : ((ws.length : Int) != 4) = true := by simp; omega
  refine goh (And.intro h32 (And.intro hws (And.intro hwl c2))) ?_
  refine W_cnd ?_ ?_ <;> intro hlit <;> try (cases hlit; done)
  refine goh c4 ?_
  refine W_cnd ?_ ?_ <;> intro hlit <;> try (cases hlit; done)
  refine goh trivial ?_
  exact finh [some 0, some 1] (And.intro e d)
 ·simp [no] at hp
end Go.Proofs.YtfmjgoeclilcnaaGreatDoor
namespace Go.Proofs.YtfmjgoeclilcnaaGreatDoor
open Go.RowKit
theorem s_specRootRead_e : EnterOk Tryz.prog 48 := ⟨_, Tryz.func48, rfl, by decide⟩
@[go_sem] def s_specRootRead_lv : List (List Nat) := [[0, 2], [0, 2, 4], [0, 2, 4, 5], [0, 2, 4, 5, 20], [2, 3], [0, 2, 4, 5, 6], [0, 2, 4, 5, 6, 25], [0, 2, 4, 5, 6], [0, 2, 4, 5, 6, 7, 8], [0, 2, 4, 5, 6, 7, 38], [2, 3], [0, 2, 4, 5, 6], [2, 4, 56], [2, 3], [2, 3]]
@[go_sem] noncomputable def s_specRootRead_K : Known := (((((Known.nil).cons 106 ctCutB s_cutB s_cutB_e).cons 107 ctLine s_line s_line_e).cons 108 ctRootT s_specCoreRoot s_specCoreRoot_e).cons 110 ctFrame s_l6Names s_l6Names_e).cons 109 ctBookOk s_specBookOk s_specBookOk_e
set_option maxHeartbeats 8000000 in
theorem s_specRootRead : Sound Tryz.prog 48 ctRootR := by
 have ke := s_specRootRead_K.env []
 have kl : Lives s_specRootRead_lv := trivial
 refine sound_intro (E := ⟨ti, s_specRootRead_K.Γ, []⟩) ke Tryz.func48 Tryz.ntmps48 rfl (rs := [.cell 2 43, .tmp 3]) rfl ?_
 intro args os hp
 unfold ctRootR at hp ⊢
 dsimp only at hp ⊢
 split at hp
 ·rename_i t
  refine ⟨by simp, fun φ0 w0 => ?_⟩
  have hlen : t.size ≤ 1000000 := hp
  have h10 : UInt8.ofNat 10 = 10 := rfl
  have nt : (!true) = false := rfl
  have nf : (!false) = true := rfl
  have hwl := splitV_len 10 t
  have hpos := split_some 10 t
  have hms0 : ∀ w ∈ splitV 10 t, w.size ≤ t.size := fun w h => splitV_size h
  obtain ⟨xs, hxs⟩ : ∃ xs, splitV 10 t = xs := ⟨_, rfl⟩
  rw [hxs] at hms0 hwl hpos
  obtain ⟨l0, ls, hls⟩ : ∃ l0 ls, xs = l0 :: ls := by
   match xs, hpos with
   | l0 :: ls, _ => exact ⟨l0, ls, rfl⟩
  have hxl : xs.length = ls.length + 1 := by rw [hls]; rfl
  have hx0 : xs.getD 0 ET.str.dflt = l0 := by rw [hls]; rfl
  have hxd : ∀ i : Nat, xs.getD (i + 1) ET.str.dflt = ls.getD i ET.str.dflt := fun i => by rw [hls]; rfl
  have hsp := hxs.trans hls
  by_cases hz : 420 < t.size
  ·have e := rootR_long hz
   have c1 : decide ((t.size : Int) > 420) = true := by simp; omega
   refine goh (And.intro c1 (And.intro h10 (And.intro hxs hxl))) ?_
   refine W_cnd ?_ ?_ <;> intro hlit <;> try (cases hlit; done)
   refine goh trivial ?_
   exact finh [none, none] e
  have c1 : decide ((t.size : Int) > 420) = false := by simp; omega
  cases hrt : same l0 ⟨#[114, 111, 111, 116]⟩ with
  | false =>
    have e := root_head hsp (same_false.1 hrt)
    refine goh (And.intro c1 (And.intro h10 (And.intro hxs (And.intro hx0 (And.intro hpos (And.intro hrt nf)))))) ?_
    refine W_cnd ?_ ?_ <;> intro hlit <;> try (cases hlit; done)
    refine goh trivial ?_
    exact finh [none, none] e
  | true =>
  have hms : ∀ w ∈ xs, w.size ≤ 420 := fun w h => Nat.le_trans (hms0 w h) (by omega)
  have hll : ∀ w ∈ ls, w.size ≤ 420 := fun w h => hms w (by rw [hls]; exact List.mem_cons_of_mem _ h)
  clear hls hms hms0
  have hrl : ∀ l ∈ ls, ∀ s, lineS l = some (.inl s) → s.name.size ≤ 420 ∧ s.from_.size ≤ 420 := fun l hl s hs => lineS_size (hll l hl) (fun w hw => splitV_size hw) hs
  obtain ⟨S, hS⟩ : ∃ S : Nat → List CSet, S = fun i => (rdAt lineS ls i).1 := ⟨_, rfl⟩
  obtain ⟨R, hR⟩ : ∃ R : Nat → List Ptr, R = fun i => (rdAt lineS ls i).2 := ⟨_, rfl⟩
  have s0 : S 0 = [] := by rw [hS]; rfl
  have r0 : R 0 = [] := by rw [hR]; rfl
  have z0 : ((0 : Nat) : Int) + 1 = 1 := rfl
  refine goh (And.intro c1 (And.intro h10 (And.intro hxs (And.intro hx0 (And.intro hpos (And.intro hrt nt)))))) ?_
  refine W_cnd ?_ ?_ <;> intro hlit <;> try (cases hlit; done)
  refine goh trivial ?_
  refine W_for ls.length (fun i => rdLines lineS (ls.take i) ([], []) = some (rdAt lineS ls i)) (fun i => ⟨[(0, vs t), (2, .one (.ptr 0 0)), (4, .one (.ptr 1 0)), (5, .one (.osl .str 2 0 xs.length)), (6, .one (.val (.int .i64 ((i : Int) + 1))))], [some (.cells [.val (.int .i64 0), .val (.slice none 0 0), .val (.slice none 0 0), .val (.slice none 0 0), .val (.bool false), .val (.slice none 0 0), .val (.int .i64 0)]), some (.cells [.val (.int .i64 0), .osl .cset 3 0 (S i).length, .val (.slice none 0 0), .osl .ptr 4 0 (R i).length, .val (.bool false), .val (.slice none 0 0), .val (.int .i64 0)]), some (.arr .str xs), some (.arr .cset (S i)), some (.arr .ptr (R i))], []⟩) [some 0, some 1, some 2, none, none] (leh (And.intro s0 (And.intro r0 z0))) rd_zero fun i hi hI => ?_
  have hfew := rdAt_few 420 hrl hI
  refine goh hxl ?_
  refine W_cnd ?_ ?_ <;> (try simp only [cnd_r]) <;> intro hlt
  ·have hi' : i < ls.length := by omega
   have hget := hxd i
   have hm := hll _ (word_mem hi')
   have hm1 : (ls.getD i ET.str.dflt).size ≤ 1000000 := by omega
   have ht1 : ((i : Int) + 1).toNat = i + 1 := by omega
   have w1 : IntKind.i64.wrap ((i : Int) + 1 + 1) = (i : Int) + 1 + 1 := wrap_id _ (by omega) (by omega)
   have hc1 : ((i + 1 : Nat) : Int) + 1 = (i : Int) + 1 + 1 := by omega
   obtain ⟨l, hl⟩ : ∃ l, ls.getD i ET.str.dflt = l := ⟨_, rfl⟩
   have hSi : (rdAt lineS ls i).1 = S i := by rw [hS]
   have hRi : (rdAt lineS ls i).2 = R i := by rw [hR]
   rw [hSi, hRi] at hfew
   have hS1 : (S i).length ≤ 1000000 := by omega
   have hR1 : (R i).length ≤ 1000000 := by omega
   rw [hl] at hget hm1
   cases hk : lineS l with
   | none =>
     have e := root_no reads_S hsp (rd_stop hi' hl hI hk)
     have hko : (lineS l).isSome = false := by rw [hk]; rfl
     cases hd : lineD l with
     | none =>
       refine goh (And.intro ht1 (And.intro hget (And.intro hd (And.intro hko (And.intro hm1 (And.intro hS1 (And.intro hR1 (And.intro nf hxl)))))))) ?_
       refine W_cnd ?_ ?_ <;> intro hlit <;> try (cases hlit; done)
       refine goh trivial ?_
       exact finh [none, none] e
     | some z =>
       cases z with
       | inl s =>
         refine goh (And.intro ht1 (And.intro hget (And.intro hd (And.intro hko (And.intro hm1 (And.intro hS1 (And.intro hR1 (And.intro nf hxl)))))))) ?_
         refine W_cnd ?_ ?_ <;> intro hlit <;> try (cases hlit; done)
         refine goh trivial ?_
         exact finh [none, none] e
       | inr p =>
         refine goh (And.intro ht1 (And.intro hget (And.intro hd (And.intro hko (And.intro hm1 (And.intro hS1 (And.intro hR1 (And.intro nf hxl)))))))) ?_
         refine W_cnd ?_ ?_ <;> intro hlit <;> try (cases hlit; done)
         refine goh trivial ?_
         exact finh [none, none] e
   | some z =>
     have hko : (lineS l).isSome = true := by rw [hk]; rfl
     have hd := lineD_some hk
     cases z with
     | inl s =>
       obtain ⟨k1, k2, k3⟩ := rd_set hi' hl hI hk
       have q1 : S (i + 1) = S i ++ [s] := by rw [hS]; exact k2
       have q2 : R (i + 1) = R i := by rw [hR]; exact k3
       have q3 : (S i ++ [s]).length = (S i).length + 1 := by simp
       refine goh (And.intro ht1 (And.intro hget (And.intro hd (And.intro hko (And.intro hm1 (And.intro hS1 (And.intro hR1 (And.intro nt hxl)))))))) ?_
       refine W_cnd ?_ ?_ <;> intro hlit <;> try (cases hlit; done)
       refine goh w1 ?_
       exact ⟨[some 0, some 1, some 2, some 5, some 4], by omega, leh (And.intro q1 (And.intro q2 (And.intro q3 (And.intro hc1 hxl)))), k1⟩
     | inr p =>
       obtain ⟨k1, k2, k3⟩ := rd_part hi' hl hI hk
       have q1 : S (i + 1) = S i := by rw [hS]; exact k2
       have q2 : R (i + 1) = R i ++ [p] := by rw [hR]; exact k3
       have q3 : (R i ++ [p]).length = (R i).length + 1 := by simp
       refine goh (And.intro ht1 (And.intro hget (And.intro hd (And.intro hko (And.intro hm1 (And.intro hS1 (And.intro hR1 (And.intro nt hxl)))))))) ?_
       refine W_cnd ?_ ?_ <;> intro hlit <;> try (cases hlit; done)
       refine goh w1 ?_
       exact ⟨[some 0, some 1, some 2, some 3, some 5], by omega, leh (And.intro q1 (And.intro q2 (And.intro q3 (And.intro hc1 hxl)))), k1⟩
  ·obtain rfl : i = ls.length := by omega
   have hI' := rd_end hI
   have hb := fun h => root_bad reads_S hsp hI' h
   have hg := fun h => root_good reads_S hsp hI' h
   have hSi : rdAt lineS ls ls.length = (S ls.length, R ls.length) := by rw [hS, hR]
   rw [hSi] at hb hg hfew
   simp only at hb hg hfew
   obtain ⟨cs, hcs⟩ : ∃ cs, S ls.length = cs := ⟨_, rfl⟩
   obtain ⟨ps, hps⟩ : ∃ ps, R ls.length = ps := ⟨_, rfl⟩
   rw [hcs, hps] at hb hg hfew ⊢
   have hfit := fit_of hfew.1 (show cs.length + ps.length ≤ 4000000 by omega) (by omega)
   have hS1 : cs.length ≤ 4000000 := by omega
   have hR1 : ps.length ≤ 4000000 := by omega
   have hfl := frame_len cs
   have htk : (frameOf cs).take cs.length = frameOf cs := List.take_of_length_le (by omega)
   have hfs := frame_small hfit.sets
   simp only at hfs
   cases hst : same (rootT cs ps) t with
   | false =>
     have e := hb fun h => by rw [same_true.2 h.2.2] at hst; cases hst
     refine goh (And.intro hS1 (And.intro hfl (And.intro htk (And.intro hfs (And.intro nt (And.intro hfit (And.intro hst nf))))))) ?_
     refine W_cnd ?_ ?_ <;> intro hlit <;> try (cases hlit; done)
     refine goh trivial ?_
     exact finh [none, none] e
   | true =>
     cases hbk : bookB (frameOf cs) with
     | false =>
       have e := hb fun h => by rw [hbk] at h; cases h.2.1
       refine goh (And.intro hS1 (And.intro hfl (And.intro htk (And.intro hfs (And.intro hbk (And.intro hst (And.intro hfit (And.intro nf nt)))))))) ?_
       refine W_cnd ?_ ?_ <;> intro hlit <;> try (cases hlit; done)
       refine goh trivial ?_
       exact finh [none, none] e
     | true =>
       by_cases h8 : 8 < ps.length
       ·have e := hb fun h => by omega
        have c8 : decide ((ps.length : Int) > 8) = true := by simp; omega
        refine goh (And.intro c8 (And.intro hS1 (And.intro hfl (And.intro htk (And.intro hfs (And.intro hbk (And.intro nt (And.intro hfit hst)))))))) ?_
        refine W_cnd ?_ ?_ <;> intro hlit <;> try (cases hlit; done)
        refine goh trivial ?_
        exact finh [none, none] e
       have c8 : decide ((ps.length : Int) > 8) = false := by simp; omega
       have e := hg ⟨by omega, hbk, same_true.1 hst⟩
       refine goh (And.intro c8 (And.intro hS1 (And.intro hfl (And.intro htk (And.intro hfs (And.intro hbk (And.intro nt (And.intro hfit hst)))))))) ?_
       refine W_cnd ?_ ?_ <;> intro hlit <;> try (cases hlit; done)
       refine goh trivial ?_
       exact finh [some 3, some 4] e
 ·simp [no] at hp
end Go.Proofs.YtfmjgoeclilcnaaGreatDoor
namespace Go.Proofs.YtfmjgoeclilcnaaGreatDoor
open Go.RowKit
theorem tw_stop {α : Type} {f : α → Bool} {xs : List α} {i : Nat} (d : α) (hi : i < xs.length) (h : (xs.take i).all f = true) (h2 : f (xs.getD i d) = false) : (xs.takeWhile f).length = i := by
 rw [show xs.getD i d = xs[i] by simp [hi]] at h2
 have e : xs = xs.take i ++ xs[i] :: xs.drop (i + 1) := by rw [List.getElem_cons_drop, List.take_append_drop]
 rw [e, List.takeWhile_append_of_pos (List.all_eq_true.1 h), List.takeWhile_cons_of_neg (by rw [h2]; decide), List.append_nil, List.length_take]
 omega
theorem tw_all {α : Type} {f : α → Bool} {xs : List α} (h : xs.all f = true) : (xs.takeWhile f).length = xs.length := by
 have e := List.takeWhile_append_of_pos (p := f) (l₁ := xs) (l₂ := []) (List.all_eq_true.1 h)
 simp only [List.append_nil, List.takeWhile_nil] at e
 rw [e]
@[go_sem] noncomputable def ctMaps : Ct := ⟨true, [[some .str, some .str, some .late]], fun args os => match args, os with
  | [.agg [.isl .str a, .isl .str b, .isl .late l], .agg [.val (.int .i64 x), .osl .cset 0 0 n1, .val (.slice none 0 0), .osl .ptr 1 0 n3, .val (.bool y), .val (.slice none 0 0), .val (.int .i64 u)]], [.arr .cset cs, .arr .ptr ps] =>
    ⟨(Dk.mk a b l).small ∧ n1 = cs.length ∧ cs.length ≤ 4000000, .tup [.agg [.val (.int .i64 x), .osl .cset 0 0 n1, .val (.slice none 0 0), .osl .ptr 1 0 n3, .val (.bool y), .val (.slice none 0 0), .val (.int .i64 u)], vb (cs.all (okS ⟨a, b, l⟩))], [(0, some (.arr .cset (mapsI ⟨a, b, l⟩ cs (cs.takeWhile (okS ⟨a, b, l⟩)).length)))], []⟩
  | _, _ => no⟩
theorem s_maps_e : EnterOk Tryz.prog 49 := ⟨_, Tryz.func49, rfl, by decide⟩
@[go_sem] def s_maps_lv : List (List Nat) := [[2, 3, 4], [2, 3, 4, 6], [2, 3, 4, 6, 15], [2, 3, 4, 6], [2, 3, 4, 6, 7, 8], [2, 3, 4, 6, 8, 9, 10], [2, 3, 4, 6, 9, 39], [4, 5], [2, 3, 4, 6], [4, 5]]
@[go_sem] noncomputable def s_maps_K : Known := ((Known.nil).cons 47 ctBlkRead s_specBlkRead s_specBlkRead_e).cons 111 ctMapR s_specMapRead s_specMapRead_e
set_option maxHeartbeats 8000000 in
theorem s_maps : Sound Tryz.prog 49 ctMaps := by
 have ke := s_maps_K.env []
 have kl : Lives s_maps_lv := trivial
 refine sound_intro (E := ⟨ti, s_maps_K.Γ, []⟩) ke Tryz.func49 Tryz.ntmps49 rfl (rs := [.cell 4 43, .tmp 5]) rfl ?_
 intro args os hp
 unfold ctMaps at hp ⊢
 dsimp only at hp ⊢
 split at hp
 ·rename_i a b l x n1 n3 y u cs ps
  refine ⟨by simp, fun φ0 w0 => ?_⟩
  obtain ⟨⟨s1, s2, s3⟩, rfl, f1⟩ : (a.length ≤ 4000000 ∧ b.length ≤ 4000000 ∧ l.length ≤ 4000000) ∧ n1 = cs.length ∧ cs.length ≤ 4000000 := hp
  obtain ⟨d, hd⟩ : ∃ d, Dk.mk a b l = d := ⟨_, rfl⟩
  have hsz := fun p => blkRead_size d p
  have nt : (!true) = false := rfl
  have nf : (!false) = true := rfl
  obtain ⟨M, hM⟩ : ∃ M : Nat → List CSet, M = mapsI d cs := ⟨_, rfl⟩
  have m0 : M 0 = cs := by rw [hM]; exact mapsI_zero d cs
  have ml : ∀ i, (M i).length = cs.length := fun i => by rw [hM]; exact mapsI_len d cs i
  refine goh trivial ?_
  refine W_for cs.length (fun i => (cs.take i).all (okS d) = true) (fun i => ⟨[(2, .one (.ptr 2 0)), (3, .one (.ptr 3 0)), (4, .one (.ptr 4 0)), (6, vi i)], [some (.arr .cset (M i)), some (.arr .ptr ps), some (.cells [.isl .str a, .isl .str b, .isl .late l]), some (.cells [.val (.int .i64 x), .osl .cset 0 0 cs.length, .val (.slice none 0 0), .osl .ptr 1 0 n3, .val (.bool y), .val (.slice none 0 0), .val (.int .i64 u)]), some (.cells [.val (.int .i64 0), .val (.slice none 0 0), .val (.slice none 0 0), .val (.slice none 0 0), .val (.bool false), .val (.slice none 0 0), .val (.int .i64 0)])], [0]⟩) [some 0, some 1, some 2, some 3, some 4] (leh m0) rfl fun i hi hI => ?_
  have hml := ml i
  refine goh trivial ?_
  refine W_cnd ?_ ?_ <;> (try simp only [cnd_r]) <;> intro hlt
  ·have hi' : i < cs.length := by omega
   have hat : (M i).getD i ET.cset.dflt = cs.getD i ET.cset.dflt := by rw [hM]; exact mapsI_at d hi'
   have hms : M (i + 1) = (M i).set i (mset d (cs.getD i ET.cset.dflt)) := by rw [hM]; exact mapsI_succ d hi'
   have g1 := fun h => And.intro (all_one (f := okS d) ET.cset.dflt hi' h) (tw_stop (f := okS d) ET.cset.dflt hi' hI h)
   have g2 := fun h => all_more (f := okS d) ET.cset.dflt hi' hI h
   obtain ⟨s, hs0⟩ : ∃ s, cs.getD i ET.cset.dflt = s := ⟨_, rfl⟩
   rw [hs0] at hat hms g1 g2
   obtain ⟨nm, kd, fr, ⟨⟨ka0, kb0, kc0⟩, ⟨ka1, kb1, kc1⟩, ⟨ka2, kb2, kc2⟩, ⟨ka3, kb3, kc3⟩, ⟨ka4, kb4, kc4⟩, ⟨ka5, kb5, kc5⟩, ⟨ka6, kb6, kc6⟩, ⟨ka7, kb7, kc7⟩⟩, ⟨pa, pb, pc⟩, dt⟩ := s
   have y0 := hsz ⟨pa, pb, pc⟩
   have o1 := fun h => okS_bad1 (d := d) (s := ⟨nm, kd, fr, ⟨⟨ka0, kb0, kc0⟩, ⟨ka1, kb1, kc1⟩, ⟨ka2, kb2, kc2⟩, ⟨ka3, kb3, kc3⟩, ⟨ka4, kb4, kc4⟩, ⟨ka5, kb5, kc5⟩, ⟨ka6, kb6, kc6⟩, ⟨ka7, kb7, kc7⟩⟩, ⟨pa, pb, pc⟩, dt⟩) h
   have o2 := fun h => okS_bad2 (d := d) (s := ⟨nm, kd, fr, ⟨⟨ka0, kb0, kc0⟩, ⟨ka1, kb1, kc1⟩, ⟨ka2, kb2, kc2⟩, ⟨ka3, kb3, kc3⟩, ⟨ka4, kb4, kc4⟩, ⟨ka5, kb5, kc5⟩, ⟨ka6, kb6, kc6⟩, ⟨ka7, kb7, kc7⟩⟩, ⟨pa, pb, pc⟩, dt⟩) h
   have o3 := fun m h0 h => okS_is (d := d) (s := ⟨nm, kd, fr, ⟨⟨ka0, kb0, kc0⟩, ⟨ka1, kb1, kc1⟩, ⟨ka2, kb2, kc2⟩, ⟨ka3, kb3, kc3⟩, ⟨ka4, kb4, kc4⟩, ⟨ka5, kb5, kc5⟩, ⟨ka6, kb6, kc6⟩, ⟨ka7, kb7, kc7⟩⟩, ⟨pa, pb, pc⟩, dt⟩) (m := m) h0 h
   simp only at o1 o2 o3
   obtain ⟨⟨t, code⟩, hbs⟩ : ∃ z, blkRead d ⟨pa, pb, pc⟩ = z := ⟨_, rfl⟩
   rw [hbs] at y0 o1 o2 o3
   simp only at y0 o1 o2 o3
   have y1 : t.size ≤ 1000000 := by omega
   by_cases hc : code = 0
   rotate_left
   ·obtain ⟨e, e2⟩ := g1 (o1 hc)
    have e3 : mapsI d cs (cs.takeWhile (okS d)).length = M i := by rw [e2, hM]
    have c2 : (code != 0) = true := by simpa using hc
    refine goh (And.intro hd (And.intro hml (And.intro hat (And.intro hbs (And.intro y1 c2))))) ?_
    refine W_cnd ?_ ?_ <;> intro hlit <;> try (cases hlit; done)
    refine goh trivial ?_
    exact finh [some 0, some 1] (And.intro hd (And.intro e e3))
   subst hc
   cases hm : mapP t with
   | none =>
     obtain ⟨e, e2⟩ := g1 (o2 hm)
     have e3 : mapsI d cs (cs.takeWhile (okS d)).length = M i := by rw [e2, hM]
     refine goh (And.intro hd (And.intro hml (And.intro hat (And.intro hbs (And.intro y1 (And.intro hm nf)))))) ?_
     refine W_cnd ?_ ?_ <;> intro hlit <;> try (cases hlit; done)
     refine goh trivial ?_
     exact finh [some 0, some 1] (And.intro hd (And.intro e e3))
   | some m =>
     obtain ⟨k1, k2⟩ := o3 m rfl hm
     rw [k2] at hms
     obtain ⟨⟨ma0, mb0, mc0⟩, ⟨ma1, mb1, mc1⟩, ⟨ma2, mb2, mc2⟩, ⟨ma3, mb3, mc3⟩, ⟨ma4, mb4, mc4⟩, ⟨ma5, mb5, mc5⟩, ⟨ma6, mb6, mc6⟩, ⟨ma7, mb7, mc7⟩⟩ := m
     refine goh (And.intro hd (And.intro hml (And.intro hat (And.intro hbs (And.intro y1 (And.intro hm nt)))))) ?_
     refine W_cnd ?_ ?_ <;> intro hlit <;> try (cases hlit; done)
     refine goh (And.intro hml hat) ?_
     exact ⟨[some 0, some 1, some 2, some 3, some 4], by omega, leh hms, g2 k1⟩
  obtain rfl : i = cs.length := by omega
  have e := all_end hI
  have e3 : mapsI d cs (cs.takeWhile (okS d)).length = M cs.length := by rw [tw_all e, hM]
  refine goh trivial ?_
  exact finh [some 0, some 1] (And.intro hd (And.intro e e3))
 ·simp [no] at hp
@[go_sem] noncomputable def ctTable : Ct := ⟨true, [[some .str, some .str, some .late]], fun args os => match args, os with
  | [.agg [.isl .str a, .isl .str b, .isl .late l], .agg [.val (.int .i64 x), .osl .cset 0 0 n1, .val (.slice none 0 0), .osl .ptr 1 0 n3, .val (.bool y), .val (.slice none 0 0), .val (.int .i64 u)]], [.arr .cset cs, .arr .ptr ps] =>
    ⟨(Dk.mk a b l).small ∧ n3 = ps.length ∧ ps.length ≤ 1000, .tup [.agg [.val (.int .i64 x), .osl .cset 0 0 n1, .osl .ent 2 0 (tabI ⟨a, b, l⟩ ps [] (ps.takeWhile (okP ⟨a, b, l⟩)).length).length, .osl .ptr 1 0 n3, .val (.bool y), .val (.slice none 0 0), .val (.int .i64 u)], vb (ps.all (okP ⟨a, b, l⟩))], [], [.arr .ent (tabI ⟨a, b, l⟩ ps [] (ps.takeWhile (okP ⟨a, b, l⟩)).length)]⟩
  | _, _ => no⟩
theorem s_table_e : EnterOk Tryz.prog 50 := ⟨_, Tryz.func50, rfl, by decide⟩
@[go_sem] def s_table_lv : List (List Nat) := [[2, 3, 4], [2, 3, 4, 6], [2, 3, 4, 6, 15], [2, 3, 4, 6], [2, 3, 4, 6, 7, 8], [2, 3, 4, 6, 8, 9, 10], [2, 3, 4, 6, 9, 38], [4, 5], [2, 3, 4, 6], [4, 5]]
@[go_sem] noncomputable def s_table_K : Known := ((Known.nil).cons 47 ctBlkRead s_specBlkRead s_specBlkRead_e).cons 112 ctDdtR s_specDdtRead s_specDdtRead_e
set_option maxHeartbeats 8000000 in
theorem s_table : Sound Tryz.prog 50 ctTable := by
 have ke := s_table_K.env []
 have kl : Lives s_table_lv := trivial
 refine sound_intro (E := ⟨ti, s_table_K.Γ, []⟩) ke Tryz.func50 Tryz.ntmps50 rfl (rs := [.cell 4 43, .tmp 5]) rfl ?_
 intro args os hp
 unfold ctTable at hp ⊢
 dsimp only at hp ⊢
 split at hp
 ·rename_i a b l x n1 n3 y u cs ps
  refine ⟨by simp, fun φ0 w0 => ?_⟩
  obtain ⟨⟨s1, s2, s3⟩, rfl, f1⟩ : (a.length ≤ 4000000 ∧ b.length ≤ 4000000 ∧ l.length ≤ 4000000) ∧ n3 = ps.length ∧ ps.length ≤ 1000 := hp
  obtain ⟨d, hd⟩ : ∃ d, Dk.mk a b l = d := ⟨_, rfl⟩
  have hsz := fun p => blkRead_size d p
  have nt : (!true) = false := rfl
  have nf : (!false) = true := rfl
  obtain ⟨E, hE⟩ : ∃ E : Nat → List Ent, E = tabI d ps [] := ⟨_, rfl⟩
  have t0 : E 0 = [] := by rw [hE]; exact tabI_zero d ps []
  have tl : ∀ i, (E i).length ≤ 48 * ps.length := fun i => by rw [hE]; simpa using tabI_len d ps [] i
  refine goh trivial ?_
  refine W_for ps.length (fun i => (ps.take i).all (okP d) = true) (fun i => ⟨[(2, .one (.ptr 2 0)), (3, .one (.ptr 3 0)), (4, .one (.ptr 4 0)), (6, vi i)], [some (.arr .cset cs), some (.arr .ptr ps), some (.cells [.isl .str a, .isl .str b, .isl .late l]), some (.cells [.val (.int .i64 x), .osl .cset 0 0 n1, .osl .ent 5 0 (E i).length, .osl .ptr 1 0 ps.length, .val (.bool y), .val (.slice none 0 0), .val (.int .i64 u)]), some (.cells [.val (.int .i64 0), .val (.slice none 0 0), .val (.slice none 0 0), .val (.slice none 0 0), .val (.bool false), .val (.slice none 0 0), .val (.int .i64 0)]), some (.arr .ent (E i))], []⟩) [some 0, some 1, some 2, some 3, some 4, none] (leh t0) rfl fun i hi hI => ?_
  have hel := tl i
  refine goh trivial ?_
  refine W_cnd ?_ ?_ <;> (try simp only [cnd_r]) <;> intro hlt
  ·have hi' : i < ps.length := by omega
   have hms : E (i + 1) = E i ++ entsP d (ps.getD i ET.ptr.dflt) := by rw [hE]; exact tabI_succ d [] hi'
   have g1 := fun h => And.intro (all_one (f := okP d) ET.ptr.dflt hi' h) (tw_stop (f := okP d) ET.ptr.dflt hi' hI h)
   have g2 := fun h => all_more (f := okP d) ET.ptr.dflt hi' hI h
   obtain ⟨s, hs0⟩ : ∃ s, ps.getD i ET.ptr.dflt = s := ⟨_, rfl⟩
   rw [hs0] at hms g1 g2
   obtain ⟨pa, pb, pc⟩ := s
   have y0 := hsz ⟨pa, pb, pc⟩
   have hle := entsP_len d ⟨pa, pb, pc⟩
   have o1 := fun h => okP_bad1 (d := d) (p := ⟨pa, pb, pc⟩) h
   have o2 := fun h => okP_bad2 (d := d) (p := ⟨pa, pb, pc⟩) h
   have o3 := fun es h0 h => okP_is (d := d) (p := ⟨pa, pb, pc⟩) (es := es) h0 h
   obtain ⟨⟨t, code⟩, hbs⟩ : ∃ z, blkRead d ⟨pa, pb, pc⟩ = z := ⟨_, rfl⟩
   rw [hbs] at y0 o1 o2 o3
   simp only at y0 o1 o2 o3
   have y1 : t.size ≤ 1000000 := by omega
   by_cases hc : code = 0
   rotate_left
   ·obtain ⟨e, e2⟩ := g1 (o1 hc)
    have e3 : tabI d ps [] (ps.takeWhile (okP d)).length = E i := by rw [e2, hE]
    have c2 : (code != 0) = true := by simpa using hc
    refine goh (And.intro hd (And.intro hs0 (And.intro hbs (And.intro y1 c2)))) ?_
    refine W_cnd ?_ ?_ <;> intro hlit <;> try (cases hlit; done)
    refine goh trivial ?_
    exact finh [some 0, some 1, some 5] (And.intro hd (And.intro e e3))
   subst hc
   cases hm : ddtR t with
   | none =>
     obtain ⟨e, e2⟩ := g1 (o2 hm)
     have e3 : tabI d ps [] (ps.takeWhile (okP d)).length = E i := by rw [e2, hE]
     refine goh (And.intro hd (And.intro hs0 (And.intro hbs (And.intro y1 (And.intro hm nf))))) ?_
     refine W_cnd ?_ ?_ <;> intro hlit <;> try (cases hlit; done)
     refine goh trivial ?_
     exact finh [some 0, some 1, some 5] (And.intro hd (And.intro e e3))
   | some es =>
     obtain ⟨k1, k2⟩ := o3 es rfl hm
     rw [k2] at hms hle
     have tE : (E i).take (E i).length = E i := List.take_length
     have te : es.take es.length = es := List.take_length
     have hla : (E i ++ es).length = (E i).length + es.length := List.length_append
     refine goh (And.intro hd (And.intro hs0 (And.intro hbs (And.intro y1 (And.intro hm nt))))) ?_
     refine W_cnd ?_ ?_ <;> intro hlit <;> try (cases hlit; done)
     refine goh (And.intro tE te) ?_
     exact ⟨[some 0, some 1, some 2, some 3, some 4, some 7], by omega, leh (And.intro hms hla), g2 k1⟩
  obtain rfl : i = ps.length := by omega
  have e := all_end hI
  have e3 : tabI d ps [] (ps.takeWhile (okP d)).length = E ps.length := by rw [tw_all e, hE]
  refine goh trivial ?_
  exact finh [some 0, some 1, some 5] (And.intro hd (And.intro e e3))
 ·simp [no] at hp
theorem s_specRise_e : EnterOk Tryz.prog 15 := ⟨_, Tryz.func15, rfl, by decide⟩
@[go_sem] def s_specRise_lv : List (List Nat) := [[1, 2], [1, 2, 4, 5, 6], [1, 2, 4, 5, 27], [2, 3], [1, 2, 4, 5, 7, 8], [1, 2, 4, 5, 8, 9, 10], [1, 2, 4, 5, 9, 45], [2, 3], [1, 2, 4, 5, 11, 12], [2, 4, 5, 12, 13, 14], [2, 5, 12, 13, 14], [2, 5, 13, 71], [2, 3], [2, 13], [2, 3]]
@[go_sem] noncomputable def s_specRise_K : Known := ((((((((Known.nil).cons 45 ctBest s_specBest s_specBest_e).cons 46 ctDiskOk s_specDiskOk s_specDiskOk_e).cons 47 ctBlkRead s_specBlkRead s_specBlkRead_e).cons 48 ctRootR s_specRootRead s_specRootRead_e).cons 49 ctMaps s_maps s_maps_e).cons 50 ctTable s_table s_table_e).cons 51 ctCoreOk s_specCoreOk s_specCoreOk_e).cons 52 ctReach s_l7Reach s_l7Reach_e
set_option maxHeartbeats 8000000 in
theorem s_specRise : Sound Tryz.prog 15 ctRise := by
 have ke := s_specRise_K.env []
 have kl : Lives s_specRise_lv := trivial
 refine sound_intro (E := ⟨ti, s_specRise_K.Γ, []⟩) ke Tryz.func15 Tryz.ntmps15 rfl (rs := [.cell 2 43, .tmp 3]) rfl ?_
 intro args os hp
 unfold ctRise at hp ⊢
 dsimp only at hp ⊢
 split at hp
 ·rename_i a b l
  refine ⟨by simp, fun φ0 w0 => ?_⟩
  obtain ⟨s1, s2, s3⟩ : a.length ≤ 4000000 ∧ b.length ≤ 4000000 ∧ l.length ≤ 4000000 := hp
  obtain ⟨d, hd⟩ : ∃ d, Dk.mk a b l = d := ⟨_, rfl⟩
  have hsz := fun p => blkRead_size d p
  have nt : (!true) = false := rfl
  have nf : (!false) = true := rfl
  obtain ⟨⟨x, ⟨ra, rs, rb⟩⟩, hb⟩ : ∃ z, bestR d 8 = z := ⟨_, rfl⟩
  cases hok : d.ok with
  | false =>
    have e := rise_bad1 hok
    refine goh (And.intro hd (And.intro hb (And.intro hok nf))) ?_
    refine W_cnd ?_ ?_ <;> intro hlit <;> try (cases hlit; done)
    refine goh trivial ?_
    refine ⟨by (simp only [go_sem, hd, e, Co.nil, ↓reduceIte, reduceCtorEq, Nat.reduceAdd, Nat.reduceLT, Nat.reduceLeDiff, Nat.reduceEqDiff]) <;> trivial, [none, none, none, none], ?_⟩
    all_goals try simp only [go_sem, hd, e, Co.nil, inj_r, ↓reduceIte, reduceCtorEq, Nat.reduceAdd, Nat.reduceLT, Nat.reduceLeDiff, Nat.reduceEqDiff, Int.reduceEq]
    all_goals (repeat' refine And.intro ?_ ?_) <;> try exact shut7
  | true =>
  by_cases hx : x > 0
  rotate_left
  ·have e : riseV d = (.nil, 1) := rise_bad2 (by rw [hb]; exact hx)
   have c1 : decide (x > 0) = false := decide_eq_false hx
   refine goh (And.intro hd (And.intro hb (And.intro hok (And.intro nt (And.intro nf c1))))) ?_
   refine W_cnd ?_ ?_ <;> intro hlit <;> try (cases hlit; done)
   refine goh trivial ?_
   refine ⟨by (simp only [go_sem, hd, e, Co.nil, ↓reduceIte, reduceCtorEq, Nat.reduceAdd, Nat.reduceLT, Nat.reduceLeDiff, Nat.reduceEqDiff]) <;> trivial, [none, none, none, none], ?_⟩
   all_goals try simp only [go_sem, hd, e, Co.nil, inj_r, ↓reduceIte, reduceCtorEq, Nat.reduceAdd, Nat.reduceLT, Nat.reduceLeDiff, Nat.reduceEqDiff, Int.reduceEq]
   all_goals (repeat' refine And.intro ?_ ?_) <;> try exact shut7
  have c1 : decide (x > 0) = true := decide_eq_true hx
  have e0 := rise_is hok hb hx
  have z0 := hsz ⟨ra, rs, rb⟩
  have q1 := fun h => riseT_bad1 (d := d) (x := x) (r := ⟨ra, rs, rb⟩) h
  have q2 := fun h => riseT_bad2 (d := d) (x := x) (r := ⟨ra, rs, rb⟩) h
  have q3 := fun cs ps h0 h => riseT_is (d := d) (x := x) (r := ⟨ra, rs, rb⟩) (cs := cs) (ps := ps) h0 h
  obtain ⟨⟨t, code⟩, hbr⟩ : ∃ z, blkRead d ⟨ra, rs, rb⟩ = z := ⟨_, rfl⟩
  rw [hbr] at z0 q1 q2 q3
  simp only at z0 q1 q2 q3
  have z1 : t.size ≤ 1000000 := by omega
  by_cases hc : code = 0
  rotate_left
  ·have e : riseV d = (.nil, 8) := e0.trans (q1 hc)
   have c2 : (code != 0) = true := by simpa using hc
   refine goh (And.intro hd (And.intro hb (And.intro hok (And.intro nt (And.intro c1 (And.intro hbr z1)))))) ?_
   refine W_cnd ?_ ?_ <;> intro hlit <;> try (cases hlit; done)
   refine goh (And.intro hd (And.intro hbr c2)) ?_
   refine W_cnd ?_ ?_ <;> intro hlit <;> try (cases hlit; done)
   refine goh trivial ?_
   refine ⟨by (simp only [go_sem, hd, e, Co.nil, ↓reduceIte, reduceCtorEq, Nat.reduceAdd, Nat.reduceLT, Nat.reduceLeDiff, Nat.reduceEqDiff]) <;> trivial, [none, none, none, none], ?_⟩
   all_goals try simp only [go_sem, hd, e, Co.nil, inj_r, ↓reduceIte, reduceCtorEq, Nat.reduceAdd, Nat.reduceLT, Nat.reduceLeDiff, Nat.reduceEqDiff, Int.reduceEq]
   all_goals (repeat' refine And.intro ?_ ?_) <;> try exact shut7
  subst hc
  cases hr : rootR t with
  | none =>
    have e : riseV d = (.nil, 8) := e0.trans (q2 hr)
    refine goh (And.intro hd (And.intro hb (And.intro hok (And.intro nt (And.intro nf (And.intro c1 (And.intro hbr (And.intro z1 hr)))))))) ?_
    refine W_cnd ?_ ?_ <;> intro hlit <;> try (cases hlit; done)
    refine goh (And.intro hd (And.intro hbr (And.intro hr nf))) ?_
    refine W_cnd ?_ ?_ <;> intro hlit <;> try (cases hlit; done)
    refine goh trivial ?_
    refine ⟨by (simp only [go_sem, hd, e, Co.nil, ↓reduceIte, reduceCtorEq, Nat.reduceAdd, Nat.reduceLT, Nat.reduceLeDiff, Nat.reduceEqDiff]) <;> trivial, [none, none, none, none], ?_⟩
    all_goals try simp only [go_sem, hd, e, Co.nil, inj_r, ↓reduceIte, reduceCtorEq, Nat.reduceAdd, Nat.reduceLT, Nat.reduceLeDiff, Nat.reduceEqDiff, Int.reduceEq]
    all_goals (repeat' refine And.intro ?_ ?_) <;> try exact shut7
  | some z =>
  obtain ⟨cs, ps⟩ := z
  have e1 : riseV d = riseW d x ⟨ra, rs, rb⟩ cs ps := e0.trans (q3 cs ps rfl hr)
  obtain ⟨f1, f2⟩ := root_few hr
  have hfit := rise_fit hr d x
  clear e0 q1 q2 q3
  have f3 : cs.length ≤ 4000000 := by omega
  have f4 : ps.length ≤ 1000 := by omega
  obtain ⟨C, hC⟩ : ∃ C, mapsI d cs (cs.takeWhile (okS d)).length = C := ⟨_, rfl⟩
  obtain ⟨F, hF⟩ : ∃ F, tabI d ps [] (ps.takeWhile (okP d)).length = F := ⟨_, rfl⟩
  have hcl : C.length = cs.length := by rw [← hC]; exact mapsI_len ..
  have hfl : F.length ≤ 48 * ps.length := by rw [← hF]; simpa using tabI_len d ps [] (ps.takeWhile (okP d)).length
  have tC : C.take cs.length = C := List.take_of_length_le (by omega)
  cases h1 : cs.all (okS d) with
  | false =>
    have e : riseV d = (.nil, 8) := e1.trans (riseW_bad1 h1)
    refine goh (And.intro hd (And.intro hb (And.intro hok (And.intro nt (And.intro nf (And.intro c1 (And.intro hbr (And.intro z1 hr)))))))) ?_
    refine W_cnd ?_ ?_ <;> intro hlit <;> try (cases hlit; done)
    refine goh (And.intro hd (And.intro hbr (And.intro hr nt))) ?_
    refine W_cnd ?_ ?_ <;> intro hlit <;> try (cases hlit; done)
    refine goh (And.intro hd (And.intro h1 (And.intro hC (And.intro hF (And.intro f3 (And.intro f4 (And.intro nf (And.intro hcl tC)))))))) ?_
    refine W_cnd ?_ ?_ <;> intro hlit <;> try (cases hlit; done)
    refine goh trivial ?_
    refine ⟨by (simp only [go_sem, hd, e, Co.nil, ↓reduceIte, reduceCtorEq, Nat.reduceAdd, Nat.reduceLT, Nat.reduceLeDiff, Nat.reduceEqDiff]) <;> trivial, [none, none, none, none], ?_⟩
    all_goals try simp only [go_sem, hd, e, Co.nil, inj_r, ↓reduceIte, reduceCtorEq, Nat.reduceAdd, Nat.reduceLT, Nat.reduceLeDiff, Nat.reduceEqDiff, Int.reduceEq]
    all_goals (repeat' refine And.intro ?_ ?_) <;> try exact shut7
  | true =>
  cases h2 : ps.all (okP d) with
  | false =>
    have e : riseV d = (.nil, 8) := e1.trans (riseW_bad2 h2)
    refine goh (And.intro hd (And.intro hb (And.intro hok (And.intro nt (And.intro nf (And.intro c1 (And.intro hbr (And.intro z1 hr)))))))) ?_
    refine W_cnd ?_ ?_ <;> intro hlit <;> try (cases hlit; done)
    refine goh (And.intro hd (And.intro hbr (And.intro hr nt))) ?_
    refine W_cnd ?_ ?_ <;> intro hlit <;> try (cases hlit; done)
    refine goh (And.intro hd (And.intro h1 (And.intro h2 (And.intro hC (And.intro hF (And.intro f3 (And.intro f4 (And.intro nf (And.intro nt (And.intro hcl tC)))))))))) ?_
    refine W_cnd ?_ ?_ <;> intro hlit <;> try (cases hlit; done)
    refine goh trivial ?_
    refine ⟨by (simp only [go_sem, hd, e, Co.nil, ↓reduceIte, reduceCtorEq, Nat.reduceAdd, Nat.reduceLT, Nat.reduceLeDiff, Nat.reduceEqDiff]) <;> trivial, [none, none, none, none], ?_⟩
    all_goals try simp only [go_sem, hd, e, Co.nil, inj_r, ↓reduceIte, reduceCtorEq, Nat.reduceAdd, Nat.reduceLT, Nat.reduceLeDiff, Nat.reduceEqDiff, Int.reduceEq]
    all_goals (repeat' refine And.intro ?_ ?_) <;> try exact shut7
  | true =>
  have kC : cs.map (mset d) = C := by rw [← hC, tw_all h1, mapsI_all]
  have kF : ps.flatMap (entsP d) = F := by rw [← hF, tw_all h2, tabI_all]; rfl
  have g3 := fun h => riseW_bad3 (d := d) (x := x) (r := ⟨ra, rs, rb⟩) (cs := cs) (ps := ps) h
  have g4 := fun h => riseW_is (d := d) (x := x) (r := ⟨ra, rs, rb⟩) (cs := cs) (ps := ps) h1 h2 h
  have hrc : riseC d x cs ps = ⟨x, cs.map (mset d), ps.flatMap (entsP d), ps, false, [], 0⟩ := rfl
  rw [hrc] at hfit g3 g4
  rw [kC, kF] at hfit g3 g4
  cases hco : (Co.mk x C F ps false [] 0).ok with
  | false =>
    have e : riseV d = (.nil, 8) := e1.trans (g3 hco)
    refine goh (And.intro hd (And.intro hb (And.intro hok (And.intro nt (And.intro nf (And.intro c1 (And.intro hbr (And.intro z1 hr)))))))) ?_
    refine W_cnd ?_ ?_ <;> intro hlit <;> try (cases hlit; done)
    refine goh (And.intro hd (And.intro hbr (And.intro hr nt))) ?_
    refine W_cnd ?_ ?_ <;> intro hlit <;> try (cases hlit; done)
    refine goh (And.intro hd (And.intro h1 (And.intro h2 (And.intro hC (And.intro hF (And.intro f3 (And.intro f4 (And.intro nf (And.intro nt (And.intro hcl (And.intro tC (And.intro hco hfit)))))))))))) ?_
    refine W_cnd ?_ ?_ <;> intro hlit <;> try (cases hlit; done)
    refine goh trivial ?_
    refine ⟨by (simp only [go_sem, hd, e, Co.nil, ↓reduceIte, reduceCtorEq, Nat.reduceAdd, Nat.reduceLT, Nat.reduceLeDiff, Nat.reduceEqDiff]) <;> trivial, [none, none, none, none], ?_⟩
    all_goals try simp only [go_sem, hd, e, Co.nil, inj_r, ↓reduceIte, reduceCtorEq, Nat.reduceAdd, Nat.reduceLT, Nat.reduceLeDiff, Nat.reduceEqDiff, Int.reduceEq]
    all_goals (repeat' refine And.intro ?_ ?_) <;> try exact shut7
  | true =>
    have e := e1.trans (g4 hco)
    obtain ⟨Z, hZ⟩ : ∃ Z, reachV ⟨x, C, F, ps, false, [], 0⟩ ra = Z := ⟨_, rfl⟩
    have hZ2 : roomR ⟨x, C, F, ps, false, [], 0⟩ ra = Z := by unfold roomR; rw [if_pos hco]; exact hZ
    simp only [hZ2] at e
    refine goh (And.intro hd (And.intro hb (And.intro hok (And.intro nt (And.intro nf (And.intro c1 (And.intro hbr (And.intro z1 hr)))))))) ?_
    refine W_cnd ?_ ?_ <;> intro hlit <;> try (cases hlit; done)
    refine goh (And.intro hd (And.intro hbr (And.intro hr nt))) ?_
    refine W_cnd ?_ ?_ <;> intro hlit <;> try (cases hlit; done)
    refine goh (And.intro hd (And.intro h1 (And.intro h2 (And.intro hC (And.intro hF (And.intro f3 (And.intro f4 (And.intro nf (And.intro nt (And.intro hcl (And.intro tC (And.intro hco hfit)))))))))))) ?_
    refine W_cnd ?_ ?_ <;> intro hlit <;> try (cases hlit; done)
    refine goh (And.intro hcl (And.intro tC (And.intro hco (And.intro hfit hZ)))) ?_
    exact finh [some 3, some 7, some 4, some 9] (And.intro hd (And.intro e hcl))
 ·simp [no] at hp
end Go.Proofs.YtfmjgoeclilcnaaGreatDoor
namespace Go.Proofs.YtfmjgoeclilcnaaGreatDoor
open Go.RowKit
@[go_sem] def ct_s_xRise : Ct := ⟨false, [[some .str, some .str, some .late]], fun args os => match args, os with
  | [.agg [.isl .str a, .isl .str b, .isl .late l]], [] => ifp ((Dk.mk a b l).inn) (vb true)
  | _, _ => no⟩
@[go_sem] def s_xRise_lv : List (List Nat) := [[1], [1, 3], [1, 3], [1, 18], [2], [1, 4, 5], [1, 4, 5, 6], [1, 4, 5, 6, 7, 8], [1, 4, 5, 6, 7, 8, 40], [2], [1, 4, 5, 6, 7, 8, 45], [2], [1, 4, 5, 6, 7, 8, 9], [1, 4, 5, 7, 8, 9], [1, 4, 5, 7, 61], [2], [1, 4, 5, 7, 10], [1, 4, 5, 7, 10], [1, 4, 5, 7, 10, 11], [1, 4, 5, 7, 10, 11], [1, 4, 5, 7, 10, 11, 69], [2], [1, 4, 5, 7, 10, 72], [2], [4, 5, 7, 10, 12, 13], [7, 10, 87], [2], [7, 10, 11], [10, 11], [10, 11, 92], [2], [95], [2], [2]]
@[go_sem] noncomputable def s_xRise_K : Known := (((((((((Known.nil).cons 14 ctSzDisk s_szDisk s_szDisk_e).cons 16 ctToDisk s_toDisk s_toDisk_e).cons 15 ctRise s_specRise s_specRise_e).cons 17 ctRise s_rise s_rise_e).cons 18 ctEqCore s_eqCore s_eqCore_e).cons 19 ctEqDisk s_eqDisk s_eqDisk_e).cons 20 ctMarkDisk s_markDisk s_markDisk_e).cons 21 ctMarkCore s_markCore s_markCore_e).cons 22 ctHeldCore s_heldCore s_heldCore_e
set_option maxHeartbeats 8000000 in
theorem s_xRise : Sound Tryz.prog 4 ct_s_xRise := by
 have ke := s_xRise_K.env []
 have kl : Lives s_xRise_lv := trivial
 refine sound_intro (E := ⟨ti, s_xRise_K.Γ, []⟩) ke Tryz.func4 Tryz.ntmps4 rfl (rs := [.tmp 2]) rfl ?_
 intro args os hp
 unfold ct_s_xRise at hp ⊢
 dsimp only at hp ⊢
 split at hp
 ·rename_i a b l
  refine ⟨by simp, fun φ0 w0 => ?_⟩
  obtain idisk : (Dk.mk a b l).inn := hp
  have j0 := szW_in (Dk.mk a b l).wt (1048576) (by omega)
  refine goh trivial ?_
  refine W_cnd ?_ ?_ <;> (try simp only [cnd_r]) <;> intro hg0
  ·refine goh trivial ?_
   exact finh [] trivial
  ·skip
   obtain ⟨z1, z2, z3⟩ := wt_small (n := 1048576) (d := ⟨a, b, l⟩) (by omega)
   simp only at z1 z2 z3
   obtain ⟨m0, hm0⟩ : ∃ m, szW (Dk.mk a b l).wt (1048576) = m := ⟨_, rfl⟩
   rw [hm0] at hg0 j0
   have nt : (!true) = false := rfl
   have nf : (!false) = true := rfl
   have hmid := mid_rise ⟨a, b, l⟩
   obtain ⟨r, hx⟩ : ∃ r, riseV ⟨a, b, l⟩ = r := ⟨_, rfl⟩
   rw [hx] at hmid
   obtain ⟨r0, r1⟩ := r
   obtain ⟨y00, y01, y02, y03⟩ := hmid
   simp only at y00 y01 y02 y03
   have c0 : decide ((1 : Int) + (a.length : Int) + b.length + 3 * l.length < 0) = false := by simp; omega
   have c1 : decide ((1 : Int) + 7 * r0.sets.length + 3 * r0.ddt.length + 3 * r0.parts.length + r0.safe.length < 0) = false := by simp; omega
   refine goh (And.intro hx (And.intro nt (And.intro nf (And.intro c0 c1)))) ?_
   refine W_cnd ?_ ?_ <;> intro hlit <;> try (cases hlit; done)
   refine goh (And.intro hx (And.intro nt (And.intro nf (And.intro c0 c1)))) ?_
   refine W_cnd ?_ ?_ <;> intro hlit <;> try (cases hlit; done)
   refine goh (And.intro hx (And.intro nt (And.intro nf (And.intro c0 c1)))) ?_
   refine W_cnd ?_ ?_ <;> intro hlit <;> try (cases hlit; done)
   refine goh (And.intro hx (And.intro nt (And.intro nf (And.intro c0 c1)))) ?_
   refine W_cnd ?_ ?_ <;> intro hlit <;> try (cases hlit; done)
   refine goh (And.intro hx (And.intro nt (And.intro nf (And.intro c0 c1)))) ?_
   refine W_cnd ?_ ?_ <;> intro hlit <;> try (cases hlit; done)
   refine goh (And.intro hx (And.intro nt (And.intro nf (And.intro c0 c1)))) ?_
   refine W_cnd ?_ ?_ <;> intro hlit <;> try (cases hlit; done)
   refine goh (And.intro hx (And.intro nt (And.intro nf (And.intro c0 c1)))) ?_
   refine W_cnd ?_ ?_ <;> intro hlit <;> try (cases hlit; done)
   refine goh (And.intro hx (And.intro nt (And.intro nf (And.intro c0 c1)))) ?_
   refine W_cnd ?_ ?_ <;> intro hlit <;> try (cases hlit; done)
   refine goh trivial ?_
   exact finh [] trivial
 ·simp [no, ifp, is] at hp
end Go.Proofs.YtfmjgoeclilcnaaGreatDoor
