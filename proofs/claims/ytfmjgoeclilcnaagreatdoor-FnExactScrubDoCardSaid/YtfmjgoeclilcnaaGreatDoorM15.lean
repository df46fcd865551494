import Derived.Ground.NamesProg
import Derived.Shelf.Slices.In.SortNone
import Derived.Shelf.Sort.Plain
import Derived.Test.YtfmjgoeclilcnaaGreatDoorProg
import Derived.WalkKit
import Derived.Ground.Names2Prog
import Derived.Shelf.Slices.CompactI
import Derived.Ground.SlgfProg
import Derived.Shelf.SlGeneric
import Derived.Shelf.SlicesE.DeleteFunc
import Derived.Test.YtfmjgoeclilcnaaGreatDoorM5
import Derived.Test.YtfmjgoeclilcnaaGreatDoorM10
import Derived.Test.YtfmjgoeclilcnaaGreatDoorM13
import Derived.Test.YtfmjgoeclilcnaaGreatDoorM14
set_option linter.unusedSimpArgs false
set_option linter.unusedVariables false
set_option linter.unusedSectionVars false
namespace Go.Proofs.YtfmjgoeclilcnaaGreatDoor
open Go.RowKit
theorem byte_eq (a : UInt8) {c : Int} (h0 : 0 ≤ c) (h1 : c ≤ 255) : ((a.toNat : Int) = c) ↔ a = UInt8.ofNat c.toNat := by
 constructor
 ·intro h
  apply UInt8.toNat_inj.1
  rw [ofNat_u8 (by omega)]; omega
 ·rintro rfl
  rw [ofNat_u8 (by omega)]; omega
@[go_sem] def ctFind : Ct := ⟨false, [], fun args os => match args, os with
  | [.one (.val (.string s)), .one (.val (.int .u8 c))], [] => ifp (s.size ≤ 1000000 ∧ 0 ≤ c ∧ c ≤ 255) (vi (findV (UInt8.ofNat c.toNat) s))
  | _, _ => no⟩
theorem s_find_e : EnterOk Tryz.prog 207 := ⟨_, Tryz.func207, rfl, by decide⟩
@[go_sem] def s_find_lv : List (List Nat) := [[0, 1], [0, 1, 5], [0, 1, 5, 9], [0, 1, 5], [0, 1, 5, 16], [4], [4]]
@[go_sem] noncomputable def s_find_K : Known := Known.nil
set_option maxHeartbeats 8000000 in
theorem s_find : Sound Tryz.prog 207 ctFind := by
 have ke := s_find_K.env []
 have kl : Lives s_find_lv := trivial
 refine sound_intro (E := ⟨ti, s_find_K.Γ, []⟩) ke Tryz.func207 Tryz.ntmps207 rfl (rs := [.tmp 4]) rfl ?_
 intro args os hp
 unfold ctFind at hp ⊢
 dsimp only at hp ⊢
 split at hp
 ·rename_i s c
  obtain ⟨hlen, c0, c1⟩ : s.size ≤ 1000000 ∧ 0 ≤ c ∧ c ≤ 255 := hp
  refine ⟨by simp, fun φ0 w0 => ?_⟩
  have hll : s.data.toList.length = s.size := rfl
  refine goh trivial ?_
  refine W_for s.size (fun i => UInt8.ofNat c.toNat ∉ s.data.toList.take i) (fun i => ⟨[(0, vs s), (1, .one (.val (.int .u8 c))), (5, vi i)], [], []⟩) [] (leh trivial) (by simp) fun i hi hI => ?_
  refine goh trivial ?_
  refine W_cnd ?_ ?_ <;> (try simp only [cnd_r]) <;> intro hlt
  ·have hil : i < s.data.toList.length := by omega
   have hg := getD_list s hil
   refine goh trivial ?_
   refine W_cnd ?_ ?_ <;> (try simp only [cnd_r]) <;> intro hc
   ·have hb := (byte_eq (s.data.getD i 0) c0 c1).1 hc
    rw [hg] at hb
    have e := (find_at hil hI hb).1
    refine goh trivial ?_
    exact finh [] e
   ·simp only [beq_eq_false_iff_ne, ne_eq] at hc
    have hb : ¬ s.data.getD i 0 = UInt8.ofNat c.toNat := fun h => hc ((byte_eq _ c0 c1).2 h)
    rw [hg] at hb
    refine goh trivial ?_
    refine ⟨[], by omega, leh trivial, ?_⟩
    rw [List.take_succ_eq_append_getElem hil, List.mem_append, List.mem_singleton]
    rintro (h | h)
    ·exact hI h
    ·exact hb h.symm
  ·have hI2 : UInt8.ofNat c.toNat ∉ s.data.toList := by
    rw [List.take_of_length_le (by omega)] at hI; exact hI
   have e := find_not hI2
   refine goh trivial ?_
   exact finh [] e
 ·simp [no, ifp] at hp
@[go_sem] def ctCutB : Ct := ⟨false, [], fun args os => match args, os with
  | [.one (.val (.string s)), .one (.val (.int .u8 c))], [] => ⟨s.size ≤ 1000000 ∧ 0 ≤ c ∧ c ≤ 255, .one (.osl .str 0 0 (splitV (UInt8.ofNat c.toNat) s).length), [], [.arr .str (splitV (UInt8.ofNat c.toNat) s)]⟩
  | _, _ => no⟩
theorem s_cutB_e : EnterOk Tryz.prog 106 := ⟨_, Tryz.func106, rfl, by decide⟩
@[go_sem] def s_cutB_lv : List (List Nat) := [[0, 1], [0, 1, 5], [0, 1, 5, 6], [0, 1, 5, 6, 7], [0, 1, 5, 6, 7, 12], [0, 1, 5, 6, 7], [0, 1, 5, 6, 7, 25], [0, 1, 5, 7], [0, 1, 5, 6, 7], [4]]
@[go_sem] noncomputable def s_cutB_K : Known := Known.nil
set_option maxHeartbeats 8000000 in
theorem s_cutB : Sound Tryz.prog 106 ctCutB := by
 have ke := s_cutB_K.env []
 have kl : Lives s_cutB_lv := trivial
 refine sound_intro (E := ⟨ti, s_cutB_K.Γ, []⟩) ke Tryz.func106 Tryz.ntmps106 rfl (rs := [.tmp 4]) rfl ?_
 intro args os hp
 unfold ctCutB at hp ⊢
 dsimp only at hp ⊢
 split at hp
 ·rename_i s c
  obtain ⟨hlen, c0, c1⟩ : s.size ≤ 1000000 ∧ 0 ≤ c ∧ c ≤ 255 := hp
  refine ⟨by simp, fun φ0 w0 => ?_⟩
  have hll : s.data.toList.length = s.size := rfl
  obtain ⟨b, hb⟩ : ∃ b, UInt8.ofNat c.toNat = b := ⟨_, rfl⟩
  rw [hb]
  have hsl := splitV_len b s
  refine goh trivial ?_
  refine W_le (σ' := ⟨[(0, vs s), (1, .one (.val (.int .u8 c))), (5, .one (.osl .str 0 0 ([] : List ByteArray).length)), (6, vi (0 : Nat)), (7, vi (0 : Nat))], [some (.arr .str ([] : List ByteArray))], []⟩) [some 0] (leh (show (((0 : Nat) : Int)) = 0 from rfl)) ?_
  refine W_loop (fun q σ => ∃ (i f : Nat) (out : List ByteArray), q = s.size + 1 - i ∧ i ≤ s.size + 1 ∧ out.length ≤ i ∧ (i ≤ s.size → f ≤ i ∧ b ∉ (s.data.toList.drop f).take (i - f) ∧ out ++ (cutL b (s.data.toList.drop f)).map bytesL = splitV b s) ∧ (i = s.size + 1 → out = splitV b s) ∧ σ = ⟨[(0, vs s), (1, .one (.val (.int .u8 c))), (5, .one (.osl .str 0 0 out.length)), (6, vi f), (7, vi i)], [some (.arr .str out)], []⟩) (s.size + 1) ⟨0, 0, [], rfl, by omega, by simp, fun _ => ⟨Nat.le_refl _, by simp, by simp [splitV]⟩, fun h => by omega, rfl⟩ ?_
  rintro q σ ⟨i, f, out, rfl, hi, hol, hI, hE, rfl⟩
  refine goh trivial ?_
  refine W_cnd ?_ ?_ <;> (try simp only [cnd_r]) <;> intro hlt
  ·have hi2 : i ≤ s.size := by omega
   obtain ⟨hf, hn, ho⟩ := hI hi2
   have hex := extract_list s f i
   by_cases hz : i = s.size
   ·have cz : ((i : Int) == (s.size : Int)) = true := by simp [hz]
    have hnn : b ∉ s.data.toList.drop f := by
     rw [List.take_of_length_le (by rw [List.length_drop]; omega)] at hn; exact hn
    have ho2 : out ++ [s.extract f i] = splitV b s := by
     rw [cut_none _ _ hnn] at ho
     rw [hex, List.take_of_length_le (by rw [List.length_drop]; omega)]; exact ho
    refine goh cz ?_
    refine W_cnd ?_ ?_ <;> intro hlit <;> try (cases hlit; done)
    refine goh trivial ?_
    refine ⟨s.size + 1 - (i + 1), [some 2], ⟨[(0, vs s), (1, .one (.val (.int .u8 c))), (5, .one (.osl .str 0 0 (out ++ [s.extract f i]).length)), (6, vi (i + 1 : Nat)), (7, vi (i + 1 : Nat))], [some (.arr .str (out ++ [s.extract f i]))], []⟩, by omega, leh trivial, i + 1, i + 1, _, rfl, by omega, ?_, fun h => by omega, fun _ => ho2, rfl⟩
    rw [List.length_append]; simp only [List.length_cons, List.length_nil]; omega
   ·have cz : ((i : Int) == (s.size : Int)) = false := by simp; omega
    have hil : i < s.data.toList.length := by omega
    have hg := getD_list s hil
    by_cases hc : s.data.getD i 0 = b
    ·have cc : (((s.data.getD i 0).toNat : Int) == c) = true := by
      rw [beq_iff_eq]; exact (byte_eq _ c0 c1).2 (hc.trans hb.symm)
     rw [hg] at hc
     have hd := drop_at hil hf
     rw [hc] at hd
     have ho2 : out ++ [s.extract f i] ++ (cutL b (s.data.toList.drop (i + 1))).map bytesL = splitV b s := by
      rw [hd, cut_app _ _ _ hn] at ho
      rw [← ho, hex, List.append_assoc]; rfl
     refine goh (And.intro cz cc) ?_
     refine W_cnd ?_ ?_ <;> intro hlit <;> try (cases hlit; done)
     refine goh trivial ?_
     refine ⟨s.size + 1 - (i + 1), [some 2], ⟨[(0, vs s), (1, .one (.val (.int .u8 c))), (5, .one (.osl .str 0 0 (out ++ [s.extract f i]).length)), (6, vi (i + 1 : Nat)), (7, vi (i + 1 : Nat))], [some (.arr .str (out ++ [s.extract f i]))], []⟩, by omega, leh trivial, i + 1, i + 1, _, rfl, by omega, ?_, fun _ => ⟨Nat.le_refl _, by simp, ho2⟩, fun h => by omega, rfl⟩
     rw [List.length_append]; simp only [List.length_cons, List.length_nil]; omega
    ·have cc : (((s.data.getD i 0).toNat : Int) == c) = false := by
      rw [beq_eq_false_iff_ne]; exact fun h => hc (((byte_eq _ c0 c1).1 h).trans hb)
     rw [hg] at hc
     have hn2 : b ∉ (s.data.toList.drop f).take (i + 1 - f) := by
      rw [take_at hil hf, List.mem_append, List.mem_singleton]
      rintro (h | h)
      ·exact hn h
      ·exact hc h.symm
     refine goh (And.intro cz cc) ?_
     refine W_cnd ?_ ?_ <;> intro hlit <;> try (cases hlit; done)
     refine goh trivial ?_
     exact ⟨s.size + 1 - (i + 1), [some 0], ⟨[(0, vs s), (1, .one (.val (.int .u8 c))), (5, .one (.osl .str 0 0 out.length)), (6, vi f), (7, vi (i + 1 : Nat))], [some (.arr .str out)], []⟩, by omega, leh trivial, i + 1, f, out, rfl, by omega, by omega, fun _ => ⟨by omega, hn2, ho⟩, fun h => by omega, rfl⟩
  ·have hz : i = s.size + 1 := by omega
   have e := hE hz
   refine goh trivial ?_
   exact finh [some 0] e
 ·simp [no] at hp
@[go_sem] noncomputable def ctSpecOpenS : Ct := ⟨false, [], fun args os => match args, os with
  | [.one (.val (.string s))], [] => ifp (s.size ≤ 1000000) (.tup [vs (openV s).1, vb (openV s).2])
  | _, _ => no⟩
theorem s_specSumOpen_e : EnterOk Tryz.prog 168 := ⟨_, Tryz.func168, rfl, by decide⟩
@[go_sem] def s_specSumOpen_lv : List (List Nat) := [[0], [0, 4], [0, 4, 17], [2, 3], [2, 3]]
@[go_sem] noncomputable def s_specSumOpen_K : Known := ((Known.nil).cons 207 ctFind s_find s_find_e).cons 208 ctSeal s_specSeal s_specSeal_e
set_option maxHeartbeats 8000000 in
theorem s_specSumOpen : Sound Tryz.prog 168 ctSpecOpenS := by
 have ke := s_specSumOpen_K.env []
 have kl : Lives s_specSumOpen_lv := trivial
 refine sound_intro (E := ⟨ti, s_specSumOpen_K.Γ, []⟩) ke Tryz.func168 Tryz.ntmps168 rfl (rs := [.tmp 2, .tmp 3]) rfl ?_
 intro args os hp
 unfold ctSpecOpenS at hp ⊢
 dsimp only at hp ⊢
 split at hp
 ·rename_i s
  refine ⟨by simp, fun φ0 w0 => ?_⟩
  have hlen : s.size ≤ 1000000 := hp
  have nt : (!true) = false := rfl
  have nf : (!false) = true := rfl
  have h58 : UInt8.ofNat 58 = 58 := rfl
  by_cases hm : (58 : UInt8) ∈ s.data.toList
  ·obtain ⟨i, hi, hc, hn⟩ : ∃ i, ∃ hi : i < s.data.toList.length, s.data.toList[i] = 58 ∧ (58 : UInt8) ∉ s.data.toList.take i := by
    obtain ⟨w, r, hw, hnw⟩ := List.eq_append_cons_of_mem hm
    refine ⟨w.length, by rw [hw]; simp, by simp [hw], by rw [hw]; simpa using hnw⟩
   obtain ⟨f1, f2, f3⟩ := find_at hi hn hc
   have hil : i < s.size := hi
   have e : openV s = if same (sealV (s.extract (i + 1) s.size)) s = true then (s.extract (i + 1) s.size, true) else (⟨#[]⟩, false) := by
    unfold openV
    rw [f2, f3]
    simp only [true_and]
   have hw : IntKind.i64.wrap ((i : Int) + 1) = ((i + 1 : Nat) : Int) := wrap_id _ (by omega) (by omega)
   have c : decide ((i : Int) < 0) = false := by simp
   cases hs : same (sealV (s.extract (i + 1) s.size)) s with
   | false =>
     rw [hs, if_neg (by decide)] at e
     refine goh (And.intro h58 (And.intro f1 (And.intro hw (And.intro c (And.intro hs nf))))) ?_
     refine W_cnd ?_ ?_ <;> intro hlit <;> try (cases hlit; done)
     refine goh trivial ?_
     exact finh [] e
   | true =>
     rw [hs, if_pos rfl] at e
     refine goh (And.intro h58 (And.intro f1 (And.intro hw (And.intro c (And.intro hs nt))))) ?_
     refine W_cnd ?_ ?_ <;> intro hlit <;> try (cases hlit; done)
     refine goh hw ?_
     exact finh [] e
  ·have f1 := find_not hm
   have e : openV s = (⟨#[]⟩, false) := by
    unfold openV
    rw [cutV_not hm, if_neg (by rintro ⟨h, -⟩; cases h)]
   refine goh (And.intro h58 f1) ?_
   refine W_cnd ?_ ?_ <;> intro hlit <;> try (cases hlit; done)
   refine goh trivial ?_
   exact finh [] e
 ·simp [no, ifp] at hp
end Go.Proofs.YtfmjgoeclilcnaaGreatDoor
namespace Go.Proofs.YtfmjgoeclilcnaaGreatDoor
open Go.RowKit
theorem digitVal_none {b : UInt8} (h : b.toNat < 48 ∨ 57 < b.toNat) : Lib.digitVal b = none := by
 unfold Lib.digitVal; rw [if_neg (by omega)]
theorem digitVal_some {b : UInt8} (h0 : 48 ≤ b.toNat) (h1 : b.toNat ≤ 57) : Lib.digitVal b = some (b.toNat - 48) := by
 unfold Lib.digitVal; rw [if_pos ⟨h0, h1⟩]
def numAt (t : ByteArray) (i : Nat) : Nat := (Lib.decFrom 0 (t.data.toList.take i)).getD 0
theorem num_step {t : ByteArray} {i : Nat} (hi : i < t.data.toList.length) (h : Lib.decFrom 0 (t.data.toList.take i) = some (numAt t i)) {d : Nat} (hd : Lib.digitVal t.data.toList[i] = some d) :
  Lib.decFrom 0 (t.data.toList.take (i + 1)) = some (numAt t (i + 1)) ∧ numAt t (i + 1) = numAt t i * 10 + d := by
 have e : Lib.decFrom 0 (t.data.toList.take (i + 1)) = some (numAt t i * 10 + d) := by
  rw [List.take_succ_eq_append_getElem hi, decFrom_app, h]
  simp only [Option.bind_some, Lib.decFrom, hd]
 have e2 : numAt t (i + 1) = numAt t i * 10 + d := by unfold numAt; rw [e]; rfl
 exact ⟨by rw [e2]; exact e, e2⟩
theorem num_stop {t : ByteArray} {i : Nat} (hi : i < t.data.toList.length) (h : Lib.decFrom 0 (t.data.toList.take i) = some (numAt t i)) (hd : Lib.digitVal t.data.toList[i] = none) :
  Lib.decFrom 0 t.data.toList = none := by
 have e := drop_at (f := 0) hi (Nat.zero_le _)
 simp only [List.drop_zero, Nat.sub_zero] at e
 rw [e, decFrom_app, h]
 simp only [Option.bind_some, Lib.decFrom, hd]
theorem W_meet {P : Program} {B : Beg} {σ : Sg} {Q : Exit → Sg → Prop} {x y : Code} (J : Sg) (hy : W P B y J Q) (h : ∀ Y : Sg → Prop, (∀ {σ' : Sg} (π : List (Option Nat)), leS B.m π σ' J → Y σ') → W P B x σ (thenG Y Q)) :
  W P B x σ (thenG (fun σ' => W P B y σ' Q) Q) := h _ fun π hle => W_le π hle hy
@[go_sem] def ctNumS : Ct := ⟨false, [], fun args os => match args, os with
  | [.one (.val (.string s))], [] => ifp (s.size ≤ 1000000) (match numV s with | some n => .tup [vi n, vb true] | none => .tup [vi 0, vb false])
  | _, _ => no⟩
theorem s_numS_e : EnterOk Tryz.prog 169 := ⟨_, Tryz.func169, rfl, by decide⟩
@[go_sem] def s_numS_lv : List (List Nat) := [[0], [0, 4], [0, 4, 15], [0, 4], [0, 4, 38], [2, 3], [0, 4, 5], [0, 4, 5, 6], [0, 4, 5, 6, 42], [0, 4, 5, 6], [0, 4, 5, 6, 54], [2, 3], [0, 4, 5, 6], [5, 63], [5], [2, 3]]
@[go_sem] noncomputable def s_numS_K : Known := Known.nil
set_option maxHeartbeats 8000000 in
theorem s_numS : Sound Tryz.prog 169 ctNumS := by
 have ke := s_numS_K.env []
 have kl : Lives s_numS_lv := trivial
 refine sound_intro (E := ⟨ti, s_numS_K.Γ, []⟩) ke Tryz.func169 Tryz.ntmps169 rfl (rs := [.tmp 2, .tmp 3]) rfl ?_
 intro args os hp
 unfold ctNumS at hp ⊢
 dsimp only at hp ⊢
 split at hp
 ·rename_i s
  refine ⟨by simp, fun φ0 w0 => ?_⟩
  have hlen : s.size ≤ 1000000 := hp
  obtain ⟨neg, hneg⟩ : ∃ b, decide (s.data.getD 0 0 = 45 ∧ 0 < s.size) = b := ⟨_, rfl⟩
  obtain ⟨t, ht⟩ : ∃ t, numT s = t := ⟨_, rfl⟩
  have htn : t = if neg = true then s.extract 1 s.size else s := by
   rw [← ht]; unfold numT
   by_cases h : s.data.getD 0 0 = 45 ∧ 0 < s.size
   ·rw [if_pos h, if_pos (by rw [← hneg]; exact decide_eq_true h)]
   ·rw [if_neg h, if_neg (by rw [← hneg]; simpa using h)]
  have hts : t.size ≤ s.size := by
   rw [htn]; split
   ·rw [ByteArray.size_extract]; omega
   ·exact Nat.le_refl _
  have hb : numBad s = (decide (t.size = 0) || decide (17 < t.size) || (decide (t.data.getD 0 0 = 48) && (decide (1 < t.size) || neg))) := by
   unfold numBad; rw [ht, hneg]
  have hV : numV s = if numBad s = true then none else (Lib.decFrom 0 t.data.toList).map fun (u : Nat) => if neg = true then -(u : Int) else (u : Int) := by
   unfold numV
   rw [ht]
   have : (s.data.getD 0 0 = 45 ∧ 0 < s.size) ↔ neg = true := by rw [← hneg]; simp
   simp only [this]
  have hll : t.data.toList.length = t.size := rfl
  have c45 : ∀ b : UInt8, ((b.toNat : Int) == 45) = decide (b = 45) := fun b => by
   rw [Bool.eq_iff_iff, beq_iff_eq, decide_eq_true_eq]
   exact byte_eq b (by decide) (by decide)
  have c48 : ∀ b : UInt8, ((b.toNat : Int) == 48) = decide (b = 48) := fun b => by
   rw [Bool.eq_iff_iff, beq_iff_eq, decide_eq_true_eq]
   exact byte_eq b (by decide) (by decide)
  have hj : ∀ z : Sg, z = ⟨[(0, vs t), (4, vb neg)], [], []⟩ → True := fun _ _ => trivial
  by_cases h0 : s.size = 0
  ·have c0 : decide ((s.size : Int) > 0) = false := by simp [h0]
   have n0 : neg = false := by rw [← hneg]; simp [h0]
   have t0 : t = s := by rw [htn, n0]; rfl
   have e : numV s = none := by rw [hV, hb, t0]; simp [h0]
   have z0 : ((s.size : Int) == 0) = true := by simp [h0]
   refine goh c0 ?_
   refine W_cnd ?_ ?_ <;> intro hlit <;> try (cases hlit; done)
   refine goh z0 ?_
   refine W_cnd ?_ ?_ <;> intro hlit <;> try (cases hlit; done)
   refine goh trivial ?_
   exact finh [] e
  ·have c0 : decide ((s.size : Int) > 0) = true := by simp; omega
   have hn2 : decide (s.data.getD 0 0 = 45) = neg := by rw [← hneg]; congr 1; simp; omega
   have c1 : (((s.data.getD 0 0).toNat : Int) == 45) = neg := by rw [c45]; exact hn2
   refine goh (And.intro c0 c1) ?_
   refine W_meet ⟨[(0, vs t), (4, vb neg)], [], []⟩ ?_ (fun Y hY => ?_)
   ·by_cases z : t.size = 0
    ·have z0 : ((t.size : Int) == 0) = true := by simp [z]
     have e : numV s = none := by rw [hV, hb]; simp [z]
     refine goh z0 ?_
     refine W_cnd ?_ ?_ <;> intro hlit <;> try (cases hlit; done)
     refine goh trivial ?_
     exact finh [] e
    ·have z0 : ((t.size : Int) == 0) = false := by simp [z]
     by_cases y : 17 < t.size
     ·have z1 : decide ((t.size : Int) > 17) = true := by simp; omega
      have e : numV s = none := by rw [hV, hb]; simp [y]
      refine goh (And.intro z0 z1) ?_
      refine W_cnd ?_ ?_ <;> intro hlit <;> try (cases hlit; done)
      refine goh trivial ?_
      exact finh [] e
     ·have z1 : decide ((t.size : Int) > 17) = false := by simp; omega
      have z2 := c48 (t.data.getD 0 0)
      obtain ⟨b48, hb48⟩ : ∃ b, decide (t.data.getD 0 0 = 48) = b := ⟨_, rfl⟩
      obtain ⟨b1, hb1⟩ : ∃ b, decide ((t.size : Int) > 1) = b := ⟨_, rfl⟩
      have hb1' : decide (1 < t.size) = b1 := by rw [← hb1]; congr 1; simp; omega
      rw [hb48] at z2
      have hb2 : numBad s = (b48 && (b1 || neg)) := by
       rw [hb, hb48, hb1', decide_eq_false z, decide_eq_false y]; simp
      by_cases hbad : (b48 && (b1 || neg)) = true
      ·have e : numV s = none := by rw [hV, hb2, if_pos hbad]
       have k1 : b48 = true ∧ (b1 = true ∨ b1 = false ∧ neg = true) := by
        revert hbad; cases b48 <;> cases b1 <;> cases neg <;> simp
       rcases k1 with ⟨k1, k2 | ⟨k2, k3⟩⟩
       ·rw [k1] at z2
        rw [k2] at hb1
        refine goh (And.intro z0 (And.intro z1 (And.intro z2 hb1))) ?_
        refine W_cnd ?_ ?_ <;> intro hlit <;> try (cases hlit; done)
        refine goh trivial ?_
        exact finh [] e
       ·rw [k1] at z2
        rw [k2] at hb1
        subst k3
        refine goh (And.intro z0 (And.intro z1 (And.intro z2 hb1))) ?_
        refine W_cnd ?_ ?_ <;> intro hlit <;> try (cases hlit; done)
        refine goh trivial ?_
        exact finh [] e
      ·have eV : numV s = (Lib.decFrom 0 t.data.toList).map fun (u : Nat) => if neg = true then -(u : Int) else (u : Int) := by rw [hV, hb2, if_neg hbad]
       have k1 : b48 = false ∨ (b48 = true ∧ b1 = false ∧ neg = false) := by
        revert hbad; cases b48 <;> cases b1 <;> cases neg <;> simp
       have k2 : ∀ X : Prop, (b48 = false → X) → (b48 = true ∧ b1 = false ∧ neg = false → X) → X := fun X h1 h2 => k1.elim h1 h2
       refine k2 _ (fun k => ?_) (fun k => ?_)
       case refine_1 =>
        rw [k] at z2
        refine goh (And.intro z0 (And.intro z1 z2)) ?_
        refine W_cnd ?_ ?_ <;> intro hlit <;> try (cases hlit; done)
        refine W_le (σ' := ⟨[(0, vs t), (4, vb neg)], [], []⟩) [] (leh trivial) ?_
        refine goh trivial ?_
        refine W_for t.size (fun i => Lib.decFrom 0 (t.data.toList.take i) = some (numAt t i) ∧ numAt t i < 10 ^ i) (fun i => ⟨[(0, vs t), (4, vb neg), (5, vi (numAt t i)), (6, vi i)], [], []⟩) [] (leh (show numAt t 0 = 0 from rfl)) ⟨rfl, Nat.zero_lt_one⟩ fun i hi hI => ?_
        obtain ⟨hI1, hI2⟩ := hI
        refine goh trivial ?_
        refine W_cnd ?_ ?_ <;> (try simp only [cnd_r]) <;> intro hlt
        ·have hil : i < t.data.toList.length := by omega
         have hg := getD_list t hil
         have hpw : (10 : Nat) ^ i ≤ 10 ^ 16 := Nat.pow_le_pow_right (by omega) (by omega)
         obtain ⟨b, hbb⟩ : ∃ b, t.data.getD i 0 = b := ⟨_, rfl⟩
         rw [hbb] at hg
         by_cases hd : 48 ≤ b.toNat ∧ b.toNat ≤ 57
         ·obtain ⟨d1, d2⟩ := hd
          have q1 : decide ((b.toNat : Int) < 48) = false := by simp; omega
          have q2 : decide ((b.toNat : Int) > 57) = false := by simp; omega
          obtain ⟨n1, n2⟩ := num_step hil hI1 (d := b.toNat - 48) (by rw [← hg]; exact digitVal_some d1 d2)
          have w1 : IntKind.i64.wrap ((numAt t i : Int) * 10) = ((numAt t i * 10 : Nat) : Int) := wrap_id _ (by omega) (by omega)
          have w2 : IntKind.u8.wrap ((b.toNat : Int) - 48) = ((b.toNat - 48 : Nat) : Int) := by
           rw [show (b.toNat : Int) - 48 = ((b.toNat - 48 : Nat) : Int) by omega]; exact wrap_u8 (by omega)
          have w3 : IntKind.i64.wrap ((b.toNat - 48 : Nat) : Int) = ((b.toNat - 48 : Nat) : Int) := wrap_id _ (by omega) (by omega)
          have w4 : IntKind.i64.wrap (((numAt t i * 10 : Nat) : Int) + ((b.toNat - 48 : Nat) : Int)) = ((numAt t i * 10 + (b.toNat - 48) : Nat) : Int) := wrap_id _ (by omega) (by omega)
          refine goh (And.intro hbb (And.intro q1 q2)) ?_
          refine W_cnd ?_ ?_ <;> intro hlit <;> try (cases hlit; done)
          refine goh (And.intro hbb (And.intro w1 (And.intro w2 (And.intro w3 w4)))) ?_
          exact ⟨[], by omega, leh n2, ⟨n1, by rw [n2, Nat.pow_succ]; omega⟩⟩
         ·have e : numV s = none := by
           rw [eV, num_stop hil hI1 (by rw [← hg]; exact digitVal_none (by omega))]; rfl
          by_cases d1 : b.toNat < 48
          ·have q1 : decide ((b.toNat : Int) < 48) = true := by simp; omega
           refine goh (And.intro hbb q1) ?_
           refine W_cnd ?_ ?_ <;> intro hlit <;> try (cases hlit; done)
           refine goh trivial ?_
           exact finh [] e
          ·have q1 : decide ((b.toNat : Int) < 48) = false := by simp; omega
           have q2 : decide ((b.toNat : Int) > 57) = true := by simp; omega
           refine goh (And.intro hbb (And.intro q1 q2)) ?_
           refine W_cnd ?_ ?_ <;> intro hlit <;> try (cases hlit; done)
           refine goh trivial ?_
           exact finh [] e
        ·obtain rfl : i = t.size := by omega
         have ht2 : t.data.toList.take t.size = t.data.toList := List.take_of_length_le (by omega)
         rw [ht2] at hI1
         have hpw : (10 : Nat) ^ t.size ≤ 10 ^ 17 := Nat.pow_le_pow_right (by omega) (by omega)
         have e : numV s = some (if neg = true then -((numAt t t.size : Nat) : Int) else ((numAt t t.size : Nat) : Int)) := by rw [eV, hI1]; rfl
         have w1 : IntKind.i64.wrap (0 - (numAt t t.size : Int)) = -((numAt t t.size : Nat) : Int) := by rw [Int.zero_sub]; exact wrap_id _ (by omega) (by omega)
         cases neg with
         | true =>
           rw [if_pos rfl] at e
           refine goh trivial ?_
           refine W_cnd ?_ ?_ <;> intro hlit <;> try (cases hlit; done)
           refine goh w1 ?_
           exact finh [] e
         | false =>
           rw [if_neg Bool.false_ne_true] at e
           refine goh trivial ?_
           refine W_cnd ?_ ?_ <;> intro hlit <;> try (cases hlit; done)
           refine goh trivial ?_
           exact finh [] e
       case refine_2 =>
        obtain ⟨k, kb, kn⟩ := k
        rw [k] at z2
        rw [kb] at hb1
        refine goh (And.intro z0 (And.intro z1 (And.intro z2 (And.intro hb1 kn)))) ?_
        refine W_cnd ?_ ?_ <;> intro hlit <;> try (cases hlit; done)
        refine W_le (σ' := ⟨[(0, vs t), (4, vb neg)], [], []⟩) [] (leh kn) ?_
        refine goh trivial ?_
        refine W_for t.size (fun i => Lib.decFrom 0 (t.data.toList.take i) = some (numAt t i) ∧ numAt t i < 10 ^ i) (fun i => ⟨[(0, vs t), (4, vb neg), (5, vi (numAt t i)), (6, vi i)], [], []⟩) [] (leh (show numAt t 0 = 0 from rfl)) ⟨rfl, Nat.zero_lt_one⟩ fun i hi hI => ?_
        obtain ⟨hI1, hI2⟩ := hI
        refine goh trivial ?_
        refine W_cnd ?_ ?_ <;> (try simp only [cnd_r]) <;> intro hlt
        ·have hil : i < t.data.toList.length := by omega
         have hg := getD_list t hil
         have hpw : (10 : Nat) ^ i ≤ 10 ^ 16 := Nat.pow_le_pow_right (by omega) (by omega)
         obtain ⟨b, hbb⟩ : ∃ b, t.data.getD i 0 = b := ⟨_, rfl⟩
         rw [hbb] at hg
         by_cases hd : 48 ≤ b.toNat ∧ b.toNat ≤ 57
         ·obtain ⟨d1, d2⟩ := hd
          have q1 : decide ((b.toNat : Int) < 48) = false := by simp; omega
          have q2 : decide ((b.toNat : Int) > 57) = false := by simp; omega
          obtain ⟨n1, n2⟩ := num_step hil hI1 (d := b.toNat - 48) (by rw [← hg]; exact digitVal_some d1 d2)
          have w1 : IntKind.i64.wrap ((numAt t i : Int) * 10) = ((numAt t i * 10 : Nat) : Int) := wrap_id _ (by omega) (by omega)
          have w2 : IntKind.u8.wrap ((b.toNat : Int) - 48) = ((b.toNat - 48 : Nat) : Int) := by
           rw [show (b.toNat : Int) - 48 = ((b.toNat - 48 : Nat) : Int) by omega]; exact wrap_u8 (by omega)
          have w3 : IntKind.i64.wrap ((b.toNat - 48 : Nat) : Int) = ((b.toNat - 48 : Nat) : Int) := wrap_id _ (by omega) (by omega)
          have w4 : IntKind.i64.wrap (((numAt t i * 10 : Nat) : Int) + ((b.toNat - 48 : Nat) : Int)) = ((numAt t i * 10 + (b.toNat - 48) : Nat) : Int) := wrap_id _ (by omega) (by omega)
          refine goh (And.intro hbb (And.intro q1 q2)) ?_
          refine W_cnd ?_ ?_ <;> intro hlit <;> try (cases hlit; done)
          refine goh (And.intro hbb (And.intro w1 (And.intro w2 (And.intro w3 w4)))) ?_
          exact ⟨[], by omega, leh n2, ⟨n1, by rw [n2, Nat.pow_succ]; omega⟩⟩
         ·have e : numV s = none := by
           rw [eV, num_stop hil hI1 (by rw [← hg]; exact digitVal_none (by omega))]; rfl
          by_cases d1 : b.toNat < 48
          ·have q1 : decide ((b.toNat : Int) < 48) = true := by simp; omega
           refine goh (And.intro hbb q1) ?_
           refine W_cnd ?_ ?_ <;> intro hlit <;> try (cases hlit; done)
           refine goh trivial ?_
           exact finh [] e
          ·have q1 : decide ((b.toNat : Int) < 48) = false := by simp; omega
           have q2 : decide ((b.toNat : Int) > 57) = true := by simp; omega
           refine goh (And.intro hbb (And.intro q1 q2)) ?_
           refine W_cnd ?_ ?_ <;> intro hlit <;> try (cases hlit; done)
           refine goh trivial ?_
           exact finh [] e
        ·obtain rfl : i = t.size := by omega
         have ht2 : t.data.toList.take t.size = t.data.toList := List.take_of_length_le (by omega)
         rw [ht2] at hI1
         have hpw : (10 : Nat) ^ t.size ≤ 10 ^ 17 := Nat.pow_le_pow_right (by omega) (by omega)
         have e : numV s = some (if neg = true then -((numAt t t.size : Nat) : Int) else ((numAt t t.size : Nat) : Int)) := by rw [eV, hI1]; rfl
         have w1 : IntKind.i64.wrap (0 - (numAt t t.size : Int)) = -((numAt t t.size : Nat) : Int) := by rw [Int.zero_sub]; exact wrap_id _ (by omega) (by omega)
         cases neg with
         | true =>
           rw [if_pos rfl] at e
           refine goh trivial ?_
           refine W_cnd ?_ ?_ <;> intro hlit <;> try (cases hlit; done)
           refine goh w1 ?_
           exact finh [] e
         | false =>
           rw [if_neg Bool.false_ne_true] at e
           refine goh trivial ?_
           refine W_cnd ?_ ?_ <;> intro hlit <;> try (cases hlit; done)
           refine goh trivial ?_
           exact finh [] e
   ·have hx : neg = true → t = s.extract 1 s.size := fun h => by rw [htn, if_pos h]
    have hx2 : neg = false → t = s := fun h => by rw [htn, h]; rfl
    cases neg with
    | true =>
      have ht1 := hx rfl
      have hp1 : 1 ≤ s.size := by omega
      refine W_cnd ?_ ?_ <;> intro hlit <;> try (cases hlit; done)
      refine goh trivial ?_
      exact hY [] (leh ht1)
    | false =>
      have ht1 := hx2 rfl
      refine W_cnd ?_ ?_ <;> intro hlit <;> try (cases hlit; done)
      refine goh trivial ?_
      exact hY [] (leh ht1)
 ·simp [no, ifp] at hp
theorem s_specPtrRead_e : EnterOk Tryz.prog 170 := ⟨_, Tryz.func170, rfl, by decide⟩
@[go_sem] def s_specPtrRead_lv : List (List Nat) := [[0, 2], [0, 2, 13], [2, 3], [0, 2, 4], [0, 2, 4, 24], [2, 3], [0, 2, 4, 5, 6], [0, 2, 4, 5, 6, 7, 8], [0, 2, 5, 6, 7, 8, 9, 10], [0, 2, 6, 8, 10, 11], [2, 11, 66], [2, 3], [2, 3]]
@[go_sem] noncomputable def s_specPtrRead_K : Known := (((Known.nil).cons 106 ctCutB s_cutB s_cutB_e).cons 169 ctNumS s_numS s_numS_e).cons 174 ctPtrText s_specPtrText s_specPtrText_e
set_option maxHeartbeats 8000000 in
theorem s_specPtrRead : Sound Tryz.prog 170 ctPtrRead := by
 have ke := s_specPtrRead_K.env []
 have kl : Lives s_specPtrRead_lv := trivial
 refine sound_intro (E := ⟨ti, s_specPtrRead_K.Γ, []⟩) ke Tryz.func170 Tryz.ntmps170 rfl (rs := [.cell 2 71, .tmp 3]) rfl ?_
 intro args os hp
 unfold ctPtrRead at hp ⊢
 dsimp only at hp ⊢
 split at hp
 ·rename_i t
  refine ⟨by simp, fun φ0 w0 => ?_⟩
  have hlen : t.size ≤ 1000000 := hp
  have nt : (!true) = false := rfl
  have nf : (!false) = true := rfl
  have h46 : UInt8.ofNat 46 = 46 := rfl
  refine goh trivial ?_
  refine W_cond _ (by exact rfl) (by exact trivial) ?_ ?_ <;> intro hc
  ·obtain rfl := same_true.1 hc
   have e := ptrRead_dash
   refine goh trivial ?_
   exact finh [] e
  ·have hne := same_false.1 hc
   have hwl := splitV_len 46 t
   have hms : ∀ w ∈ splitV 46 t, w.size ≤ 1000000 := fun w hw => Nat.le_trans (splitV_size hw) (by omega)
   have hrw := @read_words t hne
   obtain ⟨ws, hws⟩ : ∃ ws, splitV 46 t = ws := ⟨_, rfl⟩
   rw [hws] at hms hwl hrw
   by_cases h30 : 30 < t.size
   ·have e := read_long h30
    have c1 : decide ((t.size : Int) > 30) = true := by simp; omega
    refine goh (And.intro h46 (And.intro hws c1)) ?_
    refine W_cnd ?_ ?_ <;> intro hlit <;> try (cases hlit; done)
    refine goh trivial ?_
    exact finh [] e
   ·have c1 : decide ((t.size : Int) > 30) = false := by simp; omega
    by_cases h3 : ws.length = 3
    ·have c2 : ((ws.length : Int) != 3) = false := by simp [h3]
     match ws, h3 with
     | [x, y, z], _ =>
     have m0 := hms x (by simp)
     have m1 := hms y (by simp)
     have m2 := hms z (by simp)
     have e := num_read hne hws
     cases hx : numV x <;> cases hy : numV y <;> cases hz : numV z
     case some.some.some a b c =>
      rw [hx, hy, hz] at e
      simp only at e
      cases hs : same (ptrT ⟨a, b, c⟩) t with
      | false =>
        rw [if_neg (fun h => by rw [same_true.2 h] at hs; cases hs)] at e
        refine goh (And.intro h46 (And.intro hws (And.intro c1 c2))) ?_
        refine W_cnd ?_ ?_ <;> intro hlit <;> try (cases hlit; done)
        refine goh (And.intro hx (And.intro hy (And.intro hz (And.intro m0 (And.intro m1 (And.intro m2 (And.intro hs (And.intro nt nf)))))))) ?_
        refine W_cnd ?_ ?_ <;> intro hlit <;> try (cases hlit; done)
        refine goh trivial ?_
        exact finh [] e
      | true =>
        rw [if_pos (same_true.1 hs)] at e
        refine goh (And.intro h46 (And.intro hws (And.intro c1 c2))) ?_
        refine W_cnd ?_ ?_ <;> intro hlit <;> try (cases hlit; done)
        refine goh (And.intro hx (And.intro hy (And.intro hz (And.intro m0 (And.intro m1 (And.intro m2 (And.intro hs (And.intro nt nf)))))))) ?_
        refine W_cnd ?_ ?_ <;> intro hlit <;> try (cases hlit; done)
        refine goh trivial ?_
        exact finh [] e
     all_goals
      rw [hx, hy, hz] at e
      simp only at e
      refine goh (And.intro h46 (And.intro hws (And.intro c1 c2))) ?_
      refine W_cnd ?_ ?_ <;> intro hlit <;> try (cases hlit; done)
      refine goh (And.intro hx (And.intro hy (And.intro hz (And.intro m0 (And.intro m1 (And.intro m2 (And.intro nt nf))))))) ?_
      refine W_cnd ?_ ?_ <;> intro hlit <;> try (cases hlit; done)
      refine goh trivial ?_
      exact finh [] e
    ·have e := hrw h3
     have c2 : ((ws.length : Int) != 3) = true := by simp; omega
     refine goh (And.intro h46 (And.intro hws (And.intro c1 c2))) ?_
     refine W_cnd ?_ ?_ <;> intro hlit <;> try (cases hlit; done)
     refine goh trivial ?_
     exact finh [] e
 ·simp [no, ifp] at hp
theorem s_specUberRead_e : EnterOk Tryz.prog 103 := ⟨_, Tryz.func103, rfl, by decide⟩
@[go_sem] def s_specUberRead_lv : List (List Nat) := [[0, 3], [0, 3, 5, 6], [0, 3, 6, 7], [0, 3, 7, 25], [2, 3, 4], [0, 3, 7, 8], [0, 3, 8, 10], [3, 8, 10, 45], [2, 3, 4], [2, 3, 4]]
@[go_sem] noncomputable def s_specUberRead_K : Known := (((((Known.nil).cons 168 ctSpecOpenS s_specSumOpen s_specSumOpen_e).cons 106 ctCutB s_cutB s_cutB_e).cons 169 ctNumS s_numS s_numS_e).cons 170 ctPtrRead s_specPtrRead s_specPtrRead_e).cons 171 ctUber s_specUber s_specUber_e
set_option maxHeartbeats 8000000 in
theorem s_specUberRead : Sound Tryz.prog 103 ctUberRead := by
 have ke := s_specUberRead_K.env []
 have kl : Lives s_specUberRead_lv := trivial
 refine sound_intro (E := ⟨ti, s_specUberRead_K.Γ, []⟩) ke Tryz.func103 Tryz.ntmps103 rfl (rs := [.tmp 2, .cell 3 71, .tmp 4]) rfl ?_
 intro args os hp
 unfold ctUberRead at hp ⊢
 dsimp only at hp ⊢
 split at hp
 ·rename_i t
  refine ⟨by simp, fun φ0 w0 => ?_⟩
  have hlen : t.size ≤ 1000000 := hp
  have nt : (!true) = false := rfl
  have nf : (!false) = true := rfl
  have h32 : UInt8.ofNat 32 = 32 := rfl
  have hos := openV_size t
  have hcl := @uber_closed t
  have hw3 := @uber_words3 t
  have hsp := fun x y z => @uber_spec t x y z
  obtain ⟨⟨inner, ok⟩, hin⟩ : ∃ x, openV t = x := ⟨_, rfl⟩
  rw [hin] at hos hcl hw3 hsp
  simp only at hos hcl hw3 hsp
  have hwl := splitV_len 32 inner
  have hms : ∀ w ∈ splitV 32 inner, w.size ≤ 1000000 := fun w hw => Nat.le_trans (splitV_size hw) (by omega)
  obtain ⟨ws, hws⟩ : ∃ ws, splitV 32 inner = ws := ⟨_, rfl⟩
  rw [hws] at hms hwl hw3 hsp
  cases ok with
  | false =>
    have e := hcl rfl
    refine goh (And.intro h32 (And.intro hin (And.intro hws nf))) ?_
    refine W_cnd ?_ ?_ <;> intro hlit <;> try (cases hlit; done)
    refine goh trivial ?_
    exact finh [] e
  | true =>
    by_cases h3 : ws.length = 3
    ·have c2 : ((ws.length : Int) != 3) = false := by simp [h3]
     match ws, h3 with
     | [x, y, z], _ =>
     have m0 := hms x (by simp)
     have m1 := hms y (by simp)
     have e := hsp x y z rfl rfl
     cases hx : numV x <;> cases hy : ptrReadV y
     all_goals
      rw [hx, hy] at e
      simp only [Option.getD_some, Option.getD_none] at e
     case none.none =>
      cases hs : same (uberT 0 ⟨0, 0, 0⟩) t with
      | false =>
        rw [if_neg (fun h => by rw [same_true.2 h] at hs; cases hs)] at e
        refine goh (And.intro h32 (And.intro hin (And.intro hws (And.intro nt c2)))) ?_
        refine W_cnd ?_ ?_ <;> intro hlit <;> try (cases hlit; done)
        refine goh (And.intro hx (And.intro hy (And.intro m0 (And.intro m1 (And.intro hs (And.intro nt nf)))))) ?_
        refine W_cnd ?_ ?_ <;> intro hlit <;> try (cases hlit; done)
        refine goh trivial ?_
        exact finh [] e
      | true =>
        rw [if_pos (same_true.1 hs)] at e
        refine goh (And.intro h32 (And.intro hin (And.intro hws (And.intro nt c2)))) ?_
        refine W_cnd ?_ ?_ <;> intro hlit <;> try (cases hlit; done)
        refine goh (And.intro hx (And.intro hy (And.intro m0 (And.intro m1 (And.intro hs (And.intro nt nf)))))) ?_
        refine W_cnd ?_ ?_ <;> intro hlit <;> try (cases hlit; done)
        refine goh trivial ?_
        exact finh [] e
     case none.some r =>
      obtain ⟨ra, rs, rb⟩ := r
      cases hs : same (uberT 0 ⟨ra, rs, rb⟩) t with
      | false =>
        rw [if_neg (fun h => by rw [same_true.2 h] at hs; cases hs)] at e
        refine goh (And.intro h32 (And.intro hin (And.intro hws (And.intro nt c2)))) ?_
        refine W_cnd ?_ ?_ <;> intro hlit <;> try (cases hlit; done)
        refine goh (And.intro hx (And.intro hy (And.intro m0 (And.intro m1 (And.intro hs (And.intro nt nf)))))) ?_
        refine W_cnd ?_ ?_ <;> intro hlit <;> try (cases hlit; done)
        refine goh trivial ?_
        exact finh [] e
      | true =>
        rw [if_pos (same_true.1 hs)] at e
        refine goh (And.intro h32 (And.intro hin (And.intro hws (And.intro nt c2)))) ?_
        refine W_cnd ?_ ?_ <;> intro hlit <;> try (cases hlit; done)
        refine goh (And.intro hx (And.intro hy (And.intro m0 (And.intro m1 (And.intro hs (And.intro nt nf)))))) ?_
        refine W_cnd ?_ ?_ <;> intro hlit <;> try (cases hlit; done)
        refine goh trivial ?_
        exact finh [] e
     case some.none k =>
      cases hs : same (uberT k ⟨0, 0, 0⟩) t with
      | false =>
        rw [if_neg (fun h => by rw [same_true.2 h] at hs; cases hs)] at e
        refine goh (And.intro h32 (And.intro hin (And.intro hws (And.intro nt c2)))) ?_
        refine W_cnd ?_ ?_ <;> intro hlit <;> try (cases hlit; done)
        refine goh (And.intro hx (And.intro hy (And.intro m0 (And.intro m1 (And.intro hs (And.intro nt nf)))))) ?_
        refine W_cnd ?_ ?_ <;> intro hlit <;> try (cases hlit; done)
        refine goh trivial ?_
        exact finh [] e
      | true =>
        rw [if_pos (same_true.1 hs)] at e
        refine goh (And.intro h32 (And.intro hin (And.intro hws (And.intro nt c2)))) ?_
        refine W_cnd ?_ ?_ <;> intro hlit <;> try (cases hlit; done)
        refine goh (And.intro hx (And.intro hy (And.intro m0 (And.intro m1 (And.intro hs (And.intro nt nf)))))) ?_
        refine W_cnd ?_ ?_ <;> intro hlit <;> try (cases hlit; done)
        refine goh trivial ?_
        exact finh [] e
     case some.some k r =>
      obtain ⟨ra, rs, rb⟩ := r
      cases hs : same (uberT k ⟨ra, rs, rb⟩) t with
      | false =>
        rw [if_neg (fun h => by rw [same_true.2 h] at hs; cases hs)] at e
        refine goh (And.intro h32 (And.intro hin (And.intro hws (And.intro nt c2)))) ?_
        refine W_cnd ?_ ?_ <;> intro hlit <;> try (cases hlit; done)
        refine goh (And.intro hx (And.intro hy (And.intro m0 (And.intro m1 (And.intro hs (And.intro nt nf)))))) ?_
        refine W_cnd ?_ ?_ <;> intro hlit <;> try (cases hlit; done)
        refine goh trivial ?_
        exact finh [] e
      | true =>
        rw [if_pos (same_true.1 hs)] at e
        refine goh (And.intro h32 (And.intro hin (And.intro hws (And.intro nt c2)))) ?_
        refine W_cnd ?_ ?_ <;> intro hlit <;> try (cases hlit; done)
        refine goh (And.intro hx (And.intro hy (And.intro m0 (And.intro m1 (And.intro hs (And.intro nt nf)))))) ?_
        refine W_cnd ?_ ?_ <;> intro hlit <;> try (cases hlit; done)
        refine goh trivial ?_
        exact finh [] e
    ·have e := hw3 h3
     have c2 : ((ws.length : Int) != 3) = true := by simp; omega
     refine goh (And.intro h32 (And.intro hin (And.intro hws (And.intro nt c2)))) ?_
     refine W_cnd ?_ ?_ <;> intro hlit <;> try (cases hlit; done)
     refine goh trivial ?_
     exact finh [] e
 ·simp [no, ifp] at hp
end Go.Proofs.YtfmjgoeclilcnaaGreatDoor
namespace Go.Proofs.YtfmjgoeclilcnaaGreatDoor
open Go.RowKit
noncomputable def bestS (acc : Int × Ptr) (o : Option (Int × Ptr)) : Int × Ptr := match o with
 | some (k, r) => if acc.1 < k then (k, r) else acc
 | none => acc
noncomputable def bestR (d : Dk) : Nat → Int × Ptr
 | 0 => (0, ⟨0, 0, 0⟩)
 | n + 1 => bestS (bestR d n) (uberP (dkRead d ((n % 2 : Nat) : Int) ((1 + n / 2 : Nat) : Int)))
theorem best_step (d : Dk) (i j : Nat) (hj : j < 2) : bestR d (2 * i + (j + 1)) = bestS (bestR d (2 * i + j)) (uberP (dkRead d (j : Int) ((1 + i : Nat) : Int))) := by
 have e : ∀ n, bestR d (n + 1) = bestS (bestR d n) (uberP (dkRead d ((n % 2 : Nat) : Int) ((1 + n / 2 : Nat) : Int))) := fun _ => rfl
 rw [← Nat.add_assoc, e, show (2 * i + j) % 2 = j by omega, show (2 * i + j) / 2 = i by omega]
@[go_sem] noncomputable def ctBest : Ct := ⟨false, [[some .str, some .str, some .late]], fun args os => match args, os with
  | [.agg [.isl .str a, .isl .str b, .isl .late l]], [] => ifp (Dk.mk a b l).small (.tup [vi (bestR ⟨a, b, l⟩ 8).1, .agg [.val (.int .i64 (bestR ⟨a, b, l⟩ 8).2.at_), .val (.int .i64 (bestR ⟨a, b, l⟩ 8).2.sum), .val (.int .i64 (bestR ⟨a, b, l⟩ 8).2.birth)], vb (decide ((bestR ⟨a, b, l⟩ 8).1 > 0))])
  | _, _ => no⟩
theorem s_best_e : EnterOk Tryz.prog 55 := ⟨_, Tryz.func55, rfl, by decide⟩
@[go_sem] def s_best_lv : List (List Nat) := [[1, 3], [1, 3, 5, 6], [1, 3, 5, 6, 15], [1, 3, 5, 6, 15, 16], [1, 3, 5, 6, 7, 15], [1, 3, 5, 6, 7, 15, 18], [1, 3, 5, 6, 7, 15, 18, 19], [1, 3, 5, 6, 7, 8, 15, 18], [1, 3, 5, 6, 7, 9, 15, 18], [1, 3, 5, 6, 7, 11, 12, 13, 15, 18], [1, 3, 5, 6, 7, 11, 12, 15, 18, 40], [1, 3, 5, 6, 7, 15, 18], [1, 3, 5, 6, 7, 15, 18], [1, 3, 5, 6, 15], [2, 3, 4]]
@[go_sem] noncomputable def s_best_K : Known := ((Known.nil).cons 121 ctDiskRead s_diskRead s_diskRead_e).cons 122 ctUberRead s_uberRead s_uberRead_e
set_option maxHeartbeats 8000000 in
theorem s_best : Sound Tryz.prog 55 ctBest := by
 have ke := s_best_K.env []
 have kl : Lives s_best_lv := trivial
 refine sound_intro (E := ⟨ti, s_best_K.Γ, []⟩) ke Tryz.func55 Tryz.ntmps55 rfl (rs := [.tmp 2, .cell 3 71, .tmp 4]) rfl ?_
 intro args os hp
 unfold ctBest at hp ⊢
 dsimp only at hp ⊢
 split at hp
 ·rename_i a b l
  refine ⟨by simp, fun φ0 w0 => ?_⟩
  obtain ⟨s1, s2, s3⟩ : a.length ≤ 4000000 ∧ b.length ≤ 4000000 ∧ l.length ≤ 4000000 := hp
  obtain ⟨d, hd⟩ : ∃ d, Dk.mk a b l = d := ⟨_, rfl⟩
  have hsz := fun s k => dkRead_size d s k
  have hr0 : bestR d 0 = (0, ⟨0, 0, 0⟩) := rfl
  refine goh trivial ?_
  refine W_for 4 (fun i => True) (fun i => ⟨[(1, .one (.ptr 0 0)), (3, .one (.ptr 1 0)), (5, vi (bestR d (2 * i)).1), (6, .one (.ptr 2 0)), (15, vi i)], [some (.cells [.isl .str a, .isl .str b, .isl .late l]), some (.cells [.val (.int .i64 0), .val (.int .i64 0), .val (.int .i64 0)]), some (.cells [.val (.int .i64 (bestR d (2 * i)).2.at_), .val (.int .i64 (bestR d (2 * i)).2.sum), .val (.int .i64 (bestR d (2 * i)).2.birth)])], []⟩) [some 0, some 1, some 2] (leh hr0) trivial fun i hi _ => ?_
  refine goh trivial ?_
  refine W_cnd ?_ ?_ <;> (try simp only [cnd_r]) <;> intro hlt
  ·have hw : IntKind.i64.wrap (1 + (i : Int)) = ((1 + i : Nat) : Int) := wrap_id _ (by omega) (by omega)
   refine goh trivial ?_
   refine W_for 2 (fun j => True) (fun j => ⟨[(1, .one (.ptr 0 0)), (3, .one (.ptr 1 0)), (5, vi (bestR d (2 * i + j)).1), (6, .one (.ptr 2 0)), (7, vi i), (15, vi i), (18, vi j)], [some (.cells [.isl .str a, .isl .str b, .isl .late l]), some (.cells [.val (.int .i64 0), .val (.int .i64 0), .val (.int .i64 0)]), some (.cells [.val (.int .i64 (bestR d (2 * i + j)).2.at_), .val (.int .i64 (bestR d (2 * i + j)).2.sum), .val (.int .i64 (bestR d (2 * i + j)).2.birth)])], []⟩) [some 0, some 1, some 2] (leh (show 2 * i + 0 = 2 * i from rfl)) trivial fun j hj _ => ?_
   refine goh trivial ?_
   refine W_cnd ?_ ?_ <;> (try simp only [cnd_r]) <;> intro hltj
   ·have hst := best_step d i j (by omega)
    have hz := hsz (j : Int) ((1 + i : Nat) : Int)
    obtain ⟨t, ht⟩ : ∃ t, dkRead d (j : Int) ((1 + i : Nat) : Int) = t := ⟨_, rfl⟩
    rw [ht] at hst hz
    obtain ⟨⟨k0, ⟨ra0, rs0, rb0⟩⟩, hb0⟩ : ∃ x, bestR d (2 * i + j) = x := ⟨_, rfl⟩
    rw [hb0] at hst ⊢
    cases hu : uberP t with
    | none =>
      rw [hu] at hst
      have hst : bestR d (2 * i + (j + 1)) = (k0, ⟨ra0, rs0, rb0⟩) := hst
      refine goh (And.intro hd (And.intro hw (And.intro ht (And.intro hu hb0)))) ?_
      refine W_cnd ?_ ?_ <;> intro hlit <;> try (cases hlit; done)
      refine goh trivial ?_
      exact ⟨[some 0, some 1, some 2], by omega, leh (And.intro hst hb0), trivial⟩
    | some x =>
      obtain ⟨k, ⟨ra, rs, rb⟩⟩ := x
      rw [hu] at hst
      by_cases hk : k0 < k
      ·have hst : bestR d (2 * i + (j + 1)) = (k, ⟨ra, rs, rb⟩) := by rw [hst]; exact if_pos hk
       have c : decide (k > k0) = true := by simp; omega
       refine goh (And.intro hd (And.intro hw (And.intro ht (And.intro hu (And.intro hb0 c))))) ?_
       refine W_cnd ?_ ?_ <;> intro hlit <;> try (cases hlit; done)
       refine goh trivial ?_
       exact ⟨[some 0, some 1, some 2], by omega, leh (And.intro hst hb0), trivial⟩
      ·have hst : bestR d (2 * i + (j + 1)) = (k0, ⟨ra0, rs0, rb0⟩) := by rw [hst]; exact if_neg hk
       have c : decide (k > k0) = false := by simp; omega
       refine goh (And.intro hd (And.intro hw (And.intro ht (And.intro hu (And.intro hb0 c))))) ?_
       refine W_cnd ?_ ?_ <;> intro hlit <;> try (cases hlit; done)
       refine goh trivial ?_
       exact ⟨[some 0, some 1, some 2], by omega, leh (And.intro hst hb0), trivial⟩
   ·obtain rfl : j = 2 := by omega
    have h2 : 2 * i + 2 = 2 * (i + 1) := by omega
    rw [h2]
    refine goh trivial ?_
    exact ⟨[some 0, some 1, some 2], by omega, leh trivial, trivial⟩
  ·obtain rfl : i = 4 := by omega
   have e8 : bestR ⟨a, b, l⟩ 8 = bestR d 8 := by rw [hd]
   refine goh trivial ?_
   exact finh [] e8
 ·simp [no, ifp] at hp
theorem s_specBest_e : EnterOk Tryz.prog 45 := ⟨_, Tryz.func45, rfl, by decide⟩
@[go_sem] def s_specBest_lv : List (List Nat) := [[1, 3], [1, 3, 5], [1, 3, 5, 6], [1, 3, 5, 6, 7], [1, 3, 5, 6, 7, 16], [1, 3, 5, 6, 7], [1, 3, 5, 6, 7, 8], [1, 3, 5, 6, 7, 8, 20], [1, 3, 5, 6, 7, 8], [1, 3, 5, 6, 7, 8, 9], [1, 3, 5, 6, 7, 8, 11, 12, 13], [1, 3, 5, 6, 7, 8, 11, 12, 41], [1, 3, 5, 6, 7, 8, 12], [1, 3, 5, 6, 7, 8], [2, 3, 4]]
@[go_sem] noncomputable def s_specBest_K : Known := ((Known.nil).cons 86 ctDiskRead s_specRead s_specRead_e).cons 103 ctUberRead s_specUberRead s_specUberRead_e
set_option maxHeartbeats 8000000 in
theorem s_specBest : Sound Tryz.prog 45 ctBest := by
 have ke := s_specBest_K.env []
 have kl : Lives s_specBest_lv := trivial
 refine sound_intro (E := ⟨ti, s_specBest_K.Γ, []⟩) ke Tryz.func45 Tryz.ntmps45 rfl (rs := [.tmp 2, .cell 3 71, .tmp 4]) rfl ?_
 intro args os hp
 unfold ctBest at hp ⊢
 dsimp only at hp ⊢
 split at hp
 ·rename_i a b l
  refine ⟨by simp, fun φ0 w0 => ?_⟩
  obtain ⟨s1, s2, s3⟩ : a.length ≤ 4000000 ∧ b.length ≤ 4000000 ∧ l.length ≤ 4000000 := hp
  obtain ⟨d, hd⟩ : ∃ d, Dk.mk a b l = d := ⟨_, rfl⟩
  have hsz := fun s k => dkRead_size d s k
  have hr0 : bestR d 0 = (0, ⟨0, 0, 0⟩) := rfl
  refine goh trivial ?_
  refine W_for 4 (fun i => True) (fun i => ⟨[(1, .one (.ptr 0 0)), (3, .one (.ptr 1 0)), (5, vi (bestR d (2 * i)).1), (6, .one (.ptr 2 0)), (7, vi ((1 + i : Nat) : Int))], [some (.cells [.isl .str a, .isl .str b, .isl .late l]), some (.cells [.val (.int .i64 0), .val (.int .i64 0), .val (.int .i64 0)]), some (.cells [.val (.int .i64 (bestR d (2 * i)).2.at_), .val (.int .i64 (bestR d (2 * i)).2.sum), .val (.int .i64 (bestR d (2 * i)).2.birth)])], []⟩) [some 0, some 1, some 2] (leh (And.intro hr0 (show ((1 + 0 : Nat) : Int) = 1 from rfl))) trivial fun i hi _ => ?_
  refine goh trivial ?_
  refine W_cnd ?_ ?_ <;> (try simp only [cnd_r]) <;> intro hlt
  ·have hw : IntKind.i64.wrap (((1 + i : Nat) : Int) + 1) = ((1 + (i + 1) : Nat) : Int) := wrap_id _ (by omega) (by omega)
   refine goh trivial ?_
   refine W_for 2 (fun j => True) (fun j => ⟨[(1, .one (.ptr 0 0)), (3, .one (.ptr 1 0)), (5, vi (bestR d (2 * i + j)).1), (6, .one (.ptr 2 0)), (7, vi ((1 + i : Nat) : Int)), (8, vi j)], [some (.cells [.isl .str a, .isl .str b, .isl .late l]), some (.cells [.val (.int .i64 0), .val (.int .i64 0), .val (.int .i64 0)]), some (.cells [.val (.int .i64 (bestR d (2 * i + j)).2.at_), .val (.int .i64 (bestR d (2 * i + j)).2.sum), .val (.int .i64 (bestR d (2 * i + j)).2.birth)])], []⟩) [some 0, some 1, some 2] (leh (show 2 * i + 0 = 2 * i from rfl)) trivial fun j hj _ => ?_
   refine goh trivial ?_
   refine W_cnd ?_ ?_ <;> (try simp only [cnd_r]) <;> intro hltj
   ·have hst := best_step d i j (by omega)
    have hz := hsz (j : Int) ((1 + i : Nat) : Int)
    obtain ⟨t, ht⟩ : ∃ t, dkRead d (j : Int) ((1 + i : Nat) : Int) = t := ⟨_, rfl⟩
    rw [ht] at hst hz
    obtain ⟨⟨k0, ⟨ra0, rs0, rb0⟩⟩, hb0⟩ : ∃ x, bestR d (2 * i + j) = x := ⟨_, rfl⟩
    rw [hb0] at hst ⊢
    cases hu : uberP t with
    | none =>
      rw [hu] at hst
      have hst : bestR d (2 * i + (j + 1)) = (k0, ⟨ra0, rs0, rb0⟩) := hst
      refine goh (And.intro hd (And.intro ht (And.intro hu hb0))) ?_
      refine W_cnd ?_ ?_ <;> intro hlit <;> try (cases hlit; done)
      refine goh trivial ?_
      exact ⟨[some 0, some 1, some 2], by omega, leh (And.intro hst hb0), trivial⟩
    | some x =>
      obtain ⟨k, ⟨ra, rs, rb⟩⟩ := x
      rw [hu] at hst
      by_cases hk : k0 < k
      ·have hst : bestR d (2 * i + (j + 1)) = (k, ⟨ra, rs, rb⟩) := by rw [hst]; exact if_pos hk
       have c : decide (k > k0) = true := by simp; omega
       refine goh (And.intro hd (And.intro ht (And.intro hu (And.intro hb0 c)))) ?_
       refine W_cnd ?_ ?_ <;> intro hlit <;> try (cases hlit; done)
       refine goh trivial ?_
       exact ⟨[some 0, some 1, some 2], by omega, leh (And.intro hst hb0), trivial⟩
      ·have hst : bestR d (2 * i + (j + 1)) = (k0, ⟨ra0, rs0, rb0⟩) := by rw [hst]; exact if_neg hk
       have c : decide (k > k0) = false := by simp; omega
       refine goh (And.intro hd (And.intro ht (And.intro hu (And.intro hb0 c)))) ?_
       refine W_cnd ?_ ?_ <;> intro hlit <;> try (cases hlit; done)
       refine goh trivial ?_
       exact ⟨[some 0, some 1, some 2], by omega, leh (And.intro hst hb0), trivial⟩
   ·obtain rfl : j = 2 := by omega
    have h2 : 2 * i + 2 = 2 * (i + 1) := by omega
    rw [h2]
    refine goh hw ?_
    exact ⟨[some 0, some 1, some 2], by omega, leh trivial, trivial⟩
  ·obtain rfl : i = 4 := by omega
   have e8 : bestR ⟨a, b, l⟩ 8 = bestR d 8 := by rw [hd]
   refine goh trivial ?_
   exact finh [] e8
 ·simp [no, ifp] at hp
end Go.Proofs.YtfmjgoeclilcnaaGreatDoor
namespace Go.Proofs
open Go.Shelf
def Tryz.lays189_ren : Go.Shelf.Ren := ⟨fun | 189 => 146 | 125 => 204 | 257 => 203 | 128 => 233 | 129 => 234 | 294 => 224 | 295 => 225 | 296 => 226 | 297 => 227 | 298 => 228 | 299 => 229 | 216 => 230 | 300 => 231 | 301 => 232 | 328 => 256 | 329 => 257 | 330 => 258 | 331 => 259 | 332 => 260 | 215 => 261 | 343 => 279 | n => n, fun | 28 => 30 | 3 => 3 | 46 => 223 | 0 => 0 | 51 => 247 | 53 => 249 | 4 => 4 | 183 => 241 | 182 => 240 | 131 => 192 | 5 => 5 | 9 => 9 | 218 => 271 | 222 => 275 | 228 => 290 | 229 => 61 | n => n, fun | n => n⟩
theorem Tryz.lays189 : Go.Proofs.Lays.n189 Tryz.prog Tryz.lays189_ren := {
 mixed := by kernel_rfl
 f125 := Tryz.func204.trans (congrArg some (by kernel_rfl))
 f128 := Tryz.func233.trans (congrArg some (by kernel_rfl))
 f129 := Tryz.func234.trans (congrArg some (by kernel_rfl))
 f189 := Tryz.func146.trans (congrArg some (by kernel_rfl))
 f215 := Tryz.func261.trans (congrArg some (by kernel_rfl))
 f216 := Tryz.func230.trans (congrArg some (by kernel_rfl))
 f257 := Tryz.func203.trans (congrArg some (by kernel_rfl))
 f294 := Tryz.func224.trans (congrArg some (by kernel_rfl))
 f295 := Tryz.func225.trans (congrArg some (by kernel_rfl))
 f296 := Tryz.func226.trans (congrArg some (by kernel_rfl))
 f297 := Tryz.func227.trans (congrArg some (by kernel_rfl))
 f298 := Tryz.func228.trans (congrArg some (by kernel_rfl))
 f299 := Tryz.func229.trans (congrArg some (by kernel_rfl))
 f300 := Tryz.func231.trans (congrArg some (by kernel_rfl))
 f301 := Tryz.func232.trans (congrArg some (by kernel_rfl))
 f328 := Tryz.func256.trans (congrArg some (by kernel_rfl))
 f329 := Tryz.func257.trans (congrArg some (by kernel_rfl))
 f330 := Tryz.func258.trans (congrArg some (by kernel_rfl))
 f331 := Tryz.func259.trans (congrArg some (by kernel_rfl))
 f332 := Tryz.func260.trans (congrArg some (by kernel_rfl))
 f343 := Tryz.func279.trans (congrArg some (by kernel_rfl))
 t0 := Tryz.underlying0
 a0 := Tryz.isAgg0
 z0 := Tryz.sizeOf0
 v0 := Tryz.zeroValue0
 t3 := Tryz.underlying3
 a3 := Tryz.isAgg3
 z3 := Tryz.sizeOf3
 v3 := Tryz.zeroValue3
 t4 := Tryz.underlying4
 a4 := Tryz.isAgg4
 z4 := Tryz.sizeOf4
 v4 := Tryz.zeroValue4
 t5 := Tryz.underlying5
 a5 := Tryz.isAgg5
 z5 := Tryz.sizeOf5
 v5 := Tryz.zeroValue5
 t9 := Tryz.underlying9
 a9 := Tryz.isAgg9
 z9 := Tryz.sizeOf9
 v9 := Tryz.zeroValue9
 t28 := Tryz.underlying30
 a28 := Tryz.isAgg30
 z28 := Tryz.sizeOf30
 v28 := Tryz.zeroValue30
 t46 := Tryz.underlying223
 a46 := Tryz.isAgg223
 z46 := Tryz.sizeOf223
 v46 := Tryz.zeroValue223
 t51 := Tryz.underlying247
 a51 := Tryz.isAgg247
 z51 := Tryz.sizeOf247
 v51 := Tryz.zeroValue247
 t53 := Tryz.underlying249
 a53 := Tryz.isAgg249
 z53 := Tryz.sizeOf249
 v53 := Tryz.zeroValue249
 t131 := Tryz.underlying192
 a131 := Tryz.isAgg192
 z131 := Tryz.sizeOf192
 v131 := Tryz.zeroValue192
 t182 := Tryz.underlying240
 a182 := Tryz.isAgg240
 z182 := Tryz.sizeOf240
 v182 := Tryz.zeroValue240
 t183 := Tryz.underlying241
 a183 := Tryz.isAgg241
 z183 := Tryz.sizeOf241
 v183 := Tryz.zeroValue241
 t218 := Tryz.underlying271
 a218 := Tryz.isAgg271
 z218 := Tryz.sizeOf271
 v218 := Tryz.zeroValue271
 t222 := Tryz.underlying275
 a222 := Tryz.isAgg275
 z222 := Tryz.sizeOf275
 v222 := Tryz.zeroValue275
 t228 := Tryz.underlying290
 a228 := Tryz.isAgg290
 z228 := Tryz.sizeOf290
 v228 := Tryz.zeroValue290
 t229 := Tryz.underlying61
 a229 := Tryz.isAgg61
 z229 := Tryz.sizeOf61
 v229 := Tryz.zeroValue61 }
end Go.Proofs
namespace Go.Proofs
open Go.Shelf
def Tryz.lays20_ren : Go.Shelf.Ren := ⟨fun | 20 => 147 | n => n, fun | 22 => 30 | 3 => 3 | 4 => 4 | 0 => 0 | n => n, fun | n => n⟩
theorem Tryz.lays20 : Go.Proofs.Lays2.n20 Tryz.prog Tryz.lays20_ren := {
 mixed := by kernel_rfl
 f20 := Tryz.func147.trans (congrArg some (by kernel_rfl))
 t0 := Tryz.underlying0
 a0 := Tryz.isAgg0
 z0 := Tryz.sizeOf0
 v0 := Tryz.zeroValue0
 t3 := Tryz.underlying3
 a3 := Tryz.isAgg3
 z3 := Tryz.sizeOf3
 v3 := Tryz.zeroValue3
 t4 := Tryz.underlying4
 a4 := Tryz.isAgg4
 z4 := Tryz.sizeOf4
 v4 := Tryz.zeroValue4
 t22 := Tryz.underlying30
 a22 := Tryz.isAgg30
 z22 := Tryz.sizeOf30
 v22 := Tryz.zeroValue30
 i3 := by kernel_rfl }
end Go.Proofs
namespace Go.Proofs
open Go.Shelf
def Tryz.lays10_ren : Go.Shelf.Ren := ⟨fun | 10 => 144 | 6 => 202 | n => n, fun | 22 => 30 | 23 => 3 | 25 => 171 | 3 => 3 | 4 => 4 | 0 => 0 | n => n, fun | n => n⟩
theorem Tryz.lays10 : Go.Proofs.SlLaysH.n10 Tryz.prog Tryz.lays10_ren := {
 mixed := by kernel_rfl
 f6 := ⟨Tryz.f202.name, by decide, Tryz.func202.trans (congrArg some (by kernel_rfl))⟩
 f10 := ⟨Tryz.f144.name, by decide, Tryz.func144.trans (congrArg some (by kernel_rfl))⟩
 t0 := Tryz.underlying0
 a0 := Tryz.isAgg0
 z0 := Tryz.sizeOf0
 v0 := Tryz.zeroValue0
 t3 := Tryz.underlying3
 a3 := Tryz.isAgg3
 z3 := Tryz.sizeOf3
 v3 := Tryz.zeroValue3
 t4 := Tryz.underlying4
 a4 := Tryz.isAgg4
 z4 := Tryz.sizeOf4
 v4 := Tryz.zeroValue4
 t22 := Tryz.underlying30
 a22 := Tryz.isAgg30
 z22 := Tryz.sizeOf30
 v22 := Tryz.zeroValue30
 a23 := Tryz.isAgg3
 z23 := Tryz.sizeOf3
 t25 := Tryz.underlying171
 a25 := Tryz.isAgg171
 z25 := Tryz.sizeOf171
 v25 := Tryz.zeroValue171 }
end Go.Proofs
namespace Go.Proofs.YtfmjgoeclilcnaaGreatDoor
open Go.RowKit Go.Sort
theorem grow_rel {φ : Phi} {T : Tab} {w w' : World} (hrel : Rel φ T w) (hos : w'.os = w.os) (htape : w'.tape = w.tape) (hout : w'.output = w.output) (hsize : w.heap.size ≤ w'.heap.size) (hold : ∀ b, b < w.heap.size → w'.heap[b]? = w.heap[b]?) : Rel φ T w' ∧ Ge φ T w φ T w' := by
 have ge : Ge φ T w φ T w' := ⟨hos, htape, hout, hsize, fun _ _ h => h, fun b hb _ => hold b hb, fun b _ h => h, fun b hb => by unfold sizeAt; rw [hold b hb], fun _ => Iff.rfl⟩
 exact ⟨⟨fun k o h => (hrel.obj k o h).mono ge (fun b base hφ => hold b ((hrel.obj k o h).lt hφ)) fun h => h, hrel.inj, Ge.frd hrel ge, Ge.glo hrel ge⟩, ge⟩
theorem putRow_other (enc : Int → Value) (w : World) (blk off : Nat) (d : Array Int) (b : Nat) (h : b ≠ blk) : (Go.Sort.putRow enc w blk off d).heap[b]? = w.heap[b]? := by
 unfold Go.Sort.putRow Go.Sort.mapBlock
 simp only [Array.getElem?_modify]
 rw [if_neg (by omega)]
theorem putRow_size (enc : Int → Value) (w : World) (blk off : Nat) (d : Array Int) : (Go.Sort.putRow enc w blk off d).heap.size = w.heap.size := by
 unfold Go.Sort.putRow Go.Sort.mapBlock
 simp
theorem putRow_at (enc : Int → Value) (w : World) (blk off : Nat) (d : Array Int) {c : Array Value} {e : TypeId} {fr : Nat × Nat} (h : w.heap[blk]? = some (.cells c e fr)) : (Go.Sort.putRow enc w blk off d).heap[blk]? = some (.cells (Go.Sort.putCells enc off d c) e fr) := by
 unfold Go.Sort.putRow Go.Sort.mapBlock
 simp only [Array.getElem?_modify, if_true, h, Option.map_some]
 rfl
theorem ints_flat : ∀ (xs : List Int) (i : Nat), (xs.flatMap ET.int.cells)[i]? = (xs[i]?).map (Value.int .i64)
 | [], i => by simp
 | x :: xs, 0 => rfl
 | x :: xs, i + 1 => by
   rw [List.flatMap_cons]
   show ([Value.int .i64 x] ++ xs.flatMap ET.int.cells)[i + 1]? = _
   rw [List.singleton_append, List.getElem?_cons_succ, ints_flat xs i, List.getElem?_cons_succ]
theorem ints_in {φ : Phi} {w : World} {zs : List Int} {n : Nat} {v : Value} (hrel : Rel φ (tabOf [.arr .int zs]) w) (hv : VR φ (tabOf [.arr .int zs]) w (.one (.osl .int 0 0 n)) v) (hn : n ≤ zs.length) (h0 : 0 < n) :
  ∃ blk off cap, v = .slice (some ⟨blk, off, none⟩) n cap ∧ n ≤ cap ∧ φ 0 = some (blk, off) ∧ blk < w.heap.size ∧ Go.Sort.Holds (Value.int .i64) w blk off (zs.take n).toArray ∧
    ∀ ys : List Int, ys.length = n → ∀ k os w', w' = Go.Sort.grow (Go.Sort.putRow (Value.int .i64) (Go.Sort.ahead w k) blk off ys.toArray) os → Rel φ (updT (tabOf [.arr .int zs]) [(0, some (.arr .int (ys ++ zs.drop n)))]) w' ∧ Ge φ (tabOf [.arr .int zs]) w φ (updT (tabOf [.arr .int zs]) [(0, some (.arr .int (ys ++ zs.drop n)))]) w' ∧ Kept φ (tabOf [.arr .int zs]) (fun k => ∃ o : Option Obj, (k, o) ∈ [((0 : Nat), some (Obj.arr .int (ys ++ zs.drop n)))]) w w' := by
 simp only [VR, CR] at hv
 obtain ⟨a, cap, rfl, hl, -, hspot, hc⟩ := hv
 obtain ⟨b, base, hφ, rfl, hsz⟩ := hc (by omega)
 have hT : tabOf [Obj.arr .int zs] 0 = some (.arr .int zs) := rfl
 have ho := hrel.obj 0 _ hT
 obtain ⟨hno, -⟩ | ⟨b', base', c, hφ', hC, hcell⟩ := ho
 ·rw [hφ] at hno; cases hno
 rw [hφ] at hφ'
 cases hφ'
 obtain ⟨e, fr, hb, hfz⟩ := hC
 have hlt := Cells.lt ⟨e, fr, hb, hfz⟩
 have hsa : sizeAt w b = c.size := by unfold sizeAt; rw [hb]
 have hz1 : ET.int.sz = 1 := rfl
 rw [hz1] at hsz
 have e0 : base + 0 * ET.int.sz = base := by omega
 rw [e0]
 refine ⟨b, base, cap, rfl, hl, hφ, hlt, fun j hj => ?_, fun ys hys k os w' hw => ?_⟩
 ·have hj' : j < n := by
   have : j < (zs.take n).length := by simpa using hj
   rw [List.length_take] at this; omega
  refine ⟨?_, ?_⟩
  ·rw [cell_of_Cells ⟨e, fr, hb, hfz⟩]
   refine hcell j _ ?_
   rw [ints_flat]
   simp [hj', show j < zs.length by omega]
  ·have := hfz (base + j) (by omega)
   simp only [World.frozen?, hb]
   simp only [Bool.and_eq_false_iff, decide_eq_false_iff_not]
   omega
 ·have hb1 : (Go.Sort.ahead w k).heap[b]? = some (.cells c e fr) := hb
  have hat := putRow_at (Value.int .i64) (Go.Sort.ahead w k) b base ys.toArray hb1
  have hcs : (Go.Sort.putCells (Value.int .i64) base ys.toArray c).size = c.size := by simp [Go.Sort.putCells]
  obtain ⟨r1, g1⟩ := write_obj (w' := Go.Sort.putRow (Value.int .i64) (Go.Sort.ahead w k) b base ys.toArray) (o := Obj.arr .int (ys ++ zs.drop n)) hrel (by rw [hT]; simp) hφ hlt (fun b' hne => putRow_other _ _ _ _ _ b' hne) (putRow_size _ _ _ _ _) rfl rfl rfl (by unfold sizeAt; rw [hat, hb]; exact hcs) (fun T' g => .inr ⟨b, base, _, hφ, ⟨e, fr, hat, fun j hj => hfz j (by omega)⟩, fun i v hv => by
   rw [ints_flat] at hv
   obtain ⟨y, hy, rfl⟩ := Option.map_eq_some_iff.1 hv
   simp only [Go.Sort.putCells, Array.getElem?_mapIdx]
   rw [List.getElem?_append] at hy
   by_cases hi : i < ys.length
   ·rw [if_pos hi] at hy
    have hci : base + i < c.size := by omega
    rw [Array.getElem?_eq_getElem hci]
    simp only [Option.map_some]
    rw [if_pos ⟨by omega, by simp; omega⟩, show base + i - base = i by omega]
    obtain ⟨hi2, rfl⟩ := List.getElem?_eq_some_iff.1 hy
    simp [hi2]
   ·rw [if_neg hi, List.getElem?_drop, show n + (i - ys.length) = i by omega] at hy
    have hold := hcell i (.int .i64 y) (by rw [ints_flat, hy]; rfl)
    rw [hold]
    simp only [Option.map_some]
    rw [if_neg (by simp; omega)]⟩)
  subst hw
  obtain ⟨r2, g2⟩ := grow_rel (w' := Go.Sort.grow (Go.Sort.putRow (Value.int .i64) (Go.Sort.ahead w k) b base ys.toArray) os) r1 rfl rfl rfl (by rw [Go.Sort.size_grow]; omega) (fun b' hb' => Go.Sort.heap_grow_old _ _ hb')
  refine ⟨r2, g1.trans g2, fun b' hb' hne => ?_⟩
  have hbne : b' ≠ b := fun h => hne 0 base ⟨_, List.mem_singleton.2 rfl⟩ (by rw [hT]; simp) (by rw [h]; exact hφ)
  rw [Go.Sort.heap_grow_old _ _ (by rw [putRow_size]; exact hb'), putRow_other _ _ _ _ _ _ hbne]
  rfl
theorem ints_same {φ : Phi} {w : World} {zs ys : List Int} (hrel : Rel φ (tabOf [.arr .int zs]) w) (h : ys = zs) : Rel φ (updT (tabOf [.arr .int zs]) [(0, some (.arr .int ys))]) w ∧ Ge φ (tabOf [.arr .int zs]) w φ (updT (tabOf [.arr .int zs]) [(0, some (.arr .int ys))]) w := by
 subst h
 have : updT (tabOf [.arr .int ys]) [(0, some (.arr .int ys))] = tabOf [.arr .int ys] := by
  funext j
  simp only [updT]
  by_cases hj : j = 0
  ·subst hj; simp [tabOf]
  ·simp [hj]
 rw [this]
 exact ⟨hrel, Ge.refl _ _ _⟩
@[go_sem] def ctSort : Ct := ⟨true, [], fun args os => match args, os with
  | [.one (.osl .int 0 0 n)], [.arr .int zs] => ⟨n ≤ zs.length ∧ n ≤ 4000000, .tup [], [(0, some (.arr .int (sortI (zs.take n) ++ zs.drop n)))], []⟩
  | _, _ => no⟩
theorem s_sortI_e : EnterOk Tryz.prog 146 := ⟨_, Tryz.func146, rfl, by decide⟩
theorem s_sortI : Sound Tryz.prog 146 ctSort := by
 intro args os hp φ w rargs hrel hv hn
 unfold ctSort at hp ⊢
 dsimp only at hp ⊢
 split at hp
 ·rename_i n zs
  obtain ⟨h1, h3⟩ : n ≤ zs.length ∧ n ≤ 4000000 := hp
  match rargs, hv with
  | [v], hv =>
    obtain ⟨hv, -⟩ := hv
    by_cases h2 : 0 < n
    ·obtain ⟨blk, off, cap, rfl, hcap, hφ, hlt, hH, hpost⟩ := ints_in hrel hv h1 h2
     have hlen : (zs.take n).length = n := by rw [List.length_take]; omega
     have hc := Any.slices_Sort_int Tryz.lays189 blk off cap (zs.take n) w hH hlt (by omega)
     rw [hlen] at hc
     refine hc.mono ?_
     rintro e w' ⟨rfl, k, os, hw⟩
     obtain ⟨r, g, kp⟩ := hpost (sortI (zs.take n)) ((sortI_len _).trans hlen) k os w' hw
     refine ⟨.tuple #[], φ, rfl, ?_, ?_, ?_, fun k hk => .inl hk, kp⟩
     ·simp only [VR]; exact ⟨#[], rfl, trivial⟩
     ·simpa only [newT, addT_nil] using r
     ·simpa only [newT, addT_nil] using g
    ·obtain rfl : n = 0 := by omega
     simp only [VR, CR] at hv
     obtain ⟨a, cap, rfl, -⟩ := hv
     refine (Any.slices_Sort_int_none Tryz.lays189 a cap w).mono ?_
     rintro e w' ⟨rfl, rfl⟩
     obtain ⟨r, g⟩ := ints_same (ys := sortI (zs.take 0) ++ zs.drop 0) hrel (by simp [sortI])
     refine ⟨.tuple #[], φ, rfl, ?_, ?_, ?_, fun k hk => .inl hk, fun _ _ _ => rfl⟩
     ·simp only [VR]; exact ⟨#[], rfl, trivial⟩
     ·simpa only [newT, addT_nil] using r
     ·simpa only [newT, addT_nil] using g
 ·simp [no] at hp
def zeros (n : Nat) : List Int := List.replicate n 0
@[go_sem] def ctCompactI : Ct := ⟨true, [], fun args os => match args, os with
  | [.one (.osl .int 0 0 n)], [.arr .int zs] => ⟨n ≤ zs.length ∧ n ≤ 4000000, .one (.osl .int 0 0 (Lib.compact (zs.take n)).length), [(0, some (.arr .int ((Lib.compact (zs.take n) ++ zeros (n - (Lib.compact (zs.take n)).length)) ++ zs.drop n)))], []⟩
  | _, _ => no⟩
theorem s_compactI_e : EnterOk Tryz.prog 147 := ⟨_, Tryz.func147, rfl, by decide⟩
theorem s_compactI : Sound Tryz.prog 147 ctCompactI := by
 intro args os hp φ w rargs hrel hv hn
 unfold ctCompactI at hp ⊢
 dsimp only at hp ⊢
 split at hp
 ·rename_i n zs
  obtain ⟨h1, h3⟩ : n ≤ zs.length ∧ n ≤ 4000000 := hp
  match rargs, hv with
  | [v], hv =>
    obtain ⟨hv, -⟩ := hv
    by_cases h2 : 0 < n
    ·obtain ⟨blk, off, cap, rfl, hcap, hφ, hlt, hH, hpost⟩ := ints_in hrel hv h1 h2
     have hlen : (zs.take n).length = n := by rw [List.length_take]; omega
     have hcl := compact_len (zs.take n)
     have hl2 : (Lib.compact (zs.take n) ++ zeros (n - (Lib.compact (zs.take n)).length)).length = n := by simp [zeros]; omega
     have hc := Any.slices_Compact_int Tryz.lays20 blk off cap (zs.take n) w hH (by omega) (by omega)
     rw [hlen] at hc
     refine hc.mono ?_
     rintro e w' ⟨rfl, k, hw⟩
     obtain ⟨r, g, kp⟩ := hpost _ hl2 k #[] w' (by rw [hw, Go.Sort.grow_empty]; rfl)
     have hv' := hv.mono g
     simp only [VR, CR] at hv'
     obtain ⟨a, cap', ha, hl, hn0, hspot, hc⟩ := hv'
     cases ha
     refine ⟨_, φ, rfl, ?_, ?_, ?_, fun k hk => .inl hk, kp⟩
     ·simp only [newT, addT_nil, VR, CR]
      exact ⟨_, _, rfl, by omega, hn0, hspot, hc⟩
     ·simpa only [newT, addT_nil] using r
     ·simpa only [newT, addT_nil] using g
    ·obtain rfl : n = 0 := by omega
     have hv0 := hv
     simp only [VR, CR] at hv
     obtain ⟨a, cap, rfl, hv⟩ := hv
     refine (Any.slices_Compact_int_empty Tryz.lays20 a cap w).mono ?_
     rintro e w' ⟨rfl, rfl⟩
     have hl0 : (Lib.compact (zs.take 0)).length = 0 := by have := compact_len (zs.take 0); simp at this ⊢; exact this
     obtain ⟨r, g⟩ := ints_same (ys := (Lib.compact (zs.take 0) ++ zeros (0 - (Lib.compact (zs.take 0)).length)) ++ zs.drop 0) hrel (by rw [List.length_eq_zero_iff.1 hl0]; simp [zeros])
     have hv' := hv0.mono g
     refine ⟨_, φ, rfl, ?_, ?_, ?_, fun k hk => .inl hk, fun _ _ _ => rfl⟩
     ·simp only [newT, addT_nil]
      rw [hl0]
      exact hv'
     ·simpa only [newT, addT_nil] using r
     ·simpa only [newT, addT_nil] using g
 ·simp [no] at hp
def high (zs : List Int) : List Int := zs.filter fun x => decide (13 ≤ x)
theorem high_not (zs : List Int) : zs.filter (fun x => !decide (x < 13)) = high zs := by
 unfold high
 congr 1
 funext x
 rw [Bool.eq_iff_iff]; simp
theorem high_len (zs : List Int) : (high zs).length ≤ zs.length := List.length_filter_le _ _
theorem gives_low (x : Int) (W : World) : FnGives Tryz.prog 145 #[] #[.int .i64 x] (.bool (decide (x < 13))) W := by
 show Calls Tryz.prog 145 #[.int .i64 x] W _
 go_enter Tryz.func145, Tryz.ntmps145
 go_wp2
 all_goals (go_ret; exact ⟨by simp_all, 0, rfl⟩)
@[go_sem] def ctDeleteI : Ct := ⟨true, [], fun args os => match args, os with
  | [.one (.osl .int 0 0 n), .one (.fn 145 [])], [.arr .int zs] => ⟨n ≤ zs.length ∧ 0 < n ∧ n ≤ 4000000, .one (.osl .int 0 0 (high (zs.take n)).length), [(0, some (.arr .int ((high (zs.take n) ++ zeros (n - (high (zs.take n)).length)) ++ zs.drop n)))], []⟩
  | _, _ => no⟩
theorem s_deleteI_e : EnterOk Tryz.prog 144 := ⟨_, Tryz.func144, rfl, by decide⟩
theorem s_deleteI : Sound Tryz.prog 144 ctDeleteI := by
 intro args os hp φ w rargs hrel hv hn
 unfold ctDeleteI at hp ⊢
 dsimp only at hp ⊢
 split at hp
 ·rename_i n zs
  obtain ⟨h1, h2, h3⟩ : n ≤ zs.length ∧ 0 < n ∧ n ≤ 4000000 := hp
  match rargs, hv with
  | [v, f], hv =>
    obtain ⟨hv, hf, -⟩ := hv
    obtain ⟨blk, off, cap, rfl, hcap, hφ, hlt, hH, hpost⟩ := ints_in hrel hv h1 h2
    simp only [VR, CR] at hf
    obtain ⟨vs, rfl, hvs⟩ := hf
    obtain rfl : vs = #[] := by
     cases hq : vs.toList with
     | nil => exact Array.toList_eq_nil_iff.1 hq
     | cons a r => rw [hq] at hvs; exact hvs.elim
    have hlen : (zs.take n).length = n := by rw [List.length_take]; omega
    have hcl := high_len (zs.take n)
    have hl2 : (high (zs.take n) ++ zeros (n - (high (zs.take n)).length)).length = n := by simp [zeros]; omega
    have eg : ∀ args w, (callFunc 145 args).run Tryz.prog w = .ok (.enter 145 args) w := enters_of Tryz.func145 (by kernel_rfl) rfl
    have hc := AnyE.slices_DeleteFunc Tryz.lays10 (Value.int .i64) (fun _ => rfl) (fun x => decide (x < 13)) 145 #[] eg 0 Tryz.zeroValue3 blk off cap (zs.take n).toArray w (fun W x _ => gives_low x W) (fun k os dk x _ => gives_low x _) hH (by simp; omega) (by simp; omega)
    simp only [List.size_toArray, high_not, hlen] at hc
    refine hc.mono ?_
    rintro e w' ⟨rfl, k, hw⟩
    obtain ⟨r, g, kp⟩ := hpost _ hl2 k #[] w' (by rw [hw, Go.Sort.grow_empty]; rfl)
    have hv' := hv.mono g
    simp only [VR, CR] at hv'
    obtain ⟨a, cap', ha, hl, hn0, hspot, hc⟩ := hv'
    cases ha
    refine ⟨_, φ, rfl, ?_, ?_, ?_, fun k hk => .inl hk, kp⟩
    ·simp only [newT, addT_nil, VR, CR]
     exact ⟨_, _, rfl, by omega, hn0, hspot, hc⟩
    ·simpa only [newT, addT_nil] using r
    ·simpa only [newT, addT_nil] using g
 ·simp [no] at hp
end Go.Proofs.YtfmjgoeclilcnaaGreatDoor
namespace Go.Proofs.YtfmjgoeclilcnaaGreatDoor
open Go.RowKit
@[go_sem] noncomputable def ctMapT : Ct := ⟨false, [], fun args os => match args, os with
  | [.agg cs], [] => (match p8Of cs with | some m => is (vs (mapT m)) | none => no)
  | _, _ => no⟩
theorem any_take {m : List Ptr} {i : Nat} (hi : i < m.length) (h : (m.take i).any badPtr = false) (h2 : badPtr (m.getD i ET.ptr.dflt) = false) : (m.take (i + 1)).any badPtr = false := by
 rw [List.take_add_one, List.any_append, h, List.getElem?_eq_getElem hi]
 rw [show m.getD i ET.ptr.dflt = m[i] by simp [hi]] at h2
 simp [h2]
theorem any_at {m : List Ptr} {i : Nat} (hi : i < m.length) (h2 : badPtr (m.getD i ET.ptr.dflt) = true) : m.any badPtr = true := by
 rw [show m.getD i ET.ptr.dflt = m[i] by simp [hi]] at h2
 exact List.any_eq_true.2 ⟨_, List.getElem_mem hi, h2⟩
theorem mapT_bad {m : Eight Ptr} (h : m.list.any badPtr = true) : mapT m = ⟨#[]⟩ := by unfold mapT; rw [if_pos h]
theorem mapT_good {m : Eight Ptr} (h : m.list.any badPtr = false) : mapT m = joinV ⟨#[32]⟩ (m.list.map ptrT) := by unfold mapT; rw [if_neg (by rw [h]; decide)]
end Go.Proofs.YtfmjgoeclilcnaaGreatDoor
