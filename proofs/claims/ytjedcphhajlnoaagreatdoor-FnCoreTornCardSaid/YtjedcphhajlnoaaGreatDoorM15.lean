import Derived.Test.YtjedcphhajlnoaaGreatDoorRows
import Derived.ProofKit
import Derived.OpenShut
import Derived.ShutString
import Derived.ChangeOld
import Derived.Below
import Derived.Test.YtjedcphhajlnoaaGreatDoorM5
import Derived.Test.YtjedcphhajlnoaaGreatDoorM12
import Derived.Test.YtjedcphhajlnoaaGreatDoorM13
import Derived.Test.YtjedcphhajlnoaaGreatDoorM14
set_option linter.unusedSimpArgs false
set_option linter.unusedVariables false
set_option linter.unusedSectionVars false
/- Functions: texts of commits. -/
namespace Go.Proofs.YtjedcphhajlnoaaGreatDoor
open Go.RowKit

@[go_sem] noncomputable def ctUber : Ct := ⟨false, [], fun args os => match args, os with
  | [.one (.val (.int .i64 k)), .agg [.val (.int .i64 a), .val (.int .i64 s), .val (.int .i64 b)]], [] => is (vs (uberT k ⟨a, s, b⟩))
  | _, _ => no⟩
theorem uber_yes {k : Int} {r : Ptr} (h1 : 1 ≤ k) (h2 : k ≤ 1000000) (h3 : realB r = true) : uberOk k r := ⟨h1, h2, h3⟩
theorem uber_no {k : Int} {r : Ptr} (h : ¬ uberOk k r) : uberT k r = ⟨#[]⟩ := by unfold uberT; rw [if_neg h]
theorem s_uber_e : EnterOk Tryz.prog 32 := ⟨_, Tryz.func32, rfl, by decide⟩
@[go_sem] def s_uber_lv : List (List Nat) := [[0, 3], [0, 3, 13], [4], [3, 5], [4]]
@[go_sem] noncomputable def s_uber_K : Known := (((((Known.nil).cons 89 ctWithin s_within s_within_e).cons 91 ctReal s_isReal s_isReal_e).cons 100 ctItoa s_itoa s_itoa_e).cons 27 ctPtrText s_ptrText s_ptrText_e).cons 101 ctSeal s_seal s_seal_e
set_option maxHeartbeats 8000000 in
theorem s_uber : Sound Tryz.prog 32 ctUber := by
  have ke := s_uber_K.env []
  have kl : Lives s_uber_lv := trivial
  refine sound_intro (E := ⟨ti, s_uber_K.Γ, []⟩) ke Tryz.func32 Tryz.ntmps32 rfl (rs := [.tmp 4]) rfl ?_
  intro args os hp
  unfold ctUber at hp ⊢
  dsimp only at hp ⊢
  split at hp
  · rename_i k a s b
    refine ⟨by simp, fun φ0 w0 => ?_⟩
    clear hp
    have nt : (!true) = false := rfl
    have nf : (!false) = true := rfl
    by_cases hk : 1 ≤ k ∧ k ≤ 1000000
    · have c1 : decide (1 ≤ k) = true := by simp [hk.1]
      have c2 : decide (k ≤ 1000000) = true := by simp [hk.2]
      cases hr : realB ⟨a, s, b⟩ with
      | false =>
        have e := uber_no (k := k) (r := ⟨a, s, b⟩) (fun h => by have := h.2.2; rw [hr] at this; cases this)
        repeat' first
          | with_reducible refine red ?_
          | refine W_seq ?_
          | (refine W_reg (s_uber_K.env []) s_uber_lv fun K' hK' => ?_
             simp only [go_sem, c1, c2, hr, nt, nf, Bool.and_self, ↓reduceIte, ↓reduceDIte, reduceCtorEq, Nat.reduceAdd, Nat.reduceMul, Nat.reduceSub, Nat.reduceDiv, Nat.reduceMod, Nat.reduceLT, Nat.reduceLeDiff, Nat.reduceEqDiff, Nat.reduceBEq, Int.reduceToNat, Int.reduceLE, Int.reduceLT, Int.reduceEq, Int.reduceNe, Int.reduceNeg]
             (repeat' refine And.intro ?_ ?_) <;> try first | with_reducible refine hK' ?_ | exact shut6)
          | with_reducible refine blockG_o (by decide) ?_
        refine W_cnd ?_ ?_ <;> intro hlit <;> try (cases hlit; done)
        refine goh trivial ?_
        exact finh [] e
      | true =>
        have hok : uberOk k ⟨a, s, b⟩ := ⟨hk.1, hk.2, hr⟩
        have e : uberT k ⟨a, s, b⟩ = sealV (decS k ++ ⟨#[32]⟩ ++ ptrT ⟨a, s, b⟩ ++ ⟨#[32]⟩ ++ decS k) := by unfold uberT; rw [if_pos hok]; rfl
        have h1 := decS_size (n := k) (by omega) (by omega)
        have h2 := ptrT_size ⟨a, s, b⟩
        have h3 : (⟨#[32]⟩ : ByteArray).size = 1 := rfl
        obtain ⟨k1, k2⟩ := hk
        repeat' first
          | with_reducible refine red ?_
          | refine W_seq ?_
          | (refine W_reg (s_uber_K.env []) s_uber_lv fun K' hK' => ?_
             simp only [go_sem, c1, c2, hr, nt, nf, Bool.and_self, ↓reduceIte, ↓reduceDIte, reduceCtorEq, Nat.reduceAdd, Nat.reduceMul, Nat.reduceSub, Nat.reduceDiv, Nat.reduceMod, Nat.reduceLT, Nat.reduceLeDiff, Nat.reduceEqDiff, Nat.reduceBEq, Int.reduceToNat, Int.reduceLE, Int.reduceLT, Int.reduceEq, Int.reduceNe, Int.reduceNeg]
             (repeat' refine And.intro ?_ ?_) <;> try first | with_reducible refine hK' ?_ | exact shut6)
          | with_reducible refine blockG_o (by decide) ?_
        refine W_cnd ?_ ?_ <;> intro hlit <;> try (cases hlit; done)
        refine goh trivial ?_
        exact finh [] e
    · have e := uber_no (k := k) (r := ⟨a, s, b⟩) (fun h => hk ⟨h.1, h.2.1⟩)
      have c : (decide (1 ≤ k) && decide (k ≤ 1000000)) = false := by
        rw [Bool.and_eq_false_iff, decide_eq_false_iff_not, decide_eq_false_iff_not]; omega
      refine goh (And.intro c nf) ?_
      refine W_cnd ?_ ?_ <;> intro hlit <;> try (cases hlit; done)
      refine goh trivial ?_
      exact finh [] e
  · exact hp.elim
theorem s_specUber_e : EnterOk Tryz.prog 33 := ⟨_, Tryz.func33, rfl, by decide⟩
@[go_sem] def s_specUber_lv : List (List Nat) := [[0, 3], [0, 3, 20], [4], [4]]
@[go_sem] noncomputable def s_specUber_K : Known := ((((Known.nil).cons 25 ctPtrOk s_specPtrOk s_specPtrOk_e).cons 103 ctDecV s_dec2 s_dec2_e).cons 104 ctPtrText s_specPtrText s_specPtrText_e).cons 102 ctSeal s_specSeal s_specSeal_e
set_option maxHeartbeats 8000000 in
theorem s_specUber : Sound Tryz.prog 33 ctUber := by
  have ke := s_specUber_K.env []
  have kl : Lives s_specUber_lv := trivial
  refine sound_intro (E := ⟨ti, s_specUber_K.Γ, []⟩) ke Tryz.func33 Tryz.ntmps33 rfl (rs := [.tmp 4]) rfl ?_
  intro args os hp
  unfold ctUber at hp ⊢
  dsimp only at hp ⊢
  split at hp
  · rename_i k a s b
    refine ⟨by simp, fun φ0 w0 => ?_⟩
    clear hp
    have nt : (!true) = false := rfl
    have nf : (!false) = true := rfl
    by_cases hk : 1 ≤ k ∧ k ≤ 1000000
    · have c1 : decide (k < 1) = false := by simp; omega
      have c2 : decide (k > 1000000) = false := by simp; omega
      cases hr : ptrOkB ⟨a, s, b⟩ with
      | false =>
        have e := uber_no (k := k) (r := ⟨a, s, b⟩) (fun h => by have := (ptrOk_real h.2.2).1; rw [hr] at this; cases this)
        refine goh (And.intro c1 (And.intro c2 (And.intro hr (And.intro nt nf)))) ?_
        refine W_cnd ?_ ?_ <;> intro hlit <;> try (cases hlit; done)
        refine goh trivial ?_
        exact finh [] e
      | true =>
        by_cases ha : a = 0
        · have c3 : (a == 0) = true := by simp [ha]
          have e := uber_no (k := k) (r := ⟨a, s, b⟩) (fun h => (ptrOk_real h.2.2).2.1 ha)
          refine goh (And.intro c1 (And.intro c2 (And.intro hr (And.intro c3 (And.intro nt nf))))) ?_
          refine W_cnd ?_ ?_ <;> intro hlit <;> try (cases hlit; done)
          refine goh trivial ?_
          exact finh [] e
        · have c3 : (a == 0) = false := by simp [ha]
          have hok : uberOk k ⟨a, s, b⟩ := ⟨hk.1, hk.2, by unfold realB; rw [hr]; simpa using ha⟩
          have e : uberT k ⟨a, s, b⟩ = sealV (decS k ++ ⟨#[32]⟩ ++ ptrT ⟨a, s, b⟩ ++ ⟨#[32]⟩ ++ decS k) := by unfold uberT; rw [if_pos hok]; rfl
          have h1 := decS_size (n := k) (by omega) (by omega)
          have h2 := ptrT_size ⟨a, s, b⟩
          have h3 : (⟨#[32]⟩ : ByteArray).size = 1 := rfl
          obtain ⟨k1, k2⟩ := hk
          refine goh (And.intro c1 (And.intro c2 (And.intro hr (And.intro c3 (And.intro nt nf))))) ?_
          refine W_cnd ?_ ?_ <;> intro hlit <;> try (cases hlit; done)
          refine goh trivial ?_
          exact finh [] e
    · have e := uber_no (k := k) (r := ⟨a, s, b⟩) (fun h => hk ⟨h.1, h.2.1⟩)
      by_cases h1 : k < 1
      · have c1 : decide (k < 1) = true := by simp [h1]
        refine goh c1 ?_
        refine W_cnd ?_ ?_ <;> intro hlit <;> try (cases hlit; done)
        refine goh trivial ?_
        exact finh [] e
      · have c1 : decide (k < 1) = false := by simp; omega
        have c2 : decide (k > 1000000) = true := by simp; omega
        refine goh (And.intro c1 c2) ?_
        refine W_cnd ?_ ?_ <;> intro hlit <;> try (cases hlit; done)
        refine goh trivial ?_
        exact finh [] e
  · exact hp.elim
theorem cutV_size (c : UInt8) (s : ByteArray) : (cutV c s).2.1.size ≤ s.size := by
  unfold cutV Lib.cut bytesL
  split
  · show (List.drop _ s.data.toList).toArray.size ≤ s.data.size
    simp
  · exact Nat.zero_le _
theorem openV_size (s : ByteArray) : (openV s).1.size ≤ s.size := by
  unfold openV
  split
  · exact cutV_size 58 s
  · exact Nat.zero_le _
@[go_sem] noncomputable def ctUberRead : Ct := ⟨false, [], fun args os => match args, os with
  | [.one (.val (.string t))], [] => ifp (t.size ≤ 1000000) (match uberP t with | some (k, p) => .tup [vi k, .agg [.val (.int .i64 p.at_), .val (.int .i64 p.sum), .val (.int .i64 p.birth)], vb true] | none => .tup [vi 0, .agg [.val (.int .i64 0), .val (.int .i64 0), .val (.int .i64 0)], vb false])
  | _, _ => no⟩
theorem s_uberRead_e : EnterOk Tryz.prog 37 := ⟨_, Tryz.func37, rfl, by decide⟩
@[go_sem] def s_uberRead_lv : List (List Nat) := [[0, 3], [0, 3, 5], [0, 3, 7], [0, 3, 7, 21], [2, 3, 4], [0, 3, 7, 8, 9], [0, 3, 8, 9, 10, 11], [3, 8, 10, 49], [2, 3, 4], [2, 3, 4]]
@[go_sem] noncomputable def s_uberRead_K : Known := (((((Known.nil).cons 106 ctSumOpen s_sumOpen s_sumOpen_e).cons 107 ctSplit s_split s_split_e).cons 108 ctAtoi s_atoi s_atoi_e).cons 26 ctPtrRead s_ptrRead s_ptrRead_e).cons 32 ctUber s_uber s_uber_e
set_option maxHeartbeats 8000000 in
theorem s_uberRead : Sound Tryz.prog 37 ctUberRead := by
  have ke := s_uberRead_K.env []
  have kl : Lives s_uberRead_lv := trivial
  refine sound_intro (E := ⟨ti, s_uberRead_K.Γ, []⟩) ke Tryz.func37 Tryz.ntmps37 rfl (rs := [.tmp 2, .cell 3 55, .tmp 4]) rfl ?_
  intro args os hp
  unfold ctUberRead at hp ⊢
  dsimp only at hp ⊢
  split at hp
  · rename_i t
    refine ⟨by simp, fun φ0 w0 => ?_⟩
    have hlen : t.size ≤ 1000000 := hp
    have nt : (!true) = false := rfl
    have nf : (!false) = true := rfl
    have hsp : (⟨#[32]⟩ : ByteArray).data.getD 0 0 = 32 := rfl
    have hsz : (⟨#[32]⟩ : ByteArray).size = 1 := rfl
    have hos := openV_size t
    obtain ⟨⟨inner, ok⟩, hin⟩ : ∃ x, openV t = x := ⟨_, rfl⟩
    rw [hin] at hos
    simp only at hos
    have hwl := splitV_len 32 inner
    have hms : ∀ w ∈ splitV 32 inner, w.size ≤ 1000000 := fun w hw => Nat.le_trans (splitV_size hw) (by omega)
    obtain ⟨ws, hws⟩ : ∃ ws, splitV 32 inner = ws := ⟨_, rfl⟩
    rw [hws] at hms hwl
    refine goh (And.intro hsp (And.intro hsz (And.intro hin hws))) ?_
    refine W_cnd ?_ ?_ <;> (try simp only [cnd_r]) <;> intro h3
    · have h3' : ws.length ≠ 3 := by intro e; rw [e] at h3; exact absurd h3 (by decide)
      have e : uberP t = none := by
        unfold uberP
        rw [hin]
        simp only
        rw [hws]
        split
        · exact absurd rfl h3'
        · rfl
      refine goh trivial ?_
      exact finh [] e
    · have h3' : ws.length = 3 := by omega
      match ws, h3' with
      | [x, y, z], _ =>
      have m0 := hms x (by simp)
      have m1 := hms y (by simp)
      have m0' : x.size ≤ 281474976710656 := by omega
      have e : uberP t = (match atoiV x, ptrReadV y with
        | some k, some r => if uberT k r = t then some (k, r) else none
        | _, _ => none) := by unfold uberP; rw [hin]; simp only; rw [hws]; try rfl
      cases ha : atoiV x with
      | none =>
        rw [ha] at e
        simp only at e
        cases hr : ptrReadV y with
        | none =>
          refine goh (And.intro ha (And.intro hr (And.intro m0' (And.intro m1 nf)))) ?_
          refine W_cnd ?_ ?_ <;> intro hlit <;> try (cases hlit; done)
          refine goh trivial ?_
          exact finh [] e
        | some r =>
          refine goh (And.intro ha (And.intro hr (And.intro m0' (And.intro m1 nt)))) ?_
          refine W_cnd ?_ ?_ <;> intro hlit <;> try (cases hlit; done)
          refine goh trivial ?_
          exact finh [] e
      | some k =>
        have hk := (atoiV_in ha).1
        rw [ha] at e
        cases hr : ptrReadV y with
        | none =>
          rw [hr] at e
          simp only at e
          refine goh (And.intro ha (And.intro hr (And.intro m0' (And.intro m1 nf)))) ?_
          refine W_cnd ?_ ?_ <;> intro hlit <;> try (cases hlit; done)
          refine goh trivial ?_
          exact finh [] e
        | some r =>
          obtain ⟨ra, rs, rb⟩ := r
          rw [hr] at e
          simp only at e
          cases hs : same (uberT k ⟨ra, rs, rb⟩) t with
          | false =>
            rw [if_neg (fun h => by rw [same_true.2 h] at hs; cases hs)] at e
            refine goh (And.intro ha (And.intro hr (And.intro hk (And.intro hs (And.intro m0' (And.intro m1 (And.intro nt nf))))))) ?_
            refine W_cnd ?_ ?_ <;> intro hlit <;> try (cases hlit; done)
            refine goh trivial ?_
            exact finh [] e
          | true =>
            rw [if_pos (same_true.1 hs)] at e
            refine goh (And.intro ha (And.intro hr (And.intro hk (And.intro hs (And.intro m0' (And.intro m1 (And.intro nt nf))))))) ?_
            refine W_cnd ?_ ?_ <;> intro hlit <;> try (cases hlit; done)
            refine goh hk ?_
            exact finh [] e
  · simp [no, ifp] at hp
end Go.Proofs.YtjedcphhajlnoaaGreatDoor
/- Functions: a commit's number and pointer that are drawn; an open disk. -/
namespace Go.Proofs.YtjedcphhajlnoaaGreatDoor
open Go.RowKit

theorem s_diskOpen_e : EnterOk Tryz.prog 34 := ⟨_, Tryz.func34, rfl, by decide⟩
@[go_sem] def s_diskOpen_lv : List (List Nat) := [[0, 2], [0, 2, 5], [2], [2]]
@[go_sem] noncomputable def s_diskOpen_K : Known := (Known.nil).cons 89 ctWithin s_within s_within_e
set_option maxHeartbeats 8000000 in
theorem s_diskOpen : Sound Tryz.prog 34 ctSpecOpen := by
  have ke := s_diskOpen_K.env []
  have kl : Lives s_diskOpen_lv := trivial
  refine sound_intro (E := ⟨ti, s_diskOpen_K.Γ, []⟩) ke Tryz.func34 Tryz.ntmps34 rfl (rs := [.cell 2 39]) rfl ?_
  intro args os hp
  unfold ctSpecOpen at hp ⊢
  dsimp only at hp ⊢
  split at hp
  · rename_i n
    refine ⟨by simp, fun φ0 w0 => ?_⟩
    clear hp
    have nt : (!true) = false := rfl
    have nf : (!false) = true := rfl
    by_cases hn : 1 ≤ n ∧ n ≤ 120
    · have c : (decide (1 ≤ n) && decide (n ≤ 120)) = true := by simp [hn.1, hn.2]
      have hd : dkOpen n = ⟨List.replicate n.toNat ⟨#[]⟩, List.replicate n.toNat ⟨#[]⟩, []⟩ := by unfold dkOpen; rw [if_pos hn]
      obtain ⟨n1, n2⟩ := hn
      refine goh (And.intro c nt) ?_
      refine W_cnd ?_ ?_ <;> intro hlit <;> try (cases hlit; done)
      refine goh trivial ?_
      rw [hd]
      refine ⟨by (simp only [go_sem, ↓reduceIte, reduceCtorEq, Nat.reduceAdd, Nat.reduceLT, Nat.reduceLeDiff, Nat.reduceEqDiff]) <;> trivial, [some 1, some 2, none], ?_⟩
      all_goals try simp only [go_sem, inj_r, ↓reduceIte, reduceCtorEq, Nat.reduceAdd, Nat.reduceLT, Nat.reduceLeDiff, Nat.reduceEqDiff, Int.reduceEq]
      all_goals (repeat' refine And.intro ?_ ?_) <;> try exact shut7
      all_goals simp only [List.length_replicate]
    · have c : (decide (1 ≤ n) && decide (n ≤ 120)) = false := by
        rw [Bool.and_eq_false_iff, decide_eq_false_iff_not, decide_eq_false_iff_not]; omega
      have hd : dkOpen n = ⟨[], [], []⟩ := by unfold dkOpen; rw [if_neg hn]
      refine goh (And.intro c nf) ?_
      refine W_cnd ?_ ?_ <;> intro hlit <;> try (cases hlit; done)
      refine goh trivial ?_
      rw [hd]
      exact finh [none, none, none] trivial
  · simp [no] at hp
def ucN (code : List UInt8) : Int := ET.int.at [1, 2, 99, 0, -1, 1000000, 1000001] (pickV (code.take 2000) 0 7).toNat
def ucP (code : List UInt8) : Ptr := (ptrD (code.take 2000) (blkDisk (code.take 2000) 1).1 (blkDisk (code.take 2000) 1).2).1
@[go_sem] def ctDrawUber : Ct := ⟨false, [[some .byte]], fun args os => match args, os with
  | [.one (.isl .byte code)], [] => ifp (code.length ≤ 1048576) (.tup [vi (ucN code), (ucP code).tv])
  | _, _ => no⟩
theorem s_drawUber_e : EnterOk Tryz.prog 31 := ⟨_, Tryz.func31, rfl, by decide⟩
@[go_sem] def s_drawUber_lv : List (List Nat) := [[0, 3], [3, 4], [3, 4, 5], [2, 3]]
@[go_sem] noncomputable def s_drawUber_K : Known := ((((Known.nil).cons 96 ctOpen s_open s_open_e).cons 97 ctNum s_num s_num_e).cons 99 ctBlkDisk s_blkDisk s_blkDisk_e).cons 98 ctPtrD s_ptrD s_ptrD_e
set_option maxHeartbeats 8000000 in
theorem s_drawUber : Sound Tryz.prog 31 ctDrawUber := by
  have ke := s_drawUber_K.env []
  have kl : Lives s_drawUber_lv := trivial
  refine sound_intro (E := ⟨ti, s_drawUber_K.Γ, []⟩) ke Tryz.func31 Tryz.ntmps31 rfl (rs := [.tmp 2, .cell 3 55]) rfl ?_
  intro args os hp
  unfold ctDrawUber at hp ⊢
  dsimp only at hp ⊢
  split at hp
  · rename_i code
    refine ⟨by simp, fun φ0 w0 => ?_⟩
    have hlen : code.length ≤ 1048576 := hp
    have hb := take2000 code
    have hr : rdOk2 (code.take 2000) 1 := ⟨by omega, by omega, hb⟩
    obtain ⟨-, ⟨h1, h2, h3⟩, h4, h5⟩ := blkDisk_all (code.take 2000) 1 hr
    have hq : (blkDisk (code.take 2000) 1).2 = (l3c (code.take 2000) 1).2 + 1 := rfl
    have hd : (blkDisk (code.take 2000) 1).1.a.length ≤ 6 ∧ (blkDisk (code.take 2000) 1).1.b.length ≤ 6 ∧ (blkDisk (code.take 2000) 1).1.l.length ≤ 12 := by
      unfold blkDisk
      split
      · exact ⟨Nat.zero_le _, h2, h3⟩
      · exact ⟨h1, h2, h3⟩
    obtain ⟨⟨d, q⟩, hx⟩ : ∃ x, blkDisk (code.take 2000) 1 = x := ⟨_, rfl⟩
    rw [hx] at hq hd
    simp only at hq hd
    obtain ⟨d1, d2, d3⟩ := hd
    have hP : ucP code = (ptrD (code.take 2000) d q).1 := by unfold ucP; rw [hx]
    have v7 := pickV_in (code.take 2000) 0 7 (by omega) (by omega) (by omega)
    have z1 : (0 : Int) + 1 = 1 := rfl
    refine goh (And.intro hx (And.intro z1 hr)) ?_
    refine ⟨by (simp only [go_sem, hP, ucN, ↓reduceIte, reduceCtorEq, Nat.reduceAdd, Nat.reduceLT, Nat.reduceLeDiff, Nat.reduceEqDiff]) <;> trivial, [], ?_⟩
    all_goals try simp only [go_sem, hP, ucN, inj_r, ↓reduceIte, reduceCtorEq, Nat.reduceAdd, Nat.reduceLT, Nat.reduceLeDiff, Nat.reduceEqDiff, Int.reduceEq]
    all_goals (repeat' refine And.intro ?_ ?_) <;> try exact shut7
  · simp [no, ifp] at hp
/-- What a torn write leaves. -/
theorem torn_disk {s t : ByteArray} (hs : s.size ≤ 420) (ht : t.size ≤ 420) :
    dkWrite (dkOpen 2) 0 1 t = ⟨[⟨#[]⟩, ⟨#[]⟩], [⟨#[]⟩, ⟨#[]⟩], [⟨0, 1, t⟩]⟩ ∧
    dkFlush ⟨[⟨#[]⟩, ⟨#[]⟩], [⟨#[]⟩, ⟨#[]⟩], [⟨0, 1, t⟩]⟩ = ⟨[⟨#[]⟩, t], [⟨#[]⟩, ⟨#[]⟩], []⟩ ∧
    dkWrite ⟨[⟨#[]⟩, t], [⟨#[]⟩, ⟨#[]⟩], []⟩ 0 1 s = ⟨[⟨#[]⟩, t], [⟨#[]⟩, ⟨#[]⟩], [⟨0, 1, s⟩]⟩ ∧
    dkFall ⟨[⟨#[]⟩, t], [⟨#[]⟩, ⟨#[]⟩], [⟨0, 1, s⟩]⟩ [2] = ⟨[⟨#[]⟩, torn t s], [⟨#[]⟩, ⟨#[]⟩], []⟩ := by
  have e0 : dkOpen 2 = ⟨[⟨#[]⟩, ⟨#[]⟩], [⟨#[]⟩, ⟨#[]⟩], []⟩ := rfl
  have k0 : Dk.ok ⟨[⟨#[]⟩, ⟨#[]⟩], [⟨#[]⟩, ⟨#[]⟩], []⟩ = true := by decide
  have m0 : Dk.may ⟨[⟨#[]⟩, ⟨#[]⟩], [⟨#[]⟩, ⟨#[]⟩], []⟩ 0 1 t = true := (may_iff _ _ _ _).2 ⟨.inl rfl, by decide, by decide, ht, by decide⟩
  have k1 := Dk.add_ok k0 m0
  have k1 : Dk.ok ⟨[⟨#[]⟩, ⟨#[]⟩], [⟨#[]⟩, ⟨#[]⟩], [⟨0, 1, t⟩]⟩ = true := k1
  have e1 : dkFlush ⟨[⟨#[]⟩, ⟨#[]⟩], [⟨#[]⟩, ⟨#[]⟩], [⟨0, 1, t⟩]⟩ = ⟨[⟨#[]⟩, t], [⟨#[]⟩, ⟨#[]⟩], []⟩ := by unfold dkFlush; rw [if_pos k1]; rfl
  have k2 : Dk.ok ⟨[⟨#[]⟩, t], [⟨#[]⟩, ⟨#[]⟩], []⟩ = true := by rw [← e1]; exact dkFlush_ok k1
  have m2 : Dk.may ⟨[⟨#[]⟩, t], [⟨#[]⟩, ⟨#[]⟩], []⟩ 0 1 s = true := (may_iff _ _ _ _).2 ⟨.inl rfl, by show (0 : Int) ≤ 1; decide, by show (1 : Int) < 2; decide, hs, by show 0 < 600; decide⟩
  have k3 : Dk.ok ⟨[⟨#[]⟩, t], [⟨#[]⟩, ⟨#[]⟩], [⟨0, 1, s⟩]⟩ = true := Dk.add_ok k2 m2
  refine ⟨?_, e1, ?_, ?_⟩
  · rw [e0]; unfold dkWrite; rw [if_pos k0, if_pos m0]; rfl
  · unfold dkWrite; rw [if_pos k2, if_pos m2]; rfl
  · unfold dkFall; rw [if_pos k3]; rfl
end Go.Proofs.YtjedcphhajlnoaaGreatDoor
/- From a contract to the given statement: laws of one text of bytes. -/
namespace Go.Proofs.YtjedcphhajlnoaaGreatDoor
open Go.ChangeShapes Go.WideShapes Go.ChangeAt Go.RowKit

theorem own : ownKnob Tryz.prog.godebug = none := by kernel_rfl
theorem laidOut : laidOutB Tryz.prog = true := by kernel_rfl

def bytesOf (zs : List Int) : List UInt8 := zs.map fun n => UInt8.ofNat n.toNat
/-- What is known of a slice of bytes that came in. -/
def IsBytes (w : World) (v : Value) (bs : List UInt8) : Prop :=
  ∃ a cap, v = .slice a bs.length cap ∧ bs.length ≤ cap ∧ (a = none → cap = 0) ∧ (∀ ad, a = some ad → ad.spot = none) ∧ (bs ≠ [] → ∃ b o, a = some ⟨b, o, none⟩ ∧ b < w.heap.size ∧ CellsAt w b o (bs.flatMap (ET.cells .byte)))
theorem bytes_open {H : Type} {enc : TypeId × Value → H} {P : Program} {w : World} {base : Nat} {spare : Nat → Bool} {held : Bool} {t e : TypeId} {v : Value} {x : DataW H × List MemPlace} (ht : P.underlying t = some (.slice e)) (he : P.underlying e = some (.int .u8)) (hc : P.cellsOf e = 1)
    (hv : Value.okWide P w .any base t v) {fuel : Nat} (h : DataW.trod enc P w 0 spare held fuel t v.cells.toList = some x) : ∃ bs, IsBytes w v bs := by
  obtain ⟨a, len, cap, rfl⟩ := okWide_slice ht hv
  rcases open_ints ht he hc h with ⟨hcs, _⟩ | ⟨x, l, c, zs, hcs, _, hl, hm, hz, _, hcell, hwz⟩
  · simp [Value.cells] at hcs
    obtain ⟨rfl, rfl, rfl⟩ := hcs
    exact ⟨[], none, 0, rfl, Nat.le_refl _, fun _ => rfl, fun _ h => by simp at h, fun h => absurd rfl h⟩
  · simp [Value.cells] at hcs
    obtain ⟨rfl, rfl, rfl⟩ := hcs
    have hsp : x.spot = none := by
      simp only [Value.okWide, ht, Cell.okWide, Cell.ok] at hv
      exact hv.2.2.2.1
    obtain ⟨b, o, sp⟩ := x
    simp only at hsp
    subst hsp
    have hlz : len ≤ zs.length := by
      rw [hz]; split
      · exact hl
      · exact Nat.le_refl _
    have hlen : (bytesOf (zs.take len)).length = len := by
      unfold bytesOf; rw [List.length_map, List.length_take]; omega
    have hval : ∀ i, i < len → w.cell? ⟨b, o + i, none⟩ = some (.int .u8 ((bytesOf (zs.take len)).getD i 0).toNat) := by
      intro i hi
      have h1 := hcell i (by omega)
      have h2 := hwz (zs.getD i 0) (by
        rw [List.getD_eq_getElem?_getD, List.getElem?_eq_getElem (show i < zs.length by omega)]
        exact List.getElem_mem _)
      have h3 : 0 ≤ zs.getD i 0 ∧ zs.getD i 0 ≤ 255 := by
        have : ∀ n : Int, (Lit.int .u8 n).wf = true → 0 ≤ n ∧ n ≤ 255 := by
          intro n hn
          simp [Lit.wf, show IntKind.u8.min = 0 from rfl, show IntKind.u8.max = 255 from rfl] at hn
          omega
        exact this _ h2
      have h4 : ((bytesOf (zs.take len)).getD i 0) = UInt8.ofNat (zs.getD i 0).toNat := by
        unfold bytesOf
        rw [List.getD_eq_getElem?_getD, List.getElem?_map, List.getElem?_take, if_pos hi, List.getD_eq_getElem?_getD, List.getElem?_eq_getElem (show i < zs.length by omega)]
        rfl
      rw [h4, UInt8.toNat_ofNat']
      have h6 : (Addr.mk b o none).add i = Addr.mk b (o + i) none := by
        unfold Addr.add; split
        · rename_i h; subst h; rfl
        · rfl
      rw [h6] at h1
      rw [h1]
      congr 2
      omega
    refine ⟨bytesOf (zs.take len), some ⟨b, o, none⟩, cap, by rw [hlen], by rw [hlen]; exact hl, (fun h => by cases h), (fun ad h => by cases h; rfl), fun hne => ⟨b, o, rfl, ?_, ?_⟩⟩
    · have : 0 < len := by
        rw [← hlen]; exact List.length_pos_iff.2 hne
      have h0 := hval 0 this
      unfold World.cell? at h0
      rcases Nat.lt_or_ge b w.heap.size with hb | hb
      · exact hb
      · rw [Array.getElem?_eq_none hb] at h0; cases h0
    · intro i v hv
      have hi : i < len := by
        have := (List.getElem?_eq_some_iff.1 hv).1
        rw [flat_len, hlen] at this
        simpa [ET.sz] using this
      rw [hval i hi]
      have h5 := flat_get .byte (bytesOf (zs.take len)) i 0 (by rw [hlen]; exact hi) (by decide)
      have h6 : i * ET.byte.sz + 0 = i := by simp [ET.sz]
      rw [h6, hv] at h5
      simp only [ET.cells, List.getElem?_cons_zero, Option.some.injEq] at h5
      rw [h5, List.getD_eq_getElem?_getD, List.getElem?_eq_getElem (by rw [hlen]; exact hi)]
      rfl
def phi0 : Phi := ⟨fun _ => none, fun _ => False⟩
theorem not_own0 {b : Nat} : ¬ Own phi0 (tabOf []) b := fun ⟨k, base, h, _⟩ => by simp [tabOf] at h
theorem isBytes_R {w : World} {v : Value} {bs : List UInt8} (h : IsBytes w v bs) : VR phi0 (tabOf []) w (.one (.isl .byte bs)) v := by
  obtain ⟨a, cap, h1, h2, h3, h4, h5⟩ := h
  simp only [VR, CR]
  exact ⟨a, cap, h1, h2, h3, h4, fun hne => by
    obtain ⟨b, o, h6, h7, h8⟩ := h5 hne
    exact ⟨b, o, h6, ⟨h7, not_own0, fun hf => hf⟩, h8⟩⟩
theorem glo_none (h : gloL = []) (w : World) : GloOk0 w := fun q hq => by rw [h] at hq; cases hq
theorem rel0 (w : World) (hg : GloOk0 w) : Rel phi0 (tabOf []) w := ⟨fun k o h => by simp [tabOf] at h, fun k _ _ _ _ h _ _ _ => by simp [tabOf] at h, fun b h => h.elim, fun q hq => ⟨fun ⟨k, _, h, _⟩ => h (by simp [tabOf]), hg q hq⟩⟩
/-- A contract that hands over nothing and gets nothing new back: what was there is as it was. -/
theorem post_below {w w' : World} {n : Nat} {s : St} {e : Ending} (h : Post phi0 (tabOf []) w n s e w') : ∃ r φ', e = .returned r ∧ VR φ' (newT (tabOf []) n s) w' s.v r ∧ Below w.heap.size w w' := by
  obtain ⟨r, φ', h1, h2, -, hg, -⟩ := h
  exact ⟨r, φ', h1, h2, hg.os, hg.tape, hg.output, hg.size, fun b hb => hg.block b hb not_own0⟩
@[go_sem] def ctLaw1 : Ct := ⟨false, [[some .byte]], fun args os => match args, os with
  | [.one (.isl .byte code)], [] => ⟨True, vb true, [], []⟩
  | _, _ => no⟩
@[go_sem] def ctLaw2 : Ct := ⟨false, [[some .byte], [some .byte]], fun args os => match args, os with
  | [.one (.isl .byte code), .one (.isl .byte more)], [] => ⟨True, vb true, [], []⟩
  | _, _ => no⟩
theorem law1 {f : FuncId} (h : Sound Tryz.prog f ctLaw1) {w : World} {v : Value} {bs : List UInt8} (hb : IsBytes w v bs) (hg : GloOk0 w) :
    Calls Tryz.prog f #[v] w fun e w' => e = .returned (.bool true) ∧ Below w.heap.size w w' := by
  refine (h [.one (.isl .byte bs)] [] trivial phi0 w [v] (rel0 w hg) (by simp only [VRs]; exact ⟨isBytes_R hb, trivial⟩) fun _ _ => rfl).mono ?_
  rintro e w' hp
  obtain ⟨r, φ', rfl, hv, hbl⟩ := post_below hp
  simp only [ctLaw1, vb, VR, CR] at hv
  subst hv
  exact ⟨rfl, hbl⟩
theorem law2 {f : FuncId} (h : Sound Tryz.prog f ctLaw2) {w : World} {v u : Value} {bs cs : List UInt8} (hb : IsBytes w v bs) (hc : IsBytes w u cs) (hg : GloOk0 w) :
    Calls Tryz.prog f #[v, u] w fun e w' => e = .returned (.bool true) ∧ Below w.heap.size w w' := by
  refine (h [.one (.isl .byte bs), .one (.isl .byte cs)] [] trivial phi0 w [v, u] (rel0 w hg) (by simp only [VRs]; exact ⟨isBytes_R hb, isBytes_R hc, trivial⟩) fun _ _ => rfl).mono ?_
  rintro e w' hp
  obtain ⟨r, φ', rfl, hv, hbl⟩ := post_below hp
  simp only [ctLaw2, vb, VR, CR] at hv
  subst hv
  exact ⟨rfl, hbl⟩
end Go.Proofs.YtjedcphhajlnoaaGreatDoor
/- The law of torn root pointers: for all codes FnCoreTorn answers true. -/
namespace Go.Proofs.YtjedcphhajlnoaaGreatDoor
open Go.RowKit

theorem torn_list (t s : ByteArray) : ∃ i z, (z = t.data.toList.drop i ∨ z = []) ∧ (torn t s).data.toList = s.data.toList.take i ++ z := by
  unfold torn
  split
  · refine ⟨s.size / 2, _, .inl rfl, ?_⟩
    rw [ByteArray.data_append, Array.toList_append, Lib.extract_from_zero, Lib.extract_to_end]
  · exact ⟨s.size / 2, [], .inr rfl, by rw [Lib.extract_from_zero, List.append_nil]⟩
theorem torn_law {n m k : Int} {p q r : Ptr} (hs : uberT n p ≠ ⟨#[]⟩) (hnm : n ≠ m) (h : uberP (torn (uberT m q) (uberT n p)) = some (k, r)) : (k = n ∧ r = p) ∨ (k = m ∧ r = q) := by
  obtain ⟨hk, ht⟩ := uberP_iff.1 h
  have hn : uberOk n p := by
    by_cases hn : uberOk n p
    · exact hn
    · exact absurd (uber_no hn) hs
  have hm : uberOk m q ∨ uberT m q = ⟨#[]⟩ := by
    by_cases hm : uberOk m q
    · exact .inl hm
    · exact .inr (uber_no hm)
  obtain ⟨i, z, hz, hl⟩ := torn_list (uberT m q) (uberT n p)
  rw [← ht] at hl
  exact torn_uber hk hn hm hnm i hz hl
theorem torn_size2 (t s : ByteArray) : (torn t s).size ≤ t.size + s.size := by
  unfold torn
  split
  · rw [ByteArray.size_append, ByteArray.size_extract, ByteArray.size_extract]; omega
  · rw [ByteArray.size_extract]; omega
theorem s_lawTorn_e : EnterOk Tryz.prog 6 := ⟨_, Tryz.func6, rfl, by decide⟩
@[go_sem] def s_lawTorn_lv : List (List Nat) := [[0, 1], [0, 1, 22], [4], [1, 5, 6], [5, 6, 7, 8], [5, 6, 7, 8, 9], [5, 6, 7, 8, 9, 10], [5, 6, 7, 8, 9, 10, 52], [4], [5, 6, 7, 8, 9, 10, 11], [5, 6, 7, 8, 9, 11], [5, 6, 7, 8, 11], [5, 6, 7, 8, 12, 13, 14], [4]]
@[go_sem] noncomputable def s_lawTorn_K : Known := ((((((((Known.nil).cons 31 ctDrawUber s_drawUber s_drawUber_e).cons 32 ctUber s_uber s_uber_e).cons 33 ctUber s_specUber s_specUber_e).cons 34 ctSpecOpen s_diskOpen s_diskOpen_e).cons 35 ctDiskWrite s_diskWrite s_diskWrite_e).cons 36 ctDiskFlush s_diskFlush s_diskFlush_e).cons 38 ctDiskFall s_diskFall s_diskFall_e).cons 37 ctUberRead s_uberRead s_uberRead_e
set_option maxHeartbeats 8000000 in
theorem s_lawTorn : Sound Tryz.prog 6 ctLaw2 := by
  have ke := s_lawTorn_K.env []
  have kl : Lives s_lawTorn_lv := trivial
  refine sound_intro (E := ⟨ti, s_lawTorn_K.Γ, []⟩) ke Tryz.func6 Tryz.ntmps6 rfl (rs := [.tmp 4]) rfl ?_
  intro args os hp
  unfold ctLaw2 at hp ⊢
  dsimp only at hp ⊢
  split at hp
  · rename_i code more
    refine ⟨by simp, fun φ0 w0 => ?_⟩
    clear hp
    refine goh trivial ?_
    refine W_cnd ?_ ?_ <;> (try simp only [cnd_r]) <;> intro hlen
    · refine goh trivial ?_
      exact finh [] trivial
    · have hl1 : code.length ≤ 1048576 := by omega
      have hl2 : more.length ≤ 1048576 := by omega
      have nt : (!true) = false := rfl
      have nf : (!false) = true := rfl
      obtain ⟨n, hn⟩ : ∃ n, ucN code = n := ⟨_, rfl⟩
      obtain ⟨m, hm⟩ : ∃ n, ucN more = n := ⟨_, rfl⟩
      obtain ⟨⟨pa, ps, pb⟩, hpp⟩ : ∃ p, ucP code = p := ⟨_, rfl⟩
      obtain ⟨⟨qa, qs, qb⟩, hqq⟩ : ∃ p, ucP more = p := ⟨_, rfl⟩
      have z1 := uberT_size n ⟨pa, ps, pb⟩
      have z2 := uberT_size m ⟨qa, qs, qb⟩
      have hlaw := fun k r => @torn_law n m k ⟨pa, ps, pb⟩ ⟨qa, qs, qb⟩ r
      obtain ⟨s, hs⟩ : ∃ s, uberT n ⟨pa, ps, pb⟩ = s := ⟨_, rfl⟩
      obtain ⟨t, ht⟩ : ∃ s, uberT m ⟨qa, qs, qb⟩ = s := ⟨_, rfl⟩
      rw [hs] at z1 hlaw
      rw [ht] at z2 hlaw
      have hss : same s s = true := same_true.2 rfl
      by_cases he : s = ⟨#[]⟩
      · have c1 : same s ⟨#[]⟩ = true := same_true.2 he
        refine goh (And.intro hl1 (And.intro hl2 (And.intro hn (And.intro hm (And.intro hpp (And.intro hqq (And.intro hs (And.intro ht (And.intro hss (And.intro c1 nt)))))))))) ?_
        refine W_cnd ?_ ?_ <;> intro hlit <;> try (cases hlit; done)
        refine goh (And.intro hs hss) ?_
        exact finh [] trivial
      · have c1 : same s ⟨#[]⟩ = false := same_false.2 he
        by_cases hnm : n = m
        · have c2 : (n == m) = true := by simp [hnm]
          refine goh (And.intro hl1 (And.intro hl2 (And.intro hn (And.intro hm (And.intro hpp (And.intro hqq (And.intro hs (And.intro ht (And.intro hss (And.intro c1 (And.intro c2 nt))))))))))) ?_
          refine W_cnd ?_ ?_ <;> intro hlit <;> try (cases hlit; done)
          refine goh (And.intro hs hss) ?_
          exact finh [] trivial
        · have c2 : (n == m) = false := by simp [hnm]
          have c3 : (m == n) = false := by simp [Ne.symm hnm]
          obtain ⟨t1, t2, t3, t4⟩ := torn_disk (s := s) (t := t) (by omega) (by omega)
          have hts := torn_size2 t s
          have hlaw2 := fun k r => hlaw k r he hnm
          refine goh (And.intro hl1 (And.intro hl2 (And.intro hn (And.intro hm (And.intro hpp (And.intro hqq (And.intro hs (And.intro ht (And.intro hss (And.intro c1 (And.intro c2 nt))))))))))) ?_
          refine W_cnd ?_ ?_ <;> intro hlit <;> try (cases hlit; done)
          have o2 : dkOpen 2 = ⟨[⟨#[]⟩, ⟨#[]⟩], [⟨#[]⟩, ⟨#[]⟩], []⟩ := rfl
          rw [o2] at t1
          cases hu : uberP (torn t s) with
          | none =>
            refine goh (And.intro o2 (And.intro t1 (And.intro t2 (And.intro t3 (And.intro t4 (And.intro hu (And.intro hts nf))))))) ?_
            exact finh [] trivial
          | some x =>
            obtain ⟨k, ⟨ra, rs, rb⟩⟩ := x
            rcases hlaw2 k ⟨ra, rs, rb⟩ hu with ⟨e1, e2⟩ | ⟨e1, e2⟩
            · cases e2
              subst e1
              have ck : (k == k) = true := beq_self_eq_true k
              have cp : same (Ptr.mk pa ps pb) (Ptr.mk pa ps pb) = true := same_true.2 rfl
              refine goh (And.intro o2 (And.intro t1 (And.intro t2 (And.intro t3 (And.intro t4 (And.intro hu (And.intro hts (And.intro nt (And.intro nf (And.intro ck cp)))))))))) ?_
              exact finh [] trivial
            · cases e2
              subst e1
              have ck : (k == k) = true := beq_self_eq_true k
              have cp : same (Ptr.mk qa qs qb) (Ptr.mk qa qs qb) = true := same_true.2 rfl
              refine goh (And.intro o2 (And.intro t1 (And.intro t2 (And.intro t3 (And.intro t4 (And.intro hu (And.intro hts (And.intro nt (And.intro nf (And.intro ck (And.intro cp c3))))))))))) ?_
              exact finh [] trivial
  · simp [no] at hp
end Go.Proofs.YtjedcphhajlnoaaGreatDoor
