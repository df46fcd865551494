import Derived.Test.YtjedcphhajlnoaaGreatDoorRows
import Derived.ProofKit
import Derived.OpenShut
import Derived.ShutString
import Derived.ChangeOld
import Derived.Below
import Derived.Test.YtjedcphhajlnoaaGreatDoorM5
import Derived.Test.YtjedcphhajlnoaaGreatDoorM9
import Derived.Test.YtjedcphhajlnoaaGreatDoorM12
import Derived.Test.YtjedcphhajlnoaaGreatDoorM19
set_option linter.unusedSimpArgs false
set_option linter.unusedVariables false
set_option linter.unusedSectionVars false
/- Functions: falls, the program's. -/
namespace Go.Proofs.YtjedcphhajlnoaaGreatDoor
open Go.RowKit

theorem s_diskFlush_e : EnterOk Tryz.prog 36 := ⟨_, Tryz.func36, rfl, by decide⟩
@[go_sem] def s_diskFlush_lv : List (List Nat) := [[1, 2], [1, 2, 6], [2], [2, 3], [2, 3], [2]]
@[go_sem] noncomputable def s_diskFlush_K : Known := (((Known.nil).cons 80 ctDiskOk s_diskOk s_diskOk_e).cons 81 ctOwn s_own s_own_e).cons 105 ctFlush s_flush s_flush_e
set_option maxHeartbeats 8000000 in
theorem s_diskFlush : Sound Tryz.prog 36 ctDiskFlush := by
  have ke := s_diskFlush_K.env []
  have kl : Lives s_diskFlush_lv := trivial
  refine sound_intro (E := ⟨ti, s_diskFlush_K.Γ, []⟩) ke Tryz.func36 Tryz.ntmps36 rfl (rs := [.cell 2 39]) rfl ?_
  intro args os hp
  unfold ctDiskFlush at hp ⊢
  dsimp only at hp ⊢
  split at hp
  · rename_i a b l
    refine ⟨by simp, fun φ0 w0 => ?_⟩
    obtain ⟨h1, h2, h3⟩ : a.length ≤ 4000000 ∧ b.length ≤ 4000000 ∧ l.length ≤ 4000000 := hp
    refine goh trivial ?_
    refine W_cnd ?_ ?_ <;> (try simp only [cnd_r]) <;> intro hok
    · have e1 : dkFlush ⟨a, b, l⟩ = .nil := by unfold dkFlush; rw [hok]; rfl
      refine goh trivial ?_
      refine ⟨by (simp only [go_sem, e1, Dk.nil, ↓reduceIte, reduceCtorEq, Nat.reduceAdd, Nat.reduceLT, Nat.reduceLeDiff, Nat.reduceEqDiff]) <;> trivial, [none, none, none], ?_⟩
      all_goals try simp only [go_sem, e1, Dk.nil, inj_r, ↓reduceIte, reduceCtorEq, Nat.reduceAdd, Nat.reduceLT, Nat.reduceLeDiff, Nat.reduceEqDiff, Int.reduceEq]
      all_goals (repeat' refine And.intro ?_ ?_) <;> try exact shut7
    · have e1 : dkFlush ⟨a, b, l⟩ = (Dk.mk a b l).flushed := by unfold dkFlush; rw [hok]; rfl
      have e2 : (Dk.mk a b l).flushed.l = [] := rfl
      have e3 := (Dk.mk a b l).done_len l.length
      have e4 : (Dk.mk a b l).flushed.a.length = a.length := e3.1
      have e5 : (Dk.mk a b l).flushed.b.length = b.length := e3.2
      refine goh trivial ?_
      exact finh [some 2, some 3, none] (And.intro e1 (And.intro e2 (And.intro e4 e5)))
  · simp [no] at hp

theorem torn_min (old now : ByteArray) : torn old now = now.extract 0 (now.size / 2) ++ old.extract (min (now.size / 2) old.size) old.size := by
  unfold torn
  split
  · rename_i h; rw [Nat.min_eq_left (by omega)]
  · rename_i h
    rw [Nat.min_eq_right (by omega)]
    have h0 : (old.extract old.size old.size).size = 0 := by rw [ByteArray.size_extract]; omega
    have : old.extract old.size old.size = ByteArray.empty := ByteArray.ext (Array.eq_empty_of_size_eq_zero h0)
    rw [this, ByteArray.append_empty]
@[go_sem] def sgFa (a b : List ByteArray) (l : List Late) (fate : List Int) (x : Two) (i : Nat) : Sg := ⟨[(1, .one (.isl .int fate)), (4, .one (.ptr 1 0)), (5, .one (.ptr 5 0)), (18, .one (.isl .late l)), (19, vi l.length), (20, vi i)],
  [some (.cells [.isl .str a, .isl .str b, .isl .late l]), some (.cells [.val (.slice none 0 0), .val (.slice none 0 0), .val (.slice none 0 0)]), some (.arr .str x.1), some (.arr .str x.2), some (.arr .late l), some (.cells [.osl .str 2 0 x.1.length, .osl .str 3 0 x.2.length, .osl .late 4 0 l.length])], []⟩
theorem s_diskFall_e : EnterOk Tryz.prog 38 := ⟨_, Tryz.func38, rfl, by decide⟩
@[go_sem] def s_diskFall_lv : List (List Nat) := [[1, 2, 4], [1, 2, 4, 13], [4], [1, 2, 4, 5], [1, 4, 5, 18, 19, 20], [1, 4, 5, 18, 19, 20, 21], [1, 4, 5, 6, 7, 18, 19, 20], [1, 4, 5, 6, 7, 18, 19, 20, 28], [1, 4, 5, 6, 7, 8, 18, 19, 20], [1, 4, 5, 7, 8, 18, 19, 20, 40], [1, 4, 5, 7, 8, 18, 19, 20, 40, 41], [1, 4, 5, 18, 19, 20], [1, 4, 5, 7, 8, 18, 19, 20, 47], [1, 4, 5, 7, 8, 9, 18, 19, 20], [1, 4, 5, 7, 8, 9, 10, 18, 19, 20], [1, 4, 5, 18, 19, 20], [1, 4, 5, 18, 19, 20], [4, 5], [4]]
@[go_sem] noncomputable def s_diskFall_K : Known := ((Known.nil).cons 80 ctDiskOk s_diskOk s_diskOk_e).cons 81 ctOwn s_own s_own_e
set_option maxHeartbeats 8000000 in
theorem s_diskFall : Sound Tryz.prog 38 ctDiskFall := by
  have ke := s_diskFall_K.env []
  have kl : Lives s_diskFall_lv := trivial
  refine sound_intro (E := ⟨ti, s_diskFall_K.Γ, []⟩) ke Tryz.func38 Tryz.ntmps38 rfl (rs := [.cell 4 39]) rfl ?_
  intro args os hp
  unfold ctDiskFall at hp ⊢
  dsimp only at hp ⊢
  split at hp
  · rename_i a b l fate
    refine ⟨by simp, fun φ0 w0 => ?_⟩
    obtain ⟨⟨h1, h2, h3⟩, h4⟩ : (a.length ≤ 4000000 ∧ b.length ≤ 4000000 ∧ l.length ≤ 4000000) ∧ fate.length ≤ 4000000 := hp
    refine goh trivial ?_
    refine W_cnd ?_ ?_ <;> (try simp only [cnd_r]) <;> intro hok
    · have e1 : dkFall ⟨a, b, l⟩ fate = .nil := by unfold dkFall; rw [hok]; rfl
      refine goh trivial ?_
      refine ⟨by (simp only [go_sem, e1, Dk.nil, ↓reduceIte, reduceCtorEq, Nat.reduceAdd, Nat.reduceLT, Nat.reduceLeDiff, Nat.reduceEqDiff]) <;> trivial, [none, none, none], ?_⟩
      all_goals try simp only [go_sem, e1, Dk.nil, inj_r, ↓reduceIte, reduceCtorEq, Nat.reduceAdd, Nat.reduceLT, Nat.reduceLeDiff, Nat.reduceEqDiff, Int.reduceEq]
      all_goals (repeat' refine And.intro ?_ ?_) <;> try exact shut7
    · have e1 : dkFall ⟨a, b, l⟩ fate = (Dk.mk a b l).fallen fate := by unfold dkFall; rw [hok]; rfl
      refine goh trivial ?_
      refine W_le (σ' := sgFa a b l fate ((Dk.mk a b l).fallN fate 0) 0) [some 0, some 1, some 2, some 3, some 4, some 5] (by
        simp only [go_sem, Dk.fallN, inj_r, ↓reduceIte, reduceCtorEq, Nat.reduceAdd, Nat.reduceLT, Nat.reduceLeDiff, Nat.reduceEqDiff, Int.reduceEq]
        all_goals (repeat' refine And.intro ?_ ?_) <;> try exact shut7
        ) ?_
      refine W_loop (fun n σ => ∃ i : Nat, i ≤ min l.length fate.length ∧ n = l.length - i ∧ σ = sgFa a b l fate ((Dk.mk a b l).fallN fate i) i) l.length ⟨0, by omega, by omega, rfl⟩ ?_
      rintro n σ ⟨i, hi, rfl, rfl⟩
      obtain ⟨hl1, hl2⟩ := (Dk.mk a b l).fallN_len fate i
      simp only at hl1 hl2
      unfold sgFa
      refine goh trivial ?_
      refine W_cnd ?_ ?_ <;> (try simp only [cnd_r]) <;> intro hlt
      · have hi1 : i < l.length := by omega
        obtain ⟨ws, w1, w2, w3⟩ := Dk.ok_late hok i hi1
        have hsm := Dk.fallN_sm hok fate i (show i ≤ l.length by omega)
        have hd : (Dk.mk a b l).fallN fate (i + 1) = fell (fate.getD i ET.int.dflt) ((Dk.mk a b l).fallN fate i) (l.getD i ET.late.dflt) := rfl
        obtain ⟨-, -, hab, -⟩ := (Dk.ok_iff _).1 hok
        simp only at ws w1 w2 w3 hd hab
        generalize hw : l.getD i ET.late.dflt = w at *
        generalize hf : fate.getD i ET.int.dflt = f at *
        obtain ⟨s, k, t⟩ := w
        simp only at ws w1 w2 w3
        refine goh hw ?_
        refine W_cnd ?_ ?_ <;> (try simp only [cnd_r]) <;> intro hfa
        · have : i = min l.length fate.length := by omega
          subst this
          refine goh trivial ?_
          refine ⟨by (simp only [go_sem, e1, Dk.fallen, ↓reduceIte, reduceCtorEq, Nat.reduceAdd, Nat.reduceLT, Nat.reduceLeDiff, Nat.reduceEqDiff]) <;> trivial, [some 2, some 3, none], ?_⟩
          all_goals try simp only [go_sem, e1, Dk.fallen, inj_r, ↓reduceIte, reduceCtorEq, Nat.reduceAdd, Nat.reduceLT, Nat.reduceLeDiff, Nat.reduceEqDiff, Int.reduceEq]
          all_goals (repeat' refine And.intro ?_ ?_) <;> try exact shut7
        · generalize hx : (Dk.mk a b l).fallN fate i = x at *
          have hz := hsm.sec s k
          unfold sec at hz
          rcases ws with rfl | rfl
          all_goals
            simp only [↓reduceIte, Int.reduceEq, ET.at] at hz
            refine goh (And.intro hw hf) ?_
            refine W_cond _ (by exact rfl) (by exact trivial) ?_ ?_ <;> intro hc
            · have hf1 : f = 1 := by simpa using hc
              refine goh (And.intro hw hf) ?_
              refine ⟨l.length - (i + 1), [some 0, some 1, some 2, some 3, some 4, some 5], sgFa a b l fate ((Dk.mk a b l).fallN fate (i + 1)) (i + 1), by omega, ?_, i + 1, by omega, rfl, rfl⟩
              rw [hd]
              simp only [go_sem, fell, putW, List.length_set, hf1, inj_r, ↓reduceIte, reduceCtorEq, Nat.reduceAdd, Nat.reduceLT, Nat.reduceLeDiff, Nat.reduceEqDiff, Int.reduceEq]
              all_goals (repeat' refine And.intro ?_ ?_) <;> try exact shut7
            · have hf1 : ¬ f = 1 := by simpa using hc
              refine goh (And.intro hw hf) ?_
              refine W_cond _ (by exact rfl) (by exact trivial) ?_ ?_ <;> intro hc2
              · have hf2 : f = 2 := by simpa using hc2
                have hq : IntKind.i64.wrap ((t.size : Int).tdiv 2) = ((t.size / 2 : Nat) : Int) := by
                  have : (t.size : Int).tdiv 2 = ((t.size / 2 : Nat) : Int) := (Int.ofNat_tdiv _ _).symm
                  rw [this]; exact wrap_id _ (by omega) (by omega)
                have hmin : ∀ z : ByteArray, (if (z.size : Int) < ((t.size / 2 : Nat) : Int) then (z.size : Int) else ((t.size / 2 : Nat) : Int)) = ((min (t.size / 2) z.size : Nat) : Int) := fun z => by split <;> omega
                repeat' first
                  | with_reducible refine red ?_
                  | refine W_seq ?_
                  | (refine W_reg (s_diskFall_K.env []) s_diskFall_lv fun K' hK' => ?_
                     simp only [go_sem, hw, hf, hq, hmin, ↓reduceIte, ↓reduceDIte, reduceCtorEq, Nat.reduceAdd, Nat.reduceMul, Nat.reduceSub, Nat.reduceDiv, Nat.reduceMod, Nat.reduceLT, Nat.reduceLeDiff, Nat.reduceEqDiff, Nat.reduceBEq, Int.reduceToNat, Int.reduceLE, Int.reduceLT, Int.reduceEq, Int.reduceNe, Int.reduceNeg]
                     (repeat' refine And.intro ?_ ?_) <;> try first | with_reducible refine hK' ?_ | exact shut6)
                  | with_reducible refine blockG_o (by decide) ?_
                · simp only [ByteArray.size_extract]; omega
                · refine ⟨l.length - (i + 1), [some 0, some 1, some 2, some 3, some 4, some 5], sgFa a b l fate ((Dk.mk a b l).fallN fate (i + 1)) (i + 1), by omega, ?_, i + 1, by omega, rfl, rfl⟩
                  rw [hd]
                  simp only [go_sem, fell, hf1, hf2, putW, sec, torn_min, List.length_set, inj_r, ↓reduceIte, reduceCtorEq, Nat.reduceAdd, Nat.reduceLT, Nat.reduceLeDiff, Nat.reduceEqDiff, Int.reduceEq]
                  all_goals (repeat' refine And.intro ?_ ?_) <;> try exact shut7
              · have hf2 : ¬ f = 2 := by simpa using hc2
                refine goh (And.intro hw hf) ?_
                refine ⟨l.length - (i + 1), [some 0, some 1, some 2, some 3, some 4, some 5], sgFa a b l fate ((Dk.mk a b l).fallN fate (i + 1)) (i + 1), by omega, ?_, i + 1, by omega, rfl, rfl⟩
                rw [hd]
                simp only [go_sem, fell, hf1, hf2, inj_r, ↓reduceIte, reduceCtorEq, Nat.reduceAdd, Nat.reduceLT, Nat.reduceLeDiff, Nat.reduceEqDiff, Int.reduceEq]
                all_goals (repeat' refine And.intro ?_ ?_) <;> try exact shut7
      · have : i = min l.length fate.length := by omega
        subst this
        refine goh trivial ?_
        refine ⟨by (simp only [go_sem, e1, Dk.fallen, ↓reduceIte, reduceCtorEq, Nat.reduceAdd, Nat.reduceLT, Nat.reduceLeDiff, Nat.reduceEqDiff]) <;> trivial, [some 2, some 3, none], ?_⟩
        all_goals try simp only [go_sem, e1, Dk.fallen, inj_r, ↓reduceIte, reduceCtorEq, Nat.reduceAdd, Nat.reduceLT, Nat.reduceLeDiff, Nat.reduceEqDiff, Int.reduceEq]
        all_goals (repeat' refine And.intro ?_ ?_) <;> try exact shut7
  · simp [no] at hp
end Go.Proofs.YtjedcphhajlnoaaGreatDoor
/- Functions: a commit's number and pointer that are drawn; an open disk. -/
namespace Go.Proofs.YtjedcphhajlnoaaGreatDoor
open Go.RowKit

theorem s_diskOpen_e : EnterOk Tryz.prog 34 := ⟨_, Tryz.func34, rfl, by decide⟩
@[go_sem] def s_diskOpen_lv : List (List Nat) := [[0, 2], [0, 2, 5], [2], [2]]
@[go_sem] noncomputable def s_diskOpen_K : Known := (Known.nil).cons 89 ctWithin s_within s_within_e
set_option maxHeartbeats 8000000 in
theorem s_diskOpen : Sound Tryz.prog 34 ctSpecOpen := by
  have ke := s_diskOpen_K.env []
  have kl : Lives s_diskOpen_lv := trivial
  refine sound_intro (E := ⟨ti, s_diskOpen_K.Γ, []⟩) ke Tryz.func34 Tryz.ntmps34 rfl (rs := [.cell 2 39]) rfl ?_
  intro args os hp
  unfold ctSpecOpen at hp ⊢
  dsimp only at hp ⊢
  split at hp
  · rename_i n
    refine ⟨by simp, fun φ0 w0 => ?_⟩
    clear hp
    have nt : (!true) = false := rfl
    have nf : (!false) = true := rfl
    by_cases hn : 1 ≤ n ∧ n ≤ 120
    · have c : (decide (1 ≤ n) && decide (n ≤ 120)) = true := by simp [hn.1, hn.2]
      have hd : dkOpen n = ⟨List.replicate n.toNat ⟨#[]⟩, List.replicate n.toNat ⟨#[]⟩, []⟩ := by unfold dkOpen; rw [if_pos hn]
      obtain ⟨n1, n2⟩ := hn
      refine goh (And.intro c nt) ?_
      refine W_cnd ?_ ?_ <;> intro hlit <;> try (cases hlit; done)
      refine goh trivial ?_
      rw [hd]
      refine ⟨by (simp only [go_sem, ↓reduceIte, reduceCtorEq, Nat.reduceAdd, Nat.reduceLT, Nat.reduceLeDiff, Nat.reduceEqDiff]) <;> trivial, [some 1, some 2, none], ?_⟩
      all_goals try simp only [go_sem, inj_r, ↓reduceIte, reduceCtorEq, Nat.reduceAdd, Nat.reduceLT, Nat.reduceLeDiff, Nat.reduceEqDiff, Int.reduceEq]
      all_goals (repeat' refine And.intro ?_ ?_) <;> try exact shut7
      all_goals simp only [List.length_replicate]
    · have c : (decide (1 ≤ n) && decide (n ≤ 120)) = false := by
        rw [Bool.and_eq_false_iff, decide_eq_false_iff_not, decide_eq_false_iff_not]; omega
      have hd : dkOpen n = ⟨[], [], []⟩ := by unfold dkOpen; rw [if_neg hn]
      refine goh (And.intro c nf) ?_
      refine W_cnd ?_ ?_ <;> intro hlit <;> try (cases hlit; done)
      refine goh trivial ?_
      rw [hd]
      exact finh [none, none, none] trivial
  · simp [no] at hp
def ucN (code : List UInt8) : Int := ET.int.at [1, 2, 99, 0, -1, 1000000, 1000001] (pickV (code.take 2000) 0 7).toNat
def ucP (code : List UInt8) : Ptr := (ptrD (code.take 2000) (blkDisk (code.take 2000) 1).1 (blkDisk (code.take 2000) 1).2).1
@[go_sem] def ctDrawUber : Ct := ⟨false, [[some .byte]], fun args os => match args, os with
  | [.one (.isl .byte code)], [] => ifp (code.length ≤ 1048576) (.tup [vi (ucN code), (ucP code).tv])
  | _, _ => no⟩
theorem s_drawUber_e : EnterOk Tryz.prog 31 := ⟨_, Tryz.func31, rfl, by decide⟩
@[go_sem] def s_drawUber_lv : List (List Nat) := [[0, 3], [3, 4], [3, 4, 5], [2, 3]]
@[go_sem] noncomputable def s_drawUber_K : Known := ((((Known.nil).cons 96 ctOpen s_open s_open_e).cons 97 ctNum s_num s_num_e).cons 99 ctBlkDisk s_blkDisk s_blkDisk_e).cons 98 ctPtrD s_ptrD s_ptrD_e
set_option maxHeartbeats 8000000 in
theorem s_drawUber : Sound Tryz.prog 31 ctDrawUber := by
  have ke := s_drawUber_K.env []
  have kl : Lives s_drawUber_lv := trivial
  refine sound_intro (E := ⟨ti, s_drawUber_K.Γ, []⟩) ke Tryz.func31 Tryz.ntmps31 rfl (rs := [.tmp 2, .cell 3 55]) rfl ?_
  intro args os hp
  unfold ctDrawUber at hp ⊢
  dsimp only at hp ⊢
  split at hp
  · rename_i code
    refine ⟨by simp, fun φ0 w0 => ?_⟩
    have hlen : code.length ≤ 1048576 := hp
    have hb := take2000 code
    have hr : rdOk2 (code.take 2000) 1 := ⟨by omega, by omega, hb⟩
    obtain ⟨-, ⟨h1, h2, h3⟩, h4, h5⟩ := blkDisk_all (code.take 2000) 1 hr
    have hq : (blkDisk (code.take 2000) 1).2 = (l3c (code.take 2000) 1).2 + 1 := rfl
    have hd : (blkDisk (code.take 2000) 1).1.a.length ≤ 6 ∧ (blkDisk (code.take 2000) 1).1.b.length ≤ 6 ∧ (blkDisk (code.take 2000) 1).1.l.length ≤ 12 := by
      unfold blkDisk
      split
      · exact ⟨Nat.zero_le _, h2, h3⟩
      · exact ⟨h1, h2, h3⟩
    obtain ⟨⟨d, q⟩, hx⟩ : ∃ x, blkDisk (code.take 2000) 1 = x := ⟨_, rfl⟩
    rw [hx] at hq hd
    simp only at hq hd
    obtain ⟨d1, d2, d3⟩ := hd
    have hP : ucP code = (ptrD (code.take 2000) d q).1 := by unfold ucP; rw [hx]
    have v7 := pickV_in (code.take 2000) 0 7 (by omega) (by omega) (by omega)
    have z1 : (0 : Int) + 1 = 1 := rfl
    refine goh (And.intro hx (And.intro z1 hr)) ?_
    refine ⟨by (simp only [go_sem, hP, ucN, ↓reduceIte, reduceCtorEq, Nat.reduceAdd, Nat.reduceLT, Nat.reduceLeDiff, Nat.reduceEqDiff]) <;> trivial, [], ?_⟩
    all_goals try simp only [go_sem, hP, ucN, inj_r, ↓reduceIte, reduceCtorEq, Nat.reduceAdd, Nat.reduceLT, Nat.reduceLeDiff, Nat.reduceEqDiff, Int.reduceEq]
    all_goals (repeat' refine And.intro ?_ ?_) <;> try exact shut7
  · simp [no, ifp] at hp
/-- What a torn write leaves. -/
theorem torn_disk {s t : ByteArray} (hs : s.size ≤ 420) (ht : t.size ≤ 420) :
    dkWrite (dkOpen 2) 0 1 t = ⟨[⟨#[]⟩, ⟨#[]⟩], [⟨#[]⟩, ⟨#[]⟩], [⟨0, 1, t⟩]⟩ ∧
    dkFlush ⟨[⟨#[]⟩, ⟨#[]⟩], [⟨#[]⟩, ⟨#[]⟩], [⟨0, 1, t⟩]⟩ = ⟨[⟨#[]⟩, t], [⟨#[]⟩, ⟨#[]⟩], []⟩ ∧
    dkWrite ⟨[⟨#[]⟩, t], [⟨#[]⟩, ⟨#[]⟩], []⟩ 0 1 s = ⟨[⟨#[]⟩, t], [⟨#[]⟩, ⟨#[]⟩], [⟨0, 1, s⟩]⟩ ∧
    dkFall ⟨[⟨#[]⟩, t], [⟨#[]⟩, ⟨#[]⟩], [⟨0, 1, s⟩]⟩ [2] = ⟨[⟨#[]⟩, torn t s], [⟨#[]⟩, ⟨#[]⟩], []⟩ := by
  have e0 : dkOpen 2 = ⟨[⟨#[]⟩, ⟨#[]⟩], [⟨#[]⟩, ⟨#[]⟩], []⟩ := rfl
  have k0 : Dk.ok ⟨[⟨#[]⟩, ⟨#[]⟩], [⟨#[]⟩, ⟨#[]⟩], []⟩ = true := by decide
  have m0 : Dk.may ⟨[⟨#[]⟩, ⟨#[]⟩], [⟨#[]⟩, ⟨#[]⟩], []⟩ 0 1 t = true := (may_iff _ _ _ _).2 ⟨.inl rfl, by decide, by decide, ht, by decide⟩
  have k1 := Dk.add_ok k0 m0
  have k1 : Dk.ok ⟨[⟨#[]⟩, ⟨#[]⟩], [⟨#[]⟩, ⟨#[]⟩], [⟨0, 1, t⟩]⟩ = true := k1
  have e1 : dkFlush ⟨[⟨#[]⟩, ⟨#[]⟩], [⟨#[]⟩, ⟨#[]⟩], [⟨0, 1, t⟩]⟩ = ⟨[⟨#[]⟩, t], [⟨#[]⟩, ⟨#[]⟩], []⟩ := by unfold dkFlush; rw [if_pos k1]; rfl
  have k2 : Dk.ok ⟨[⟨#[]⟩, t], [⟨#[]⟩, ⟨#[]⟩], []⟩ = true := by rw [← e1]; exact dkFlush_ok k1
  have m2 : Dk.may ⟨[⟨#[]⟩, t], [⟨#[]⟩, ⟨#[]⟩], []⟩ 0 1 s = true := (may_iff _ _ _ _).2 ⟨.inl rfl, by show (0 : Int) ≤ 1; decide, by show (1 : Int) < 2; decide, hs, by show 0 < 600; decide⟩
  have k3 : Dk.ok ⟨[⟨#[]⟩, t], [⟨#[]⟩, ⟨#[]⟩], [⟨0, 1, s⟩]⟩ = true := Dk.add_ok k2 m2
  refine ⟨?_, e1, ?_, ?_⟩
  · rw [e0]; unfold dkWrite; rw [if_pos k0, if_pos m0]; rfl
  · unfold dkWrite; rw [if_pos k2, if_pos m2]; rfl
  · unfold dkFall; rw [if_pos k3]; rfl
end Go.Proofs.YtjedcphhajlnoaaGreatDoor
/- From a contract to the given statement: laws of one text of bytes. -/
namespace Go.Proofs.YtjedcphhajlnoaaGreatDoor
open Go.ChangeShapes Go.WideShapes Go.ChangeAt Go.RowKit

theorem own : ownKnob Tryz.prog.godebug = none := by kernel_rfl
theorem laidOut : laidOutB Tryz.prog = true := by kernel_rfl

def bytesOf (zs : List Int) : List UInt8 := zs.map fun n => UInt8.ofNat n.toNat
/-- What is known of a slice of bytes that came in. -/
def IsBytes (w : World) (v : Value) (bs : List UInt8) : Prop :=
  ∃ a cap, v = .slice a bs.length cap ∧ bs.length ≤ cap ∧ (a = none → cap = 0) ∧ (∀ ad, a = some ad → ad.spot = none) ∧ (bs ≠ [] → ∃ b o, a = some ⟨b, o, none⟩ ∧ b < w.heap.size ∧ CellsAt w b o (bs.flatMap (ET.cells .byte)))
theorem bytes_open {H : Type} {enc : TypeId × Value → H} {P : Program} {w : World} {base : Nat} {spare : Nat → Bool} {held : Bool} {t e : TypeId} {v : Value} {x : DataW H × List MemPlace} (ht : P.underlying t = some (.slice e)) (he : P.underlying e = some (.int .u8)) (hc : P.cellsOf e = 1)
    (hv : Value.okWide P w .any base t v) {fuel : Nat} (h : DataW.trod enc P w 0 spare held fuel t v.cells.toList = some x) : ∃ bs, IsBytes w v bs := by
  obtain ⟨a, len, cap, rfl⟩ := okWide_slice ht hv
  rcases open_ints ht he hc h with ⟨hcs, _⟩ | ⟨x, l, c, zs, hcs, _, hl, hm, hz, _, hcell, hwz⟩
  · simp [Value.cells] at hcs
    obtain ⟨rfl, rfl, rfl⟩ := hcs
    exact ⟨[], none, 0, rfl, Nat.le_refl _, fun _ => rfl, fun _ h => by simp at h, fun h => absurd rfl h⟩
  · simp [Value.cells] at hcs
    obtain ⟨rfl, rfl, rfl⟩ := hcs
    have hsp : x.spot = none := by
      simp only [Value.okWide, ht, Cell.okWide, Cell.ok] at hv
      exact hv.2.2.2.1
    obtain ⟨b, o, sp⟩ := x
    simp only at hsp
    subst hsp
    have hlz : len ≤ zs.length := by
      rw [hz]; split
      · exact hl
      · exact Nat.le_refl _
    have hlen : (bytesOf (zs.take len)).length = len := by
      unfold bytesOf; rw [List.length_map, List.length_take]; omega
    have hval : ∀ i, i < len → w.cell? ⟨b, o + i, none⟩ = some (.int .u8 ((bytesOf (zs.take len)).getD i 0).toNat) := by
      intro i hi
      have h1 := hcell i (by omega)
      have h2 := hwz (zs.getD i 0) (by
        rw [List.getD_eq_getElem?_getD, List.getElem?_eq_getElem (show i < zs.length by omega)]
        exact List.getElem_mem _)
      have h3 : 0 ≤ zs.getD i 0 ∧ zs.getD i 0 ≤ 255 := by
        have : ∀ n : Int, (Lit.int .u8 n).wf = true → 0 ≤ n ∧ n ≤ 255 := by
          intro n hn
          simp [Lit.wf, show IntKind.u8.min = 0 from rfl, show IntKind.u8.max = 255 from rfl] at hn
          omega
        exact this _ h2
      have h4 : ((bytesOf (zs.take len)).getD i 0) = UInt8.ofNat (zs.getD i 0).toNat := by
        unfold bytesOf
        rw [List.getD_eq_getElem?_getD, List.getElem?_map, List.getElem?_take, if_pos hi, List.getD_eq_getElem?_getD, List.getElem?_eq_getElem (show i < zs.length by omega)]
        rfl
      rw [h4, UInt8.toNat_ofNat']
      have h6 : (Addr.mk b o none).add i = Addr.mk b (o + i) none := by
        unfold Addr.add; split
        · rename_i h; subst h; rfl
        · rfl
      rw [h6] at h1
      rw [h1]
      congr 2
      omega
    refine ⟨bytesOf (zs.take len), some ⟨b, o, none⟩, cap, by rw [hlen], by rw [hlen]; exact hl, (fun h => by cases h), (fun ad h => by cases h; rfl), fun hne => ⟨b, o, rfl, ?_, ?_⟩⟩
    · have : 0 < len := by
        rw [← hlen]; exact List.length_pos_iff.2 hne
      have h0 := hval 0 this
      unfold World.cell? at h0
      rcases Nat.lt_or_ge b w.heap.size with hb | hb
      · exact hb
      · rw [Array.getElem?_eq_none hb] at h0; cases h0
    · intro i v hv
      have hi : i < len := by
        have := (List.getElem?_eq_some_iff.1 hv).1
        rw [flat_len, hlen] at this
        simpa [ET.sz] using this
      rw [hval i hi]
      have h5 := flat_get .byte (bytesOf (zs.take len)) i 0 (by rw [hlen]; exact hi) (by decide)
      have h6 : i * ET.byte.sz + 0 = i := by simp [ET.sz]
      rw [h6, hv] at h5
      simp only [ET.cells, List.getElem?_cons_zero, Option.some.injEq] at h5
      rw [h5, List.getD_eq_getElem?_getD, List.getElem?_eq_getElem (by rw [hlen]; exact hi)]
      rfl
def phi0 : Phi := ⟨fun _ => none, fun _ => False⟩
theorem not_own0 {b : Nat} : ¬ Own phi0 (tabOf []) b := fun ⟨k, base, h, _⟩ => by simp [tabOf] at h
theorem isBytes_R {w : World} {v : Value} {bs : List UInt8} (h : IsBytes w v bs) : VR phi0 (tabOf []) w (.one (.isl .byte bs)) v := by
  obtain ⟨a, cap, h1, h2, h3, h4, h5⟩ := h
  simp only [VR, CR]
  exact ⟨a, cap, h1, h2, h3, h4, fun hne => by
    obtain ⟨b, o, h6, h7, h8⟩ := h5 hne
    exact ⟨b, o, h6, ⟨h7, not_own0, fun hf => hf⟩, h8⟩⟩
theorem glo_none (h : gloL = []) (w : World) : GloOk0 w := fun q hq => by rw [h] at hq; cases hq
theorem rel0 (w : World) (hg : GloOk0 w) : Rel phi0 (tabOf []) w := ⟨fun k o h => by simp [tabOf] at h, fun k _ _ _ _ h _ _ _ => by simp [tabOf] at h, fun b h => h.elim, fun q hq => ⟨fun ⟨k, _, h, _⟩ => h (by simp [tabOf]), hg q hq⟩⟩
/-- A contract that hands over nothing and gets nothing new back: what was there is as it was. -/
theorem post_below {w w' : World} {n : Nat} {s : St} {e : Ending} (h : Post phi0 (tabOf []) w n s e w') : ∃ r φ', e = .returned r ∧ VR φ' (newT (tabOf []) n s) w' s.v r ∧ Below w.heap.size w w' := by
  obtain ⟨r, φ', h1, h2, -, hg, -⟩ := h
  exact ⟨r, φ', h1, h2, hg.os, hg.tape, hg.output, hg.size, fun b hb => hg.block b hb not_own0⟩
@[go_sem] def ctLaw1 : Ct := ⟨false, [[some .byte]], fun args os => match args, os with
  | [.one (.isl .byte code)], [] => ⟨True, vb true, [], []⟩
  | _, _ => no⟩
@[go_sem] def ctLaw2 : Ct := ⟨false, [[some .byte], [some .byte]], fun args os => match args, os with
  | [.one (.isl .byte code), .one (.isl .byte more)], [] => ⟨True, vb true, [], []⟩
  | _, _ => no⟩
theorem law1 {f : FuncId} (h : Sound Tryz.prog f ctLaw1) {w : World} {v : Value} {bs : List UInt8} (hb : IsBytes w v bs) (hg : GloOk0 w) :
    Calls Tryz.prog f #[v] w fun e w' => e = .returned (.bool true) ∧ Below w.heap.size w w' := by
  refine (h [.one (.isl .byte bs)] [] trivial phi0 w [v] (rel0 w hg) (by simp only [VRs]; exact ⟨isBytes_R hb, trivial⟩) fun _ _ => rfl).mono ?_
  rintro e w' hp
  obtain ⟨r, φ', rfl, hv, hbl⟩ := post_below hp
  simp only [ctLaw1, vb, VR, CR] at hv
  subst hv
  exact ⟨rfl, hbl⟩
theorem law2 {f : FuncId} (h : Sound Tryz.prog f ctLaw2) {w : World} {v u : Value} {bs cs : List UInt8} (hb : IsBytes w v bs) (hc : IsBytes w u cs) (hg : GloOk0 w) :
    Calls Tryz.prog f #[v, u] w fun e w' => e = .returned (.bool true) ∧ Below w.heap.size w w' := by
  refine (h [.one (.isl .byte bs), .one (.isl .byte cs)] [] trivial phi0 w [v, u] (rel0 w hg) (by simp only [VRs]; exact ⟨isBytes_R hb, isBytes_R hc, trivial⟩) fun _ _ => rfl).mono ?_
  rintro e w' hp
  obtain ⟨r, φ', rfl, hv, hbl⟩ := post_below hp
  simp only [ctLaw2, vb, VR, CR] at hv
  subst hv
  exact ⟨rfl, hbl⟩
end Go.Proofs.YtjedcphhajlnoaaGreatDoor
/- The law of torn root pointers: for all codes FnCoreTorn answers true. -/
namespace Go.Proofs.YtjedcphhajlnoaaGreatDoor
open Go.RowKit

theorem torn_list (t s : ByteArray) : ∃ i z, (z = t.data.toList.drop i ∨ z = []) ∧ (torn t s).data.toList = s.data.toList.take i ++ z := by
  unfold torn
  split
  · refine ⟨s.size / 2, _, .inl rfl, ?_⟩
    rw [ByteArray.data_append, Array.toList_append, Lib.extract_from_zero, Lib.extract_to_end]
  · exact ⟨s.size / 2, [], .inr rfl, by rw [Lib.extract_from_zero, List.append_nil]⟩
theorem torn_law {n m k : Int} {p q r : Ptr} (hs : uberT n p ≠ ⟨#[]⟩) (hnm : n ≠ m) (h : uberP (torn (uberT m q) (uberT n p)) = some (k, r)) : (k = n ∧ r = p) ∨ (k = m ∧ r = q) := by
  obtain ⟨hk, ht⟩ := uberP_iff.1 h
  have hn : uberOk n p := by
    by_cases hn : uberOk n p
    · exact hn
    · exact absurd (uber_no hn) hs
  have hm : uberOk m q ∨ uberT m q = ⟨#[]⟩ := by
    by_cases hm : uberOk m q
    · exact .inl hm
    · exact .inr (uber_no hm)
  obtain ⟨i, z, hz, hl⟩ := torn_list (uberT m q) (uberT n p)
  rw [← ht] at hl
  exact torn_uber hk hn hm hnm i hz hl
theorem torn_size2 (t s : ByteArray) : (torn t s).size ≤ t.size + s.size := by
  unfold torn
  split
  · rw [ByteArray.size_append, ByteArray.size_extract, ByteArray.size_extract]; omega
  · rw [ByteArray.size_extract]; omega
theorem s_lawTorn_e : EnterOk Tryz.prog 6 := ⟨_, Tryz.func6, rfl, by decide⟩
@[go_sem] def s_lawTorn_lv : List (List Nat) := [[0, 1], [0, 1, 22], [4], [1, 5, 6], [5, 6, 7, 8], [5, 6, 7, 8, 9], [5, 6, 7, 8, 9, 10], [5, 6, 7, 8, 9, 10, 52], [4], [5, 6, 7, 8, 9, 10, 11], [5, 6, 7, 8, 9, 11], [5, 6, 7, 8, 11], [5, 6, 7, 8, 12, 13, 14], [4]]
@[go_sem] noncomputable def s_lawTorn_K : Known := ((((((((Known.nil).cons 31 ctDrawUber s_drawUber s_drawUber_e).cons 32 ctUber s_uber s_uber_e).cons 33 ctUber s_specUber s_specUber_e).cons 34 ctSpecOpen s_diskOpen s_diskOpen_e).cons 35 ctDiskWrite s_diskWrite s_diskWrite_e).cons 36 ctDiskFlush s_diskFlush s_diskFlush_e).cons 38 ctDiskFall s_diskFall s_diskFall_e).cons 37 ctUberRead s_uberRead s_uberRead_e
set_option maxHeartbeats 8000000 in
theorem s_lawTorn : Sound Tryz.prog 6 ctLaw2 := by
  have ke := s_lawTorn_K.env []
  have kl : Lives s_lawTorn_lv := trivial
  refine sound_intro (E := ⟨ti, s_lawTorn_K.Γ, []⟩) ke Tryz.func6 Tryz.ntmps6 rfl (rs := [.tmp 4]) rfl ?_
  intro args os hp
  unfold ctLaw2 at hp ⊢
  dsimp only at hp ⊢
  split at hp
  · rename_i code more
    refine ⟨by simp, fun φ0 w0 => ?_⟩
    clear hp
    refine goh trivial ?_
    refine W_cnd ?_ ?_ <;> (try simp only [cnd_r]) <;> intro hlen
    · refine goh trivial ?_
      exact finh [] trivial
    · have hl1 : code.length ≤ 1048576 := by omega
      have hl2 : more.length ≤ 1048576 := by omega
      have nt : (!true) = false := rfl
      have nf : (!false) = true := rfl
      obtain ⟨n, hn⟩ : ∃ n, ucN code = n := ⟨_, rfl⟩
      obtain ⟨m, hm⟩ : ∃ n, ucN more = n := ⟨_, rfl⟩
      obtain ⟨⟨pa, ps, pb⟩, hpp⟩ : ∃ p, ucP code = p := ⟨_, rfl⟩
      obtain ⟨⟨qa, qs, qb⟩, hqq⟩ : ∃ p, ucP more = p := ⟨_, rfl⟩
      have z1 := uberT_size n ⟨pa, ps, pb⟩
      have z2 := uberT_size m ⟨qa, qs, qb⟩
      have hlaw := fun k r => @torn_law n m k ⟨pa, ps, pb⟩ ⟨qa, qs, qb⟩ r
      obtain ⟨s, hs⟩ : ∃ s, uberT n ⟨pa, ps, pb⟩ = s := ⟨_, rfl⟩
      obtain ⟨t, ht⟩ : ∃ s, uberT m ⟨qa, qs, qb⟩ = s := ⟨_, rfl⟩
      rw [hs] at z1 hlaw
      rw [ht] at z2 hlaw
      have hss : same s s = true := same_true.2 rfl
      by_cases he : s = ⟨#[]⟩
      · have c1 : same s ⟨#[]⟩ = true := same_true.2 he
        refine goh (And.intro hl1 (And.intro hl2 (And.intro hn (And.intro hm (And.intro hpp (And.intro hqq (And.intro hs (And.intro ht (And.intro hss (And.intro c1 nt)))))))))) ?_
        refine W_cnd ?_ ?_ <;> intro hlit <;> try (cases hlit; done)
        refine goh (And.intro hs hss) ?_
        exact finh [] trivial
      · have c1 : same s ⟨#[]⟩ = false := same_false.2 he
        by_cases hnm : n = m
        · have c2 : (n == m) = true := by simp [hnm]
          refine goh (And.intro hl1 (And.intro hl2 (And.intro hn (And.intro hm (And.intro hpp (And.intro hqq (And.intro hs (And.intro ht (And.intro hss (And.intro c1 (And.intro c2 nt))))))))))) ?_
          refine W_cnd ?_ ?_ <;> intro hlit <;> try (cases hlit; done)
          refine goh (And.intro hs hss) ?_
          exact finh [] trivial
        · have c2 : (n == m) = false := by simp [hnm]
          have c3 : (m == n) = false := by simp [Ne.symm hnm]
          obtain ⟨t1, t2, t3, t4⟩ := torn_disk (s := s) (t := t) (by omega) (by omega)
          have hts := torn_size2 t s
          have hlaw2 := fun k r => hlaw k r he hnm
          refine goh (And.intro hl1 (And.intro hl2 (And.intro hn (And.intro hm (And.intro hpp (And.intro hqq (And.intro hs (And.intro ht (And.intro hss (And.intro c1 (And.intro c2 nt))))))))))) ?_
          refine W_cnd ?_ ?_ <;> intro hlit <;> try (cases hlit; done)
          have o2 : dkOpen 2 = ⟨[⟨#[]⟩, ⟨#[]⟩], [⟨#[]⟩, ⟨#[]⟩], []⟩ := rfl
          rw [o2] at t1
          cases hu : uberP (torn t s) with
          | none =>
            refine goh (And.intro o2 (And.intro t1 (And.intro t2 (And.intro t3 (And.intro t4 (And.intro hu (And.intro hts nf))))))) ?_
            exact finh [] trivial
          | some x =>
            obtain ⟨k, ⟨ra, rs, rb⟩⟩ := x
            rcases hlaw2 k ⟨ra, rs, rb⟩ hu with ⟨e1, e2⟩ | ⟨e1, e2⟩
            · cases e2
              subst e1
              have ck : (k == k) = true := beq_self_eq_true k
              have cp : same (Ptr.mk pa ps pb) (Ptr.mk pa ps pb) = true := same_true.2 rfl
              refine goh (And.intro o2 (And.intro t1 (And.intro t2 (And.intro t3 (And.intro t4 (And.intro hu (And.intro hts (And.intro nt (And.intro nf (And.intro ck cp)))))))))) ?_
              exact finh [] trivial
            · cases e2
              subst e1
              have ck : (k == k) = true := beq_self_eq_true k
              have cp : same (Ptr.mk qa qs qb) (Ptr.mk qa qs qb) = true := same_true.2 rfl
              refine goh (And.intro o2 (And.intro t1 (And.intro t2 (And.intro t3 (And.intro t4 (And.intro hu (And.intro hts (And.intro nt (And.intro nf (And.intro ck (And.intro cp c3))))))))))) ?_
              exact finh [] trivial
  · simp [no] at hp
end Go.Proofs.YtjedcphhajlnoaaGreatDoor
/- The law of records: for all codes FnLogBack answers true. -/
namespace Go.Proofs.YtjedcphhajlnoaaGreatDoor
open Go.RowKit

@[go_sem] theorem valsEq_lrec (t s k i t' s' k' i' : Int) (a b x a' b' x' : ByteArray) : valsEq [.int .i64 t, .int .i64 s, .int .i64 k, .string a, .string b, .int .i64 i, .string x] [.int .i64 t', .int .i64 s', .int .i64 k', .string a', .string b', .int .i64 i', .string x'] = same (LRec.mk t s ⟨k, a, b, i, x⟩) (LRec.mk t' s' ⟨k', a', b', i', x'⟩) := by
  rw [Bool.eq_iff_iff, same_true]
  simp only [valsEq, toList_same, Bool.and_eq_true, beq_iff_eq, same_true, LRec.mk.injEq, BOp.mk.injEq, and_true]
theorem log_law {n m k : LRec} (hn : LogOk n) (hnm : m.txg ≠ n.txg) (h : logP (torn (logT m) (logT n)) = some k) : k = n ∨ k = m := by
  obtain ⟨hk, ht⟩ := logP_some.1 h
  have hm : LogOk m ∨ logT m = ⟨#[]⟩ := by
    by_cases hm : LogOk m
    · exact .inl hm
    · exact .inr (logT_no hm)
  obtain ⟨i, z, hz, hl⟩ := torn_list (logT m) (logT n)
  rw [← ht] at hl
  exact log_torn hk hn hm hnm i hz hl
theorem logT_some {r : LRec} (h : LogOk r) : logT r ≠ ⟨#[]⟩ := fun e => by
  have h2 := open_log h
  rw [e, open_nil] at h2
  exact Bool.noConfusion (show false = true from congrArg Prod.snd h2)
theorem s_lawLog_e : EnterOk Tryz.prog 11 := ⟨_, Tryz.func11, rfl, by decide⟩
@[go_sem] def s_lawLog_lv : List (List Nat) := [[0, 1], [0, 1, 26], [4], [1, 5], [1, 5, 6], [1, 5, 6, 7, 8], [1, 5, 6, 52], [4], [1, 5, 6, 9], [1, 5, 6, 9, 10, 11], [1, 5, 6, 9, 10, 11, 13], [1, 5, 6, 76], [4], [5, 6, 14], [5, 6, 14, 87], [4], [5, 6, 14, 15], [5, 6, 14, 15], [5, 14, 15], [5, 14, 16], [5, 14, 17, 18], [4]]
@[go_sem] noncomputable def s_lawLog_K : Known := ((((((((((Known.nil).cons 56 ctDrawRec s_drawRec s_drawRec_e).cons 57 ctLogText s_logText s_logText_e).cons 58 ctLogRead s_logRead s_logRead_e).cons 59 ctLogText s_specLogText s_specLogText_e).cons 60 ctDrawTxt s_drawTxt s_drawTxt_e).cons 61 ctLogRead s_specLogRead s_specLogRead_e).cons 34 ctSpecOpen s_diskOpen s_diskOpen_e).cons 35 ctDiskWrite s_diskWrite s_diskWrite_e).cons 36 ctDiskFlush s_diskFlush s_diskFlush_e).cons 38 ctDiskFall s_diskFall s_diskFall_e
set_option maxHeartbeats 8000000 in
theorem s_lawLog : Sound Tryz.prog 11 ctLaw2 := by
  have ke := s_lawLog_K.env []
  have kl : Lives s_lawLog_lv := trivial
  refine sound_intro (E := ⟨ti, s_lawLog_K.Γ, []⟩) ke Tryz.func11 Tryz.ntmps11 rfl (rs := [.tmp 4]) rfl ?_
  intro args os hp
  unfold ctLaw2 at hp ⊢
  dsimp only at hp ⊢
  split at hp
  · rename_i code more
    refine ⟨by simp, fun φ0 w0 => ?_⟩
    clear hp
    refine goh trivial ?_
    refine W_cnd ?_ ?_ <;> (try simp only [cnd_r]) <;> intro hlen
    · refine goh trivial ?_
      exact finh [] trivial
    · have hl1 : code.length ≤ 1048576 := by omega
      have hl2 : more.length ≤ 1048576 := by omega
      have nt : (!true) = false := rfl
      have nf : (!false) = true := rfl
      have tt : (true == true) = true := rfl
      have ff : (false == false) = true := rfl
      obtain ⟨ka, -, -⟩ := recD_all (code.take 2000) (p := 0) (by omega) (by omega) (take2000 code)
      obtain ⟨kb, -, -⟩ := recD_all (more.take 2000) (p := 0) (by omega) (by omega) (take2000 more)
      have hXs : (txtV more).size ≤ 1000 := by
        have h1 := tornD_size (more.take 2000) (logT (recV more)) (recD (more.take 2000) 0).2
        have h2 := logT_size (recV more)
        unfold txtV; omega
      have ka : (recV code).op.a.size ≤ 7 := ka
      have kb : (recV more).op.a.size ≤ 7 := kb
      obtain ⟨r, hr⟩ : ∃ r, recV code = r := ⟨_, rfl⟩
      obtain ⟨o, ho⟩ : ∃ r, recV more = r := ⟨_, rfl⟩
      obtain ⟨X, hX⟩ : ∃ x, txtV more = x := ⟨_, rfl⟩
      rw [hr] at ka
      rw [ho] at kb
      rw [hX] at hXs
      have zS := logT_size r
      have zT := logT_size o
      have hlaw := fun k h1 h2 => @log_law r o k h1 h2
      have hsome := @logT_some r
      have hno := @logT_no r
      have hPok := fun h : LogOk r => logP_some.2 ⟨h, rfl⟩
      obtain ⟨S, hS⟩ : ∃ s, logT r = s := ⟨_, rfl⟩
      obtain ⟨T, hT⟩ : ∃ s, logT o = s := ⟨_, rfl⟩
      rw [hS] at zS hlaw hsome hno hPok
      rw [hT] at zT hlaw
      have hss : same S S = true := same_true.2 rfl
      obtain ⟨t, s, ⟨k, a, b, i, x⟩⟩ := r
      obtain ⟨t', s', ⟨k', a', b', i', x'⟩⟩ := o
      simp only at ka kb hlaw
      have ka2 : a.size ≤ 9223372036854775807 := by omega
      have kb2 : a'.size ≤ 9223372036854775807 := by omega
      have zS2 : S.size ≤ 1000000 := by omega
      have hXs2 : X.size ≤ 1000000 := by omega
      have hrr : same (LRec.mk t s ⟨k, a, b, i, x⟩) (LRec.mk t s ⟨k, a, b, i, x⟩) = true := same_true.2 rfl
      have hoo : same (LRec.mk t' s' ⟨k', a', b', i', x'⟩) (LRec.mk t' s' ⟨k', a', b', i', x'⟩) = true := same_true.2 rfl
      -- what the drawn text holds
      have hY : ∀ y, logP X = some y → logT y = X ∧ y.op.a.size ≤ 9223372036854775807 := fun y h => by
        obtain ⟨h1, h2⟩ := logP_some.1 h
        have := (name_size h1.a).2
        exact ⟨h2, by omega⟩
      have hXX : same X X = true := same_true.2 rfl
      by_cases hok : LogOk ⟨t, s, ⟨k, a, b, i, x⟩⟩
      · have c1 : same S ⟨#[]⟩ = false := same_false.2 (hsome hok)
        have hP := hPok hok
        refine goh (And.intro hl1 (And.intro hl2 (And.intro hr (And.intro ka2 (And.intro hS (And.intro zS2 (And.intro hP (And.intro hss (And.intro c1 (And.intro hrr (And.intro nt nf))))))))))) ?_
        refine W_cnd ?_ ?_ <;> intro hlit <;> try (cases hlit; done)
        have rest : ∀ c : Bool, decide (t' = t) = c → ((t' == t) = c) := fun c h => by rw [← h]; rfl
        cases hPX : logP X with
        | none =>
          refine goh (And.intro hl2 (And.intro hX (And.intro hXs2 (And.intro hPX (And.intro ff nt))))) ?_
          refine W_cnd ?_ ?_ <;> intro hlit <;> try (cases hlit; done)
          by_cases htt : t' = t
          · have c2 : (t' == t) = true := by simp [htt]
            refine goh (And.intro hl2 (And.intro ho (And.intro c1 c2))) ?_
            refine W_cnd ?_ ?_ <;> intro hlit <;> try (cases hlit; done)
            refine goh trivial ?_
            exact finh [] trivial
          · have c2 : (t' == t) = false := by simp [htt]
            obtain ⟨t1, t2, t3, t4⟩ := torn_disk (s := S) (t := T) (by omega) (by omega)
            have o2 : dkOpen 2 = ⟨[⟨#[]⟩, ⟨#[]⟩], [⟨#[]⟩, ⟨#[]⟩], []⟩ := rfl
            rw [o2] at t1
            have hts := torn_size2 T S
            refine goh (And.intro hl2 (And.intro ho (And.intro c1 c2))) ?_
            refine W_cnd ?_ ?_ <;> intro hlit <;> try (cases hlit; done)
            cases hu : logP (torn T S) with
            | none =>
              refine goh (And.intro kb2 (And.intro hT (And.intro o2 (And.intro t1 (And.intro t2 (And.intro t3 (And.intro t4 (And.intro hu (And.intro hts nf))))))))) ?_
              exact finh [] trivial
            | some z =>
              rcases hlaw z hok htt hu with rfl | rfl
              · refine goh (And.intro kb2 (And.intro hT (And.intro o2 (And.intro t1 (And.intro t2 (And.intro t3 (And.intro t4 (And.intro hu (And.intro hts (And.intro nt hrr)))))))))) ?_
                exact finh [] trivial
              · have hne : same (LRec.mk t' s' ⟨k', a', b', i', x'⟩) (LRec.mk t s ⟨k, a, b, i, x⟩) = false := same_false.2 (fun e => htt (congrArg LRec.txg e))
                refine goh (And.intro kb2 (And.intro hT (And.intro o2 (And.intro t1 (And.intro t2 (And.intro t3 (And.intro t4 (And.intro hu (And.intro hts (And.intro nt (And.intro hoo hne))))))))))) ?_
                exact finh [] trivial
        | some y =>
          obtain ⟨y1, y2⟩ := hY y hPX
          obtain ⟨yt, ys, ⟨yk, ya, yb, yi, yx⟩⟩ := y
          simp only at y2
          refine goh (And.intro hl2 (And.intro hX (And.intro hXs2 (And.intro hPX (And.intro tt (And.intro nt (And.intro y1 (And.intro y2 hXX)))))))) ?_
          refine W_cnd ?_ ?_ <;> intro hlit <;> try (cases hlit; done)
          by_cases htt : t' = t
          · have c2 : (t' == t) = true := by simp [htt]
            refine goh (And.intro hl2 (And.intro ho (And.intro c1 c2))) ?_
            refine W_cnd ?_ ?_ <;> intro hlit <;> try (cases hlit; done)
            refine goh trivial ?_
            exact finh [] trivial
          · have c2 : (t' == t) = false := by simp [htt]
            obtain ⟨t1, t2, t3, t4⟩ := torn_disk (s := S) (t := T) (by omega) (by omega)
            have o2 : dkOpen 2 = ⟨[⟨#[]⟩, ⟨#[]⟩], [⟨#[]⟩, ⟨#[]⟩], []⟩ := rfl
            rw [o2] at t1
            have hts := torn_size2 T S
            refine goh (And.intro hl2 (And.intro ho (And.intro c1 c2))) ?_
            refine W_cnd ?_ ?_ <;> intro hlit <;> try (cases hlit; done)
            cases hu : logP (torn T S) with
            | none =>
              refine goh (And.intro kb2 (And.intro hT (And.intro o2 (And.intro t1 (And.intro t2 (And.intro t3 (And.intro t4 (And.intro hu (And.intro hts nf))))))))) ?_
              exact finh [] trivial
            | some z =>
              rcases hlaw z hok htt hu with rfl | rfl
              · refine goh (And.intro kb2 (And.intro hT (And.intro o2 (And.intro t1 (And.intro t2 (And.intro t3 (And.intro t4 (And.intro hu (And.intro hts (And.intro nt hrr)))))))))) ?_
                exact finh [] trivial
              · have hne : same (LRec.mk t' s' ⟨k', a', b', i', x'⟩) (LRec.mk t s ⟨k, a, b, i, x⟩) = false := same_false.2 (fun e => htt (congrArg LRec.txg e))
                refine goh (And.intro kb2 (And.intro hT (And.intro o2 (And.intro t1 (And.intro t2 (And.intro t3 (And.intro t4 (And.intro hu (And.intro hts (And.intro nt (And.intro hoo hne))))))))))) ?_
                exact finh [] trivial
      · have e0 := hno hok
        have c1 : same S ⟨#[]⟩ = true := same_true.2 e0
        have hP : logP S = none := by rw [e0]; exact logP_closed (by rw [open_nil])
        refine goh (And.intro hl1 (And.intro hl2 (And.intro hr (And.intro ka2 (And.intro hS (And.intro zS2 (And.intro hP (And.intro hss (And.intro c1 (And.intro nt nf)))))))))) ?_
        refine W_cnd ?_ ?_ <;> intro hlit <;> try (cases hlit; done)
        cases hPX : logP X with
        | none =>
          refine goh (And.intro hl2 (And.intro hX (And.intro hXs2 (And.intro hPX (And.intro ff nt))))) ?_
          refine W_cnd ?_ ?_ <;> intro hlit <;> try (cases hlit; done)
          refine goh (And.intro hl2 (And.intro ho c1)) ?_
          refine W_cnd ?_ ?_ <;> intro hlit <;> try (cases hlit; done)
          refine goh trivial ?_
          exact finh [] trivial
        | some y =>
          obtain ⟨y1, y2⟩ := hY y hPX
          obtain ⟨yt, ys, ⟨yk, ya, yb, yi, yx⟩⟩ := y
          simp only at y2
          refine goh (And.intro hl2 (And.intro hX (And.intro hXs2 (And.intro hPX (And.intro tt (And.intro nt (And.intro y1 (And.intro y2 hXX)))))))) ?_
          refine W_cnd ?_ ?_ <;> intro hlit <;> try (cases hlit; done)
          refine goh (And.intro hl2 (And.intro ho c1)) ?_
          refine W_cnd ?_ ?_ <;> intro hlit <;> try (cases hlit; done)
          refine goh trivial ?_
          exact finh [] trivial
  · simp [no] at hp
end Go.Proofs.YtjedcphhajlnoaaGreatDoor
