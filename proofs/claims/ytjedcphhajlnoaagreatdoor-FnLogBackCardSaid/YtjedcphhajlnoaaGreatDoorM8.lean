import Derived.Test.YtjedcphhajlnoaaGreatDoorM6
import Derived.Test.YtjedcphhajlnoaaGreatDoorM7
set_option linter.unusedSimpArgs false
set_option linter.unusedVariables false
set_option linter.unusedSectionVars false
/- Functions: decay. -/
namespace Go.Proofs.YtjedcphhajlnoaaGreatDoor
open Go.RowKit

/-- A byte, some of its bits turned. -/
def turn (x : UInt8) (mask : Int) : UInt8 := UInt8.ofNat (IntKind.u8.wrap ((BitVec.ofInt 8 (x.toNat : Int) ^^^ BitVec.ofInt 8 (IntKind.u8.wrap mask)).toNat : Int)).toNat
def rotB (s : ByteArray) (k mask : Int) : ByteArray := ⟨(s.data.toList.set k.toNat (turn (s.data.toList.getD k.toNat ET.byte.dflt) mask)).toArray⟩
def Dk.mayRot (d : Dk) (s at_ k mask : Int) : Bool := sector d.a.length s at_ && decide (0 ≤ k) && decide (k < (sec (d.a, d.b) s at_).size) && decide (1 ≤ mask) && decide (mask ≤ 255)
def Dk.rot (d : Dk) (s at_ k mask : Int) : Dk := ⟨(putW (d.a, d.b) ⟨s, at_, rotB (sec (d.a, d.b) s at_) k mask⟩).1, (putW (d.a, d.b) ⟨s, at_, rotB (sec (d.a, d.b) s at_) k mask⟩).2, d.l⟩
def dkRot (d : Dk) (s at_ k mask : Int) : Dk := if d.ok then if d.mayRot s at_ k mask then d.rot s at_ k mask else d else .nil
@[go_sem] def ctDiskRot : Ct := ⟨false, [[some .str, some .str, some .late]], fun args os => match args, os with
  | [.agg [.isl .str a, .isl .str b, .isl .late l], .one (.val (.int .i64 s)), .one (.val (.int .i64 i)), .one (.val (.int .i64 k)), .one (.val (.int .i64 mask))], [] => ⟨(Dk.mk a b l).small, (dkRot ⟨a, b, l⟩ s i k mask).v 0, [], (dkRot ⟨a, b, l⟩ s i k mask).objs⟩
  | _, _ => no⟩
theorem fits_sector (n : Nat) (s k : Int) : fits n s k ⟨#[]⟩ = sector n s k := by
  have : (⟨#[]⟩ : ByteArray).size = 0 := rfl
  unfold fits sector
  rw [Bool.eq_iff_iff]
  simp only [Bool.and_eq_true, decide_eq_true_eq, this]
  omega
theorem sector_iff (n : Nat) (s k : Int) : sector n s k = true ↔ (s = 0 ∨ s = 1) ∧ 0 ≤ k ∧ k < n := by
  unfold sector
  simp only [Bool.and_eq_true, decide_eq_true_eq]
  omega
theorem s_specRot_e : EnterOk Tryz.prog 124 := ⟨_, Tryz.func124, rfl, by decide⟩
@[go_sem] def s_specRot_lv : List (List Nat) := [[1, 2, 3, 4, 5, 10], [1, 2, 3, 4, 5, 10, 15], [10], [1, 2, 3, 4, 5, 10, 11], [1, 2, 3, 4, 10, 11, 47], [10], [1, 2, 3, 4, 10, 11, 12], [1, 2, 10, 11, 12], [10, 11], [10]]
@[go_sem] noncomputable def s_specRot_K : Known := (((Known.nil).cons 28 ctDiskOk s_specDiskOk s_specDiskOk_e).cons 85 ctOwn s_copy s_copy_e).cons 93 ctThere s_there s_there_e
set_option maxHeartbeats 8000000 in
theorem s_specRot : Sound Tryz.prog 124 ctDiskRot := by
  have ke := s_specRot_K.env []
  have kl : Lives s_specRot_lv := trivial
  refine sound_intro (E := ⟨ti, s_specRot_K.Γ, []⟩) ke Tryz.func124 Tryz.ntmps124 rfl (rs := [.cell 10 39]) rfl ?_
  intro args os hp
  unfold ctDiskRot at hp ⊢
  dsimp only at hp ⊢
  split at hp
  · rename_i a b l s i k mask
    refine ⟨by simp, fun φ0 w0 => ?_⟩
    obtain ⟨h1, h2, h3⟩ : a.length ≤ 4000000 ∧ b.length ≤ 4000000 ∧ l.length ≤ 4000000 := hp
    refine goh trivial ?_
    refine W_cnd ?_ ?_ <;> (try simp only [cnd_r]) <;> intro hok
    · have e1 : dkRot ⟨a, b, l⟩ s i k mask = .nil := by unfold dkRot; rw [hok]; rfl
      refine goh trivial ?_
      refine ⟨by (simp only [go_sem, e1, Dk.nil, ↓reduceIte, reduceCtorEq, Nat.reduceAdd, Nat.reduceLT, Nat.reduceLeDiff, Nat.reduceEqDiff]) <;> trivial, [none, none, none], ?_⟩
      all_goals try simp only [go_sem, e1, Dk.nil, inj_r, ↓reduceIte, reduceCtorEq, Nat.reduceAdd, Nat.reduceLT, Nat.reduceLeDiff, Nat.reduceEqDiff, Int.reduceEq]
      all_goals (repeat' refine And.intro ?_ ?_) <;> try exact shut7
    · have e1 : dkRot ⟨a, b, l⟩ s i k mask = if (Dk.mk a b l).mayRot s i k mask then (Dk.mk a b l).rot s i k mask else ⟨a, b, l⟩ := by unfold dkRot; rw [hok]; rfl
      have hm : (Dk.mk a b l).mayRot s i k mask = (sector a.length s i && decide (0 ≤ k) && decide (k < (sec (a, b) s i).size) && decide (1 ≤ mask) && decide (mask ≤ 255)) := rfl
      obtain ⟨-, -, hab, -⟩ := (Dk.ok_iff _).1 hok
      simp only at hab
      have hsm := (Dk.ok_sm hok).sec s i
      rw [show (Dk.mk a b l).a = a from rfl, show (Dk.mk a b l).b = b from rfl] at hsm
      generalize (Dk.mk a b l).mayRot s i k mask = mr at e1 hm
      by_cases hs : sector a.length s i = true
      · obtain ⟨ws, w1, w2⟩ := (sector_iff _ _ _).1 hs
        rw [hs, Bool.true_and] at hm
        have hf := (fits_sector a.length s i).trans hs
        obtain ⟨tx, htx⟩ : ∃ tx, tx = sec (a, b) s i := ⟨_, rfl⟩
        rw [← htx] at hsm hm
        have hdl : tx.data.toList.length = tx.size := Array.length_toList
        rcases ws with rfl | rfl
        all_goals
          simp only [sec, ↓reduceIte, Int.reduceEq, ET.at] at htx
          repeat' first
            | with_reducible refine red ?_
            | refine W_seq ?_
            | (refine W_reg (s_specRot_K.env []) s_specRot_lv fun K' hK' => ?_
               simp only [go_sem, Dk.small, hf, ← htx, ↓reduceIte, ↓reduceDIte, reduceCtorEq, Nat.reduceAdd, Nat.reduceMul, Nat.reduceSub, Nat.reduceDiv, Nat.reduceMod, Nat.reduceLT, Nat.reduceLeDiff, Nat.reduceEqDiff, Nat.reduceBEq, Int.reduceToNat, Int.reduceLE, Int.reduceLT, Int.reduceEq, Int.reduceNe, Int.reduceNeg]
               (repeat' refine And.intro ?_ ?_) <;> try first | with_reducible refine hK' ?_ | exact shut6)
            | with_reducible refine blockG_o (by decide) ?_
          refine W_cnd ?_ ?_ <;> (try simp only [cnd_r]) <;> intro hc
          · have hm0 : mr = false := by
              rw [hm, Bool.eq_false_iff]
              simp only [ne_eq, Bool.and_eq_true, decide_eq_true_eq]
              omega
            refine goh trivial ?_
            exact finh [some 2, some 3, some 4] (And.intro e1 hm0)
          · have hm0 : mr = true := by
              rw [hm]
              simp only [Bool.and_eq_true, decide_eq_true_eq]
              omega
            clear hm hs hf
            repeat' first
              | with_reducible refine red ?_
              | refine W_seq ?_
              | (refine W_reg (s_specRot_K.env []) s_specRot_lv fun K' hK' => ?_
                 simp only [go_sem, ← htx, hdl, ↓reduceIte, ↓reduceDIte, reduceCtorEq, Nat.reduceAdd, Nat.reduceMul, Nat.reduceSub, Nat.reduceDiv, Nat.reduceMod, Nat.reduceLT, Nat.reduceLeDiff, Nat.reduceEqDiff, Nat.reduceBEq, Int.reduceToNat, Int.reduceLE, Int.reduceLT, Int.reduceEq, Int.reduceNe, Int.reduceNeg]
                 (repeat' refine And.intro ?_ ?_) <;> try first | with_reducible refine hK' ?_ | exact shut6)
              | with_reducible refine blockG_o (by decide) ?_
            refine ⟨by (simp only [go_sem, e1, hm0, Dk.rot, putW, sec, ← htx, rotB, turn, List.length_set, ↓reduceIte, reduceCtorEq, Nat.reduceAdd, Nat.reduceLT, Nat.reduceLeDiff, Nat.reduceEqDiff]) <;> trivial, [some 2, some 3, some 4], ?_⟩
            all_goals try simp only [go_sem, e1, hm0, Dk.rot, putW, sec, ← htx, rotB, turn, List.length_set, inj_r, ↓reduceIte, reduceCtorEq, Nat.reduceAdd, Nat.reduceLT, Nat.reduceLeDiff, Nat.reduceEqDiff, Int.reduceEq]
            all_goals (repeat' refine And.intro ?_ ?_) <;> try exact shut7
      · have hs' : sector a.length s i = false := by simpa using hs
        have hf := (fits_sector a.length s i).trans hs'
        rw [hs'] at hm
        simp only [Bool.false_and] at hm
        repeat' first
          | with_reducible refine red ?_
          | refine W_seq ?_
          | (refine W_reg (s_specRot_K.env [25, 26, 29, 30, 31, 32, 33, 34, 35, 36, 37, 38, 41, 42, 45, 46]) s_specRot_lv fun K' hK' => ?_
             simp only [go_sem, Dk.small, hf, ↓reduceIte, ↓reduceDIte, reduceCtorEq, Nat.reduceAdd, Nat.reduceMul, Nat.reduceSub, Nat.reduceDiv, Nat.reduceMod, Nat.reduceLT, Nat.reduceLeDiff, Nat.reduceEqDiff, Nat.reduceBEq, Int.reduceToNat, Int.reduceLE, Int.reduceLT, Int.reduceEq, Int.reduceNe, Int.reduceNeg]
             (repeat' refine And.intro ?_ ?_) <;> try first | with_reducible refine hK' ?_ | exact shut6)
          | with_reducible refine blockG_o (by decide) ?_
        refine W_cnd ?_ ?_ <;> intro hlit <;> try (cases hlit; done)
        refine goh trivial ?_
        exact finh [some 2, some 3, some 4] (And.intro e1 hm)
  · simp [no] at hp
end Go.Proofs.YtjedcphhajlnoaaGreatDoor
/- Functions: what is read; pointers. -/
namespace Go.Proofs.YtjedcphhajlnoaaGreatDoor
open Go.RowKit

/-- The last of the first n late writes of a sector, or what the sector has. -/
def lateText (l : List Late) (s k : Int) (dflt : ByteArray) : Nat → ByteArray
  | 0 => dflt
  | n + 1 => if (ET.late.at l n).side = s ∧ (ET.late.at l n).at_ = k then (ET.late.at l n).text else lateText l s k dflt n
def Dk.text (d : Dk) (s k : Int) : ByteArray := lateText d.l s k (sec (d.a, d.b) s k) d.l.length
@[go_sem] def ctTextOf : Ct := ⟨false, [[some .str, some .str, some .late]], fun args os => match args, os with
  | [.agg [.isl .str a, .isl .str b, .isl .late l], .one (.val (.int .i64 s)), .one (.val (.int .i64 k))], [] => ifp ((Dk.mk a b l).small ∧ b.length = a.length ∧ sector a.length s k = true) (vs ((Dk.mk a b l).text s k))
  | _, _ => no⟩
@[go_sem] def sgTx (a b : List ByteArray) (l : List Late) (s k : Int) (n : Nat) : Sg := ⟨[(1, vi s), (2, vi k), (3, .one (.ptr 0 0)), (7, vi ((n : Int) - 1))], [some (.cells [.isl .str a, .isl .str b, .isl .late l])], []⟩
theorem s_textOf_e : EnterOk Tryz.prog 94 := ⟨_, Tryz.func94, rfl, by decide⟩
@[go_sem] def s_textOf_lv : List (List Nat) := [[1, 2, 3], [1, 2, 3, 7], [1, 2, 3, 7, 14], [1, 2, 3, 7], [1, 2, 3, 7, 8], [1, 2, 3, 7, 8, 31], [6], [6]]
@[go_sem] noncomputable def s_textOf_K : Known := Known.nil
set_option maxHeartbeats 8000000 in
theorem s_textOf : Sound Tryz.prog 94 ctTextOf := by
  have ke := s_textOf_K.env []
  have kl : Lives s_textOf_lv := trivial
  refine sound_intro (E := ⟨ti, s_textOf_K.Γ, []⟩) ke Tryz.func94 Tryz.ntmps94 rfl (rs := [.tmp 6]) rfl ?_
  intro args os hp
  unfold ctTextOf at hp ⊢
  dsimp only at hp ⊢
  split at hp
  · rename_i a b l s k
    refine ⟨by simp, fun φ0 w0 => ?_⟩
    obtain ⟨⟨h1, h2, h3⟩, hab, hs⟩ : (a.length ≤ 4000000 ∧ b.length ≤ 4000000 ∧ l.length ≤ 4000000) ∧ b.length = a.length ∧ sector a.length s k = true := hp
    obtain ⟨ws, w1, w2⟩ := (sector_iff _ _ _).1 hs
    have hw : IntKind.i64.wrap ((l.length : Int) - 1) = (l.length : Int) - 1 := wrap_id _ (by omega) (by omega)
    refine goh hw ?_
    refine W_le (σ' := sgTx a b l s k l.length) [some 0] (by
      simp only [go_sem, inj_r, ↓reduceIte, reduceCtorEq, Nat.reduceAdd, Nat.reduceLT, Nat.reduceLeDiff, Nat.reduceEqDiff, Int.reduceEq]
      all_goals (repeat' refine And.intro ?_ ?_) <;> try exact shut7
      ) ?_
    refine W_loop (fun n σ => n ≤ l.length ∧ lateText l s k (sec (a, b) s k) n = (Dk.mk a b l).text s k ∧ σ = sgTx a b l s k n) l.length ⟨Nat.le_refl _, rfl, rfl⟩ ?_
    rintro n σ ⟨hn, ht, rfl⟩
    unfold sgTx
    refine goh trivial ?_
    refine W_cnd ?_ ?_ <;> (try simp only [cnd_r]) <;> intro hlt
    · obtain ⟨m, rfl⟩ : ∃ m, n = m + 1 := ⟨n - 1, by omega⟩
      have e1 : ((m + 1 : Nat) : Int) - 1 = (m : Int) := by omega
      have e2 : IntKind.i64.wrap ((m : Int) - 1) = (m : Int) - 1 := wrap_id _ (by omega) (by omega)
      refine goh e1 ?_
      refine W_cnd ?_ ?_ <;> (try simp only [cnd_r]) <;> intro hc
      · have ht2 : lateText l s k (sec (a, b) s k) (m + 1) = (ET.late.at l m).text := if_pos hc
        refine goh trivial ?_
        refine ⟨by (simp only [go_sem, ↓reduceIte, reduceCtorEq, Nat.reduceAdd, Nat.reduceLT, Nat.reduceLeDiff, Nat.reduceEqDiff]) <;> trivial, [], ?_⟩
        all_goals try simp only [go_sem, inj_r, ↓reduceIte, reduceCtorEq, Nat.reduceAdd, Nat.reduceLT, Nat.reduceLeDiff, Nat.reduceEqDiff, Int.reduceEq]
        all_goals (repeat' refine And.intro ?_ ?_) <;> try exact shut7
        rw [← ht, ht2]; rfl
      · have ht2 : lateText l s k (sec (a, b) s k) (m + 1) = lateText l s k (sec (a, b) s k) m := by
          refine if_neg ?_
          rintro ⟨q1, q2⟩
          rcases hc with h | h
          · exact h q1
          · rw [beq_eq_false_iff_ne] at h; exact h q2
        refine goh e2 ?_
        refine ⟨m, [some 0], sgTx a b l s k m, by omega, ?_, by omega, ht2 ▸ ht, rfl⟩
        exact leh trivial
    · obtain rfl : n = 0 := by omega
      rcases ws with rfl | rfl
      all_goals
        refine goh trivial ?_
        refine ⟨by (simp only [go_sem, ← ht, lateText, sec, ↓reduceIte, reduceCtorEq, Nat.reduceAdd, Nat.reduceLT, Nat.reduceLeDiff, Nat.reduceEqDiff]) <;> trivial, [], ?_⟩
        all_goals try simp only [go_sem, ← ht, lateText, sec, inj_r, ↓reduceIte, reduceCtorEq, Nat.reduceAdd, Nat.reduceLT, Nat.reduceLeDiff, Nat.reduceEqDiff, Int.reduceEq]
        all_goals (repeat' refine And.intro ?_ ?_) <;> try exact shut7
  · simp [no, ifp] at hp
def dkReads (d : Dk) (s k : Int) : Bool := d.ok && sector d.a.length s k
def dkRead (d : Dk) (s k : Int) : ByteArray := if dkReads d s k then d.text s k else ⟨#[]⟩
@[go_sem] def ctDiskRead : Ct := ⟨false, [[some .str, some .str, some .late]], fun args os => match args, os with
  | [.agg [.isl .str a, .isl .str b, .isl .late l], .one (.val (.int .i64 s)), .one (.val (.int .i64 k))], [] => ifp (Dk.mk a b l).small (.tup [vs (dkRead ⟨a, b, l⟩ s k), vb (dkReads ⟨a, b, l⟩ s k)])
  | _, _ => no⟩
theorem s_diskRead_e : EnterOk Tryz.prog 30 := ⟨_, Tryz.func30, rfl, by decide⟩
@[go_sem] def s_diskRead_lv : List (List Nat) := [[1, 2, 3], [1, 2, 3, 17], [6, 7], [6, 7]]
@[go_sem] noncomputable def s_diskRead_K : Known := (((Known.nil).cons 80 ctDiskOk s_diskOk s_diskOk_e).cons 95 ctIsSector s_isSector s_isSector_e).cons 94 ctTextOf s_textOf s_textOf_e
set_option maxHeartbeats 8000000 in
theorem s_diskRead : Sound Tryz.prog 30 ctDiskRead := by
  have ke := s_diskRead_K.env []
  have kl : Lives s_diskRead_lv := trivial
  refine sound_intro (E := ⟨ti, s_diskRead_K.Γ, []⟩) ke Tryz.func30 Tryz.ntmps30 rfl (rs := [.tmp 6, .tmp 7]) rfl ?_
  intro args os hp
  unfold ctDiskRead at hp ⊢
  dsimp only at hp ⊢
  split at hp
  · rename_i a b l s k
    refine ⟨by simp, fun φ0 w0 => ?_⟩
    obtain ⟨h1, h2, h3⟩ : a.length ≤ 4000000 ∧ b.length ≤ 4000000 ∧ l.length ≤ 4000000 := hp
    have e1 : dkReads ⟨a, b, l⟩ s k = ((Dk.mk a b l).ok && sector a.length s k) := rfl
    have e2 : dkRead ⟨a, b, l⟩ s k = if dkReads ⟨a, b, l⟩ s k then (Dk.mk a b l).text s k else ⟨#[]⟩ := rfl
    refine goh trivial ?_
    refine W_cnd ?_ ?_ <;> (try simp only [cnd_r]) <;> intro hc
    · have e3 : dkReads ⟨a, b, l⟩ s k = false := by
        rw [e1]
        rcases hc with h | h <;> simp [h]
      refine goh trivial ?_
      exact finh [] (And.intro e2 e3)
    · obtain ⟨hok, hs⟩ : (Dk.mk a b l).ok = true ∧ sector a.length s k = true := by simpa using hc
      have e3 : dkReads ⟨a, b, l⟩ s k = true := by rw [e1, hok, hs]; rfl
      obtain ⟨-, -, hab, -⟩ := (Dk.ok_iff _).1 hok
      simp only at hab
      refine goh trivial ?_
      exact finh [] (And.intro e2 e3)
  · simp [no, ifp] at hp

def ptrOkB (p : Ptr) : Bool := (decide (p.at_ = 0) && decide (p.sum = 0) && decide (p.birth = 0)) || (decide (1 ≤ p.at_) && decide (p.at_ ≤ 119) && (decide (0 ≤ p.sum) && decide (p.sum ≤ 65520)) && (decide (0 ≤ p.birth) && decide (p.birth ≤ 1000000)))
@[go_sem] def ctPtrOk : Ct := ⟨false, [], fun args os => match args, os with
  | [.agg [.val (.int .i64 a), .val (.int .i64 s), .val (.int .i64 b)]], [] => is (vb (ptrOkB ⟨a, s, b⟩))
  | _, _ => no⟩
theorem same_ptr (a s b : Int) : same (Ptr.mk a s b) (Ptr.mk 0 0 0) = (decide (a = 0) && decide (s = 0) && decide (b = 0)) := by
  rw [Bool.eq_iff_iff, same_true]
  simp only [Ptr.mk.injEq, Bool.and_eq_true, decide_eq_true_eq, and_assoc]
theorem s_ptrOk_e : EnterOk Tryz.prog 24 := ⟨_, Tryz.func24, rfl, by decide⟩
@[go_sem] def s_ptrOk_lv : List (List Nat) := [[1], [2]]
@[go_sem] noncomputable def s_ptrOk_K : Known := (Known.nil).cons 89 ctWithin s_within s_within_e
set_option maxHeartbeats 8000000 in
theorem s_ptrOk : Sound Tryz.prog 24 ctPtrOk := by
  have ke := s_ptrOk_K.env []
  have kl : Lives s_ptrOk_lv := trivial
  refine sound_intro (E := ⟨ti, s_ptrOk_K.Γ, []⟩) ke Tryz.func24 Tryz.ntmps24 rfl (rs := [.tmp 2]) rfl ?_
  intro args os hp
  unfold ctPtrOk at hp ⊢
  dsimp only at hp ⊢
  split at hp
  · rename_i a s b
    refine ⟨by simp, fun φ0 w0 => ?_⟩
    clear hp
    refine goh trivial ?_
    refine ⟨by (simp only [go_sem, ↓reduceIte, reduceCtorEq, Nat.reduceAdd, Nat.reduceLT, Nat.reduceLeDiff, Nat.reduceEqDiff]) <;> trivial, [], ?_⟩
    all_goals try simp only [go_sem, inj_r, ↓reduceIte, reduceCtorEq, Nat.reduceAdd, Nat.reduceLT, Nat.reduceLeDiff, Nat.reduceEqDiff, Int.reduceEq]
    all_goals (repeat' refine And.intro ?_ ?_) <;> try exact shut7
    rw [same_ptr, ptrOkB, Bool.eq_iff_iff]
    simp only [Bool.if_true_left, Bool.if_false_right, Bool.or_eq_true, Bool.and_eq_true, decide_eq_true_eq, Bool.decide_eq_true, and_assoc]
  · simp [no] at hp
def realB (p : Ptr) : Bool := ptrOkB p && !(p.at_ == 0)
@[go_sem] def ctReal : Ct := ⟨false, [], fun args os => match args, os with
  | [.agg [.val (.int .i64 a), .val (.int .i64 s), .val (.int .i64 b)]], [] => is (vb (realB ⟨a, s, b⟩))
  | _, _ => no⟩
theorem s_isReal_e : EnterOk Tryz.prog 91 := ⟨_, Tryz.func91, rfl, by decide⟩
@[go_sem] def s_isReal_lv : List (List Nat) := [[1], [2]]
@[go_sem] noncomputable def s_isReal_K : Known := (Known.nil).cons 24 ctPtrOk s_ptrOk s_ptrOk_e
set_option maxHeartbeats 8000000 in
theorem s_isReal : Sound Tryz.prog 91 ctReal := by
  have ke := s_isReal_K.env []
  have kl : Lives s_isReal_lv := trivial
  refine sound_intro (E := ⟨ti, s_isReal_K.Γ, []⟩) ke Tryz.func91 Tryz.ntmps91 rfl (rs := [.tmp 2]) rfl ?_
  intro args os hp
  unfold ctReal at hp ⊢
  dsimp only at hp ⊢
  split at hp
  · rename_i a s b
    refine ⟨by simp, fun φ0 w0 => ?_⟩
    clear hp
    refine goh trivial ?_
    refine ⟨by (simp only [go_sem, ↓reduceIte, reduceCtorEq, Nat.reduceAdd, Nat.reduceLT, Nat.reduceLeDiff, Nat.reduceEqDiff]) <;> trivial, [], ?_⟩
    all_goals try simp only [go_sem, inj_r, ↓reduceIte, reduceCtorEq, Nat.reduceAdd, Nat.reduceLT, Nat.reduceLeDiff, Nat.reduceEqDiff, Int.reduceEq]
    all_goals (repeat' refine And.intro ?_ ?_) <;> try exact shut7
    unfold realB
    cases ptrOkB ⟨a, s, b⟩ <;> simp [bne]
  · simp [no] at hp
/-- Does a side of a disk have the block of a pointer? -/
def Dk.has (d : Dk) (p : Ptr) (side : Int) : Bool := sector d.a.length side p.at_ && decide ((sumOf (d.text side p.at_) : Int) = p.sum)
theorem lateText_size (l : List Late) (s k : Int) (dflt : ByteArray) {m : Nat} (h : ∀ i, i < l.length → (l.getD i ET.late.dflt).text.size ≤ m) (hd : dflt.size ≤ m) : ∀ n, n ≤ l.length → (lateText l s k dflt n).size ≤ m
  | 0, _ => hd
  | n + 1, hn => by
    unfold lateText
    split
    · exact h n (by omega)
    · exact lateText_size l s k dflt h hd n (by omega)
theorem Dk.text_size {d : Dk} (h : d.ok = true) (s k : Int) : (d.text s k).size ≤ 420 :=
  lateText_size _ _ _ _ (fun i hi => (Dk.ok_late h i hi).2.2.2) ((Dk.ok_sm h).sec s k) _ (Nat.le_refl _)
@[go_sem] def ctHas : Ct := ⟨false, [[some .str, some .str, some .late]], fun args os => match args, os with
  | [.agg [.isl .str a, .isl .str b, .isl .late l], .agg [.val (.int .i64 pa), .val (.int .i64 ps), .val (.int .i64 pb)], .one (.val (.int .i64 s))], [] => ifp ((Dk.mk a b l).ok = true) (vb ((Dk.mk a b l).has ⟨pa, ps, pb⟩ s))
  | _, _ => no⟩
theorem s_has_e : EnterOk Tryz.prog 82 := ⟨_, Tryz.func82, rfl, by decide⟩
@[go_sem] def s_has_lv : List (List Nat) := [[2, 3, 4], [6]]
@[go_sem] noncomputable def s_has_K : Known := (((Known.nil).cons 95 ctIsSector s_isSector s_isSector_e).cons 94 ctTextOf s_textOf s_textOf_e).cons 168 ctSumOf s_sumOf s_sumOf_e
set_option maxHeartbeats 8000000 in
theorem s_has : Sound Tryz.prog 82 ctHas := by
  have ke := s_has_K.env []
  have kl : Lives s_has_lv := trivial
  refine sound_intro (E := ⟨ti, s_has_K.Γ, []⟩) ke Tryz.func82 Tryz.ntmps82 rfl (rs := [.tmp 6]) rfl ?_
  intro args os hp
  unfold ctHas at hp ⊢
  dsimp only at hp ⊢
  split at hp
  · rename_i a b l pa ps pb s
    refine ⟨by simp, fun φ0 w0 => ?_⟩
    have hok : (Dk.mk a b l).ok = true := hp
    have e3 : a.length ≤ 120 ∧ b.length ≤ 120 ∧ l.length ≤ 600 := Dk.ok_small hok
    obtain ⟨-, -, hab, -⟩ := (Dk.ok_iff _).1 hok
    simp only at hab
    have hz := Dk.text_size hok s pa
    refine goh trivial ?_
    refine ⟨by (simp only [go_sem, ↓reduceIte, reduceCtorEq, Nat.reduceAdd, Nat.reduceLT, Nat.reduceLeDiff, Nat.reduceEqDiff]) <;> trivial, [], ?_⟩
    all_goals try simp only [go_sem, inj_r, ↓reduceIte, reduceCtorEq, Nat.reduceAdd, Nat.reduceLT, Nat.reduceLeDiff, Nat.reduceEqDiff, Int.reduceEq]
    all_goals (repeat' refine And.intro ?_ ?_) <;> try exact shut7
    unfold Dk.has
    rw [Bool.eq_iff_iff]
    simp only [Bool.if_false_right, Bool.and_eq_true, decide_eq_true_eq, beq_iff_eq]
  · simp [no, ifp] at hp
end Go.Proofs.YtjedcphhajlnoaaGreatDoor
/- Plain facts: texts of numbers and of pointers. -/
namespace Go.Proofs.YtjedcphhajlnoaaGreatDoor
open Go.RowKit

theorem decS_list (n : Int) : (decS n).data.toList = Lib.itoa n := by simp [decS]
theorem itoa_not {c : UInt8} (h1 : c.toNat ≠ 45) (h2 : c.toNat < 48 ∨ 57 < c.toNat) (n : Int) : c ∉ (decS n).data.toList := by
  rw [decS_list]
  have h3 : ∀ u, c ∉ Lib.decDigits u := fun u hm => by
    have := decD_dig u c hm
    unfold isDig at this; omega
  unfold Lib.itoa
  split
  · rw [List.mem_cons, not_or]
    exact ⟨fun e => by subst e; exact h1 rfl, h3 _⟩
  · exact h3 _
theorem no_dot (n : Int) : (46 : UInt8) ∉ (decS n).data.toList := itoa_not (by decide) (by decide) n
theorem no_blank (n : Int) : (32 : UInt8) ∉ (decS n).data.toList := itoa_not (by decide) (by decide) n
theorem no_colon (n : Int) : (58 : UInt8) ∉ (decS n).data.toList := itoa_not (by decide) (by decide) n
theorem decS_inj {n m : Int} (h : decS n = decS m) : n = m := by
  have h := congrArg (fun s : ByteArray => s.data.toList) h
  simp only [decS_list] at h
  have hd : ∀ u v, (45 : UInt8) :: Lib.decDigits u ≠ Lib.decDigits v := fun u v e => by
    have := decD_dig v 45 (by rw [← e]; simp)
    revert this; decide
  unfold Lib.itoa at h
  split at h <;> split at h
  · injection h with _ h; have := decD_inj h; omega
  · exact absurd h (hd _ _)
  · exact absurd h.symm (hd _ _)
  · have := decD_inj h; omega
theorem decS_ne (n : Int) : decS n ≠ ⟨#[]⟩ := fun h => by
  have h := congrArg (fun s : ByteArray => s.data.toList) h
  simp only [decS_list] at h
  unfold Lib.itoa at h
  split at h
  · cases h
  · exact decD_ne _ h
theorem atoi_dig {u : Nat} (h : u < 10 ^ 17) : Lib.atoiAll (Lib.decDigits u) = .ok (u : Int) := by
  have hl := decD_len 16 u h
  have h1 : Lib.parseMag (Lib.decDigits u) = .ok u := by
    rw [Lib.parseMag_short _ (by omega)]
    unfold Lib.decNat
    rw [if_neg (by simpa using decD_ne u), decFrom_decD]; rfl
  cases hd : Lib.decDigits u with
  | nil => exact absurd hd (decD_ne u)
  | cons c r =>
    have hc := decD_dig u c (by rw [hd]; simp)
    unfold isDig at hc
    unfold Lib.atoiAll
    simp only
    rw [if_neg (by omega), ← hd, h1]
    simp only
    rw [if_neg (by omega), if_neg (by omega), if_neg (by omega)]
theorem atoi_dec {n : Int} (h0 : 0 ≤ n) (h1 : n < 10 ^ 17) : atoiV (decS n) = some n ∧ atoiN (decS n) = n := by
  obtain ⟨u, rfl⟩ := Int.eq_ofNat_of_zero_le h0
  have h := atoi_dig (u := u) (by omega)
  have e : Lib.itoa (u : Int) = Lib.decDigits u := by
    unfold Lib.itoa
    rw [if_neg (by omega), Int.toNat_natCast]
  unfold atoiV atoiN
  rw [decS_list, e, h]
  exact ⟨rfl, rfl⟩
theorem atoiV_in {s : ByteArray} {n : Int} (h : atoiV s = some n) : atoiN s = n ∧ -9223372036854775808 ≤ n ∧ n ≤ 9223372036854775807 := by
  unfold atoiV at h
  unfold atoiN
  cases ha : Lib.atoiAll s.data.toList
  · rw [ha] at h
    cases h
    have := Lib.atoiAll_bounds ha
    exact ⟨rfl, this.1, this.2⟩
  · rw [ha] at h; cases h
  · rw [ha] at h; cases h
/-- Numbers with points between them. -/
def pointsV (zs : List Int) : ByteArray := joinV ⟨#[46]⟩ (zs.map decS)
theorem joinL_len (s : Bs) (k : Nat) : ∀ xs : List Bs, (∀ x ∈ xs, x.length ≤ k) → (joinL s xs).length ≤ xs.length * (k + s.length)
  | [], _ => by simp [joinL]
  | [x], h => by
    have := h x (by simp)
    show x.length ≤ _
    simp; omega
  | x :: y :: r, h => by
    have h1 := h x (by simp)
    have h2 := joinL_len s k (y :: r) fun z hz => h z (List.mem_cons_of_mem _ hz)
    show (x ++ s ++ joinL s (y :: r)).length ≤ _
    rw [List.length_append, List.length_append, List.length_cons (a := x), Nat.succ_mul]
    omega
theorem joinV_size {sep : ByteArray} {k : Nat} {xs : List ByteArray} (h : ∀ x ∈ xs, x.size ≤ k) : (joinV sep xs).size ≤ xs.length * (k + sep.size) := by
  have h1 := joinL_len sep.data.toList k (xs.map (·.data.toList)) fun x hx => by
    obtain ⟨y, hy, rfl⟩ := List.mem_map.1 hx
    exact h y hy
  rw [List.length_map] at h1
  show (Lib.join _ _).toArray.size ≤ _
  rw [List.size_toArray, lib_join]
  exact h1
theorem pointsV_size {zs : List Int} (h : ∀ z ∈ zs, -9223372036854775808 ≤ z ∧ z ≤ 9223372036854775807) : (pointsV zs).size ≤ zs.length * 21 := by
  have := joinV_size (sep := ⟨#[46]⟩) (k := 20) (xs := zs.map decS) fun x hx => by
    obtain ⟨z, hz, rfl⟩ := List.mem_map.1 hx
    exact decS_size (h z hz).1 (h z hz).2
  rwa [List.length_map] at this
theorem pointsV_split {zs : List Int} (h : zs ≠ []) : splitV 46 (pointsV zs) = zs.map decS :=
  splitV_join (by simpa using h) fun w hw => by
    obtain ⟨z, -, rfl⟩ := List.mem_map.1 hw
    exact no_dot z
theorem pointsV_three (a b c : Int) : pointsV [a, b, c] = decS a ++ ⟨#[46]⟩ ++ decS b ++ ⟨#[46]⟩ ++ decS c := joinV_three 46 _ _ _
/-- A pointer's text. -/
def ptrT (p : Ptr) : ByteArray := if ptrOkB p = true then (if p.at_ = 0 then ⟨#[45]⟩ else pointsV [p.at_, p.sum, p.birth]) else ⟨#[]⟩
theorem ptrOk_cases {p : Ptr} (h : ptrOkB p = true) : p = ⟨0, 0, 0⟩ ∨ (1 ≤ p.at_ ∧ p.at_ ≤ 119 ∧ 0 ≤ p.sum ∧ p.sum ≤ 65520 ∧ 0 ≤ p.birth ∧ p.birth ≤ 1000000) := by
  unfold ptrOkB at h
  simp only [Bool.or_eq_true, Bool.and_eq_true, decide_eq_true_eq] at h
  rcases h with h | h
  · left; cases p; simp only at h; simp [h]
  · right; omega
theorem ptrOk_real {p : Ptr} (h : realB p = true) : ptrOkB p = true ∧ p.at_ ≠ 0 ∧ ptrT p = pointsV [p.at_, p.sum, p.birth] := by
  unfold realB at h
  rw [Bool.and_eq_true] at h
  have h2 : p.at_ ≠ 0 := by simpa using h.2
  exact ⟨h.1, h2, by unfold ptrT; rw [if_pos h.1, if_neg h2]⟩
theorem ptrT_size (p : Ptr) : (ptrT p).size ≤ 63 := by
  unfold ptrT
  split
  · rename_i h
    split
    · show 1 ≤ 63; omega
    · have hc := ptrOk_cases h
      have := pointsV_size (zs := [p.at_, p.sum, p.birth]) fun z hz => by
        simp only [List.mem_cons, List.not_mem_nil, or_false] at hz
        rcases hc with rfl | hc
        · simp only at hz; omega
        · omega
      simpa using this
  · exact Nat.zero_le _
theorem ptrT_inj {p q : Ptr} (hp : ptrOkB p = true) (hq : ptrOkB q = true) (h : ptrT p = ptrT q) : p = q := by
  have hs : ∀ r : Ptr, ptrOkB r = true → r.at_ ≠ 0 → splitV 46 (ptrT r) = [decS r.at_, decS r.sum, decS r.birth] := fun r h1 h2 => by
    unfold ptrT
    rw [if_pos h1, if_neg h2, pointsV_split (by simp)]; rfl
  have hz : ∀ r : Ptr, ptrOkB r = true → r.at_ = 0 → r = ⟨0, 0, 0⟩ ∧ splitV 46 (ptrT r) = [⟨#[45]⟩] := fun r h1 h2 => by
    rcases ptrOk_cases h1 with rfl | h3
    · exact ⟨rfl, by unfold ptrT; rw [if_pos h1, if_pos rfl]; decide⟩
    · omega
  by_cases h1 : p.at_ = 0 <;> by_cases h2 : q.at_ = 0
  · rw [(hz p hp h1).1, (hz q hq h2).1]
  · have h3 := (hz p hp h1).2
    rw [h, hs q hq h2] at h3
    simp at h3
  · have h3 := (hz q hq h2).2
    rw [← h, hs p hp h1] at h3
    simp at h3
  · have h3 := hs p hp h1
    rw [h, hs q hq h2] at h3
    simp only [List.cons.injEq, and_true] at h3
    obtain ⟨e1, e2, e3⟩ := h3
    cases p; cases q
    simp only at e1 e2 e3
    rw [decS_inj e1, decS_inj e2, decS_inj e3]
/-- The pointer with a text. -/
noncomputable def ptrReadV (t : ByteArray) : Option Ptr := open Classical in if h : ∃ p, ptrOkB p = true ∧ ptrT p = t then some (Classical.choose h) else none
theorem ptrRead_some {t : ByteArray} {p : Ptr} : ptrReadV t = some p ↔ ptrOkB p = true ∧ ptrT p = t := by
  unfold ptrReadV
  constructor
  · intro h
    split at h
    · rename_i hx
      cases h
      exact Classical.choose_spec hx
    · cases h
  · rintro ⟨h1, h2⟩
    have hx : ∃ p, ptrOkB p = true ∧ ptrT p = t := ⟨p, h1, h2⟩
    rw [dif_pos hx]
    have h3 := Classical.choose_spec hx
    rw [ptrT_inj h3.1 h1 (h3.2.trans h2.symm)]
theorem ptrRead_none {t : ByteArray} (h : ∀ p, ptrOkB p = true → ptrT p = t → False) : ptrReadV t = none := by
  unfold ptrReadV
  rw [dif_neg fun ⟨p, h1, h2⟩ => h p h1 h2]
theorem ptrRead_dash : ptrReadV ⟨#[45]⟩ = some ⟨0, 0, 0⟩ := ptrRead_some.2 ⟨by decide, by unfold ptrT; rw [if_pos (by decide), if_pos rfl]⟩
/-- Three numbers, read. -/
def thr (t : ByteArray) : Option (Int × Int × Int) := match splitV 46 t with
  | [x, y, z] => (match atoiV x, atoiV y, atoiV z with
    | some a, some b, some c => some (a, b, c)
    | _, _, _ => none)
  | _ => none
/-- The three ways of a text that is no dash. -/
theorem thr_read {t : ByteArray} (h : t ≠ ⟨#[45]⟩) : ptrReadV t = (match thr t with
  | some (a, b, c) => if pointsV [a, b, c] = t ∧ realB ⟨a, b, c⟩ = true then some ⟨a, b, c⟩ else none
  | none => none) := by
  have hk : ∀ p, ptrOkB p = true → ptrT p = t → thr t = some (p.at_, p.sum, p.birth) ∧ pointsV [p.at_, p.sum, p.birth] = t ∧ realB p = true := by
    intro p h1 h2
    have h3 : p.at_ ≠ 0 := fun h3 => h (by rw [← h2]; unfold ptrT; rw [if_pos h1, if_pos h3])
    have h4 : pointsV [p.at_, p.sum, p.birth] = t := by rw [← h2]; unfold ptrT; rw [if_pos h1, if_neg h3]
    refine ⟨?_, h4, by unfold realB; rw [h1]; simpa using h3⟩
    rcases ptrOk_cases h1 with rfl | hc
    · exact absurd rfl h3
    · unfold thr
      rw [← h4, pointsV_split (by simp)]
      simp only [List.map_cons, List.map_nil]
      rw [(atoi_dec (n := p.at_) (by omega) (by omega)).1, (atoi_dec (n := p.sum) (by omega) (by omega)).1, (atoi_dec (n := p.birth) (by omega) (by omega)).1]
  cases hr : ptrReadV t with
  | some p =>
    obtain ⟨h1, h2⟩ := ptrRead_some.1 hr
    obtain ⟨h3, h4, h5⟩ := hk p h1 h2
    rw [h3]
    simp only
    rw [if_pos ⟨h4, h5⟩]
  | none =>
    cases ht : thr t with
    | none => rfl
    | some x =>
      obtain ⟨a, b, c⟩ := x
      simp only
      rw [if_neg]
      rintro ⟨h1, h2⟩
      obtain ⟨h3, h4, h5⟩ := ptrOk_real h2
      have := ptrRead_some.2 ⟨h3, h5.trans h1⟩
      rw [hr] at this
      cases this
end Go.Proofs.YtjedcphhajlnoaaGreatDoor
/- Functions of the exact laws: copies; marks. -/
namespace Go.Proofs.YtjedcphhajlnoaaGreatDoor
open Go.RowKit

@[go_sem] def ctToS2 : Ct := ⟨false, [[some .str, some .str]], fun args os => match args, os with
  | [.agg [.isl .str a, .isl .str b]], [] => ⟨a.length ≤ 4000000 ∧ b.length ≤ 4000000, .agg [.osl .str 0 0 a.length, .osl .str 1 0 b.length], [], [.arr .str a, .arr .str b]⟩
  | _, _ => no⟩
@[go_sem] def sgTo0 (a b : List ByteArray) : Sg := ⟨[(1, .one (.ptr 0 0)), (2, .one (.ptr 1 0)), (3, .one (.ptr 2 0)), (4, vi 0)], [some (.cells [.isl .str a, .isl .str b]), some (.cells [.val (.slice none 0 0), .val (.slice none 0 0)]), some (.cells [.val (.slice none 0 0), .val (.slice none 0 0)])], []⟩
@[go_sem] def sgTo1 (a b : List ByteArray) : Sg := ⟨[(1, .one (.ptr 0 0)), (2, .one (.ptr 1 0)), (3, .one (.ptr 2 0)), (4, vi 1)], [some (.cells [.isl .str a, .isl .str b]), some (.cells [.val (.slice none 0 0), .val (.slice none 0 0)]), some (.cells [.osl .str 3 0 a.length, .val (.slice none 0 0)]), some (.arr .str a)], []⟩
@[go_sem] def sgTo2 (a b : List ByteArray) : Sg := ⟨[(1, .one (.ptr 0 0)), (2, .one (.ptr 1 0)), (3, .one (.ptr 2 0)), (4, vi 2)], [some (.cells [.isl .str a, .isl .str b]), some (.cells [.val (.slice none 0 0), .val (.slice none 0 0)]), some (.cells [.osl .str 3 0 a.length, .osl .str 4 0 b.length]), some (.arr .str a), some (.arr .str b)], []⟩
theorem s_toS2_e : EnterOk Tryz.prog 113 := ⟨_, Tryz.func113, rfl, by decide⟩
@[go_sem] def s_toS2_lv : List (List Nat) := [[1, 2], [1, 2, 3], [1, 2, 3, 4], [1, 2, 3, 4, 6], [1, 2, 3, 4], [1, 2, 3, 4], [2]]
@[go_sem] noncomputable def s_toS2_K : Known := (Known.nil).cons 183 ctToS s_toS s_toS_e
set_option maxHeartbeats 8000000 in
theorem s_toS2 : Sound Tryz.prog 113 ctToS2 := by
  have ke := s_toS2_K.env []
  have kl : Lives s_toS2_lv := trivial
  refine sound_intro (E := ⟨ti, s_toS2_K.Γ, []⟩) ke Tryz.func113 Tryz.ntmps113 rfl (rs := [.cell 2 23]) rfl ?_
  intro args os hp
  unfold ctToS2 at hp ⊢
  dsimp only at hp ⊢
  split at hp
  · rename_i a b
    refine ⟨by simp, fun φ0 w0 => ?_⟩
    obtain ⟨h1, h2⟩ : a.length ≤ 4000000 ∧ b.length ≤ 4000000 := hp
    refine goh trivial ?_
    refine W_le (σ' := sgTo0 a b) [some 0, some 1, some 2] (by
      simp only [go_sem, inj_r, ↓reduceIte, reduceCtorEq, Nat.reduceAdd, Nat.reduceLT, Nat.reduceLeDiff, Nat.reduceEqDiff, Int.reduceEq]
      all_goals (repeat' refine And.intro ?_ ?_) <;> try exact shut7
      ) ?_
    refine W_loop (fun q σ => (q = 2 ∧ σ = sgTo0 a b) ∨ (q = 1 ∧ σ = sgTo1 a b) ∨ (q = 0 ∧ σ = sgTo2 a b)) 2 (.inl ⟨rfl, rfl⟩) ?_
    rintro q σ (⟨rfl, rfl⟩ | ⟨rfl, rfl⟩ | ⟨rfl, rfl⟩)
    · unfold sgTo0
      refine goh trivial ?_
      refine W_cnd ?_ ?_ <;> intro hlit <;> try (cases hlit; done)
      refine goh trivial ?_
      refine ⟨1, [some 0, some 1, some 2, some 3], sgTo1 a b, by omega, ?_, .inr (.inl ⟨rfl, rfl⟩)⟩
      exact leh trivial
    · unfold sgTo1
      refine goh trivial ?_
      refine W_cnd ?_ ?_ <;> intro hlit <;> try (cases hlit; done)
      refine goh trivial ?_
      refine ⟨0, [some 0, some 1, some 2, some 3, some 4], sgTo2 a b, by omega, ?_, .inr (.inr ⟨rfl, rfl⟩)⟩
      exact leh trivial
    · unfold sgTo2
      refine goh trivial ?_
      refine W_cnd ?_ ?_ <;> intro hlit <;> try (cases hlit; done)
      refine goh trivial ?_
      exact finh [some 3, some 4] trivial
  · simp [no] at hp
@[go_sem] def ctToLate : Ct := ⟨false, [], fun args os => match args, os with
  | [.agg [.val (.int .i64 x), .val (.int .i64 y), .val (.string t)]], [] => is (.agg [.val (.int .i64 x), .val (.int .i64 y), .val (.string t)])
  | _, _ => no⟩
theorem s_toLate_e : EnterOk Tryz.prog 184 := ⟨_, Tryz.func184, rfl, by decide⟩
@[go_sem] def s_toLate_lv : List (List Nat) := [[1, 2], [1, 2, 3], [1, 2, 3], [1, 2, 3], [2, 3], [2]]
@[go_sem] noncomputable def s_toLate_K : Known := Known.nil
set_option maxHeartbeats 8000000 in
theorem s_toLate : Sound Tryz.prog 184 ctToLate := by
  have ke := s_toLate_K.env []
  have kl : Lives s_toLate_lv := trivial
  refine sound_intro (E := ⟨ti, s_toLate_K.Γ, []⟩) ke Tryz.func184 Tryz.ntmps184 rfl (rs := [.cell 2 134]) rfl ?_
  intro args os hp
  unfold ctToLate at hp ⊢
  dsimp only at hp ⊢
  split at hp
  · rename_i x y t
    refine ⟨by simp, fun φ0 w0 => ?_⟩
    refine goh trivial ?_
    exact finh [] trivial
  · simp [no, is] at hp
@[go_sem] def ctToL : Ct := ⟨false, [[some .late]], fun args os => match args, os with
  | [.one (.isl .late xs)], [] => ⟨xs.length ≤ 4000000, .one (.osl .late 0 0 xs.length), [], [.arr .late xs]⟩
  | _, _ => no⟩
@[go_sem] def sgToL (xs : List Late) (i : Nat) : Sg := ⟨[(0, .one (.isl .late xs)), (3, .one (.osl .late 0 0 xs.length)), (4, vi i)], [some (.arr .late (mix xs (List.replicate xs.length ET.late.dflt) i))], []⟩
theorem s_toL_e : EnterOk Tryz.prog 114 := ⟨_, Tryz.func114, rfl, by decide⟩
@[go_sem] def s_toL_lv : List (List Nat) := [[0], [0, 3], [0, 3, 4], [0, 3, 4, 11], [0, 3, 4], [0, 3, 4], [2]]
@[go_sem] noncomputable def s_toL_K : Known := (Known.nil).cons 184 ctToLate s_toLate s_toLate_e
set_option maxHeartbeats 8000000 in
theorem s_toL : Sound Tryz.prog 114 ctToL := by
  have ke := s_toL_K.env []
  have kl : Lives s_toL_lv := trivial
  refine sound_intro (E := ⟨ti, s_toL_K.Γ, []⟩) ke Tryz.func114 Tryz.ntmps114 rfl (rs := [.tmp 2]) rfl ?_
  intro args os hp
  unfold ctToL at hp ⊢
  dsimp only at hp ⊢
  split at hp
  · rename_i xs
    refine ⟨by simp, fun φ0 w0 => ?_⟩
    have hlen : xs.length ≤ 4000000 := hp
    clear hp
    refine goh trivial ?_
    refine W_le (σ' := sgToL xs 0) [some 0] (by
      simp only [go_sem, mix_zero, inj_r, ↓reduceIte, reduceCtorEq, Nat.reduceAdd, Nat.reduceLT, Nat.reduceLeDiff, Nat.reduceEqDiff, Int.reduceEq]
      all_goals (repeat' refine And.intro ?_ ?_) <;> try exact shut7
      ) ?_
    refine W_loop (fun n σ => ∃ i : Nat, i ≤ xs.length ∧ n = xs.length - i ∧ σ = sgToL xs i) xs.length ⟨0, by omega, by omega, rfl⟩ ?_
    rintro n σ ⟨i, hi, rfl, rfl⟩
    unfold sgToL
    have hm := mix_len xs (List.replicate xs.length ET.late.dflt) i (by simp)
    rw [List.length_replicate] at hm
    refine goh hm ?_
    refine W_cnd ?_ ?_ <;> (try simp only [cnd_r]) <;> intro hlt
    · have hs := mix_set xs (List.replicate xs.length ET.late.dflt) i ET.late.dflt (by simp) (by simp; omega) rfl
      refine goh hm ?_
      refine ⟨xs.length - (i + 1), [some 0], sgToL xs (i + 1), by omega, ?_, i + 1, by omega, rfl, rfl⟩
      exact leh (And.intro hs hm)
    · have hs := mix_all xs (List.replicate xs.length ET.late.dflt) i (by simp) (by simp; omega)
      refine goh hm ?_
      exact finh [some 0] hs
  · simp [no] at hp
@[go_sem] def ctToDisk : Ct := ⟨false, [[some .str, some .str, some .late]], fun args os => match args, os with
  | [.agg [.isl .str a, .isl .str b, .isl .late l]], [] => ⟨(Dk.mk a b l).small, (Dk.mk a b l).v 0, [], (Dk.mk a b l).objs⟩
  | _, _ => no⟩
theorem s_toDisk_e : EnterOk Tryz.prog 41 := ⟨_, Tryz.func41, rfl, by decide⟩
@[go_sem] def s_toDisk_lv : List (List Nat) := [[1, 2], [1, 2, 3], [1, 2, 3], [2, 3], [2]]
@[go_sem] noncomputable def s_toDisk_K : Known := ((Known.nil).cons 113 ctToS2 s_toS2 s_toS2_e).cons 114 ctToL s_toL s_toL_e
set_option maxHeartbeats 8000000 in
theorem s_toDisk : Sound Tryz.prog 41 ctToDisk := by
  have ke := s_toDisk_K.env []
  have kl : Lives s_toDisk_lv := trivial
  refine sound_intro (E := ⟨ti, s_toDisk_K.Γ, []⟩) ke Tryz.func41 Tryz.ntmps41 rfl (rs := [.cell 2 39]) rfl ?_
  intro args os hp
  unfold ctToDisk at hp ⊢
  dsimp only at hp ⊢
  split at hp
  · rename_i a b l
    refine ⟨by simp, fun φ0 w0 => ?_⟩
    obtain ⟨h1, h2, h3⟩ : (Dk.mk a b l).small := hp
    simp only at h1 h2 h3
    refine goh trivial ?_
    exact finh [some 3, some 4, some 5] trivial
  · simp [no] at hp
end Go.Proofs.YtjedcphhajlnoaaGreatDoor
/- Functions of the exact laws: marks, and what holds them. -/
namespace Go.Proofs.YtjedcphhajlnoaaGreatDoor
open Go.RowKit

@[go_sem] def ctMarkT : Ct := ⟨false, [], fun args os => match args, os with
  | [.one (.val (.int .i64 k))], [] => ifp (0 ≤ k ∧ k ≤ 1152921504606846976) (vs (markT k))
  | _, _ => no⟩
@[go_sem] def sgMark (k : Int) (out : ByteArray) : Sg := ⟨[(0, vi k), (3, vs out)], [], []⟩
theorem s_markT_e : EnterOk Tryz.prog 143 := ⟨_, Tryz.func143, rfl, by decide⟩
@[go_sem] def s_markT_lv : List (List Nat) := [[0], [0, 5], [2], [0, 3], [0, 3, 7], [0, 3], [0, 3], [2]]
@[go_sem] noncomputable def s_markT_K : Known := Known.nil
set_option maxHeartbeats 8000000 in
theorem s_markT : Sound Tryz.prog 143 ctMarkT := by
  have ke := s_markT_K.env []
  have kl : Lives s_markT_lv := trivial
  refine sound_intro (E := ⟨ti, s_markT_K.Γ, []⟩) ke Tryz.func143 Tryz.ntmps143 rfl (rs := [.tmp 2]) rfl ?_
  intro args os hp
  unfold ctMarkT at hp ⊢
  dsimp only at hp ⊢
  split at hp
  · rename_i k
    refine ⟨by simp, fun φ0 w0 => ?_⟩
    obtain ⟨h1, h2⟩ : 0 ≤ k ∧ k ≤ 1152921504606846976 := hp
    refine goh trivial ?_
    refine W_cnd ?_ ?_ <;> (try simp only [cnd_r]) <;> intro hk
    · have e : markT k = ⟨#[109, 48]⟩ := by unfold markT; rw [if_pos (by omega)]
      refine goh trivial ?_
      exact finh [] e
    · have e : markT k = ⟨#[109]⟩ ++ digs 64 k ⟨#[]⟩ := by unfold markT; rw [if_neg (by omega)]
      obtain ⟨R, hR⟩ : ∃ R, digs 64 k ⟨#[]⟩ = R := ⟨_, rfl⟩
      refine goh trivial ?_
      refine W_le (σ' := sgMark k ⟨#[]⟩) [] (by
        simp only [go_sem, inj_r, ↓reduceIte, reduceCtorEq, Nat.reduceAdd, Nat.reduceLT, Nat.reduceLeDiff, Nat.reduceEqDiff, Int.reduceEq]
        all_goals (repeat' refine And.intro ?_ ?_) <;> try exact shut7
        ) ?_
      refine W_loop (fun n σ => ∃ (j : Int) (out : ByteArray), 0 ≤ j ∧ j ≤ 1152921504606846976 ∧ j.toNat < 2 ^ n ∧ out.size + n ≤ 64 ∧ digs n j out = R ∧ σ = sgMark j out) 64 ⟨k, ⟨#[]⟩, h1, h2, by omega, by decide, hR, rfl⟩ ?_
      rintro n σ ⟨j, out, hj1, hj2, hn, ho, hd, rfl⟩
      unfold sgMark
      refine goh trivial ?_
      refine W_cnd ?_ ?_ <;> (try simp only [cnd_r]) <;> intro hjp
      · refine goh trivial ?_
        obtain ⟨m, rfl⟩ : ∃ m, n = m + 1 := ⟨n - 1, by rcases n with _ | n; · simp at hn; omega
                                                       · omega⟩
        have hd2 := hd
        unfold digs at hd2
        rw [if_pos hjp] at hd2
        have hq : j.tdiv 10 = j / 10 := Int.tdiv_eq_ediv_of_nonneg hj1
        have hw : IntKind.i64.wrap (j.tdiv 10) = j.tdiv 10 := wrap_id _ (by omega) (by omega)
        rw [Nat.pow_succ] at hn
        refine ⟨m, [], sgMark (j.tdiv 10) (⟨#[UInt8.ofNat (IntKind.u8.wrap (IntKind.i64.wrap (48 + j.tmod 10))).toNat]⟩ ++ out), by omega, ?_, _, _, by omega, by omega, by omega, ?_, hd2, rfl⟩
        · exact leh hw
        · rw [ByteArray.size_append]
          show 1 + out.size + m ≤ 64
          omega
      · refine goh trivial ?_
        have hj0 : ¬ j > 0 := by omega
        have e2 : digs n j out = out := by
          cases n with
          | zero => rfl
          | succ m => unfold digs; rw [if_neg hj0]
        rw [← hd, e2] at hR
        exact finh [] (And.intro e hR)
  · simp [no, ifp] at hp
@[go_sem] def ctMarkS : Ct := ⟨true, [], fun args os => match args, os with
  | [.one (.osl .str 0 0 n), .one (.val (.int .i64 k))], [.arr .str xs] => ⟨n = xs.length ∧ xs.length ≤ 4000000 ∧ 0 ≤ k ∧ k ≤ 1000000000, vi (k + xs.length), [(0, some (.arr .str (markS xs.length k)))], []⟩
  | _, _ => no⟩
@[go_sem] def sgMarkS (xs : List ByteArray) (k : Int) (i : Nat) : Sg := ⟨[(0, .one (.osl .str 0 0 xs.length)), (1, vi (k + i)), (5, vi i)], [some (.arr .str (mix (markS xs.length k) xs i))], [0]⟩
theorem s_markS_e : EnterOk Tryz.prog 209 := ⟨_, Tryz.func209, rfl, by decide⟩
@[go_sem] def s_markS_lv : List (List Nat) := [[0, 1], [0, 1, 5], [0, 1, 5, 9], [0, 1, 5], [0, 1, 5], [0, 1, 5], [4]]
@[go_sem] noncomputable def s_markS_K : Known := (Known.nil).cons 143 ctMarkT s_markT s_markT_e
set_option maxHeartbeats 8000000 in
theorem s_markS : Sound Tryz.prog 209 ctMarkS := by
  have ke := s_markS_K.env []
  have kl : Lives s_markS_lv := trivial
  refine sound_intro (E := ⟨ti, s_markS_K.Γ, []⟩) ke Tryz.func209 Tryz.ntmps209 rfl (rs := [.tmp 4]) rfl ?_
  intro args os hp
  unfold ctMarkS at hp ⊢
  dsimp only at hp ⊢
  split at hp
  · rename_i n k xs
    refine ⟨by simp, fun φ0 w0 => ?_⟩
    obtain ⟨rfl, h1, h2, h3⟩ : n = xs.length ∧ xs.length ≤ 4000000 ∧ 0 ≤ k ∧ k ≤ 1000000000 := hp
    have hml := markS_len xs.length k
    refine goh trivial ?_
    refine W_le (σ' := sgMarkS xs k 0) [some 0] (by
      simp only [go_sem, mix_zero, inj_r, ↓reduceIte, reduceCtorEq, Nat.reduceAdd, Nat.reduceLT, Nat.reduceLeDiff, Nat.reduceEqDiff, Int.reduceEq]
      all_goals (repeat' refine And.intro ?_ ?_) <;> try exact shut7
      ) ?_
    refine W_loop (fun q σ => ∃ i : Nat, i ≤ xs.length ∧ q = xs.length - i ∧ σ = sgMarkS xs k i) xs.length ⟨0, by omega, by omega, rfl⟩ ?_
    rintro q σ ⟨i, hi, rfl, rfl⟩
    unfold sgMarkS
    have hm := mix_len (markS xs.length k) xs i hml
    refine goh hm ?_
    refine W_cnd ?_ ?_ <;> (try simp only [cnd_r]) <;> intro hlt
    · have hs := mix_set (markS xs.length k) xs i ET.str.dflt hml (by omega) (x := markT (k + i)) (markS_get (by omega) _).symm
      refine goh hm ?_
      refine ⟨xs.length - (i + 1), [some 0], sgMarkS xs k (i + 1), by omega, ?_, i + 1, by omega, rfl, rfl⟩
      exact leh (And.intro hs hm)
    · obtain rfl : i = xs.length := by omega
      have hs := mix_all (markS xs.length k) xs xs.length hml rfl
      refine goh hm ?_
      exact finh [some 0] hs
  · simp [no] at hp
@[go_sem] def ctMarkL : Ct := ⟨true, [], fun args os => match args, os with
  | [.one (.osl .late 0 0 n), .one (.val (.int .i64 k))], [.arr .late xs] => ⟨n = xs.length ∧ xs.length ≤ 4000000 ∧ 0 ≤ k ∧ k ≤ 1000000000, vi (k + 3 * xs.length), [(0, some (.arr .late (markL xs.length k)))], []⟩
  | _, _ => no⟩
@[go_sem] def sgMarkL (xs : List Late) (k : Int) (i : Nat) : Sg := ⟨[(0, .one (.osl .late 0 0 xs.length)), (1, vi (k + 3 * i)), (5, vi i)], [some (.arr .late (mix (markL xs.length k) xs i))], [0]⟩
theorem s_markL_e : EnterOk Tryz.prog 142 := ⟨_, Tryz.func142, rfl, by decide⟩
@[go_sem] def s_markL_lv : List (List Nat) := [[0, 1], [0, 1, 5], [0, 1, 5, 9], [0, 1, 5], [0, 1, 5], [0, 1, 5], [0, 1, 5], [0, 1, 5], [0, 1, 5], [0, 1, 5], [4]]
@[go_sem] noncomputable def s_markL_K : Known := (Known.nil).cons 143 ctMarkT s_markT s_markT_e
set_option maxHeartbeats 8000000 in
theorem s_markL : Sound Tryz.prog 142 ctMarkL := by
  have ke := s_markL_K.env []
  have kl : Lives s_markL_lv := trivial
  refine sound_intro (E := ⟨ti, s_markL_K.Γ, []⟩) ke Tryz.func142 Tryz.ntmps142 rfl (rs := [.tmp 4]) rfl ?_
  intro args os hp
  unfold ctMarkL at hp ⊢
  dsimp only at hp ⊢
  split at hp
  · rename_i n k xs
    refine ⟨by simp, fun φ0 w0 => ?_⟩
    obtain ⟨rfl, h1, h2, h3⟩ : n = xs.length ∧ xs.length ≤ 4000000 ∧ 0 ≤ k ∧ k ≤ 1000000000 := hp
    have hml := markL_len xs.length k
    refine goh trivial ?_
    refine W_le (σ' := sgMarkL xs k 0) [some 0] (by
      simp only [go_sem, mix_zero, inj_r, ↓reduceIte, reduceCtorEq, Nat.reduceAdd, Nat.reduceLT, Nat.reduceLeDiff, Nat.reduceEqDiff, Int.reduceEq]
      all_goals (repeat' refine And.intro ?_ ?_) <;> try exact shut7
      ) ?_
    refine W_loop (fun q σ => ∃ i : Nat, i ≤ xs.length ∧ q = xs.length - i ∧ σ = sgMarkL xs k i) xs.length ⟨0, by omega, by omega, rfl⟩ ?_
    rintro q σ ⟨i, hi, rfl, rfl⟩
    unfold sgMarkL
    have hm := mix_len (markL xs.length k) xs i hml
    refine goh hm ?_
    refine W_cnd ?_ ?_ <;> (try simp only [cnd_r]) <;> intro hlt
    · have hli : i < xs.length := by omega
      have w1 : IntKind.i64.wrap (k + 3 * i + 1) = k + 3 * i + 1 := wrap_id _ (by omega) (by omega)
      have w2 : IntKind.i64.wrap (k + 3 * i + 1 + 1) = k + 3 * i + 2 := by rw [wrap_id _ (by omega) (by omega)]; omega
      have w3 : IntKind.i64.wrap (k + 3 * i + 2 + 1) = k + 3 * (i + 1) := by rw [wrap_id _ (by omega) (by omega)]; omega
      have w4 : IntKind.i64.wrap (k + 3 * i) = k + 3 * i := wrap_id _ (by omega) (by omega)
      have w5 : IntKind.i64.wrap (k + 3 * i + 2) = k + 3 * i + 2 := wrap_id _ (by omega) (by omega)
      have hg : ∀ x : Late, ((mix (markL xs.length k) xs i).set i x).getD i ET.late.dflt = x := fun x => by
        rw [List.getD_eq_getElem?_getD, List.getElem?_set, if_pos rfl, if_pos (by omega)]; rfl
      have hs := mix_set (markL xs.length k) xs i ET.late.dflt hml (by omega) (x := ⟨k + 3 * i, k + 3 * i + 1, markT (k + 3 * i + 2)⟩) (markL_get (by omega) _).symm
      repeat' first
        | with_reducible refine red ?_
        | refine W_seq ?_
        | (refine W_reg (s_markL_K.env []) s_markL_lv fun K' hK' => ?_
           simp only [go_sem, hm, w1, w2, w3, w4, w5, List.length_set, hg, List.set_set, ↓reduceIte, ↓reduceDIte, reduceCtorEq, Nat.reduceAdd, Nat.reduceMul, Nat.reduceSub, Nat.reduceDiv, Nat.reduceMod, Nat.reduceLT, Nat.reduceLeDiff, Nat.reduceEqDiff, Nat.reduceBEq, Int.reduceToNat, Int.reduceLE, Int.reduceLT, Int.reduceEq, Int.reduceNe, Int.reduceNeg]
           (repeat' refine And.intro ?_ ?_) <;> try first | with_reducible refine hK' ?_ | exact shut6)
        | with_reducible refine blockG_o (by decide) ?_
      refine ⟨xs.length - (i + 1), [some 0], sgMarkL xs k (i + 1), by omega, ?_, i + 1, by omega, rfl, rfl⟩
      exact leh (And.intro hs hm)
    · obtain rfl : i = xs.length := by omega
      have hs := mix_all (markL xs.length k) xs xs.length hml rfl
      refine goh hm ?_
      exact finh [some 0] hs
  · simp [no] at hp
@[go_sem] def ctMarkS2 : Ct := ⟨true, [], fun args os => match args, os with
  | [.agg [.osl .str 0 0 n, .osl .str 1 0 m], .one (.val (.int .i64 k))], [.arr .str a, .arr .str b] => ⟨(n = a.length ∧ m = b.length) ∧ a.length ≤ 4000000 ∧ b.length ≤ 4000000 ∧ 0 ≤ k ∧ k ≤ 900000000, vi (k + a.length + b.length), [(0, some (.arr .str (markS a.length k))), (1, some (.arr .str (markS b.length (k + a.length))))], []⟩
  | _, _ => no⟩
@[go_sem] def sgMarkS2 (a b : List ByteArray) (n m : Nat) (k i : Int) : Sg := ⟨[(1, vi k), (2, .one (.ptr 2 0)), (5, vi i)], [some (.arr .str a), some (.arr .str b), some (.cells [.osl .str 0 0 n, .osl .str 1 0 m])], [0, 1]⟩
theorem s_markS2_e : EnterOk Tryz.prog 141 := ⟨_, Tryz.func141, rfl, by decide⟩
@[go_sem] def s_markS2_lv : List (List Nat) := [[1, 2], [1, 2, 5], [1, 2, 5, 7], [1, 2, 5], [1, 2, 5], [4]]
@[go_sem] noncomputable def s_markS2_K : Known := (Known.nil).cons 209 ctMarkS s_markS s_markS_e
set_option maxHeartbeats 8000000 in
theorem s_markS2 : Sound Tryz.prog 141 ctMarkS2 := by
  have ke := s_markS2_K.env []
  have kl : Lives s_markS2_lv := trivial
  refine sound_intro (E := ⟨ti, s_markS2_K.Γ, []⟩) ke Tryz.func141 Tryz.ntmps141 rfl (rs := [.tmp 4]) rfl ?_
  intro args os hp
  unfold ctMarkS2 at hp ⊢
  dsimp only at hp ⊢
  split at hp
  · rename_i n m k a b
    refine ⟨by simp, fun φ0 w0 => ?_⟩
    obtain ⟨⟨rfl, rfl⟩, h1, h2, h3, h4⟩ : (n = a.length ∧ m = b.length) ∧ a.length ≤ 4000000 ∧ b.length ≤ 4000000 ∧ 0 ≤ k ∧ k ≤ 900000000 := hp
    refine goh trivial ?_
    refine W_le (σ' := sgMarkS2 a b a.length b.length k 0) [some 0, some 1, some 2] (by
      simp only [go_sem, inj_r, ↓reduceIte, reduceCtorEq, Nat.reduceAdd, Nat.reduceLT, Nat.reduceLeDiff, Nat.reduceEqDiff, Int.reduceEq]
      all_goals (repeat' refine And.intro ?_ ?_) <;> try exact shut7
      ) ?_
    refine W_loop (fun q σ => (q = 2 ∧ σ = sgMarkS2 a b a.length b.length k 0) ∨ (q = 1 ∧ σ = sgMarkS2 (markS a.length k) b a.length b.length (k + a.length) 1) ∨ (q = 0 ∧ σ = sgMarkS2 (markS a.length k) (markS b.length (k + a.length)) a.length b.length (k + a.length + b.length) 2)) 2 (.inl ⟨rfl, rfl⟩) ?_
    rintro q σ (⟨rfl, rfl⟩ | ⟨rfl, rfl⟩ | ⟨rfl, rfl⟩)
    · unfold sgMarkS2
      refine goh trivial ?_
      refine W_cnd ?_ ?_ <;> intro hlit <;> try (cases hlit; done)
      refine goh trivial ?_
      refine ⟨1, [some 0, some 1, some 2], sgMarkS2 (markS a.length k) b a.length b.length (k + a.length) 1, by omega, ?_, .inr (.inl ⟨rfl, rfl⟩)⟩
      exact leh trivial
    · unfold sgMarkS2
      refine goh trivial ?_
      refine W_cnd ?_ ?_ <;> intro hlit <;> try (cases hlit; done)
      refine goh trivial ?_
      refine ⟨0, [some 0, some 1, some 2], sgMarkS2 (markS a.length k) (markS b.length (k + a.length)) a.length b.length (k + a.length + b.length) 2, by omega, ?_, .inr (.inr ⟨rfl, rfl⟩)⟩
      exact leh trivial
    · unfold sgMarkS2
      refine goh trivial ?_
      refine W_cnd ?_ ?_ <;> intro hlit <;> try (cases hlit; done)
      refine goh trivial ?_
      exact finh [some 0, some 1] trivial
  · simp [no] at hp
@[go_sem] def ctMarkDisk : Ct := ⟨true, [], fun args os => match args, os with
  | [.agg [.osl .str 0 0 n, .osl .str 1 0 m, .osl .late 2 0 q], .one (.val (.int .i64 k))], [.arr .str a, .arr .str b, .arr .late l] => ⟨(n = a.length ∧ m = b.length ∧ q = l.length) ∧ (a.length ≤ 4000000 ∧ b.length ≤ 4000000 ∧ l.length ≤ 4000000) ∧ 0 ≤ k ∧ k ≤ 800000000, vi (k + a.length + b.length + 3 * l.length),
      [(0, some (.arr .str (markS a.length k))), (1, some (.arr .str (markS b.length (k + a.length)))), (2, some (.arr .late (markL l.length (k + a.length + b.length))))], []⟩
  | _, _ => no⟩
theorem s_markDisk_e : EnterOk Tryz.prog 65 := ⟨_, Tryz.func65, rfl, by decide⟩
@[go_sem] def s_markDisk_lv : List (List Nat) := [[1, 2], [1, 2], [1], [4]]
@[go_sem] noncomputable def s_markDisk_K : Known := ((Known.nil).cons 141 ctMarkS2 s_markS2 s_markS2_e).cons 142 ctMarkL s_markL s_markL_e
set_option maxHeartbeats 8000000 in
theorem s_markDisk : Sound Tryz.prog 65 ctMarkDisk := by
  have ke := s_markDisk_K.env []
  have kl : Lives s_markDisk_lv := trivial
  refine sound_intro (E := ⟨ti, s_markDisk_K.Γ, []⟩) ke Tryz.func65 Tryz.ntmps65 rfl (rs := [.tmp 4]) rfl ?_
  intro args os hp
  unfold ctMarkDisk at hp ⊢
  dsimp only at hp ⊢
  split at hp
  · rename_i n m q k a b l
    refine ⟨by simp, fun φ0 w0 => ?_⟩
    obtain ⟨⟨rfl, rfl, rfl⟩, ⟨h1, h2, h3⟩, h4, h5⟩ : (n = a.length ∧ m = b.length ∧ q = l.length) ∧ (a.length ≤ 4000000 ∧ b.length ≤ 4000000 ∧ l.length ≤ 4000000) ∧ 0 ≤ k ∧ k ≤ 800000000 := hp
    refine goh trivial ?_
    exact finh [some 0, some 1, some 2] trivial
  · simp [no] at hp
@[go_sem] def ctHeldS : Ct := ⟨false, [[some .str]], fun args os => match args, os with
  | [.one (.isl .str xs), .one (.val (.int .i64 k))], [] => ifp (xs = markS xs.length k ∧ xs.length ≤ 4000000 ∧ 0 ≤ k ∧ k ≤ 1000000000) (vi (k + xs.length))
  | _, _ => no⟩
@[go_sem] def sgHeldS (xs : List ByteArray) (k : Int) (i : Nat) : Sg := ⟨[(0, .one (.isl .str xs)), (1, vi (k + i)), (5, vi i)], [], []⟩
theorem s_heldS_e : EnterOk Tryz.prog 245 := ⟨_, Tryz.func245, rfl, by decide⟩
@[go_sem] def s_heldS_lv : List (List Nat) := [[0, 1], [0, 1, 5], [0, 1, 5, 9], [0, 1, 5], [0, 1, 5, 18], [4], [0, 1, 5], [4]]
@[go_sem] noncomputable def s_heldS_K : Known := (Known.nil).cons 143 ctMarkT s_markT s_markT_e
set_option maxHeartbeats 8000000 in
theorem s_heldS : Sound Tryz.prog 245 ctHeldS := by
  have ke := s_heldS_K.env []
  have kl : Lives s_heldS_lv := trivial
  refine sound_intro (E := ⟨ti, s_heldS_K.Γ, []⟩) ke Tryz.func245 Tryz.ntmps245 rfl (rs := [.tmp 4]) rfl ?_
  intro args os hp
  unfold ctHeldS at hp ⊢
  dsimp only at hp ⊢
  split at hp
  · rename_i xs k
    refine ⟨by simp, fun φ0 w0 => ?_⟩
    obtain ⟨h0, h1, h2, h3⟩ : xs = markS xs.length k ∧ xs.length ≤ 4000000 ∧ 0 ≤ k ∧ k ≤ 1000000000 := hp
    have hget : ∀ i, i < xs.length → xs.getD i ET.str.dflt = markT (k + i) := fun i hi => by
      conv => lhs; rw [h0]
      exact markS_get hi _
    clear h0
    refine goh trivial ?_
    refine W_le (σ' := sgHeldS xs k 0) [] (by
      simp only [go_sem, inj_r, ↓reduceIte, reduceCtorEq, Nat.reduceAdd, Nat.reduceLT, Nat.reduceLeDiff, Nat.reduceEqDiff, Int.reduceEq]
      all_goals (repeat' refine And.intro ?_ ?_) <;> try exact shut7
      ) ?_
    refine W_loop (fun q σ => ∃ i : Nat, i ≤ xs.length ∧ q = xs.length - i ∧ σ = sgHeldS xs k i) xs.length ⟨0, by omega, by omega, rfl⟩ ?_
    rintro q σ ⟨i, hi, rfl, rfl⟩
    unfold sgHeldS
    refine goh trivial ?_
    refine W_cnd ?_ ?_ <;> (try simp only [cnd_r]) <;> intro hlt
    · have hg := hget i (by omega)
      refine goh hg ?_
      refine W_cnd ?_ ?_ <;> intro hlit <;> try (cases hlit; done)
      refine goh trivial ?_
      refine ⟨xs.length - (i + 1), [], sgHeldS xs k (i + 1), by omega, ?_, i + 1, by omega, rfl, rfl⟩
      exact leh trivial
    · obtain rfl : i = xs.length := by omega
      refine goh trivial ?_
      exact finh [] trivial
  · simp [no, ifp] at hp
@[go_sem] def ctHeldS2 : Ct := ⟨false, [[some .str, some .str]], fun args os => match args, os with
  | [.agg [.isl .str a, .isl .str b], .one (.val (.int .i64 k))], [] => ifp ((a = markS a.length k ∧ b = markS b.length (k + a.length)) ∧ (a.length ≤ 4000000 ∧ b.length ≤ 4000000) ∧ 0 ≤ k ∧ k ≤ 900000000) (vi (k + a.length + b.length))
  | _, _ => no⟩
@[go_sem] def sgHeldS2 (a b : List ByteArray) (k i : Int) : Sg := ⟨[(1, vi k), (2, .one (.ptr 0 0)), (5, vi i)], [some (.cells [.isl .str a, .isl .str b])], []⟩
theorem s_heldS2_e : EnterOk Tryz.prog 192 := ⟨_, Tryz.func192, rfl, by decide⟩
@[go_sem] def s_heldS2_lv : List (List Nat) := [[1, 2], [1, 2, 5], [1, 2, 5, 7], [1, 2, 5], [1, 2, 5], [1, 2, 5, 16], [4], [4]]
@[go_sem] noncomputable def s_heldS2_K : Known := (Known.nil).cons 245 ctHeldS s_heldS s_heldS_e
set_option maxHeartbeats 8000000 in
theorem s_heldS2 : Sound Tryz.prog 192 ctHeldS2 := by
  have ke := s_heldS2_K.env []
  have kl : Lives s_heldS2_lv := trivial
  refine sound_intro (E := ⟨ti, s_heldS2_K.Γ, []⟩) ke Tryz.func192 Tryz.ntmps192 rfl (rs := [.tmp 4]) rfl ?_
  intro args os hp
  unfold ctHeldS2 at hp ⊢
  dsimp only at hp ⊢
  split at hp
  · rename_i a b k
    refine ⟨by simp, fun φ0 w0 => ?_⟩
    obtain ⟨⟨e1, e2⟩, ⟨h1, h2⟩, h3, h4⟩ : (a = markS a.length k ∧ b = markS b.length (k + a.length)) ∧ (a.length ≤ 4000000 ∧ b.length ≤ 4000000) ∧ 0 ≤ k ∧ k ≤ 900000000 := hp
    have c1 : decide (k + a.length < 0) = false := by simp; omega
    have c2 : decide (k + a.length + b.length < 0) = false := by simp; omega
    refine goh trivial ?_
    refine W_le (σ' := sgHeldS2 a b k 0) [some 0] (by
      simp only [go_sem, inj_r, ↓reduceIte, reduceCtorEq, Nat.reduceAdd, Nat.reduceLT, Nat.reduceLeDiff, Nat.reduceEqDiff, Int.reduceEq]
      all_goals (repeat' refine And.intro ?_ ?_) <;> try exact shut7
      ) ?_
    refine W_loop (fun q σ => (q = 2 ∧ σ = sgHeldS2 a b k 0) ∨ (q = 1 ∧ σ = sgHeldS2 a b (k + a.length) 1) ∨ (q = 0 ∧ σ = sgHeldS2 a b (k + a.length + b.length) 2)) 2 (.inl ⟨rfl, rfl⟩) ?_
    rintro q σ (⟨rfl, rfl⟩ | ⟨rfl, rfl⟩ | ⟨rfl, rfl⟩)
    · unfold sgHeldS2
      refine goh trivial ?_
      refine W_cnd ?_ ?_ <;> intro hlit <;> try (cases hlit; done)
      refine goh c1 ?_
      refine W_cnd ?_ ?_ <;> intro hlit <;> try (cases hlit; done)
      refine goh trivial ?_
      refine ⟨1, [some 0], sgHeldS2 a b (k + a.length) 1, by omega, ?_, .inr (.inl ⟨rfl, rfl⟩)⟩
      exact leh trivial
    · unfold sgHeldS2
      refine goh trivial ?_
      refine W_cnd ?_ ?_ <;> intro hlit <;> try (cases hlit; done)
      refine goh c2 ?_
      refine W_cnd ?_ ?_ <;> intro hlit <;> try (cases hlit; done)
      refine goh trivial ?_
      refine ⟨0, [some 0], sgHeldS2 a b (k + a.length + b.length) 2, by omega, ?_, .inr (.inr ⟨rfl, rfl⟩)⟩
      exact leh trivial
    · unfold sgHeldS2
      refine goh trivial ?_
      refine W_cnd ?_ ?_ <;> intro hlit <;> try (cases hlit; done)
      refine goh trivial ?_
      exact finh [] trivial
  · simp [no, ifp] at hp
@[go_sem] def ctHeldL : Ct := ⟨false, [[some .late]], fun args os => match args, os with
  | [.one (.isl .late xs), .one (.val (.int .i64 k))], [] => ifp (xs = markL xs.length k ∧ xs.length ≤ 4000000 ∧ 0 ≤ k ∧ k ≤ 1000000000) (vi (k + 3 * xs.length))
  | _, _ => no⟩
@[go_sem] def sgHeldL (xs : List Late) (k : Int) (i : Nat) : Sg := ⟨[(0, .one (.isl .late xs)), (1, vi (k + 3 * i)), (5, vi i)], [], []⟩
theorem s_heldL_e : EnterOk Tryz.prog 193 := ⟨_, Tryz.func193, rfl, by decide⟩
@[go_sem] def s_heldL_lv : List (List Nat) := [[0, 1], [0, 1, 5], [0, 1, 5, 9], [0, 1, 5], [0, 1, 5, 18], [4], [0, 1, 5], [0, 1, 5, 27], [4], [0, 1, 5], [0, 1, 5, 37], [4], [0, 1, 5], [4]]
@[go_sem] noncomputable def s_heldL_K : Known := (Known.nil).cons 143 ctMarkT s_markT s_markT_e
set_option maxHeartbeats 8000000 in
theorem s_heldL : Sound Tryz.prog 193 ctHeldL := by
  have ke := s_heldL_K.env []
  have kl : Lives s_heldL_lv := trivial
  refine sound_intro (E := ⟨ti, s_heldL_K.Γ, []⟩) ke Tryz.func193 Tryz.ntmps193 rfl (rs := [.tmp 4]) rfl ?_
  intro args os hp
  unfold ctHeldL at hp ⊢
  dsimp only at hp ⊢
  split at hp
  · rename_i xs k
    refine ⟨by simp, fun φ0 w0 => ?_⟩
    obtain ⟨h0, h1, h2, h3⟩ : xs = markL xs.length k ∧ xs.length ≤ 4000000 ∧ 0 ≤ k ∧ k ≤ 1000000000 := hp
    have hget : ∀ i, i < xs.length → xs.getD i ET.late.dflt = ⟨k + 3 * i, k + 3 * i + 1, markT (k + 3 * i + 2)⟩ := fun i hi => by
      conv => lhs; rw [h0]
      exact markL_get hi _
    clear h0
    refine goh trivial ?_
    refine W_le (σ' := sgHeldL xs k 0) [] (by
      simp only [go_sem, inj_r, ↓reduceIte, reduceCtorEq, Nat.reduceAdd, Nat.reduceLT, Nat.reduceLeDiff, Nat.reduceEqDiff, Int.reduceEq]
      all_goals (repeat' refine And.intro ?_ ?_) <;> try exact shut7
      ) ?_
    refine W_loop (fun q σ => ∃ i : Nat, i ≤ xs.length ∧ q = xs.length - i ∧ σ = sgHeldL xs k i) xs.length ⟨0, by omega, by omega, rfl⟩ ?_
    rintro q σ ⟨i, hi, rfl, rfl⟩
    unfold sgHeldL
    refine goh trivial ?_
    refine W_cnd ?_ ?_ <;> (try simp only [cnd_r]) <;> intro hlt
    · have hg := hget i (by omega)
      have w1 : IntKind.i64.wrap (k + 3 * i + 1) = k + 3 * i + 1 := wrap_id _ (by omega) (by omega)
      have w2 : IntKind.i64.wrap (k + 3 * i + 1 + 1) = k + 3 * i + 2 := by rw [wrap_id _ (by omega) (by omega)]; omega
      have w3 : IntKind.i64.wrap (k + 3 * i + 2 + 1) = k + 3 * (i + 1) := by rw [wrap_id _ (by omega) (by omega)]; omega
      have w4 : IntKind.i64.wrap (k + 3 * i) = k + 3 * i := wrap_id _ (by omega) (by omega)
      have w5 : IntKind.i64.wrap (k + 3 * i + 2) = k + 3 * i + 2 := wrap_id _ (by omega) (by omega)
      refine goh (And.intro hg (And.intro w1 (And.intro w2 (And.intro w3 (And.intro w4 w5))))) ?_
      refine W_cnd ?_ ?_ <;> intro hlit <;> try (cases hlit; done)
      refine goh (And.intro hg (And.intro w1 (And.intro w2 (And.intro w3 (And.intro w4 w5))))) ?_
      refine W_cnd ?_ ?_ <;> intro hlit <;> try (cases hlit; done)
      refine goh (And.intro hg (And.intro w1 (And.intro w2 (And.intro w3 (And.intro w4 w5))))) ?_
      refine W_cnd ?_ ?_ <;> intro hlit <;> try (cases hlit; done)
      refine goh (And.intro hg (And.intro w1 (And.intro w2 (And.intro w3 (And.intro w4 w5))))) ?_
      refine ⟨xs.length - (i + 1), [], sgHeldL xs k (i + 1), by omega, ?_, i + 1, by omega, rfl, rfl⟩
      exact leh trivial
    · obtain rfl : i = xs.length := by omega
      refine goh trivial ?_
      exact finh [] trivial
  · simp [no, ifp] at hp
def Dk.held (d : Dk) (k : Int) : Prop := d.a = markS d.a.length k ∧ d.b = markS d.b.length (k + d.a.length) ∧ d.l = markL d.l.length (k + d.a.length + d.b.length)
@[go_sem] def ctHeldDisk : Ct := ⟨false, [[some .str, some .str, some .late]], fun args os => match args, os with
  | [.agg [.isl .str a, .isl .str b, .isl .late l], .one (.val (.int .i64 k))], [] => ifp ((a = markS a.length k ∧ b = markS b.length (k + a.length) ∧ l = markL l.length (k + a.length + b.length)) ∧ (a.length ≤ 4000000 ∧ b.length ≤ 4000000 ∧ l.length ≤ 4000000) ∧ 0 ≤ k ∧ k ≤ 800000000) (vi (k + a.length + b.length + 3 * l.length))
  | _, _ => no⟩
theorem s_heldDisk_e : EnterOk Tryz.prog 121 := ⟨_, Tryz.func121, rfl, by decide⟩
@[go_sem] def s_heldDisk_lv : List (List Nat) := [[1, 2], [1, 2], [1, 2, 10], [4], [1], [1, 16], [4], [4]]
@[go_sem] noncomputable def s_heldDisk_K : Known := ((Known.nil).cons 192 ctHeldS2 s_heldS2 s_heldS2_e).cons 193 ctHeldL s_heldL s_heldL_e
set_option maxHeartbeats 8000000 in
theorem s_heldDisk : Sound Tryz.prog 121 ctHeldDisk := by
  have ke := s_heldDisk_K.env []
  have kl : Lives s_heldDisk_lv := trivial
  refine sound_intro (E := ⟨ti, s_heldDisk_K.Γ, []⟩) ke Tryz.func121 Tryz.ntmps121 rfl (rs := [.tmp 4]) rfl ?_
  intro args os hp
  unfold ctHeldDisk at hp ⊢
  dsimp only at hp ⊢
  split at hp
  · rename_i a b l k
    refine ⟨by simp, fun φ0 w0 => ?_⟩
    obtain ⟨⟨e1, e2, e3⟩, ⟨h1, h2, h3⟩, h4, h5⟩ : (a = markS a.length k ∧ b = markS b.length (k + a.length) ∧ l = markL l.length (k + a.length + b.length)) ∧ (a.length ≤ 4000000 ∧ b.length ≤ 4000000 ∧ l.length ≤ 4000000) ∧ 0 ≤ k ∧ k ≤ 800000000 := hp
    have c1 : decide (k + a.length + b.length < 0) = false := by simp; omega
    have c2 : decide (k + a.length + b.length + 3 * l.length < 0) = false := by simp; omega
    refine goh c1 ?_
    refine W_cnd ?_ ?_ <;> intro hlit <;> try (cases hlit; done)
    refine goh c2 ?_
    refine W_cnd ?_ ?_ <;> intro hlit <;> try (cases hlit; done)
    refine goh trivial ?_
    exact finh [] trivial
  · simp [no, ifp] at hp
end Go.Proofs.YtjedcphhajlnoaaGreatDoor
