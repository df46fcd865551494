import Derived.Test.YtfmjgoeclilcnaaGreatDoorM5
import Derived.Test.YtfmjgoeclilcnaaGreatDoorM7
set_option linter.unusedSimpArgs false
set_option linter.unusedVariables false
set_option linter.unusedSectionVars false
namespace Go.Proofs.YtfmjgoeclilcnaaGreatDoor
open Go.RowKit
def lateText (l : List Late) (s k : Int) (dflt : ByteArray) : Nat → ByteArray
 | 0 => dflt
 | n + 1 => if (ET.late.at l n).side = s ∧ (ET.late.at l n).at_ = k then (ET.late.at l n).text else lateText l s k dflt n
def Dk.text (d : Dk) (s k : Int) : ByteArray := lateText d.l s k (sec (d.a, d.b) s k) d.l.length
@[go_sem] def ctTextOf : Ct := ⟨false, [[some .str, some .str, some .late]], fun args os => match args, os with
  | [.agg [.isl .str a, .isl .str b, .isl .late l], .one (.val (.int .i64 s)), .one (.val (.int .i64 k))], [] => ifp ((Dk.mk a b l).small ∧ b.length = a.length ∧ sector a.length s k = true) (vs ((Dk.mk a b l).text s k))
  | _, _ => no⟩
@[go_sem] def sgTx (a b : List ByteArray) (l : List Late) (s k : Int) (n : Nat) : Sg := ⟨[(1, vi s), (2, vi k), (3, .one (.ptr 0 0)), (7, vi ((n : Int) - 1))], [some (.cells [.isl .str a, .isl .str b, .isl .late l])], []⟩
theorem s_textOf_e : EnterOk Tryz.prog 129 := ⟨_, Tryz.func129, rfl, by decide⟩
@[go_sem] def s_textOf_lv : List (List Nat) := [[1, 2, 3], [1, 2, 3, 7], [1, 2, 3, 7, 14], [1, 2, 3, 7], [1, 2, 3, 7, 8], [1, 2, 3, 7, 8, 31], [6], [6]]
@[go_sem] noncomputable def s_textOf_K : Known := Known.nil
set_option maxHeartbeats 8000000 in
theorem s_textOf : Sound Tryz.prog 129 ctTextOf := by
 have ke := s_textOf_K.env []
 have kl : Lives s_textOf_lv := trivial
 refine sound_intro (E := ⟨ti, s_textOf_K.Γ, []⟩) ke Tryz.func129 Tryz.ntmps129 rfl (rs := [.tmp 6]) rfl ?_
 intro args os hp
 unfold ctTextOf at hp ⊢
 dsimp only at hp ⊢
 split at hp
 ·rename_i a b l s k
  refine ⟨by simp, fun φ0 w0 => ?_⟩
  obtain ⟨⟨h1, h2, h3⟩, hab, hs⟩ : (a.length ≤ 4000000 ∧ b.length ≤ 4000000 ∧ l.length ≤ 4000000) ∧ b.length = a.length ∧ sector a.length s k = true := hp
  obtain ⟨ws, w1, w2⟩ := (sector_iff _ _ _).1 hs
  have hw : IntKind.i64.wrap ((l.length : Int) - 1) = (l.length : Int) - 1 := wrap_id _ (by omega) (by omega)
  refine goh hw ?_
  refine W_le (σ' := sgTx a b l s k l.length) [some 0] (by
   simp only [go_sem, inj_r, ↓reduceIte, reduceCtorEq, Nat.reduceAdd, Nat.reduceLT, Nat.reduceLeDiff, Nat.reduceEqDiff, Int.reduceEq]
   all_goals (repeat' refine And.intro ?_ ?_) <;> try exact shut7
   ) ?_
  refine W_loop (fun n σ => n ≤ l.length ∧ lateText l s k (sec (a, b) s k) n = (Dk.mk a b l).text s k ∧ σ = sgTx a b l s k n) l.length ⟨Nat.le_refl _, rfl, rfl⟩ ?_
  rintro n σ ⟨hn, ht, rfl⟩
  unfold sgTx
  refine goh trivial ?_
  refine W_cnd ?_ ?_ <;> (try simp only [cnd_r]) <;> intro hlt
  ·obtain ⟨m, rfl⟩ : ∃ m, n = m + 1 := ⟨n - 1, by omega⟩
   have e1 : ((m + 1 : Nat) : Int) - 1 = (m : Int) := by omega
   have e2 : IntKind.i64.wrap ((m : Int) - 1) = (m : Int) - 1 := wrap_id _ (by omega) (by omega)
   refine goh e1 ?_
   refine W_cnd ?_ ?_ <;> (try simp only [cnd_r]) <;> intro hc
   ·have ht2 : lateText l s k (sec (a, b) s k) (m + 1) = (ET.late.at l m).text := if_pos hc
    refine goh trivial ?_
    refine ⟨by (simp only [go_sem, ↓reduceIte, reduceCtorEq, Nat.reduceAdd, Nat.reduceLT, Nat.reduceLeDiff, Nat.reduceEqDiff]) <;> trivial, [], ?_⟩
    all_goals try simp only [go_sem, inj_r, ↓reduceIte, reduceCtorEq, Nat.reduceAdd, Nat.reduceLT, Nat.reduceLeDiff, Nat.reduceEqDiff, Int.reduceEq]
    all_goals (repeat' refine And.intro ?_ ?_) <;> try exact shut7
    rw [← ht, ht2]; rfl
   ·have ht2 : lateText l s k (sec (a, b) s k) (m + 1) = lateText l s k (sec (a, b) s k) m := by
     refine if_neg ?_
     rintro ⟨q1, q2⟩
     rcases hc with h | h
     ·exact h q1
     ·rw [beq_eq_false_iff_ne] at h; exact h q2
    refine goh e2 ?_
    refine ⟨m, [some 0], sgTx a b l s k m, by omega, ?_, by omega, ht2 ▸ ht, rfl⟩
    exact leh trivial
  ·obtain rfl : n = 0 := by omega
   rcases ws with rfl | rfl
   all_goals
    refine goh trivial ?_
    refine ⟨by (simp only [go_sem, ← ht, lateText, sec, ↓reduceIte, reduceCtorEq, Nat.reduceAdd, Nat.reduceLT, Nat.reduceLeDiff, Nat.reduceEqDiff]) <;> trivial, [], ?_⟩
    all_goals try simp only [go_sem, ← ht, lateText, sec, inj_r, ↓reduceIte, reduceCtorEq, Nat.reduceAdd, Nat.reduceLT, Nat.reduceLeDiff, Nat.reduceEqDiff, Int.reduceEq]
    all_goals (repeat' refine And.intro ?_ ?_) <;> try exact shut7
 ·simp [no, ifp] at hp
def dkReads (d : Dk) (s k : Int) : Bool := d.ok && sector d.a.length s k
def dkRead (d : Dk) (s k : Int) : ByteArray := if dkReads d s k then d.text s k else ⟨#[]⟩
@[go_sem] def ctDiskRead : Ct := ⟨false, [[some .str, some .str, some .late]], fun args os => match args, os with
  | [.agg [.isl .str a, .isl .str b, .isl .late l], .one (.val (.int .i64 s)), .one (.val (.int .i64 k))], [] => ifp (Dk.mk a b l).small (.tup [vs (dkRead ⟨a, b, l⟩ s k), vb (dkReads ⟨a, b, l⟩ s k)])
  | _, _ => no⟩
theorem s_diskRead_e : EnterOk Tryz.prog 121 := ⟨_, Tryz.func121, rfl, by decide⟩
@[go_sem] def s_diskRead_lv : List (List Nat) := [[1, 2, 3], [1, 2, 3, 17], [6, 7], [6, 7]]
@[go_sem] noncomputable def s_diskRead_K : Known := (((Known.nil).cons 56 ctDiskOk s_diskOk s_diskOk_e).cons 128 ctIsSector s_isSector s_isSector_e).cons 129 ctTextOf s_textOf s_textOf_e
set_option maxHeartbeats 8000000 in
theorem s_diskRead : Sound Tryz.prog 121 ctDiskRead := by
 have ke := s_diskRead_K.env []
 have kl : Lives s_diskRead_lv := trivial
 refine sound_intro (E := ⟨ti, s_diskRead_K.Γ, []⟩) ke Tryz.func121 Tryz.ntmps121 rfl (rs := [.tmp 6, .tmp 7]) rfl ?_
 intro args os hp
 unfold ctDiskRead at hp ⊢
 dsimp only at hp ⊢
 split at hp
 ·rename_i a b l s k
  refine ⟨by simp, fun φ0 w0 => ?_⟩
  obtain ⟨h1, h2, h3⟩ : a.length ≤ 4000000 ∧ b.length ≤ 4000000 ∧ l.length ≤ 4000000 := hp
  have e1 : dkReads ⟨a, b, l⟩ s k = ((Dk.mk a b l).ok && sector a.length s k) := rfl
  have e2 : dkRead ⟨a, b, l⟩ s k = if dkReads ⟨a, b, l⟩ s k then (Dk.mk a b l).text s k else ⟨#[]⟩ := rfl
  refine goh trivial ?_
  refine W_cnd ?_ ?_ <;> (try simp only [cnd_r]) <;> intro hc
  ·have e3 : dkReads ⟨a, b, l⟩ s k = false := by
    rw [e1]
    rcases hc with h | h <;> simp [h]
   refine goh trivial ?_
   exact finh [] (And.intro e2 e3)
  ·obtain ⟨hok, hs⟩ : (Dk.mk a b l).ok = true ∧ sector a.length s k = true := by simpa using hc
   have e3 : dkReads ⟨a, b, l⟩ s k = true := by rw [e1, hok, hs]; rfl
   obtain ⟨-, -, hab, -⟩ := (Dk.ok_iff _).1 hok
   simp only at hab
   refine goh trivial ?_
   exact finh [] (And.intro e2 e3)
 ·simp [no, ifp] at hp
def ptrOkB (p : Ptr) : Bool := (decide (p.at_ = 0) && decide (p.sum = 0) && decide (p.birth = 0)) || (decide (1 ≤ p.at_) && decide (p.at_ ≤ 119) && (decide (0 ≤ p.sum) && decide (p.sum ≤ 65520)) && (decide (0 ≤ p.birth) && decide (p.birth ≤ 1000000)))
@[go_sem] def ctPtrOk : Ct := ⟨false, [], fun args os => match args, os with
  | [.agg [.val (.int .i64 a), .val (.int .i64 s), .val (.int .i64 b)]], [] => is (vb (ptrOkB ⟨a, s, b⟩))
  | _, _ => no⟩
theorem same_ptr (a s b : Int) : same (Ptr.mk a s b) (Ptr.mk 0 0 0) = (decide (a = 0) && decide (s = 0) && decide (b = 0)) := by
 rw [Bool.eq_iff_iff, same_true]
 simp only [Ptr.mk.injEq, Bool.and_eq_true, decide_eq_true_eq, and_assoc]
theorem s_ptrOk_e : EnterOk Tryz.prog 165 := ⟨_, Tryz.func165, rfl, by decide⟩
@[go_sem] def s_ptrOk_lv : List (List Nat) := [[1], [2]]
@[go_sem] noncomputable def s_ptrOk_K : Known := (Known.nil).cons 123 ctWithin s_within s_within_e
set_option maxHeartbeats 8000000 in
theorem s_ptrOk : Sound Tryz.prog 165 ctPtrOk := by
 have ke := s_ptrOk_K.env []
 have kl : Lives s_ptrOk_lv := trivial
 refine sound_intro (E := ⟨ti, s_ptrOk_K.Γ, []⟩) ke Tryz.func165 Tryz.ntmps165 rfl (rs := [.tmp 2]) rfl ?_
 intro args os hp
 unfold ctPtrOk at hp ⊢
 dsimp only at hp ⊢
 split at hp
 ·rename_i a s b
  refine ⟨by simp, fun φ0 w0 => ?_⟩
  clear hp
  refine goh trivial ?_
  refine ⟨by (simp only [go_sem, ↓reduceIte, reduceCtorEq, Nat.reduceAdd, Nat.reduceLT, Nat.reduceLeDiff, Nat.reduceEqDiff]) <;> trivial, [], ?_⟩
  all_goals try simp only [go_sem, inj_r, ↓reduceIte, reduceCtorEq, Nat.reduceAdd, Nat.reduceLT, Nat.reduceLeDiff, Nat.reduceEqDiff, Int.reduceEq]
  all_goals (repeat' refine And.intro ?_ ?_) <;> try exact shut7
  rw [same_ptr, ptrOkB, Bool.eq_iff_iff]
  simp only [Bool.if_true_left, Bool.if_false_right, Bool.or_eq_true, Bool.and_eq_true, decide_eq_true_eq, Bool.decide_eq_true, and_assoc]
 ·simp [no] at hp
def realB (p : Ptr) : Bool := ptrOkB p && !(p.at_ == 0)
@[go_sem] def ctReal : Ct := ⟨false, [], fun args os => match args, os with
  | [.agg [.val (.int .i64 a), .val (.int .i64 s), .val (.int .i64 b)]], [] => is (vb (realB ⟨a, s, b⟩))
  | _, _ => no⟩
theorem s_isReal_e : EnterOk Tryz.prog 96 := ⟨_, Tryz.func96, rfl, by decide⟩
@[go_sem] def s_isReal_lv : List (List Nat) := [[1], [2]]
@[go_sem] noncomputable def s_isReal_K : Known := (Known.nil).cons 165 ctPtrOk s_ptrOk s_ptrOk_e
set_option maxHeartbeats 8000000 in
theorem s_isReal : Sound Tryz.prog 96 ctReal := by
 have ke := s_isReal_K.env []
 have kl : Lives s_isReal_lv := trivial
 refine sound_intro (E := ⟨ti, s_isReal_K.Γ, []⟩) ke Tryz.func96 Tryz.ntmps96 rfl (rs := [.tmp 2]) rfl ?_
 intro args os hp
 unfold ctReal at hp ⊢
 dsimp only at hp ⊢
 split at hp
 ·rename_i a s b
  refine ⟨by simp, fun φ0 w0 => ?_⟩
  clear hp
  refine goh trivial ?_
  refine ⟨by (simp only [go_sem, ↓reduceIte, reduceCtorEq, Nat.reduceAdd, Nat.reduceLT, Nat.reduceLeDiff, Nat.reduceEqDiff]) <;> trivial, [], ?_⟩
  all_goals try simp only [go_sem, inj_r, ↓reduceIte, reduceCtorEq, Nat.reduceAdd, Nat.reduceLT, Nat.reduceLeDiff, Nat.reduceEqDiff, Int.reduceEq]
  all_goals (repeat' refine And.intro ?_ ?_) <;> try exact shut7
  unfold realB
  cases ptrOkB ⟨a, s, b⟩ <;> simp [bne]
 ·simp [no] at hp
def Dk.has (d : Dk) (p : Ptr) (side : Int) : Bool := sector d.a.length side p.at_ && decide ((sumOf (d.text side p.at_) : Int) = p.sum)
theorem lateText_size (l : List Late) (s k : Int) (dflt : ByteArray) {m : Nat} (h : ∀ i, i < l.length → (l.getD i ET.late.dflt).text.size ≤ m) (hd : dflt.size ≤ m) : ∀ n, n ≤ l.length → (lateText l s k dflt n).size ≤ m
 | 0, _ => hd
 | n + 1, hn => by
   unfold lateText
   split
   ·exact h n (by omega)
   ·exact lateText_size l s k dflt h hd n (by omega)
theorem Dk.text_size {d : Dk} (h : d.ok = true) (s k : Int) : (d.text s k).size ≤ 420 :=
 lateText_size _ _ _ _ (fun i hi => (Dk.ok_late h i hi).2.2.2) ((Dk.ok_sm h).sec s k) _ (Nat.le_refl _)
@[go_sem] def ctHas : Ct := ⟨false, [[some .str, some .str, some .late]], fun args os => match args, os with
  | [.agg [.isl .str a, .isl .str b, .isl .late l], .agg [.val (.int .i64 pa), .val (.int .i64 ps), .val (.int .i64 pb)], .one (.val (.int .i64 s))], [] => ifp ((Dk.mk a b l).ok = true) (vb ((Dk.mk a b l).has ⟨pa, ps, pb⟩ s))
  | _, _ => no⟩
theorem s_has_e : EnterOk Tryz.prog 97 := ⟨_, Tryz.func97, rfl, by decide⟩
@[go_sem] def s_has_lv : List (List Nat) := [[2, 3, 4], [6]]
@[go_sem] noncomputable def s_has_K : Known := (((Known.nil).cons 128 ctIsSector s_isSector s_isSector_e).cons 129 ctTextOf s_textOf s_textOf_e).cons 166 ctSumOf s_sumOf s_sumOf_e
set_option maxHeartbeats 8000000 in
theorem s_has : Sound Tryz.prog 97 ctHas := by
 have ke := s_has_K.env []
 have kl : Lives s_has_lv := trivial
 refine sound_intro (E := ⟨ti, s_has_K.Γ, []⟩) ke Tryz.func97 Tryz.ntmps97 rfl (rs := [.tmp 6]) rfl ?_
 intro args os hp
 unfold ctHas at hp ⊢
 dsimp only at hp ⊢
 split at hp
 ·rename_i a b l pa ps pb s
  refine ⟨by simp, fun φ0 w0 => ?_⟩
  have hok : (Dk.mk a b l).ok = true := hp
  have e3 : a.length ≤ 120 ∧ b.length ≤ 120 ∧ l.length ≤ 600 := Dk.ok_small hok
  obtain ⟨-, -, hab, -⟩ := (Dk.ok_iff _).1 hok
  simp only at hab
  have hz := Dk.text_size hok s pa
  refine goh trivial ?_
  refine ⟨by (simp only [go_sem, ↓reduceIte, reduceCtorEq, Nat.reduceAdd, Nat.reduceLT, Nat.reduceLeDiff, Nat.reduceEqDiff]) <;> trivial, [], ?_⟩
  all_goals try simp only [go_sem, inj_r, ↓reduceIte, reduceCtorEq, Nat.reduceAdd, Nat.reduceLT, Nat.reduceLeDiff, Nat.reduceEqDiff, Int.reduceEq]
  all_goals (repeat' refine And.intro ?_ ?_) <;> try exact shut7
  unfold Dk.has
  rw [Bool.eq_iff_iff]
  simp only [Bool.if_false_right, Bool.and_eq_true, decide_eq_true_eq, beq_iff_eq]
 ·simp [no, ifp] at hp
end Go.Proofs.YtfmjgoeclilcnaaGreatDoor
namespace Go.Proofs.YtfmjgoeclilcnaaGreatDoor
open Go.RowKit
structure Co where
 txg : Int
 sets : List CSet
 ddt : List Ent
 parts : List Ptr
 dirty : Bool
 safe : List Int
 logn : Int
structure Pl where
 disk : Dk
 core : Co
 up : Bool
@[go_sem] def Co.small (c : Co) : Prop := c.sets.length ≤ 4000000 ∧ c.ddt.length ≤ 4000000 ∧ c.parts.length ≤ 4000000 ∧ c.safe.length ≤ 4000000
end Go.Proofs.YtfmjgoeclilcnaaGreatDoor
namespace Go.Proofs.YtfmjgoeclilcnaaGreatDoor
open Go.RowKit
def Eight.list {α : Type} (m : Eight α) : List α := [m.x0, m.x1, m.x2, m.x3, m.x4, m.x5, m.x6, m.x7]
def Eight.get {α : Type} (m : Eight α) : Nat → α
 | 0 => m.x0 | 1 => m.x1 | 2 => m.x2 | 3 => m.x3 | 4 => m.x4 | 5 => m.x5 | 6 => m.x6 | _ => m.x7
def entB (e : Ent) : Bool := decide (0 ≤ e.sum) && decide (e.sum ≤ 65520) && (decide (1 ≤ e.at_) && decide (e.at_ ≤ 119)) && (decide (1 ≤ e.count) && decide (e.count ≤ 1000))
theorem entB_true {e : Ent} (h : entB e = true) : (0 ≤ e.sum ∧ e.sum ≤ 65520) ∧ (1 ≤ e.at_ ∧ e.at_ ≤ 119) ∧ (1 ≤ e.count ∧ e.count ≤ 1000) := by
 unfold entB at h
 simp only [Bool.and_eq_true, decide_eq_true_eq] at h
 omega
structure EntOk (es : List Ent) (i : Nat) : Prop where
 ent : entB (es.getD i ET.ent.dflt) = true
 less : 0 < i → (es.getD (i - 1) ET.ent.dflt).at_ < (es.getD i ET.ent.dflt).at_
structure DdtP (es : List Ent) : Prop where
 few : es.length ≤ 48
 each : ∀ i, i < es.length → EntOk es i
noncomputable def ddtB (es : List Ent) : Bool := @decide (DdtP es) (Classical.propDecidable _)
theorem ddtB_true {es : List Ent} : ddtB es = true ↔ DdtP es := by simp [ddtB]
theorem ddtB_false {es : List Ent} : ddtB es = false ↔ ¬ DdtP es := by simp [ddtB]
structure Asc (es : List Ent) : Prop where
 lt : ∀ i, 0 < i → i < es.length → (es.getD (i - 1) ET.ent.dflt).at_ < (es.getD i ET.ent.dflt).at_
 lo : ∀ i, i < es.length → 1 ≤ (es.getD i ET.ent.dflt).at_ ∧ (es.getD i ET.ent.dflt).at_ ≤ 119
theorem DdtP.asc {es : List Ent} (h : DdtP es) : Asc es := ⟨fun i h0 hi => (h.each i hi).less h0, fun i hi => (entB_true (h.each i hi).ent).2.1⟩
theorem Asc.all {es : List Ent} (h : Asc es) (i : Nat) : ∀ d, i + d + 1 < es.length → (es.getD i ET.ent.dflt).at_ < (es.getD (i + d + 1) ET.ent.dflt).at_
 | 0, hd => h.lt (i + 1) (by omega) hd
 | d + 1, hd => Int.lt_trans (h.all i d (by omega)) (h.lt (i + (d + 1) + 1) (by omega) hd)
theorem Asc.le {es : List Ent} (h : Asc es) {i j : Nat} (hij : i ≤ j) (hj : j < es.length) : (es.getD i ET.ent.dflt).at_ ≤ (es.getD j ET.ent.dflt).at_ := by
 rcases Nat.eq_or_lt_of_le hij with rfl | hlt
 ·exact Int.le_refl _
 ·have h2 := h.all i (j - i - 1) (by omega)
  rw [show i + (j - i - 1) + 1 = j by omega] at h2
  omega
def lowE (es : List Ent) (at_ : Int) : Nat := es.findIdx fun e => !decide (e.at_ < at_)
def thereE (es : List Ent) (at_ : Int) : Bool := decide (lowE es at_ < es.length) && decide ((es.getD (lowE es at_) ET.ent.dflt).at_ = at_)
theorem lowE_le (es : List Ent) (a : Int) : lowE es a ≤ es.length := List.findIdx_le_length
theorem lowE_before {es : List Ent} {a : Int} {i : Nat} (h : i < lowE es a) : (es.getD i ET.ent.dflt).at_ < a := by
 have h1 := List.not_of_lt_findIdx h
 have h2 := lowE_le es a
 simp only [Bool.not_eq_true', Bool.not_eq_false', decide_eq_true_eq, Bool.not_not] at h1
 have e : es.getD i ET.ent.dflt = es[i]'(by omega) := by simp [show i < es.length by omega]
 rw [e]
 simpa using h1
theorem lowE_at {es : List Ent} {a : Int} (h : lowE es a < es.length) : ¬ (es.getD (lowE es a) ET.ent.dflt).at_ < a := by
 have h1 := @List.findIdx_getElem _ (fun e : Ent => !decide (e.at_ < a)) es h
 have e : es.getD (lowE es a) ET.ent.dflt = es[lowE es a] := by simp [h]
 rw [e]
 rw [Bool.not_eq_true', decide_eq_false_iff_not] at h1
 exact h1
theorem lowE_eq {es : List Ent} {a : Int} {i : Nat} (hi : i ≤ es.length) (hb : ∀ j, j < i → (es.getD j ET.ent.dflt).at_ < a) (hs : i = es.length ∨ ¬ (es.getD i ET.ent.dflt).at_ < a) : lowE es a = i := by
 rcases Nat.lt_trichotomy (lowE es a) i with h | h | h
 ·exact absurd (hb _ h) (lowE_at (by omega))
 ·exact h
 ·rcases hs with rfl | hs
  ·have := lowE_le es a; omega
  ·exact absurd (lowE_before h) hs
theorem thereE_at {es : List Ent} {a : Int} (h : thereE es a = true) : lowE es a < es.length ∧ (es.getD (lowE es a) ET.ent.dflt).at_ = a := by
 unfold thereE at h
 simpa using h
theorem thereE_of {es : List Ent} (h : Asc es) {i : Nat} (hi : i < es.length) : lowE es (es.getD i ET.ent.dflt).at_ = i ∧ thereE es (es.getD i ET.ent.dflt).at_ = true := by
 have e : lowE es (es.getD i ET.ent.dflt).at_ = i := lowE_eq (by omega) (fun j hj => by
  have h2 := h.all j (i - j - 1) (by omega)
  rwa [show j + (i - j - 1) + 1 = i by omega] at h2) (.inr (by omega))
 refine ⟨e, ?_⟩
 unfold thereE
 rw [e]
 simp [hi]
def refsP (cs : List CSet) : List Ptr := cs.flatMap fun s => s.map.list
def cntAt (ps : List Ptr) (a : Int) : Nat := (ps.filter fun p => decide (p.at_ = a)).length
def posN (ps : List Ptr) : Nat := (ps.filter fun p => decide (0 < p.at_)).length
theorem cntAt_app (ps qs : List Ptr) (a : Int) : cntAt (ps ++ qs) a = cntAt ps a + cntAt qs a := by unfold cntAt; rw [List.filter_append, List.length_append]
theorem posN_app (ps qs : List Ptr) : posN (ps ++ qs) = posN ps + posN qs := by unfold posN; rw [List.filter_append, List.length_append]
theorem cntAt_one (p : Ptr) (a : Int) : cntAt [p] a = if p.at_ = a then 1 else 0 := by
 unfold cntAt
 by_cases h : p.at_ = a <;> simp [h]
theorem posN_one (p : Ptr) : posN [p] = if 0 < p.at_ then 1 else 0 := by
 unfold posN
 by_cases h : 0 < p.at_ <;> simp [h]
theorem refs_len : ∀ cs : List CSet, (refsP cs).length = 8 * cs.length
 | [] => rfl
 | c :: cs => by
   show (c.map.list ++ refsP cs).length = _
   rw [List.length_append, refs_len cs, List.length_cons]
   show 8 + _ = _
   omega
theorem refs_take {cs : List CSet} {i : Nat} (h : i < cs.length) : refsP (cs.take (i + 1)) = refsP (cs.take i) ++ (cs.getD i ET.cset.dflt).map.list := by
 have e : cs.getD i ET.cset.dflt = cs[i] := by simp [h]
 unfold refsP
 rw [e, List.take_add_one, List.getElem?_eq_getElem h, List.flatMap_append]
 simp
theorem list_take (m : Eight Ptr) (j : Nat) (h : j < 8) : m.list.take (j + 1) = m.list.take j ++ [m.get j] := by
 rcases (show j = 0 ∨ j = 1 ∨ j = 2 ∨ j = 3 ∨ j = 4 ∨ j = 5 ∨ j = 6 ∨ j = 7 by omega) with rfl | rfl | rfl | rfl | rfl | rfl | rfl | rfl <;> rfl
theorem list_all (m : Eight Ptr) : m.list.take 8 = m.list := rfl
theorem one_of {l : List Int} {a : Int} (h : l.Pairwise (· < ·)) (ha : a ∈ l) : (l.map fun x => if a = x then 1 else 0).sum = 1 := by
 induction l with
 | nil => cases ha
 | cons x l ih =>
   rw [List.pairwise_cons] at h
   rw [List.map_cons, List.sum_cons]
   by_cases hx : a = x
   ·have : (l.map fun x => if a = x then 1 else 0).sum = 0 := by
     have h0 : ∀ l : List Int, (∀ y ∈ l, a < y) → (l.map fun x => if a = x then 1 else 0).sum = 0 := fun l => by
      induction l with
      | nil => intro _; rfl
      | cons y l ih =>
        intro hy
        rw [List.map_cons, List.sum_cons, ih fun z hz => hy z (by simp [hz]), if_neg]
        have := hy y (by simp)
        omega
     exact h0 l fun y hy => by rw [hx]; exact h.1 y hy
    rw [this, if_pos hx]
   ·rw [if_neg hx, ih h.2 (by simpa [hx] using ha)]
theorem asc_pairs {es : List Ent} (h : Asc es) : (es.map (·.at_)).Pairwise (· < ·) := by
 rw [List.pairwise_iff_getElem]
 intro i j hi hj hij
 rw [List.length_map] at hi hj
 have h2 := h.all i (j - i - 1) (by omega)
 rw [show i + (j - i - 1) + 1 = j by omega] at h2
 simpa [hi, hj] using h2
theorem cnt_sum {es : List Ent} (h : Asc es) : ∀ ps : List Ptr, (∀ p ∈ ps, 0 < p.at_ → thereE es p.at_ = true) → (es.map fun e => cntAt ps e.at_).sum = posN ps
 | [], _ => by
   have : ∀ l : List Ent, (l.map fun e => cntAt [] e.at_).sum = 0 := fun l => by
    induction l with
    | nil => rfl
    | cons a l ih => rw [List.map_cons, List.sum_cons, ih]; rfl
   exact this es
 | p :: ps, hp => by
   have h1 := cnt_sum h ps fun q hq => hp q (by simp [hq])
   have h2 : (es.map fun e => cntAt (p :: ps) e.at_).sum = (es.map fun e => if p.at_ = e.at_ then 1 else 0).sum + (es.map fun e => cntAt ps e.at_).sum := by
    have : ∀ l : List Ent, (l.map fun e => cntAt (p :: ps) e.at_).sum = (l.map fun e => if p.at_ = e.at_ then 1 else 0).sum + (l.map fun e => cntAt ps e.at_).sum := fun l => by
     induction l with
     | nil => rfl
     | cons a l ih =>
       rw [List.map_cons, List.sum_cons, ih, List.map_cons, List.sum_cons, List.map_cons, List.sum_cons, show p :: ps = [p] ++ ps from rfl, cntAt_app, cntAt_one]
       omega
    exact this es
   have h3 : (es.map fun e => if p.at_ = e.at_ then 1 else 0).sum = if 0 < p.at_ then 1 else 0 := by
    have e : (es.map fun e => if p.at_ = e.at_ then 1 else 0) = (es.map (·.at_)).map fun x => if p.at_ = x then 1 else 0 := by rw [List.map_map]; rfl
    rw [e]
    split
    ·rename_i h0
     obtain ⟨hk, ha⟩ := thereE_at (hp p (by simp) h0)
     refine one_of (asc_pairs h) ?_
     rw [List.mem_map]
     refine ⟨es[lowE es p.at_], List.getElem_mem _, ?_⟩
     rw [show es.getD (lowE es p.at_) ET.ent.dflt = es[lowE es p.at_] by simp [hk]] at ha
     exact ha
    ·rename_i h0
     have : ∀ l : List Ent, (∀ e ∈ l, 1 ≤ e.at_) → ((l.map (·.at_)).map fun x => if p.at_ = x then 1 else 0).sum = 0 := fun l => by
      induction l with
      | nil => intro _; rfl
      | cons a l ih =>
        intro hl
        rw [List.map_cons, List.map_cons, List.sum_cons, ih fun z hz => hl z (by simp [hz]), if_neg]
        have := hl a (by simp)
        omega
     refine this es fun e he => ?_
     obtain ⟨j, hj, rfl⟩ := List.getElem_of_mem he
     have h4 := (h.lo j hj).1
     rwa [show es.getD j ET.ent.dflt = es[j] by simp [hj]] at h4
   rw [h2, h3, h1, show p :: ps = [p] ++ ps from rfl, posN_app, posN_one]
theorem cnt_le (ps : List Ptr) (a : Int) : cntAt ps a ≤ ps.length := List.length_filter_le _ _
def cnts (es : List Ent) (ps : List Ptr) : List Int := es.map fun e => (cntAt ps e.at_ : Int)
theorem cnts_len (es : List Ent) (ps : List Ptr) : (cnts es ps).length = es.length := List.length_map _
theorem cnts_get {es : List Ent} (ps : List Ptr) {i : Nat} (h : i < es.length) (h' : i < (cnts es ps).length) : (cnts es ps)[i] = (cntAt ps (es.getD i ET.ent.dflt).at_ : Int) := by
 have e : es.getD i ET.ent.dflt = es[i] := by simp [h]
 rw [e]
 exact List.getElem_map _
theorem cnts_at {es : List Ent} (ps : List Ptr) {k : Nat} (hk : k < es.length) : (cnts es ps).getD k 0 = (cntAt ps (es.getD k ET.ent.dflt).at_ : Int) := by
 unfold cnts
 simp [hk]
theorem cnts_step {es : List Ent} (h : Asc es) {ps : List Ptr} {p : Ptr} (ht : thereE es p.at_ = true) : (cnts es ps).set (lowE es p.at_) ((cnts es ps).getD (lowE es p.at_) 0 + 1) = cnts es (ps ++ [p]) := by
 obtain ⟨hk, ha⟩ := thereE_at ht
 rw [cnts_at ps hk]
 refine List.ext_getElem (by rw [List.length_set, cnts_len, cnts_len]) fun i h1 h2 => ?_
 rw [List.length_set, cnts_len] at h1
 rw [List.getElem_set]
 have e2 : (cnts es (ps ++ [p]))[i] = (cntAt (ps ++ [p]) (es.getD i ET.ent.dflt).at_ : Int) := cnts_get _ h1 _
 rw [e2, cntAt_app, cntAt_one]
 split
 ·rename_i he
  subst he
  rw [ha, if_pos rfl]
  omega
 ·rename_i he
  have hne : ¬ p.at_ = (es.getD i ET.ent.dflt).at_ := fun hh => by
   have := (thereE_of h h1).1
   rw [← hh] at this
   exact he this
  rw [if_neg hne, cnts_get _ h1]
  omega
theorem cnts_skip {es : List Ent} (h : Asc es) (ps : List Ptr) {p : Ptr} (hp : p.at_ = 0) : cnts es (ps ++ [p]) = cnts es ps := by
 refine List.ext_getElem (by rw [cnts_len, cnts_len]) fun i h1 h2 => ?_
 rw [cnts_len] at h2
 have h3 := (h.lo i h2).1
 have e1 : (cnts es (ps ++ [p]))[i] = (cntAt (ps ++ [p]) (es.getD i ET.ent.dflt).at_ : Int) := cnts_get _ h2 _
 have e2 : (cnts es ps)[i] = (cntAt ps (es.getD i ET.ent.dflt).at_ : Int) := cnts_get _ h2 _
 rw [e1, e2, cntAt_app, cntAt_one, if_neg (by omega)]
 omega
theorem cnts_none (es : List Ent) : cnts es [] = List.replicate es.length 0 := by
 unfold cnts
 have : ∀ l : List Ent, (l.map fun e => (cntAt [] e.at_ : Int)) = List.replicate l.length 0 := fun l => by
  induction l with
  | nil => rfl
  | cons a l ih => rw [List.map_cons, ih]; rfl
 exact this es
def frameOf (cs : List CSet) : List BSet := cs.map fun s => ⟨s.name, s.kind, s.from_, Eight.rep ⟨#[]⟩⟩
theorem frame_len (cs : List CSet) : (frameOf cs).length = cs.length := by unfold frameOf; rw [List.length_map]
theorem frame_take {cs : List CSet} {i : Nat} (h : i < cs.length) : frameOf (cs.take (i + 1)) = frameOf (cs.take i) ++ [⟨(cs.getD i ET.cset.dflt).name, (cs.getD i ET.cset.dflt).kind, (cs.getD i ET.cset.dflt).from_, Eight.rep ⟨#[]⟩⟩] := by
 have e : cs.getD i ET.cset.dflt = cs[i] := by simp [h]
 unfold frameOf
 rw [e, List.take_add_one, List.getElem?_eq_getElem h, List.map_append]
 rfl
theorem frame_at (cs : List CSet) (i : Nat) : (frameOf cs).getD i ET.bset.dflt = ⟨(cs.getD i ET.cset.dflt).name, (cs.getD i ET.cset.dflt).kind, (cs.getD i ET.cset.dflt).from_, Eight.rep ⟨#[]⟩⟩ := by
 unfold frameOf
 by_cases h : i < cs.length
 ·simp [h]
 ·simp [show ¬ i < cs.length from h, List.getElem?_eq_none (show cs.length ≤ i by omega)]
  rfl
noncomputable def csetB (s : CSet) : Bool := nameB s.name && (same s.from_ ⟨#[]⟩ || nameB s.from_) && (decide (s.kind = 1) || decide (s.kind = 2)) && ptrOkB s.home && !s.map.list.any fun p => !ptrOkB p
noncomputable def csetBad (s : CSet) : Bool := !csetB s
def partBad (p : Ptr) : Bool := !realB p
def badPtr (p : Ptr) : Bool := !ptrOkB p
theorem csetB_no {s : CSet} (h : ((nameB s.name = false ∨ ¬ s.from_ = ⟨#[]⟩ ∧ nameB s.from_ = false) ∨ ¬ s.kind = 1 ∧ ¬ s.kind = 2) ∨ ptrOkB s.home = false) : csetB s = false := by
 unfold csetB
 rcases h with ((h | ⟨h, h2⟩) | ⟨h, h2⟩) | h
 ·simp [h]
 ·simp [h2, same_false.2 h]
 ·simp [h, h2]
 ·simp [h]
theorem csetB_yes {s : CSet} (h : ((¬ nameB s.name = false ∧ (¬ s.from_ = ⟨#[]⟩ → ¬ nameB s.from_ = false)) ∧ (¬ s.kind = 1 → s.kind = 2)) ∧ ptrOkB s.home = true) : csetB s = !s.map.list.any badPtr := by
 obtain ⟨⟨⟨h1, h2⟩, h3⟩, h4⟩ := h
 have e2 : (same s.from_ ⟨#[]⟩ || nameB s.from_) = true := by
  by_cases hf : s.from_ = ⟨#[]⟩
  ·rw [same_true.2 hf]; rfl
  ·rw [show nameB s.from_ = true by simpa using h2 hf, Bool.or_true]
 have e3 : (decide (s.kind = 1) || decide (s.kind = 2)) = true := by
  by_cases hk : s.kind = 1
  ·simp [hk]
  ·simp [h3 hk]
 unfold csetB
 rw [show nameB s.name = true by simpa using h1, e2, e3, h4]
 rfl
structure Safe (zs : List Int) (i : Nat) : Prop where
 lo : 13 ≤ zs.getD i 0 ∧ zs.getD i 0 ≤ 119
 less : 0 < i → zs.getD (i - 1) 0 < zs.getD i 0
noncomputable def safeB (zs : List Int) : Bool := @decide (∀ i, i < zs.length → Safe zs i) (Classical.propDecidable _)
theorem safeB_true {zs : List Int} : safeB zs = true ↔ ∀ i, i < zs.length → Safe zs i := by simp [safeB]
theorem safeB_false {zs : List Int} : safeB zs = false ↔ ¬ ∀ i, i < zs.length → Safe zs i := by rw [← Bool.not_eq_true, safeB_true]
structure SumsP (ps : List Ptr) (es : List Ent) : Prop where
 each : ∀ p ∈ ps, p.at_ ≠ 0 → thereE es p.at_ = true ∧ (es.getD (lowE es p.at_) ET.ent.dflt).sum = p.sum
structure CountP (ps : List Ptr) (es : List Ent) : Prop where
 sums : SumsP ps es
 cnt : ∀ k, k < es.length → (es.getD k ET.ent.dflt).count = cntAt ps (es.getD k ET.ent.dflt).at_
noncomputable def countB (ps : List Ptr) (es : List Ent) : Bool := @decide (CountP ps es) (Classical.propDecidable _)
theorem countB_true {ps : List Ptr} {es : List Ent} : countB ps es = true ↔ CountP ps es := by simp [countB]
theorem countB_false {ps : List Ptr} {es : List Ent} : countB ps es = false ↔ ¬ CountP ps es := by simp [countB]
def rcnt (ps : List Ptr) (a : Int) : Int := if 0 < a then (cntAt ps a : Int) else 0
theorem rcnt_app (ps : List Ptr) (p : Ptr) (a : Int) : rcnt (ps ++ [p]) a = rcnt ps a + if p.at_ = a ∧ a > 0 then 1 else 0 := by
 unfold rcnt
 rw [cntAt_app, cntAt_one]
 by_cases h : 0 < a <;> by_cases h2 : p.at_ = a <;> simp [h, h2]
theorem rcnt_yes {ps : List Ptr} {p : Ptr} {a : Int} (h : p.at_ = a ∧ a > 0) : rcnt (ps ++ [p]) a = rcnt ps a + 1 := by rw [rcnt_app, if_pos h]
theorem rcnt_no {ps : List Ptr} {p : Ptr} {a : Int} (h : ¬ p.at_ = a ∨ ¬ a > 0) : rcnt (ps ++ [p]) a = rcnt ps a := by rw [rcnt_app, if_neg (fun k => h.elim (fun h => h k.1) fun h => h k.2), Int.add_zero]
theorem rcnt_nil (a : Int) : rcnt (refsP []) a = 0 := by unfold rcnt; split <;> rfl
theorem rcnt_le (ps : List Ptr) (a : Int) : 0 ≤ rcnt ps a ∧ rcnt ps a ≤ ps.length := by
 unfold rcnt
 have := cnt_le ps a
 split <;> omega
theorem posN_le (ps : List Ptr) : posN ps ≤ ps.length := List.length_filter_le _ _
def sumC (es : List Ent) : Int := (es.map (·.count)).sum
theorem sumC_take {es : List Ent} {i : Nat} (h : i < es.length) : sumC (es.take (i + 1)) = sumC (es.take i) + (es.getD i ET.ent.dflt).count := by
 have e : es.getD i ET.ent.dflt = es[i] := by simp [h]
 unfold sumC
 rw [e, List.take_add_one, List.getElem?_eq_getElem h, List.map_append, List.sum_append]
 simp
def ptrsTo (cs : List CSet) (i j : Nat) : List Ptr := refsP (cs.take i) ++ (cs.getD i ET.cset.dflt).map.list.take j
theorem ptrsTo_zero (cs : List CSet) (i : Nat) : ptrsTo cs i 0 = refsP (cs.take i) := by unfold ptrsTo; rw [List.take_zero, List.append_nil]
theorem ptrsTo_next (cs : List CSet) (i : Nat) {j : Nat} (h : j < 8) : ptrsTo cs i (j + 1) = ptrsTo cs i j ++ [(cs.getD i ET.cset.dflt).map.get j] := by
 unfold ptrsTo; rw [list_take _ _ h, List.append_assoc]
theorem ptrsTo_end {cs : List CSet} {i : Nat} (h : i < cs.length) : ptrsTo cs i 8 = refsP (cs.take (i + 1)) := by
 unfold ptrsTo; rw [refs_take h, list_all]
theorem refs_end {cs : List CSet} {i : Nat} (h : cs.length ≤ i) : refsP (cs.take i) = refsP cs := by rw [List.take_of_length_le h]
theorem ptrsTo_len (cs : List CSet) (i j : Nat) : (ptrsTo cs i j).length ≤ 8 * i + 8 := by
 unfold ptrsTo
 have h1 := refs_len (cs.take i)
 have h2 := List.length_take (i := i) (l := cs)
 have h3 : ((cs.getD i ET.cset.dflt).map.list.take j).length ≤ 8 := by rw [List.length_take]; exact Nat.min_le_right _ _
 rw [List.length_append, h1, h2]
 omega
noncomputable def countsS (ps : List Ptr) (es : List Ent) : Bool := @decide ((∀ k, k < es.length → rcnt ps (es.getD k ET.ent.dflt).at_ = (es.getD k ET.ent.dflt).count) ∧ sumC es = posN ps) (Classical.propDecidable _)
theorem countsS_true {ps : List Ptr} {es : List Ent} : countsS ps es = true ↔ (∀ k, k < es.length → rcnt ps (es.getD k ET.ent.dflt).at_ = (es.getD k ET.ent.dflt).count) ∧ sumC es = posN ps := by simp [countsS]
theorem countsS_false {ps : List Ptr} {es : List Ent} : countsS ps es = false ↔ ¬ ((∀ k, k < es.length → rcnt ps (es.getD k ET.ent.dflt).at_ = (es.getD k ET.ent.dflt).count) ∧ sumC es = posN ps) := by rw [← Bool.not_eq_true, countsS_true]
noncomputable def sumsS (ps : List Ptr) (es : List Ent) : Bool := @decide (∀ p ∈ ps, p.at_ > 0 → thereE es p.at_ = true ∧ (es.getD (lowE es p.at_) ET.ent.dflt).sum = p.sum) (Classical.propDecidable _)
theorem sumsS_true {ps : List Ptr} {es : List Ent} : sumsS ps es = true ↔ ∀ p ∈ ps, p.at_ > 0 → thereE es p.at_ = true ∧ (es.getD (lowE es p.at_) ET.ent.dflt).sum = p.sum := by simp [sumsS]
theorem sumsS_false {ps : List Ptr} {es : List Ent} : sumsS ps es = false ↔ ¬ ∀ p ∈ ps, p.at_ > 0 → thereE es p.at_ = true ∧ (es.getD (lowE es p.at_) ET.ent.dflt).sum = p.sum := by rw [← Bool.not_eq_true, sumsS_true]
theorem posN_yes {ps : List Ptr} {p : Ptr} (h : p.at_ > 0) : (posN (ps ++ [p]) : Int) = posN ps + 1 := by
 rw [posN_app, posN_one, if_pos h]; omega
theorem posN_no {ps : List Ptr} {p : Ptr} (h : ¬ p.at_ > 0) : posN (ps ++ [p]) = posN ps := by rw [posN_app, posN_one, if_neg h]; rfl
theorem refs_nil : refsP [] = [] := rfl
theorem sumC_nil : sumC [] = 0 := rfl
theorem sumC_end {es : List Ent} {i : Nat} (h : es.length ≤ i) : sumC (es.take i) = sumC es := by rw [List.take_of_length_le h]
theorem sumC_le {es : List Ent} {n : Nat} {i : Nat} (hi : i ≤ es.length) (h : ∀ j, j < i → 0 ≤ (es.getD j ET.ent.dflt).count ∧ (es.getD j ET.ent.dflt).count ≤ n) : 0 ≤ sumC (es.take i) ∧ sumC (es.take i) ≤ i * n := by
 induction i with
 | zero => exact ⟨Int.le_refl _, by rw [List.take_zero]; simp [sumC]⟩
 | succ i ih =>
   obtain ⟨h1, h2⟩ := ih (by omega) fun j hj => h j (by omega)
   obtain ⟨h3, h4⟩ := h i (by omega)
   rw [sumC_take (show i < es.length by omega)]
   refine ⟨by omega, ?_⟩
   have : ((i + 1 : Nat) : Int) * n = i * n + n := by rw [Int.natCast_add, Int.add_mul]; simp
   omega
structure CoreP (c : Co) : Prop where
 txg : 0 ≤ c.txg ∧ c.txg ≤ 1000000
 ddt : DdtP c.ddt
 parts : c.parts.length ≤ 8 ∧ c.parts.any partBad = false
 logn : 0 ≤ c.logn ∧ c.logn ≤ 8
 safe : ∀ i, i < c.safe.length → Safe c.safe i
 sets : c.sets.any csetBad = false
 book : bookB (frameOf c.sets) = true
 counts : CountP (refsP c.sets) c.ddt
noncomputable def Co.ok (c : Co) : Bool := @decide (CoreP c) (Classical.propDecidable _)
theorem Co.ok_true {c : Co} : c.ok = true ↔ CoreP c := by simp [Co.ok]
theorem Co.ok_false {c : Co} : c.ok = false ↔ ¬ CoreP c := by simp [Co.ok]
theorem ptr_low {p : Ptr} (h : ptrOkB p = true) : 0 ≤ p.at_ ∧ p.at_ ≤ 119 := by
 unfold ptrOkB at h
 simp only [Bool.and_eq_true, Bool.or_eq_true, decide_eq_true_eq] at h
 omega
theorem refs_ok {cs : List CSet} (h : cs.any csetBad = false) : ∀ p ∈ refsP cs, ptrOkB p = true := by
 intro p hp
 unfold refsP at hp
 rw [List.mem_flatMap] at hp
 obtain ⟨s, hs, hp⟩ := hp
 rw [List.any_eq_false] at h
 have h1 := h s hs
 unfold csetBad csetB at h1
 simp only [Bool.not_eq_true', Bool.not_eq_false, Bool.and_eq_true, List.any_eq_false, Bool.not_eq_false', Bool.not_eq_true] at h1
 have h2 := h1.2 p hp
 simpa using h2
end Go.Proofs.YtfmjgoeclilcnaaGreatDoor
namespace Go.Proofs.YtfmjgoeclilcnaaGreatDoor
open Go.RowKit
theorem half (i j : Nat) (hi : i ≤ 4000000) (hj : j ≤ 4000000) : IntKind.i64.wrap ((IntKind.u64.wrap (IntKind.i64.wrap ((i : Int) + (j : Int)))).fdiv (2 ^ min 1 64)) = ((i + j) / 2 : Nat) := by
 rw [wrap_id ((i : Int) + j) (by omega) (by omega)]
 have hu : IntKind.u64.wrap ((i : Int) + j) = (i : Int) + j := by
  unfold IntKind.wrap
  simp [IntKind.signed, IntKind.bits]
  omega
 rw [hu, show ((2 : Int) ^ min 1 64) = 2 from rfl, Int.fdiv_eq_ediv_of_nonneg _ (by decide), wrap_id _ (by omega) (by omega)]
 omega
end Go.Proofs.YtfmjgoeclilcnaaGreatDoor
namespace Go.Proofs.YtfmjgoeclilcnaaGreatDoor
open Go.RowKit
@[go_sem] def ctEntOk : Ct := ⟨false, [], fun args os => match args, os with
  | [.agg [.val (.int .i64 a), .val (.int .i64 b), .val (.int .i64 c)]], [] => is (vb (entB ⟨a, b, c⟩))
  | _, _ => no⟩
theorem s_entryOk_e : EnterOk Tryz.prog 197 := ⟨_, Tryz.func197, rfl, by decide⟩
@[go_sem] def s_entryOk_lv : List (List Nat) := [[1], [2]]
@[go_sem] noncomputable def s_entryOk_K : Known := (Known.nil).cons 123 ctWithin s_within s_within_e
set_option maxHeartbeats 8000000 in
theorem s_entryOk : Sound Tryz.prog 197 ctEntOk := by
 have ke := s_entryOk_K.env []
 have kl : Lives s_entryOk_lv := trivial
 refine sound_intro (E := ⟨ti, s_entryOk_K.Γ, []⟩) ke Tryz.func197 Tryz.ntmps197 rfl (rs := [.tmp 2]) rfl ?_
 intro args os hp
 unfold ctEntOk at hp ⊢
 dsimp only at hp ⊢
 split at hp
 ·rename_i a b c
  refine ⟨by simp, fun φ0 w0 => ?_⟩
  refine goh trivial ?_
  refine ⟨by (simp only [go_sem, ↓reduceIte, reduceCtorEq, Nat.reduceAdd, Nat.reduceLT, Nat.reduceLeDiff, Nat.reduceEqDiff]) <;> trivial, [], ?_⟩
  all_goals try simp only [go_sem, inj_r, ↓reduceIte, reduceCtorEq, Nat.reduceAdd, Nat.reduceLT, Nat.reduceLeDiff, Nat.reduceEqDiff, Int.reduceEq]
  all_goals (repeat' refine And.intro ?_ ?_) <;> try exact shut7
  rw [Bool.eq_iff_iff]; simp [entB]; try omega
 ·simp [no, is] at hp
theorem s_l5Entry_e : EnterOk Tryz.prog 179 := ⟨_, Tryz.func179, rfl, by decide⟩
@[go_sem] def s_l5Entry_lv : List (List Nat) := [[1], [2]]
@[go_sem] noncomputable def s_l5Entry_K : Known := Known.nil
set_option maxHeartbeats 8000000 in
theorem s_l5Entry : Sound Tryz.prog 179 ctEntOk := by
 have ke := s_l5Entry_K.env []
 have kl : Lives s_l5Entry_lv := trivial
 refine sound_intro (E := ⟨ti, s_l5Entry_K.Γ, []⟩) ke Tryz.func179 Tryz.ntmps179 rfl (rs := [.tmp 2]) rfl ?_
 intro args os hp
 unfold ctEntOk at hp ⊢
 dsimp only at hp ⊢
 split at hp
 ·rename_i a b c
  refine ⟨by simp, fun φ0 w0 => ?_⟩
  refine goh trivial ?_
  refine ⟨by (simp only [go_sem, ↓reduceIte, reduceCtorEq, Nat.reduceAdd, Nat.reduceLT, Nat.reduceLeDiff, Nat.reduceEqDiff]) <;> trivial, [], ?_⟩
  all_goals try simp only [go_sem, inj_r, ↓reduceIte, reduceCtorEq, Nat.reduceAdd, Nat.reduceLT, Nat.reduceLeDiff, Nat.reduceEqDiff, Int.reduceEq]
  all_goals (repeat' refine And.intro ?_ ?_) <;> try exact shut7
  rw [Bool.eq_iff_iff]; simp [entB]; try omega
 ·simp [no, is] at hp
@[go_sem] noncomputable def ctDdtOk : Ct := ⟨false, [[some .ent]], fun args os => match args, os with
  | [.one (.isl .ent es)], [] => ifp (es.length ≤ 4000000) (vb (ddtB es))
  | _, _ => no⟩
theorem ent_bad {es : List Ent} {i : Nat} (hi : i < es.length) (h : entB (es.getD i ET.ent.dflt) = false ∨ (i : Int) > 0 ∧ (es.getD i ET.ent.dflt).at_ ≤ (es.getD (i - 1) ET.ent.dflt).at_) : ddtB es = false :=
 ddtB_false.2 fun hd => by
  obtain ⟨h1, h2⟩ := hd.each i hi
  rcases h with h | ⟨h3, h4⟩
  ·rw [h1] at h; cases h
  ·have := h2 (by omega); omega
theorem ent_good {es : List Ent} {i : Nat} (hb : ∀ j, j < i → EntOk es j) (h : ¬ entB (es.getD i ET.ent.dflt) = false ∧ (¬ (i : Int) > 0 ∨ ¬ (es.getD i ET.ent.dflt).at_ ≤ (es.getD (i - 1) ET.ent.dflt).at_)) : ∀ j, j < i + 1 → EntOk es j := fun j hj => by
 rcases Nat.lt_succ_iff_lt_or_eq.1 hj with h2 | rfl
 ·exact hb j h2
 ·exact ⟨by simpa using h.1, fun h0 => by rcases h.2 with h3 | h3 <;> omega⟩
theorem s_specDdtOk_e : EnterOk Tryz.prog 113 := ⟨_, Tryz.func113, rfl, by decide⟩
@[go_sem] def s_specDdtOk_lv : List (List Nat) := [[0], [0, 6], [2], [0, 3], [0, 3, 10], [0, 3], [0, 3, 36], [2], [2]]
@[go_sem] noncomputable def s_specDdtOk_K : Known := (Known.nil).cons 179 ctEntOk s_l5Entry s_l5Entry_e
set_option maxHeartbeats 8000000 in
theorem s_specDdtOk : Sound Tryz.prog 113 ctDdtOk := by
 have ke := s_specDdtOk_K.env []
 have kl : Lives s_specDdtOk_lv := trivial
 refine sound_intro (E := ⟨ti, s_specDdtOk_K.Γ, []⟩) ke Tryz.func113 Tryz.ntmps113 rfl (rs := [.tmp 2]) rfl ?_
 intro args os hp
 unfold ctDdtOk at hp ⊢
 dsimp only at hp ⊢
 split at hp
 ·rename_i es
  refine ⟨by simp, fun φ0 w0 => ?_⟩
  have hlen : es.length ≤ 4000000 := hp
  refine goh trivial ?_
  refine W_cnd ?_ ?_ <;> (try simp only [cnd_r]) <;> intro hc
  ·have e : ddtB es = false := ddtB_false.2 fun h => by have := h.few; omega
   refine goh trivial ?_
   exact finh [] e
  ·refine goh trivial ?_
   refine W_for es.length (fun i => ∀ j, j < i → EntOk es j) (fun i => ⟨[(0, .one (.isl .ent es)), (3, vi i)], [], []⟩) [] (leh trivial) (by omega) fun i hi hb => ?_
   refine goh trivial ?_
   refine W_cnd ?_ ?_ <;> (try simp only [cnd_r]) <;> intro hlt
   ·have w1 : IntKind.i64.wrap ((i : Int) - 1) = (i : Int) - 1 := wrap_id _ (by omega) (by omega)
    have ht : ((i : Int) - 1).toNat = i - 1 := by omega
    refine goh (And.intro w1 ht) ?_
    refine W_cnd ?_ ?_ <;> (try simp only [cnd_r]) <;> intro hx
    ·have e := ent_bad (by omega) hx
     refine goh trivial ?_
     exact finh [] e
    ·refine goh trivial ?_
     exact ⟨[], by omega, leh trivial, ent_good hb hx⟩
   ·have e : ddtB es = true := ddtB_true.2 ⟨by omega, fun j hj => hb j (by omega)⟩
    refine goh trivial ?_
    exact finh [] e
 ·simp [no, ifp] at hp
theorem s_ddtOk_e : EnterOk Tryz.prog 137 := ⟨_, Tryz.func137, rfl, by decide⟩
@[go_sem] def s_ddtOk_lv : List (List Nat) := [[0], [0, 5, 6, 7], [0, 5, 6, 7, 8], [0, 3, 4, 5, 6, 7], [0, 5, 6, 7, 29], [2], [0, 5, 6, 7], [2]]
@[go_sem] noncomputable def s_ddtOk_K : Known := (Known.nil).cons 197 ctEntOk s_entryOk s_entryOk_e
set_option maxHeartbeats 8000000 in
theorem s_ddtOk : Sound Tryz.prog 137 ctDdtOk := by
 have ke := s_ddtOk_K.env []
 have kl : Lives s_ddtOk_lv := trivial
 refine sound_intro (E := ⟨ti, s_ddtOk_K.Γ, []⟩) ke Tryz.func137 Tryz.ntmps137 rfl (rs := [.tmp 2]) rfl ?_
 intro args os hp
 unfold ctDdtOk at hp ⊢
 dsimp only at hp ⊢
 split at hp
 ·rename_i es
  refine ⟨by simp, fun φ0 w0 => ?_⟩
  have hlen : es.length ≤ 4000000 := hp
  refine goh trivial ?_
  refine W_for es.length (fun i => ∀ j, j < i → EntOk es j) (fun i => ⟨[(0, .one (.isl .ent es)), (5, .one (.isl .ent es)), (6, vi es.length), (7, vi i)], [], []⟩) [] (leh trivial) (by omega) fun i hi hb => ?_
  refine goh trivial ?_
  refine W_cnd ?_ ?_ <;> (try simp only [cnd_r]) <;> intro hlt
  ·have w1 : IntKind.i64.wrap ((i : Int) - 1) = (i : Int) - 1 := wrap_id _ (by omega) (by omega)
   have ht : ((i : Int) - 1).toNat = i - 1 := by omega
   refine goh (And.intro w1 ht) ?_
   refine W_cnd ?_ ?_ <;> (try simp only [cnd_r]) <;> intro hx
   ·have e := ent_bad (es := es) (i := i) (by omega) (by rcases hx with h | ⟨h1, h2⟩; exact .inl h; exact .inr ⟨by omega, by omega⟩)
    refine goh trivial ?_
    exact finh [] e
   ·refine goh trivial ?_
    exact ⟨[], by omega, leh trivial, ent_good hb ⟨hx.1, by rcases hx.2 with h | h; exact .inl (by omega); exact .inr (by omega)⟩⟩
  ·have e : ddtB es = decide ((es.length : Int) ≤ 48) := by
    rw [Bool.eq_iff_iff, ddtB_true, decide_eq_true_eq]
    exact ⟨fun h => by have := h.few; omega, fun h => ⟨by omega, fun j hj => hb j (by omega)⟩⟩
   refine goh trivial ?_
   exact finh [] e
 ·simp [no, ifp] at hp
@[go_sem] noncomputable def ctPlaces : Ct := ⟨false, [[some .int]], fun args os => match args, os with
  | [.one (.isl .int zs)], [] => ifp (zs.length ≤ 4000000) (vb (safeB zs))
  | _, _ => no⟩
theorem s_l6Places_e : EnterOk Tryz.prog 114 := ⟨_, Tryz.func114, rfl, by decide⟩
@[go_sem] def s_l6Places_lv : List (List Nat) := [[0], [0, 3], [0, 3, 7], [0, 3], [0, 3, 37], [2], [2]]
@[go_sem] noncomputable def s_l6Places_K : Known := Known.nil
set_option maxHeartbeats 8000000 in
theorem s_l6Places : Sound Tryz.prog 114 ctPlaces := by
 have ke := s_l6Places_K.env []
 have kl : Lives s_l6Places_lv := trivial
 refine sound_intro (E := ⟨ti, s_l6Places_K.Γ, []⟩) ke Tryz.func114 Tryz.ntmps114 rfl (rs := [.tmp 2]) rfl ?_
 intro args os hp
 unfold ctPlaces at hp ⊢
 dsimp only at hp ⊢
 split at hp
 ·rename_i zs
  refine ⟨by simp, fun φ0 w0 => ?_⟩
  have hlen : zs.length ≤ 4000000 := hp
  refine goh trivial ?_
  refine W_for zs.length (fun i => ∀ j, j < i → Safe zs j) (fun i => ⟨[(0, .one (.isl .int zs)), (3, vi i)], [], []⟩) [] (leh trivial) (by omega) fun i hi hb => ?_
  refine goh trivial ?_
  refine W_cnd ?_ ?_ <;> (try simp only [cnd_r]) <;> intro hlt
  ·have w1 : IntKind.i64.wrap ((i : Int) - 1) = (i : Int) - 1 := wrap_id _ (by omega) (by omega)
   have ht : ((i : Int) - 1).toNat = i - 1 := by omega
   refine goh (And.intro w1 ht) ?_
   refine W_cnd ?_ ?_ <;> (try simp only [cnd_r]) <;> intro hx
   ·have e : safeB zs = false := safeB_false.2 fun h => by
     obtain ⟨h1, h2⟩ := h i (by omega)
     have hx' : ((List.getD (α := Int) zs i 0) < (13 : Int) ∨ (List.getD (α := Int) zs i 0) ≥ (120 : Int)) ∨ (i : Int) > 0 ∧ (List.getD (α := Int) zs i 0) ≤ (List.getD (α := Int) zs (i - 1) 0) := hx
     clear hx
     rcases hx' with h3 | ⟨h3, h4⟩
     ·omega
     ·have := h2 (by omega); omega
    refine goh trivial ?_
    exact finh [] e
   ·refine goh trivial ?_
    exact ⟨[], by omega, leh trivial, fun j hj => by
     rcases Nat.lt_succ_iff_lt_or_eq.1 hj with h2 | rfl
     ·exact hb j h2
     ·have hx' : (¬ (List.getD (α := Int) zs j 0) < (13 : Int) ∧ ¬ (List.getD (α := Int) zs j 0) ≥ (120 : Int)) ∧ (¬ (j : Int) > 0 ∨ ¬ (List.getD (α := Int) zs j 0) ≤ (List.getD (α := Int) zs (j - 1) 0)) := hx
      clear hx
      exact ⟨by omega, fun h0 => by omega⟩⟩
  ·have e : safeB zs = true := safeB_true.2 fun j hj => hb j (by omega)
   refine goh trivial ?_
   exact finh [] e
 ·simp [no, ifp] at hp
@[go_sem] noncomputable def ctAtE : Ct := ⟨false, [[some .ent]], fun args os => match args, os with
  | [.one (.isl .ent es), .one (.val (.int .i64 a))], [] => ifp (es.length ≤ 4000000) (.tup [vi (lowE es a), vb (thereE es a)])
  | _, _ => no⟩
theorem thereE_eq (es : List Ent) (a : Int) {k : Nat} (e : lowE es a = k) : thereE es a = if (k : Int) < es.length then decide ((es.getD k ET.ent.dflt).at_ = a) else false := by
 unfold thereE
 rw [e]
 by_cases h : (k : Int) < es.length
 ·rw [if_pos h, decide_eq_true (show k < es.length by omega), Bool.true_and]
 ·rw [if_neg h, decide_eq_false (show ¬ k < es.length by omega), Bool.false_and]
theorem s_l5At_e : EnterOk Tryz.prog 181 := ⟨_, Tryz.func181, rfl, by decide⟩
@[go_sem] def s_l5At_lv : List (List Nat) := [[0, 1], [0, 1, 6], [0, 1, 6, 19], [0, 1, 6], [4, 5]]
@[go_sem] noncomputable def s_l5At_K : Known := Known.nil
set_option maxHeartbeats 8000000 in
theorem s_l5At : Sound Tryz.prog 181 ctAtE := by
 have ke := s_l5At_K.env []
 have kl : Lives s_l5At_lv := trivial
 refine sound_intro (E := ⟨ti, s_l5At_K.Γ, []⟩) ke Tryz.func181 Tryz.ntmps181 rfl (rs := [.tmp 4, .tmp 5]) rfl ?_
 intro args os hp
 unfold ctAtE at hp ⊢
 dsimp only at hp ⊢
 split at hp
 ·rename_i es a
  refine ⟨by simp, fun φ0 w0 => ?_⟩
  have hlen : es.length ≤ 4000000 := hp
  refine goh trivial ?_
  refine W_for es.length (fun i => ∀ j, j < i → (es.getD j ET.ent.dflt).at_ < a) (fun i => ⟨[(0, .one (.isl .ent es)), (1, vi a), (6, vi i)], [], []⟩) [] (leh trivial) (by omega) fun i hi hb => ?_
  refine goh trivial ?_
  refine W_cnd ?_ ?_ <;> (try simp only [cnd_r]) <;> intro hc
  ·refine goh trivial ?_
   exact ⟨[], by omega, leh trivial, fun j hj => by
    rcases Nat.lt_succ_iff_lt_or_eq.1 hj with h2 | rfl
    ·exact hb j h2
    ·exact hc.2⟩
  ·have e : lowE es a = i := lowE_eq hi hb (by omega)
   have e2 := thereE_eq es a e
   refine goh trivial ?_
   exact finh [] (And.intro e e2)
 ·simp [no, ifp] at hp
@[go_sem] def ctCmpE : Ct := ⟨false, [], fun args os => match args, os with
  | [.agg [.val (.int .i64 a), .val (.int .i64 b), .val (.int .i64 c)], .one (.val (.int .i64 t))], [] => ifp ((-1000000 ≤ b ∧ b ≤ 1000000) ∧ (-1000000 ≤ t ∧ t ≤ 1000000)) (vi (b - t))
  | _, _ => no⟩
theorem s_ddtPlace1_e : EnterOk Tryz.prog 223 := ⟨_, Tryz.func223, rfl, by decide⟩
@[go_sem] def s_ddtPlace1_lv : List (List Nat) := [[1, 2], [4]]
@[go_sem] noncomputable def s_ddtPlace1_K : Known := Known.nil
set_option maxHeartbeats 8000000 in
theorem s_ddtPlace1 : Sound Tryz.prog 223 ctCmpE := by
 have ke := s_ddtPlace1_K.env []
 have kl : Lives s_ddtPlace1_lv := trivial
 refine sound_intro (E := ⟨ti, s_ddtPlace1_K.Γ, []⟩) ke Tryz.func223 Tryz.ntmps223 rfl (rs := [.tmp 4]) rfl ?_
 intro args os hp
 unfold ctCmpE at hp ⊢
 dsimp only at hp ⊢
 split at hp
 ·rename_i a b c t
  refine ⟨by simp, fun φ0 w0 => ?_⟩
  obtain ⟨h1, h2⟩ : (-1000000 ≤ b ∧ b ≤ 1000000) ∧ (-1000000 ≤ t ∧ t ≤ 1000000) := hp
  refine goh trivial ?_
  exact finh [] trivial
 ·simp [no, ifp] at hp
@[go_sem] noncomputable def ctSearchE : Ct := ⟨false, [[some .ent]], fun args os => match args, os with
  | [.one (.isl .ent es), .one (.val (.int .i64 a)), .one (.fn 223 [])], [] => ifp (es.length ≤ 4000000 ∧ Asc es ∧ (-1000000 ≤ a ∧ a ≤ 1000000)) (.tup [vi (lowE es a), vb (thereE es a)])
  | _, _ => no⟩
@[go_sem] def sgSearchE (es : List Ent) (a : Int) (i j : Nat) : Sg := ⟨[(0, .one (.isl .ent es)), (1, vi a), (2, .one (.fn 223 [])), (8, vi es.length), (9, vi i), (10, vi j)], [], []⟩
theorem Asc.hi {es : List Ent} (h : Asc es) {a : Int} {i j : Nat} (hij : i ≤ j) (hj : j < es.length) (hs : ¬ (es.getD i ET.ent.dflt).at_ < a) : ¬ (es.getD j ET.ent.dflt).at_ < a := by
 have := h.le hij hj; omega
theorem s_searchE_e : EnterOk Tryz.prog 222 := ⟨_, Tryz.func222, rfl, by decide⟩
@[go_sem] def s_searchE_lv : List (List Nat) := [[0, 1, 2], [0, 1, 2, 8], [0, 1, 2, 8, 9, 10], [0, 1, 2, 8, 9, 10, 17], [0, 1, 2, 8, 9, 10, 11], [0, 1, 2, 8, 9, 10, 11, 31], [0, 1, 2, 8, 9, 10], [0, 1, 2, 8, 9, 10], [6, 7]]
@[go_sem] noncomputable def s_searchE_K : Known := (Known.nil).cons 223 ctCmpE s_ddtPlace1 s_ddtPlace1_e
set_option maxHeartbeats 8000000 in
theorem s_searchE : Sound Tryz.prog 222 ctSearchE := by
 have ke := s_searchE_K.env []
 have kl : Lives s_searchE_lv := trivial
 refine sound_intro (E := ⟨ti, s_searchE_K.Γ, []⟩) ke Tryz.func222 Tryz.ntmps222 rfl (rs := [.tmp 6, .tmp 7]) rfl ?_
 intro args os hp
 unfold ctSearchE at hp ⊢
 dsimp only at hp ⊢
 split at hp
 ·rename_i es a
  refine ⟨by simp, fun φ0 w0 => ?_⟩
  obtain ⟨hlen, hso, ha⟩ : es.length ≤ 4000000 ∧ Asc es ∧ (-1000000 ≤ a ∧ a ≤ 1000000) := hp
  refine goh trivial ?_
  refine W_le (σ' := sgSearchE es a 0 es.length) [] (leh trivial) ?_
  refine W_loop (fun q σ => ∃ i j : Nat, i ≤ j ∧ j ≤ es.length ∧ q = j - i ∧ (∀ k, k < i → (es.getD k ET.ent.dflt).at_ < a) ∧ (j < es.length → ¬ (es.getD j ET.ent.dflt).at_ < a) ∧ σ = sgSearchE es a i j) es.length ⟨0, es.length, by omega, by omega, by omega, by omega, by omega, rfl⟩ ?_
  rintro q σ ⟨i, j, hij, hj, rfl, hlo, hhi, rfl⟩
  unfold sgSearchE
  refine goh trivial ?_
  refine W_cnd ?_ ?_ <;> (try simp only [cnd_r]) <;> intro hlt
  ·have hH := half i j (by omega) (by omega)
   obtain ⟨h, hh⟩ : ∃ h, (i + j) / 2 = h := ⟨_, rfl⟩
   rw [hh] at hH
   have hb := hso.lo h (by omega)
   refine goh hH ?_
   refine W_cnd ?_ ?_ <;> (try simp only [cnd_r]) <;> intro hc
   ·refine goh trivial ?_
    refine ⟨j - (h + 1), [], sgSearchE es a (h + 1) j, by omega, leh trivial, h + 1, j, by omega, hj, rfl, fun k hk => ?_, hhi, rfl⟩
    have := hso.le (show k ≤ h by omega) (by omega)
    omega
   ·refine goh trivial ?_
    exact ⟨h - i, [], sgSearchE es a i h, by omega, leh trivial, i, h, by omega, by omega, rfl, hlo, fun _ => by omega, rfl⟩
  ·obtain rfl : i = j := by omega
   have e : lowE es a = i := lowE_eq hj hlo (by
    by_cases h : i < es.length
    ·exact .inr (hhi h)
    ·exact .inl (by omega))
   have e2 := thereE_eq es a e
   by_cases hi : i < es.length
   ·have hb := hso.lo i hi
    refine goh trivial ?_
    refine ⟨by (simp only [go_sem, e, e2, ↓reduceIte, reduceCtorEq, Nat.reduceAdd, Nat.reduceLT, Nat.reduceLeDiff, Nat.reduceEqDiff]) <;> trivial, [], ?_⟩
    all_goals try simp only [go_sem, e, e2, inj_r, ↓reduceIte, reduceCtorEq, Nat.reduceAdd, Nat.reduceLT, Nat.reduceLeDiff, Nat.reduceEqDiff, Int.reduceEq]
    all_goals (repeat' refine And.intro ?_ ?_) <;> try exact shut7
    rw [if_pos (by omega), if_pos (by omega), Bool.eq_iff_iff, beq_iff_eq, decide_eq_true_eq]
    omega
   ·refine goh trivial ?_
    refine ⟨by (simp only [go_sem, e, e2, ↓reduceIte, reduceCtorEq, Nat.reduceAdd, Nat.reduceLT, Nat.reduceLeDiff, Nat.reduceEqDiff]) <;> trivial, [], ?_⟩
    all_goals try simp only [go_sem, e, e2, inj_r, ↓reduceIte, reduceCtorEq, Nat.reduceAdd, Nat.reduceLT, Nat.reduceLeDiff, Nat.reduceEqDiff, Int.reduceEq]
    all_goals (repeat' refine And.intro ?_ ?_) <;> try exact shut7
    rw [if_neg (by omega), if_neg (by omega)]
 ·simp [no, ifp] at hp
@[go_sem] noncomputable def ctPlaceE : Ct := ⟨false, [[some .ent]], fun args os => match args, os with
  | [.one (.isl .ent es), .one (.val (.int .i64 a))], [] => ifp (es.length ≤ 4000000 ∧ Asc es ∧ (-1000000 ≤ a ∧ a ≤ 1000000)) (.tup [vi (lowE es a), vb (thereE es a)])
  | _, _ => no⟩
theorem s_ddtPlace_e : EnterOk Tryz.prog 201 := ⟨_, Tryz.func201, rfl, by decide⟩
@[go_sem] def s_ddtPlace_lv : List (List Nat) := [[0, 1], [4, 5]]
@[go_sem] noncomputable def s_ddtPlace_K : Known := ((Known.nil).cons 222 ctSearchE s_searchE s_searchE_e).cons 223 ctCmpE s_ddtPlace1 s_ddtPlace1_e
set_option maxHeartbeats 8000000 in
theorem s_ddtPlace : Sound Tryz.prog 201 ctPlaceE := by
 have ke := s_ddtPlace_K.env []
 have kl : Lives s_ddtPlace_lv := trivial
 refine sound_intro (E := ⟨ti, s_ddtPlace_K.Γ, []⟩) ke Tryz.func201 Tryz.ntmps201 rfl (rs := [.tmp 4, .tmp 5]) rfl ?_
 intro args os hp
 unfold ctPlaceE at hp ⊢
 dsimp only at hp ⊢
 split at hp
 ·rename_i es a
  refine ⟨by simp, fun φ0 w0 => ?_⟩
  obtain ⟨hlen, hso, ha⟩ : es.length ≤ 4000000 ∧ Asc es ∧ (-1000000 ≤ a ∧ a ≤ 1000000) := hp
  refine goh trivial ?_
  exact finh [] trivial
 ·simp [no, ifp] at hp
end Go.Proofs.YtfmjgoeclilcnaaGreatDoor
