import Derived.Test.YtjedcphhajlnoaaGreatDoorM7
import Derived.Test.YtjedcphhajlnoaaGreatDoorM8
set_option linter.unusedSimpArgs false
set_option linter.unusedVariables false
set_option linter.unusedSectionVars false
/- Functions of the exact laws: numbers; pointers. -/
namespace Go.Proofs.YtjedcphhajlnoaaGreatDoor
open Go.RowKit

@[go_sem] def ctEqI : Ct := ⟨false, [[some .int], [some .int]], fun args os => match args, os with
  | [.one (.isl .int xs), .one (.isl .int ys)], [] => ifp (xs = ys ∧ xs.length ≤ 4000000) (vb true)
  | _, _ => no⟩
@[go_sem] def sgEqI (xs : List Int) (i : Nat) : Sg := ⟨[(0, .one (.isl .int xs)), (1, .one (.isl .int xs)), (5, vi i)], [], []⟩
theorem s_eqI_e : EnterOk Tryz.prog 52 := ⟨_, Tryz.func52, rfl, by decide⟩
@[go_sem] def s_eqI_lv : List (List Nat) := [[0, 1], [0, 1, 10], [4], [0, 1, 5], [0, 1, 5, 14], [0, 1, 5], [0, 1, 5, 25], [4], [4]]
@[go_sem] noncomputable def s_eqI_K : Known := Known.nil
set_option maxHeartbeats 8000000 in
theorem s_eqI : Sound Tryz.prog 52 ctEqI := by
  have ke := s_eqI_K.env []
  have kl : Lives s_eqI_lv := trivial
  refine sound_intro (E := ⟨ti, s_eqI_K.Γ, []⟩) ke Tryz.func52 Tryz.ntmps52 rfl (rs := [.tmp 4]) rfl ?_
  intro args os hp
  unfold ctEqI at hp ⊢
  dsimp only at hp ⊢
  split at hp
  · rename_i xs ys
    refine ⟨by simp, fun φ0 w0 => ?_⟩
    obtain ⟨rfl, hlen⟩ : xs = ys ∧ xs.length ≤ 4000000 := hp
    refine goh trivial ?_
    refine W_cnd ?_ ?_ <;> intro hlit <;> try (cases hlit; done)
    refine goh trivial ?_
    refine W_le (σ' := sgEqI xs 0) [] (by
      simp only [go_sem, inj_r, ↓reduceIte, reduceCtorEq, Nat.reduceAdd, Nat.reduceLT, Nat.reduceLeDiff, Nat.reduceEqDiff, Int.reduceEq]
      all_goals (repeat' refine And.intro ?_ ?_) <;> try exact shut7
      ) ?_
    refine W_loop (fun n σ => ∃ i : Nat, i ≤ xs.length ∧ n = xs.length - i ∧ σ = sgEqI xs i) xs.length ⟨0, by omega, by omega, rfl⟩ ?_
    rintro n σ ⟨i, hi, rfl, rfl⟩
    unfold sgEqI
    refine goh trivial ?_
    refine W_cnd ?_ ?_ <;> (try simp only [cnd_r]) <;> intro hlt
    · refine goh trivial ?_
      refine W_cnd ?_ ?_ <;> intro hlit <;> try (cases hlit; done)
      refine goh trivial ?_
      refine ⟨xs.length - (i + 1), [], sgEqI xs (i + 1), by omega, ?_, i + 1, by omega, rfl, rfl⟩
      exact leh trivial
    · refine goh trivial ?_
      exact finh [] trivial
  · simp [no, ifp] at hp
@[go_sem] def ctToI : Ct := ⟨false, [[some .int]], fun args os => match args, os with
  | [.one (.isl .int xs)], [] => ⟨xs.length ≤ 4000000, .one (.osl .int 0 0 xs.length), [], [.arr .int xs]⟩
  | _, _ => no⟩
@[go_sem] def sgToI (xs : List Int) (i : Nat) : Sg := ⟨[(0, .one (.isl .int xs)), (3, .one (.osl .int 0 0 xs.length)), (4, vi i)], [some (.arr .int (mix xs (List.replicate xs.length ET.int.dflt) i))], []⟩
theorem s_toI_e : EnterOk Tryz.prog 50 := ⟨_, Tryz.func50, rfl, by decide⟩
@[go_sem] def s_toI_lv : List (List Nat) := [[0], [0, 3], [0, 3, 4], [0, 3, 4, 11], [0, 3, 4], [0, 3, 4], [2]]
@[go_sem] noncomputable def s_toI_K : Known := Known.nil
set_option maxHeartbeats 8000000 in
theorem s_toI : Sound Tryz.prog 50 ctToI := by
  have ke := s_toI_K.env []
  have kl : Lives s_toI_lv := trivial
  refine sound_intro (E := ⟨ti, s_toI_K.Γ, []⟩) ke Tryz.func50 Tryz.ntmps50 rfl (rs := [.tmp 2]) rfl ?_
  intro args os hp
  unfold ctToI at hp ⊢
  dsimp only at hp ⊢
  split at hp
  · rename_i xs
    refine ⟨by simp, fun φ0 w0 => ?_⟩
    have hlen : xs.length ≤ 4000000 := hp
    clear hp
    refine goh trivial ?_
    refine W_le (σ' := sgToI xs 0) [some 0] (by
      simp only [go_sem, mix_zero, inj_r, ↓reduceIte, reduceCtorEq, Nat.reduceAdd, Nat.reduceLT, Nat.reduceLeDiff, Nat.reduceEqDiff, Int.reduceEq]
      all_goals (repeat' refine And.intro ?_ ?_) <;> try exact shut7
      ) ?_
    refine W_loop (fun n σ => ∃ i : Nat, i ≤ xs.length ∧ n = xs.length - i ∧ σ = sgToI xs i) xs.length ⟨0, by omega, by omega, rfl⟩ ?_
    rintro n σ ⟨i, hi, rfl, rfl⟩
    unfold sgToI
    have hm := mix_len xs (List.replicate xs.length ET.int.dflt) i (by simp)
    rw [List.length_replicate] at hm
    refine goh hm ?_
    refine W_cnd ?_ ?_ <;> (try simp only [cnd_r]) <;> intro hlt
    · have hs := mix_set xs (List.replicate xs.length ET.int.dflt) i ET.int.dflt (by simp) (by simp; omega) rfl
      refine goh hm ?_
      refine ⟨xs.length - (i + 1), [some 0], sgToI xs (i + 1), by omega, ?_, i + 1, by omega, rfl, rfl⟩
      exact leh (And.intro hs hm)
    · have hs := mix_all xs (List.replicate xs.length ET.int.dflt) i (by simp) (by simp; omega)
      refine goh hm ?_
      exact finh [some 0] hs
  · simp [no] at hp
@[go_sem] def ctMarkI : Ct := ⟨true, [], fun args os => match args, os with
  | [.one (.osl .int 0 0 n), .one (.val (.int .i64 k))], [.arr .int xs] => ⟨n = xs.length ∧ xs.length ≤ 4000000 ∧ 0 ≤ k ∧ k ≤ 1000000000, vi (k + xs.length), [(0, some (.arr .int (markI xs.length k)))], []⟩
  | _, _ => no⟩
@[go_sem] def sgMarkI (xs : List Int) (k : Int) (i : Nat) : Sg := ⟨[(0, .one (.osl .int 0 0 xs.length)), (1, vi (k + i)), (5, vi i)], [some (.arr .int (mix (markI xs.length k) xs i))], [0]⟩
theorem s_markI_e : EnterOk Tryz.prog 53 := ⟨_, Tryz.func53, rfl, by decide⟩
@[go_sem] def s_markI_lv : List (List Nat) := [[0, 1], [0, 1, 5], [0, 1, 5, 9], [0, 1, 5], [0, 1, 5], [0, 1, 5], [4]]
@[go_sem] noncomputable def s_markI_K : Known := Known.nil
set_option maxHeartbeats 8000000 in
theorem s_markI : Sound Tryz.prog 53 ctMarkI := by
  have ke := s_markI_K.env []
  have kl : Lives s_markI_lv := trivial
  refine sound_intro (E := ⟨ti, s_markI_K.Γ, []⟩) ke Tryz.func53 Tryz.ntmps53 rfl (rs := [.tmp 4]) rfl ?_
  intro args os hp
  unfold ctMarkI at hp ⊢
  dsimp only at hp ⊢
  split at hp
  · rename_i n k xs
    refine ⟨by simp, fun φ0 w0 => ?_⟩
    obtain ⟨rfl, h1, h2, h3⟩ : n = xs.length ∧ xs.length ≤ 4000000 ∧ 0 ≤ k ∧ k ≤ 1000000000 := hp
    have hml := markI_len xs.length k
    refine goh trivial ?_
    refine W_le (σ' := sgMarkI xs k 0) [some 0] (by
      simp only [go_sem, mix_zero, inj_r, ↓reduceIte, reduceCtorEq, Nat.reduceAdd, Nat.reduceLT, Nat.reduceLeDiff, Nat.reduceEqDiff, Int.reduceEq]
      all_goals (repeat' refine And.intro ?_ ?_) <;> try exact shut7
      ) ?_
    refine W_loop (fun q σ => ∃ i : Nat, i ≤ xs.length ∧ q = xs.length - i ∧ σ = sgMarkI xs k i) xs.length ⟨0, by omega, by omega, rfl⟩ ?_
    rintro q σ ⟨i, hi, rfl, rfl⟩
    unfold sgMarkI
    have hm := mix_len (markI xs.length k) xs i hml
    refine goh hm ?_
    refine W_cnd ?_ ?_ <;> (try simp only [cnd_r]) <;> intro hlt
    · have hs := mix_set (markI xs.length k) xs i ET.int.dflt hml (by omega) (x := k + i) (markI_get (by omega) _).symm
      refine goh hm ?_
      refine ⟨xs.length - (i + 1), [some 0], sgMarkI xs k (i + 1), by omega, ?_, i + 1, by omega, rfl, rfl⟩
      exact leh (And.intro hs hm)
    · obtain rfl : i = xs.length := by omega
      have hs := mix_all (markI xs.length k) xs xs.length hml rfl
      refine goh hm ?_
      exact finh [some 0] hs
  · simp [no] at hp
@[go_sem] def ctHeldI : Ct := ⟨false, [[some .int]], fun args os => match args, os with
  | [.one (.isl .int xs), .one (.val (.int .i64 k))], [] => ifp (xs = markI xs.length k ∧ xs.length ≤ 4000000 ∧ 0 ≤ k ∧ k ≤ 1000000000) (vi (k + xs.length))
  | _, _ => no⟩
@[go_sem] def sgHeldI (xs : List Int) (k : Int) (i : Nat) : Sg := ⟨[(0, .one (.isl .int xs)), (1, vi (k + i)), (5, vi i)], [], []⟩
theorem s_heldI_e : EnterOk Tryz.prog 197 := ⟨_, Tryz.func197, rfl, by decide⟩
@[go_sem] def s_heldI_lv : List (List Nat) := [[0, 1], [0, 1, 5], [0, 1, 5, 9], [0, 1, 5], [0, 1, 5, 17], [4], [0, 1, 5], [4]]
@[go_sem] noncomputable def s_heldI_K : Known := Known.nil
set_option maxHeartbeats 8000000 in
theorem s_heldI : Sound Tryz.prog 197 ctHeldI := by
  have ke := s_heldI_K.env []
  have kl : Lives s_heldI_lv := trivial
  refine sound_intro (E := ⟨ti, s_heldI_K.Γ, []⟩) ke Tryz.func197 Tryz.ntmps197 rfl (rs := [.tmp 4]) rfl ?_
  intro args os hp
  unfold ctHeldI at hp ⊢
  dsimp only at hp ⊢
  split at hp
  · rename_i xs k
    refine ⟨by simp, fun φ0 w0 => ?_⟩
    obtain ⟨h0, h1, h2, h3⟩ : xs = markI xs.length k ∧ xs.length ≤ 4000000 ∧ 0 ≤ k ∧ k ≤ 1000000000 := hp
    have hget : ∀ i, i < xs.length → xs.getD i ET.int.dflt = k + i := fun i hi => by
      conv => lhs; rw [h0]
      exact markI_get hi _
    clear h0
    refine goh trivial ?_
    refine W_le (σ' := sgHeldI xs k 0) [] (by
      simp only [go_sem, inj_r, ↓reduceIte, reduceCtorEq, Nat.reduceAdd, Nat.reduceLT, Nat.reduceLeDiff, Nat.reduceEqDiff, Int.reduceEq]
      all_goals (repeat' refine And.intro ?_ ?_) <;> try exact shut7
      ) ?_
    refine W_loop (fun q σ => ∃ i : Nat, i ≤ xs.length ∧ q = xs.length - i ∧ σ = sgHeldI xs k i) xs.length ⟨0, by omega, by omega, rfl⟩ ?_
    rintro q σ ⟨i, hi, rfl, rfl⟩
    unfold sgHeldI
    refine goh trivial ?_
    refine W_cnd ?_ ?_ <;> (try simp only [cnd_r]) <;> intro hlt
    · have hg := hget i (by omega)
      refine goh hg ?_
      refine W_cnd ?_ ?_ <;> intro hlit <;> try (cases hlit; done)
      refine goh trivial ?_
      refine ⟨xs.length - (i + 1), [], sgHeldI xs k (i + 1), by omega, ?_, i + 1, by omega, rfl, rfl⟩
      exact leh trivial
    · obtain rfl : i = xs.length := by omega
      refine goh trivial ?_
      exact finh [] trivial
  · simp [no, ifp] at hp
@[go_sem] def ctToPtr : Ct := ⟨false, [], fun args os => match args, os with
  | [.agg [.val (.int .i64 x), .val (.int .i64 y), .val (.int .i64 z)]], [] => is (.agg [.val (.int .i64 x), .val (.int .i64 y), .val (.int .i64 z)])
  | _, _ => no⟩
theorem s_toPtr_e : EnterOk Tryz.prog 217 := ⟨_, Tryz.func217, rfl, by decide⟩
@[go_sem] def s_toPtr_lv : List (List Nat) := [[1, 2], [1, 2, 3], [1, 2, 3], [1, 2, 3], [2, 3], [2]]
@[go_sem] noncomputable def s_toPtr_K : Known := Known.nil
set_option maxHeartbeats 8000000 in
theorem s_toPtr : Sound Tryz.prog 217 ctToPtr := by
  have ke := s_toPtr_K.env []
  have kl : Lives s_toPtr_lv := trivial
  refine sound_intro (E := ⟨ti, s_toPtr_K.Γ, []⟩) ke Tryz.func217 Tryz.ntmps217 rfl (rs := [.cell 2 55]) rfl ?_
  intro args os hp
  unfold ctToPtr at hp ⊢
  dsimp only at hp ⊢
  split at hp
  · rename_i x y z
    refine ⟨by simp, fun φ0 w0 => ?_⟩
    refine goh trivial ?_
    exact finh [] trivial
  · simp [no, is] at hp
end Go.Proofs.YtjedcphhajlnoaaGreatDoor
/- Plain facts: what a fall leaves. -/
namespace Go.Proofs.YtjedcphhajlnoaaGreatDoor
open Go.RowKit

/-- Is one of the first n late writes one of this sector? -/
def lateB (l : List Late) (s a : Int) : Nat → Bool
  | 0 => false
  | n + 1 => lateB l s a n || (((ET.late.at l n).side == s) && ((ET.late.at l n).at_ == a))
theorem putW_at (x : Two) (w : Late) (hs : w.side = 0 ∨ w.side = 1) (ha : 0 ≤ w.at_) (a : Nat) :
    (¬ (w.side = 0 ∧ w.at_ = a) → (putW x w).1.getD a ET.str.dflt = x.1.getD a ET.str.dflt) ∧ (¬ (w.side = 1 ∧ w.at_ = a) → (putW x w).2.getD a ET.str.dflt = x.2.getD a ET.str.dflt) := by
  unfold putW
  constructor
  · intro h
    split
    · rename_i h0
      simp only [at_set]
      rw [if_neg]
      rintro ⟨h1, -⟩
      exact h ⟨h0, by omega⟩
    · rfl
  · intro h
    split
    · rfl
    · rename_i h0
      simp only [at_set]
      rw [if_neg]
      rintro ⟨h1, -⟩
      exact h ⟨by omega, by omega⟩
theorem fell_at (f : Int) (x : Two) (w : Late) (hs : w.side = 0 ∨ w.side = 1) (ha : 0 ≤ w.at_) (a : Nat) :
    (¬ (w.side = 0 ∧ w.at_ = a) → (fell f x w).1.getD a ET.str.dflt = x.1.getD a ET.str.dflt) ∧ (¬ (w.side = 1 ∧ w.at_ = a) → (fell f x w).2.getD a ET.str.dflt = x.2.getD a ET.str.dflt) := by
  unfold fell
  split
  · exact putW_at x w hs ha a
  · split
    · exact putW_at x ⟨w.side, w.at_, torn (sec x w.side w.at_) w.text⟩ hs ha a
    · exact ⟨fun _ => rfl, fun _ => rfl⟩
theorem fallN_keep {d : Dk} (h : d.ok = true) (fate : List Int) (a : Nat) : ∀ n, n ≤ d.l.length →
    (lateB d.l 0 a n = false → (d.fallN fate n).1.getD a ET.str.dflt = d.a.getD a ET.str.dflt) ∧ (lateB d.l 1 a n = false → (d.fallN fate n).2.getD a ET.str.dflt = d.b.getD a ET.str.dflt)
  | 0, _ => ⟨fun _ => rfl, fun _ => rfl⟩
  | n + 1, hn => by
    obtain ⟨i1, i2⟩ := fallN_keep h fate a n (by omega)
    obtain ⟨ws, w1, -⟩ := Dk.ok_late h n (by omega)
    obtain ⟨f1, f2⟩ := fell_at (ET.int.at fate n) (d.fallN fate n) (ET.late.at d.l n) ws w1 a
    constructor
    · intro hl
      unfold lateB at hl
      simp only [Bool.or_eq_false_iff, Bool.and_eq_false_iff, beq_eq_false_iff_ne] at hl
      show (fell _ _ _).1.getD a ET.str.dflt = _
      rw [f1 (fun hh => hl.2.elim (fun h => h hh.1) (fun h => h hh.2)), i1 hl.1]
    · intro hl
      unfold lateB at hl
      simp only [Bool.or_eq_false_iff, Bool.and_eq_false_iff, beq_eq_false_iff_ne] at hl
      show (fell _ _ _).2.getD a ET.str.dflt = _
      rw [f2 (fun hh => hl.2.elim (fun h => h hh.1) (fun h => h hh.2)), i2 hl.1]
theorem lateB_mono (l : List Late) (s a : Int) : ∀ m n, m ≤ n → lateB l s a n = false → lateB l s a m = false
  | m, 0, h, _ => by obtain rfl : m = 0 := by omega
                     rfl
  | m, n + 1, h, hl => by
    rcases Nat.lt_succ_iff_lt_or_eq.1 (Nat.lt_succ_of_le h) with h' | rfl
    · refine lateB_mono l s a m n (by omega) ?_
      unfold lateB at hl
      simp only [Bool.or_eq_false_iff] at hl
      exact hl.1
    · exact hl
theorem dkFall_keep {d : Dk} (h : d.ok = true) (fate : List Int) (a : Nat) :
    (lateB d.l 0 a d.l.length = false → (dkFall d fate).a.getD a ET.str.dflt = d.a.getD a ET.str.dflt) ∧ (lateB d.l 1 a d.l.length = false → (dkFall d fate).b.getD a ET.str.dflt = d.b.getD a ET.str.dflt) := by
  have e : dkFall d fate = d.fallen fate := by unfold dkFall; rw [if_pos h]
  rw [e]
  obtain ⟨i1, i2⟩ := fallN_keep h fate a (min d.l.length fate.length) (by omega)
  exact ⟨fun hl => i1 (lateB_mono _ _ _ _ _ (by omega) hl), fun hl => i2 (lateB_mono _ _ _ _ _ (by omega) hl)⟩
theorem dkFall_nil {d : Dk} (h : d.ok = true) : dkFall d [] = ⟨d.a, d.b, []⟩ := by
  unfold dkFall Dk.fallen
  rw [if_pos h]
  simp only [List.length_nil, Nat.min_zero]
  rfl
theorem fallN_all (d : Dk) (m : Nat) : ∀ n, n ≤ d.l.length → n ≤ m → d.fallN (List.replicate m 1) n = d.done n
  | 0, _, _ => by rw [Dk.done_zero]; rfl
  | n + 1, h, hm => by
    rw [Dk.done_succ d n h]
    unfold Dk.fallN
    rw [fallN_all d m n (by omega) (by omega)]
    have : ET.int.at (List.replicate m 1) n = 1 := by
      unfold ET.at
      rw [List.getD_eq_getElem?_getD, List.getElem?_replicate, if_pos (by omega)]; rfl
    rw [this]
    rfl
theorem dkFall_all (d : Dk) : dkFall d (List.replicate d.l.length 1) = dkFlush d := by
  unfold dkFall dkFlush Dk.fallen Dk.flushed
  rw [List.length_replicate, Nat.min_self, fallN_all d d.l.length d.l.length (Nat.le_refl _) (Nat.le_refl _)]
theorem dkFall_small (d : Dk) (fate : List Int) : (dkFall d fate).a.length ≤ d.a.length ∧ (dkFall d fate).b.length ≤ d.b.length ∧ (dkFall d fate).l = [] := by
  unfold dkFall
  split
  · have := d.fallN_len fate (min d.l.length fate.length)
    exact ⟨by show (d.fallN _ _).1.length ≤ _; omega, by show (d.fallN _ _).2.length ≤ _; omega, rfl⟩
  · exact ⟨Nat.zero_le _, Nat.zero_le _, rfl⟩
theorem dkFall_len {d : Dk} (h : d.ok = true) (fate : List Int) : (dkFall d fate).a.length = d.a.length ∧ (dkFall d fate).b.length = d.b.length := by
  have e : dkFall d fate = d.fallen fate := by unfold dkFall; rw [if_pos h]
  rw [e]; exact d.fallN_len fate _
end Go.Proofs.YtjedcphhajlnoaaGreatDoor
/- Plain facts: the last write wins. -/
namespace Go.Proofs.YtjedcphhajlnoaaGreatDoor
open Go.RowKit

theorem may_iff (d : Dk) (s k : Int) (t : ByteArray) : d.may s k t = true ↔ (s = 0 ∨ s = 1) ∧ 0 ≤ k ∧ k < d.a.length ∧ t.size ≤ 420 ∧ d.l.length < 600 := by
  unfold Dk.may fits
  simp only [Bool.and_eq_true, decide_eq_true_eq]
  omega
theorem snoc_getD {α : Type} (l : List α) (x d : α) (i : Nat) : (l ++ [x]).getD i d = if i = l.length then x else l.getD i d := by
  simp only [List.getD_eq_getElem?_getD]
  by_cases h : i = l.length
  · subst h; simp
  · rw [if_neg h]
    rcases Nat.lt_or_ge i l.length with h' | h'
    · rw [List.getElem?_append_left h']
    · rw [List.getElem?_eq_none (by simp; omega), List.getElem?_eq_none (by omega)]
theorem Dk.add_ok {d : Dk} (h : d.ok = true) {s k : Int} {t : ByteArray} (hm : d.may s k t = true) : (d.add s k t).ok = true := by
  obtain ⟨m1, m2, m3, m4, m5⟩ := (may_iff d s k t).1 hm
  rw [Dk.ok_iff] at h ⊢
  obtain ⟨h1, h2, h3, h4, h5, h6, h7⟩ := h
  refine ⟨h1, h2, h3, ?_, h5, h6, fun j hj => ?_⟩
  · show (d.l ++ [_]).length ≤ 600
    rw [List.length_append]; simp only [List.length_cons, List.length_nil]; omega
  · show badLate d.a.length ((d.l ++ [(⟨s, k, t⟩ : Late)]).getD j ET.late.dflt) = false
    rw [snoc_getD]
    split
    · unfold badLate sector long
      simp only [Bool.or_eq_false_iff, Bool.not_eq_false', Bool.and_eq_true, decide_eq_true_eq, decide_eq_false_iff_not]
      omega
    · rename_i hne
      refine h7 j ?_
      have : (d.l ++ [(⟨s, k, t⟩ : Late)]).length = d.l.length + 1 := by simp
      have hj' : j < (d.l ++ [(⟨s, k, t⟩ : Late)]).length := hj
      omega
theorem lateText_snoc (l : List Late) (w : Late) (s k : Int) (z : ByteArray) : ∀ n, n ≤ l.length → lateText (l ++ [w]) s k z n = lateText l s k z n
  | 0, _ => rfl
  | n + 1, h => by
    unfold lateText
    have e : ET.late.at (l ++ [w]) n = ET.late.at l n := by
      show (l ++ [w]).getD n ET.late.dflt = _
      rw [snoc_getD, if_neg (by omega)]; rfl
    rw [e, lateText_snoc l w s k z n (by omega)]
theorem Dk.add_text (d : Dk) (s k : Int) (t : ByteArray) (s' k' : Int) : (d.add s k t).text s' k' = if s = s' ∧ k = k' then t else d.text s' k' := by
  unfold Dk.text
  show lateText (d.l ++ [(⟨s, k, t⟩ : Late)]) s' k' (sec (d.a, d.b) s' k') (d.l ++ [(⟨s, k, t⟩ : Late)]).length = _
  have e : (d.l ++ [(⟨s, k, t⟩ : Late)]).length = d.l.length + 1 := by simp
  rw [e]
  have e2 : ET.late.at (d.l ++ [(⟨s, k, t⟩ : Late)]) d.l.length = ⟨s, k, t⟩ := by
    show (d.l ++ [(⟨s, k, t⟩ : Late)]).getD d.l.length ET.late.dflt = _
    rw [snoc_getD, if_pos rfl]
  have e3 : ∀ (l : List Late) (z : ByteArray) (n : Nat), lateText l s' k' z (n + 1) = if (ET.late.at l n).side = s' ∧ (ET.late.at l n).at_ = k' then (ET.late.at l n).text else lateText l s' k' z n := fun _ _ _ => rfl
  rw [e3, e2, lateText_snoc _ _ _ _ _ _ (Nat.le_refl _)]
theorem sec_put (x : Two) (w : Late) (hs : w.side = 0 ∨ w.side = 1) (ha : 0 ≤ w.at_) (h1 : w.at_ < x.1.length) (h2 : w.at_ < x.2.length) (s k : Int) (hs' : s = 0 ∨ s = 1) (hk : 0 ≤ k) :
    sec (putW x w) s k = if w.side = s ∧ w.at_ = k then w.text else sec x s k := by
  unfold sec putW
  by_cases h0 : w.side = 0
  · rw [if_pos h0]
    by_cases hs0 : s = 0
    · rw [if_pos hs0, if_pos hs0]
      show (x.1.set w.at_.toNat w.text).getD k.toNat ET.str.dflt = _
      rw [at_set]
      by_cases hk' : w.at_ = k
      · rw [if_pos ⟨by omega, by omega⟩, if_pos ⟨by omega, hk'⟩]
      · rw [if_neg (by omega), if_neg (by omega)]; rfl
    · rw [if_neg hs0, if_neg (by omega), if_neg hs0]
  · rw [if_neg h0]
    by_cases hs0 : s = 0
    · rw [if_pos hs0, if_neg (by omega), if_pos hs0]
    · rw [if_neg hs0, if_neg hs0]
      show (x.2.set w.at_.toNat w.text).getD k.toNat ET.str.dflt = _
      rw [at_set]
      by_cases hk' : w.at_ = k
      · rw [if_pos ⟨by omega, by omega⟩, if_pos ⟨by omega, hk'⟩]
      · rw [if_neg (by omega), if_neg (by omega)]; rfl
/-- What is performed is what was read. -/
theorem done_text {d : Dk} (h : d.ok = true) (s k : Int) (hs : s = 0 ∨ s = 1) (hk : 0 ≤ k) : ∀ n, n ≤ d.l.length → sec (d.done n) s k = lateText d.l s k (sec (d.a, d.b) s k) n
  | 0, _ => by rw [Dk.done_zero]; rfl
  | n + 1, hn => by
    obtain ⟨ws, w1, w2, -⟩ := Dk.ok_late h n (by omega)
    obtain ⟨-, -, hab, -⟩ := (Dk.ok_iff _).1 h
    obtain ⟨l1, l2⟩ := d.done_len n
    rw [Dk.done_succ d n (by omega), sec_put _ _ ws w1 (by omega) (by omega) s k hs hk, done_text h s k hs hk n (by omega)]
    rfl
theorem sm_ok {a b : List ByteArray} (h1 : 1 ≤ a.length) (h2 : a.length ≤ 120) (h3 : b.length = a.length) (h : Sm (a, b)) : (Dk.mk a b []).ok = true := by
  rw [Dk.ok_iff]
  refine ⟨h1, h2, h3, Nat.zero_le _, fun j _ => ?_, fun j _ => ?_, fun j hj => absurd hj (Nat.not_lt_zero j)⟩
  · have := (h j).1; unfold long; simp only [decide_eq_false_iff_not]; simp only at this; omega
  · have := (h j).2; unfold long; simp only [decide_eq_false_iff_not]; simp only at this; omega
theorem dkFall_ok {d : Dk} (h : d.ok = true) (fate : List Int) : (dkFall d fate).ok = true := by
  have e : dkFall d fate = d.fallen fate := by unfold dkFall; rw [if_pos h]
  obtain ⟨h1, h2, h3, -⟩ := (Dk.ok_iff _).1 h
  obtain ⟨l1, l2⟩ := d.fallN_len fate (min d.l.length fate.length)
  rw [e]
  exact sm_ok (by omega) (by omega) (by omega) (Dk.fallN_sm h fate _ (by omega))
theorem dkFlush_ok {d : Dk} (h : d.ok = true) : (dkFlush d).ok = true := by rw [← dkFall_all]; exact dkFall_ok h _
/-- What is read where only the first n late writes have been kept. -/
theorem fall_read {d : Dk} (h : d.ok = true) (n : Nat) (hn : n ≤ d.l.length) (s k : Int) (hs : sector d.a.length s k = true) :
    dkRead (dkFall d (List.replicate n 1)) s k = lateText d.l s k (sec (d.a, d.b) s k) n := by
  obtain ⟨ws, w1, w2⟩ := (sector_iff _ _ _).1 hs
  have hok := dkFall_ok h (List.replicate n 1)
  have e : dkFall d (List.replicate n 1) = ⟨(d.done n).1, (d.done n).2, []⟩ := by
    unfold dkFall Dk.fallen
    rw [if_pos h, List.length_replicate, Nat.min_eq_right hn, fallN_all d n n hn (Nat.le_refl _)]
  rw [e] at hok ⊢
  have hl := (d.done_len n).1
  unfold dkRead dkReads
  rw [hok]
  simp only [hl, hs, Bool.and_self, if_true]
  show lateText [] s k (sec ((d.done n).1, (d.done n).2) s k) 0 = _
  exact done_text h s k ws w1 n hn
theorem dkRead_ok {d : Dk} (h : d.ok = true) (s k : Int) (hs : sector d.a.length s k = true) : dkRead d s k = d.text s k := by
  unfold dkRead dkReads; rw [h, hs]; rfl
theorem last_all {d : Dk} {s k : Int} {t o : ByteArray} (h1 : dkWrites d s k t = true) (h2 : dkWrites (dkWrite d s k t) s k o = true) :
    (dkWrite (dkWrite d s k t) s k o).ok = true ∧ 1 ≤ (dkWrite (dkWrite d s k t) s k o).l.length ∧ dkRead (dkWrite (dkWrite d s k t) s k o) s k = o ∧
    dkRead (dkFall (dkWrite (dkWrite d s k t) s k o) (List.replicate (dkWrite (dkWrite d s k t) s k o).l.length 1)) s k = o ∧
    dkRead (dkFall (dkWrite (dkWrite d s k t) s k o) (List.replicate ((dkWrite (dkWrite d s k t) s k o).l.length - 1) 1)) s k = t := by
  have hd : d.ok = true ∧ d.may s k t = true := by unfold dkWrites at h1; simpa using h1
  have e1 : dkWrite d s k t = d.add s k t := by unfold dkWrite; rw [if_pos hd.1, if_pos hd.2]
  rw [e1] at h2 ⊢
  have hx : (d.add s k t).ok = true ∧ (d.add s k t).may s k o = true := by unfold dkWrites at h2; simpa using h2
  have e2 : dkWrite (d.add s k t) s k o = (d.add s k t).add s k o := by unfold dkWrite; rw [if_pos hx.1, if_pos hx.2]
  rw [e2]
  have hy := Dk.add_ok hx.1 hx.2
  obtain ⟨m1, m2, m3, -, -⟩ := (may_iff _ _ _ _).1 hx.2
  have hs : sector (((d.add s k t).add s k o)).a.length s k = true := (sector_iff _ _ _).2 ⟨m1, m2, m3⟩
  have hl : ((d.add s k t).add s k o).l.length = (d.add s k t).l.length + 1 := by show ((d.add s k t).l ++ [_]).length = _; simp
  have r1 := dkRead_ok hy s k hs
  have r2 := fall_read hy ((d.add s k t).add s k o).l.length (Nat.le_refl _) s k hs
  have r3 := fall_read hy (((d.add s k t).add s k o).l.length - 1) (by omega) s k hs
  have t1 : ((d.add s k t).add s k o).text s k = o := by rw [Dk.add_text, if_pos ⟨rfl, rfl⟩]
  refine ⟨hy, by omega, by rw [r1, t1], by rw [r2]; exact t1, ?_⟩
  rw [r3, hl, Nat.add_sub_cancel]
  show lateText ((d.add s k t).l ++ [_]) s k _ (d.add s k t).l.length = t
  rw [lateText_snoc _ _ _ _ _ _ (Nat.le_refl _)]
  have t2 : (d.add s k t).text s k = t := by rw [Dk.add_text, if_pos ⟨rfl, rfl⟩]
  exact t2
end Go.Proofs.YtjedcphhajlnoaaGreatDoor
/- Plain facts: what a decayed byte does to a sector, and to its sum. -/
namespace Go.Proofs.YtjedcphhajlnoaaGreatDoor
open Go.RowKit

theorem turn_turn (x : UInt8) (mask : Int) (h1 : 1 ≤ mask) (h2 : mask ≤ 255) : turn (turn x mask) mask = x ∧ turn x mask ≠ x := by
  obtain ⟨m, rfl⟩ := Int.eq_ofNat_of_zero_le (show 0 ≤ mask by omega)
  have hm : m < 256 := by omega
  have hm1 : 1 ≤ m := by omega
  have hx : x.toNat < 256 := UInt8.toNat_lt x
  have key : ∀ a : Nat, a < 256 → IntKind.u8.wrap (((BitVec.ofInt 8 ((a : Nat) : Int) ^^^ BitVec.ofInt 8 (IntKind.u8.wrap (m : Int))).toNat : Nat) : Int) = ((a ^^^ m : Nat) : Int) := by
    intro a ha
    have e1 : IntKind.u8.wrap (m : Int) = m := IntWalk.u8_in _ (by omega)
    have hlt : a ^^^ m < 2 ^ 8 := Nat.xor_lt_two_pow (by omega) (by omega)
    have e2 : (BitVec.ofInt 8 ((a : Nat) : Int) ^^^ BitVec.ofInt 8 (m : Int)).toNat = a ^^^ m := by
      rw [BitVec.toNat_xor, BitVec.toNat_ofInt, BitVec.toNat_ofInt]
      congr 1 <;> omega
    rw [e1, e2]
    exact IntWalk.u8_in _ (by omega)
  have tn : ∀ y : UInt8, (turn y m).toNat = y.toNat ^^^ m := by
    intro y
    have hy : y.toNat < 256 := UInt8.toNat_lt y
    have hlt : y.toNat ^^^ m < 2 ^ 8 := Nat.xor_lt_two_pow (by omega) (by omega)
    unfold turn
    rw [key _ hy, Int.toNat_natCast, UInt8.toNat_ofNat']
    omega
  have t1 := tn x
  have t2 : (turn (turn x m) m).toNat = x.toNat := by rw [tn, t1, Nat.xor_assoc, Nat.xor_self, Nat.xor_zero]
  refine ⟨UInt8.toNat_inj.1 t2, fun h => ?_⟩
  have h3 : x.toNat ^^^ m = x.toNat := by rw [← t1, h]
  have h4 : x.toNat ^^^ (x.toNat ^^^ m) = x.toNat ^^^ x.toNat := by rw [h3]
  rw [← Nat.xor_assoc, Nat.xor_self, Nat.zero_xor] at h4
  omega
theorem rotB_size (s : ByteArray) (k mask : Int) : (rotB s k mask).size = s.size := by
  unfold rotB
  show (List.toArray _).size = _
  rw [List.size_toArray, List.length_set, Array.length_toList]; rfl
theorem rotB_rotB (s : ByteArray) (k mask : Int) (hk : 0 ≤ k) (hk2 : k < s.size) (h1 : 1 ≤ mask) (h2 : mask ≤ 255) : rotB (rotB s k mask) k mask = s := by
  obtain ⟨⟨xs⟩⟩ := s
  have hl : k.toNat < xs.length := by
    have : ((⟨⟨xs⟩⟩ : ByteArray).size : Int) = xs.length := rfl
    omega
  unfold rotB
  simp only [List.set_set]
  congr 2
  have e : (xs.set k.toNat (turn (xs.getD k.toNat ET.byte.dflt) mask)).getD k.toNat ET.byte.dflt = turn (xs.getD k.toNat ET.byte.dflt) mask := by
    rw [at_set]; rw [if_pos ⟨rfl, hl⟩]
  show xs.set k.toNat (turn ((xs.set k.toNat (turn (xs.getD k.toNat ET.byte.dflt) mask)).getD k.toNat ET.byte.dflt) mask) = xs
  rw [e, (turn_turn _ mask h1 h2).1]
  apply List.ext_getElem
  · simp
  · intro i hi1 hi2
    rw [List.getElem_set]
    split
    · rename_i h; subst h
      rw [List.getD_eq_getElem?_getD, List.getElem?_eq_getElem hl]; rfl
    · rfl

theorem sumAt_same (s t : ByteArray) (hs : s.size = t.size) : ∀ (i : Nat), (∀ j, j < i → s.data.getD j 0 = t.data.getD j 0) → sumAt s i = sumAt t i
  | 0, _ => by unfold sumAt; rw [hs]
  | i + 1, h => by
    unfold sumAt
    rw [sumAt_same s t hs i fun j hj => h j (by omega), h i (by omega)]
theorem sum_inj {a b c : Nat} (ha : a < 65521) (hb : b < 65521) (h : (257 * a + c + 1) % 65521 = (257 * b + c + 1) % 65521) : a = b := by omega
theorem sumAt_apart (s t : ByteArray) (k : Nat) (hk : sumAt s (k + 1) ≠ sumAt t (k + 1)) : ∀ (i : Nat), k < i → (∀ j, k < j → j < i → s.data.getD j 0 = t.data.getD j 0) → sumAt s i ≠ sumAt t i
  | 0, h, _ => by omega
  | i + 1, h, hj => by
    rcases Nat.lt_succ_iff_lt_or_eq.1 h with h' | rfl
    · intro he
      refine sumAt_apart s t k hk i h' (fun j h1 h2 => hj j h1 (by omega)) ?_
      unfold sumAt at he
      rw [hj i h' (by omega)] at he
      exact sum_inj (sumAt_lt s i) (sumAt_lt t i) he
    · exact hk
/-- A turned byte turns the sum. -/
theorem rotB_sum (s : ByteArray) (k mask : Int) (hk : 0 ≤ k) (hk2 : k < s.size) (h1 : 1 ≤ mask) (h2 : mask ≤ 255) : sumOf (rotB s k mask) ≠ sumOf s := by
  have hsz := rotB_size s k mask
  have hat : ∀ j, j < s.size → (rotB s k mask).data.getD j 0 = if j = k.toNat then turn (s.data.getD j 0) mask else s.data.getD j 0 := by
    intro j hj
    obtain ⟨⟨xs⟩⟩ := s
    have hj : j < xs.length := hj
    have e : ∀ (ys : List UInt8) (i : Nat), (⟨ys⟩ : Array UInt8).getD i 0 = ys.getD i 0 := by
      intro ys i
      rw [Array.getD_eq_getD_getElem?, List.getD_eq_getElem?_getD]; simp
    unfold rotB
    simp only
    show (⟨xs.set k.toNat _⟩ : Array UInt8).getD j 0 = _
    rw [e, e, at_set]
    by_cases hjk : j = k.toNat
    · subst hjk; rw [if_pos ⟨rfl, hj⟩, if_pos rfl]; rfl
    · rw [if_neg (fun h => hjk h.1.symm), if_neg hjk]
  unfold sumOf
  rw [hsz]
  refine sumAt_apart _ _ k.toNat ?_ s.size (by omega) fun j hj1 hj2 => ?_
  · have hs0 : sumAt (rotB s k mask) k.toNat = sumAt s k.toNat := sumAt_same _ _ hsz _ fun j hj => by rw [hat j (by omega), if_neg (by omega)]
    unfold sumAt
    rw [hs0, hat k.toNat (by omega), if_pos rfl]
    have hne := (turn_turn (s.data.getD k.toNat 0) mask h1 h2).2
    have l1 : (s.data.getD k.toNat 0).toNat < 256 := UInt8.toNat_lt _
    have l2 : (turn (s.data.getD k.toNat 0) mask).toNat < 256 := UInt8.toNat_lt _
    have hne' : (turn (s.data.getD k.toNat 0) mask).toNat ≠ (s.data.getD k.toNat 0).toNat := fun h => hne (UInt8.toNat_inj.1 h)
    omega
  · rw [hat j hj2, if_neg (by omega)]
end Go.Proofs.YtjedcphhajlnoaaGreatDoor
/- Plain facts: a decayed disk. -/
namespace Go.Proofs.YtjedcphhajlnoaaGreatDoor
open Go.RowKit

theorem Dk.eqv_self (d : Dk) : d.eqv d = true := by simp [Dk.eqv, same]
theorem Dk.rot_at {d : Dk} {s i k m : Int} (hm : d.mayRot s i k m = true) (j : Nat) :
    (d.rot s i k m).a.getD j ET.str.dflt = (if s = 0 ∧ i = j then rotB (d.a.getD j ET.str.dflt) k m else d.a.getD j ET.str.dflt) ∧
    (d.rot s i k m).b.getD j ET.str.dflt = (if s = 1 ∧ i = j ∧ j < d.b.length then rotB (d.b.getD j ET.str.dflt) k m else d.b.getD j ET.str.dflt) := by
  unfold Dk.mayRot at hm
  simp only [Bool.and_eq_true, decide_eq_true_eq] at hm
  obtain ⟨ws, w1, w2⟩ := (sector_iff _ _ _).1 hm.1.1.1.1
  obtain ⟨i, rfl⟩ := Int.eq_ofNat_of_zero_le w1
  unfold Dk.rot putW sec
  rcases ws with rfl | rfl
  · simp only [↓reduceIte, Int.toNat_natCast, at_set, Int.reduceEq, false_and, if_false, and_true, true_and]
    by_cases h : i = j
    · subst h
      rw [if_pos ⟨rfl, by omega⟩, if_pos rfl]; rfl
    · rw [if_neg (fun hh => h hh.1), if_neg (by omega)]
  · simp only [↓reduceIte, Int.toNat_natCast, at_set, Int.reduceEq, false_and, if_false, and_true, true_and]
    by_cases h : i = j
    · subst h
      by_cases h2 : i < d.b.length
      · rw [if_pos ⟨rfl, h2⟩, if_pos ⟨rfl, h2⟩]; rfl
      · rw [if_neg (fun hh => h2 hh.2), if_neg (fun hh => h2 hh.2)]
    · rw [if_neg (fun hh => h hh.1), if_neg (fun hh => h (by omega))]
theorem Dk.rot_len (d : Dk) (s i k m : Int) : (d.rot s i k m).a.length = d.a.length ∧ (d.rot s i k m).b.length = d.b.length ∧ (d.rot s i k m).l = d.l :=
  ⟨(putW_len (d.a, d.b) _).1, (putW_len (d.a, d.b) _).2, rfl⟩
theorem Dk.rot_ok {d : Dk} (h : d.ok = true) {s i k m : Int} (hm : d.mayRot s i k m = true) : (d.rot s i k m).ok = true := by
  obtain ⟨l1, l2, l3⟩ := d.rot_len s i k m
  rw [Dk.ok_iff] at h ⊢
  obtain ⟨h1, h2, h3, h4, h5, h6, h7⟩ := h
  rw [l1, l2, l3]
  have hl : ∀ s : ByteArray, long (rotB s k m) = long s := fun s => by unfold long; rw [rotB_size]
  refine ⟨h1, h2, h3, h4, fun j hj => ?_, fun j hj => ?_, h7⟩
  · rw [(Dk.rot_at hm j).1]
    split
    · rw [hl]; exact h5 j hj
    · exact h5 j hj
  · rw [(Dk.rot_at hm j).2]
    split
    · rw [hl]; exact h6 j hj
    · exact h6 j hj
theorem dkRot_ok {d : Dk} (h : d.ok = true) (s i k m : Int) : (dkRot d s i k m).ok = true := by
  unfold dkRot
  rw [if_pos h]
  split
  · rename_i hm; exact Dk.rot_ok h hm
  · exact h
theorem dkRot_len {d : Dk} (h : d.ok = true) (s i k m : Int) : (dkRot d s i k m).a.length = d.a.length ∧ (dkRot d s i k m).b.length = d.b.length ∧ (dkRot d s i k m).l = d.l := by
  unfold dkRot
  rw [if_pos h]
  split
  · exact d.rot_len s i k m
  · exact ⟨rfl, rfl, rfl⟩
theorem Dk.ext' {d e : Dk} (h1 : d.a = e.a) (h2 : d.b = e.b) (h3 : d.l = e.l) : d = e := by
  cases d; cases e; simp_all
/-- Turned once more a disk is as it was. -/
theorem dkRot_dkRot {d : Dk} (h : d.ok = true) (s i k m : Int) : dkRot (dkRot d s i k m) s i k m = d := by
  have hok := dkRot_ok h s i k m
  by_cases hm : d.mayRot s i k m = true
  · have e : dkRot d s i k m = d.rot s i k m := by unfold dkRot; rw [if_pos h, if_pos hm]
    rw [e] at hok ⊢
    obtain ⟨l1, l2, l3⟩ := d.rot_len s i k m
    obtain ⟨-, -, hab, -⟩ := (Dk.ok_iff _).1 h
    have hm0 := hm
    unfold Dk.mayRot at hm
    simp only [Bool.and_eq_true, decide_eq_true_eq] at hm
    obtain ⟨⟨⟨⟨q1, q2⟩, q3⟩, q4⟩, q5⟩ := hm
    obtain ⟨ws, w1, w2⟩ := (sector_iff _ _ _).1 q1
    have hsec : (sec ((d.rot s i k m).a, (d.rot s i k m).b) s i).size = (sec (d.a, d.b) s i).size := by
      unfold sec
      rcases ws with rfl | rfl
      · rw [if_pos rfl, if_pos rfl]
        show ((d.rot 0 i k m).a.getD i.toNat ET.str.dflt).size = _
        rw [(Dk.rot_at hm0 _).1]
        split
        · rw [rotB_size]; rfl
        · rfl
      · rw [if_neg (by decide), if_neg (by decide)]
        show ((d.rot 1 i k m).b.getD i.toNat ET.str.dflt).size = _
        rw [(Dk.rot_at hm0 _).2]
        split
        · rw [rotB_size]; rfl
        · rfl
    have hm2 : (d.rot s i k m).mayRot s i k m = true := by
      unfold Dk.mayRot
      rw [l1, hsec]
      simp only [Bool.and_eq_true, decide_eq_true_eq]
      exact ⟨⟨⟨⟨q1, q2⟩, q3⟩, q4⟩, q5⟩
    unfold dkRot
    rw [if_pos hok, if_pos hm2]
    obtain ⟨r1, r2, r3⟩ := (d.rot s i k m).rot_len s i k m
    refine Dk.ext' (list_same (d := ET.str.dflt) (by rw [r1, l1]) fun j hj => ?_) (list_same (d := ET.str.dflt) (by rw [r2, l2]) fun j hj => ?_) (by rw [r3, l3])
    · rw [(Dk.rot_at hm2 j).1, (Dk.rot_at hm0 j).1]
      by_cases hc : s = 0 ∧ i = j
      · rw [if_pos hc, if_pos hc]
        refine rotB_rotB _ k m q2 ?_ q4 q5
        obtain ⟨rfl, rfl⟩ := hc
        unfold sec at q3; rw [if_pos rfl, Int.toNat_natCast] at q3; exact q3
      · rw [if_neg hc, if_neg hc]
    · rw [(Dk.rot_at hm2 j).2, (Dk.rot_at hm0 j).2, l2]
      by_cases hc : s = 1 ∧ i = j ∧ j < d.b.length
      · rw [if_pos hc, if_pos hc]
        refine rotB_rotB _ k m q2 ?_ q4 q5
        obtain ⟨rfl, rfl, -⟩ := hc
        unfold sec at q3; rw [if_neg (by decide), Int.toNat_natCast] at q3; exact q3
      · rw [if_neg hc, if_neg hc]
  · have e : dkRot d s i k m = d := by unfold dkRot; rw [if_pos h, if_neg hm]
    rw [e, e]
/-- A sector that is not as it was is the one that is named, and its sum is another one. -/
theorem dkRot_at {d : Dk} (h : d.ok = true) (s i k m : Int) (j : Nat) (hj : j < d.a.length) :
    ((dkRot d s i k m).a.getD j ET.str.dflt ≠ d.a.getD j ET.str.dflt → d.mayRot s i k m = true ∧ s = 0 ∧ i = j ∧ sumOf ((dkRot d s i k m).a.getD j ET.str.dflt) ≠ sumOf (d.a.getD j ET.str.dflt)) ∧
    ((dkRot d s i k m).b.getD j ET.str.dflt ≠ d.b.getD j ET.str.dflt → d.mayRot s i k m = true ∧ s = 1 ∧ i = j ∧ sumOf ((dkRot d s i k m).b.getD j ET.str.dflt) ≠ sumOf (d.b.getD j ET.str.dflt)) := by
  by_cases hm : d.mayRot s i k m = true
  · have e : dkRot d s i k m = d.rot s i k m := by unfold dkRot; rw [if_pos h, if_pos hm]
    rw [e]
    have hm0 := hm
    unfold Dk.mayRot at hm
    simp only [Bool.and_eq_true, decide_eq_true_eq] at hm
    obtain ⟨⟨⟨⟨q1, q2⟩, q3⟩, q4⟩, q5⟩ := hm
    rw [(Dk.rot_at hm0 j).1, (Dk.rot_at hm0 j).2]
    constructor
    · by_cases hc : s = 0 ∧ i = j
      · rw [if_pos hc]
        intro _
        obtain ⟨rfl, rfl⟩ := hc
        unfold sec at q3; rw [if_pos rfl, Int.toNat_natCast] at q3
        exact ⟨hm0, rfl, rfl, rotB_sum _ k m q2 q3 q4 q5⟩
      · rw [if_neg hc]; exact fun hh => absurd rfl hh
    · by_cases hc : s = 1 ∧ i = j ∧ j < d.b.length
      · rw [if_pos hc]
        intro _
        obtain ⟨rfl, rfl, -⟩ := hc
        unfold sec at q3; rw [if_neg (by decide), Int.toNat_natCast] at q3
        exact ⟨hm0, rfl, rfl, rotB_sum _ k m q2 q3 q4 q5⟩
      · rw [if_neg hc]; exact fun hh => absurd rfl hh
  · have e : dkRot d s i k m = d := by unfold dkRot; rw [if_pos h, if_neg hm]
    rw [e]
    exact ⟨fun hh => absurd rfl hh, fun hh => absurd rfl hh⟩
end Go.Proofs.YtjedcphhajlnoaaGreatDoor
/- Functions: writes and flushes, the program's. -/
namespace Go.Proofs.YtjedcphhajlnoaaGreatDoor
open Go.RowKit

/-- A disk behind a pointer, its slices own: objects n, n + 1, n + 2. -/
@[go_sem] def Dk.cs (d : Dk) (n : Nat) : List TC := [.osl .str n 0 d.a.length, .osl .str (n + 1) 0 d.b.length, .osl .late (n + 2) 0 d.l.length]
theorem may_eq (d : Dk) (s k : Int) (t : ByteArray) : d.may s k t = (sector d.a.length s k && !(long t) && decide (d.l.length < 600)) := by
  unfold Dk.may fits sector long
  rw [Bool.eq_iff_iff]
  simp only [Bool.and_eq_true, decide_eq_true_eq, Bool.not_eq_true', decide_eq_false_iff_not]
  omega
/-- (*Disk).write: the disk's slices are the call's; its late writes become a new object, if it can be written. -/
@[go_sem] def ctWrite : Ct := ⟨true, [], fun args os => match args, os with
  | [.one (.ptr 0 0), .one (.val (.int .i64 s)), .one (.val (.int .i64 k)), .one (.val (.string t))], [.cells [.osl .str 1 0 na, .osl .str 2 0 nb, .osl .late 3 0 nl], .arr .str a, .arr .str b, .arr .late l] =>
    if (Dk.mk a b l).may s k t then ⟨(Dk.mk a b l).small ∧ na = a.length ∧ nb = b.length ∧ nl = l.length, vb true, [(0, some (.cells [.osl .str 1 0 na, .osl .str 2 0 nb, .osl .late 4 0 (nl + 1)])), (3, none)], [.arr .late (l ++ [⟨s, k, t⟩])]⟩
    else ⟨(Dk.mk a b l).small ∧ na = a.length ∧ nb = b.length ∧ nl = l.length, vb false, [], []⟩
  | _, _ => no⟩
theorem s_write_e : EnterOk Tryz.prog 83 := ⟨_, Tryz.func83, rfl, by decide⟩
@[go_sem] def s_write_lv : List (List Nat) := [[0, 1, 2, 3], [0, 1, 2, 3, 27], [8], [], [8]]
@[go_sem] noncomputable def s_write_K : Known := ((Known.nil).cons 95 ctIsSector s_isSector s_isSector_e).cons 163 ctIsLong s_isLong s_isLong_e
set_option maxHeartbeats 8000000 in
theorem s_write : Sound Tryz.prog 83 ctWrite := by
  have ke := s_write_K.env []
  have kl : Lives s_write_lv := trivial
  refine sound_intro (E := ⟨ti, s_write_K.Γ, []⟩) ke Tryz.func83 Tryz.ntmps83 rfl (rs := [.tmp 8]) rfl ?_
  intro args os hp
  unfold ctWrite at hp ⊢
  dsimp only at hp ⊢
  split at hp
  · rename_i s k t na nb nl a b l
    refine ⟨by simp, fun φ0 w0 => ?_⟩
    have hp' : (Dk.mk a b l).small ∧ na = a.length ∧ nb = b.length ∧ nl = l.length := by
      by_cases h : (Dk.mk a b l).may s k t = true
      · rw [if_pos h] at hp; exact hp
      · rw [if_neg h] at hp; exact hp
    obtain ⟨⟨h1, h2, h3⟩, rfl, rfl, rfl⟩ := hp'
    simp only at h1 h2 h3
    have hm := may_eq ⟨a, b, l⟩ s k t
    simp only at hm
    clear hp
    refine goh trivial ?_
    refine W_cnd ?_ ?_ <;> (try simp only [cnd_r]) <;> intro hc
    · have hm0 : (Dk.mk a b l).may s k t = false := by
        rw [hm]
        cases hs : sector a.length s k <;> cases ht : long t <;> simp [hs, ht] at hc ⊢
        omega
      refine goh trivial ?_
      exact finh [some 0, some 1, some 2, some 3] hm0
    · have hm0 : (Dk.mk a b l).may s k t = true := by
        rw [hm]
        cases hs : sector a.length s k <;> cases ht : long t <;> simp [hs, ht] at hc ⊢
        omega
      refine goh trivial ?_
      exact finh [some 0, some 1, some 2, some 3, some 5] hm0
  · simp [no] at hp

theorem s_diskWrite_e : EnterOk Tryz.prog 35 := ⟨_, Tryz.func35, rfl, by decide⟩
@[go_sem] def s_diskWrite_lv : List (List Nat) := [[1, 2, 3, 4, 8], [1, 2, 3, 4, 8, 14], [8, 9], [1, 2, 3, 8, 10], [8, 10, 11], [8, 9]]
@[go_sem] noncomputable def s_diskWrite_K : Known := (((Known.nil).cons 80 ctDiskOk s_diskOk s_diskOk_e).cons 81 ctOwn s_own s_own_e).cons 83 ctWrite s_write s_write_e
set_option maxHeartbeats 8000000 in
theorem s_diskWrite : Sound Tryz.prog 35 ctDiskWrite := by
  have ke := s_diskWrite_K.env []
  have kl : Lives s_diskWrite_lv := trivial
  refine sound_intro (E := ⟨ti, s_diskWrite_K.Γ, []⟩) ke Tryz.func35 Tryz.ntmps35 rfl (rs := [.cell 8 39, .tmp 9]) rfl ?_
  intro args os hp
  unfold ctDiskWrite at hp ⊢
  dsimp only at hp ⊢
  split at hp
  · rename_i a b l s k t
    refine ⟨by simp, fun φ0 w0 => ?_⟩
    obtain ⟨h1, h2, h3⟩ : a.length ≤ 4000000 ∧ b.length ≤ 4000000 ∧ l.length ≤ 4000000 := hp
    refine goh trivial ?_
    refine W_cnd ?_ ?_ <;> (try simp only [cnd_r]) <;> intro hok
    · have e1 : dkWrite ⟨a, b, l⟩ s k t = .nil := by unfold dkWrite; rw [hok]; rfl
      have e2 : dkWrites ⟨a, b, l⟩ s k t = false := by unfold dkWrites; rw [hok]; rfl
      refine goh trivial ?_
      refine ⟨by (simp only [go_sem, e1, e2, Dk.nil, ↓reduceIte, reduceCtorEq, Nat.reduceAdd, Nat.reduceLT, Nat.reduceLeDiff, Nat.reduceEqDiff]) <;> trivial, [none, none, none], ?_⟩
      all_goals try simp only [go_sem, e1, e2, Dk.nil, inj_r, ↓reduceIte, reduceCtorEq, Nat.reduceAdd, Nat.reduceLT, Nat.reduceLeDiff, Nat.reduceEqDiff, Int.reduceEq]
      all_goals (repeat' refine And.intro ?_ ?_) <;> try exact shut7
    · have e3 : a.length ≤ 120 ∧ b.length ≤ 120 ∧ l.length ≤ 600 := Dk.ok_small hok
      have e1 : dkWrite ⟨a, b, l⟩ s k t = if (Dk.mk a b l).may s k t then (Dk.mk a b l).add s k t else ⟨a, b, l⟩ := by unfold dkWrite; rw [hok]; rfl
      have e2 : dkWrites ⟨a, b, l⟩ s k t = (Dk.mk a b l).may s k t := by unfold dkWrites; rw [hok]; rfl
      by_cases hm : (Dk.mk a b l).may s k t = true
      · refine goh hm ?_
        refine ⟨by (simp only [go_sem, e1, e2, hm, Dk.add, ↓reduceIte, reduceCtorEq, Nat.reduceAdd, Nat.reduceLT, Nat.reduceLeDiff, Nat.reduceEqDiff]) <;> trivial, [some 7, some 8, some 9], ?_⟩
        all_goals try simp only [go_sem, e1, e2, hm, Dk.add, inj_r, ↓reduceIte, reduceCtorEq, Nat.reduceAdd, Nat.reduceLT, Nat.reduceLeDiff, Nat.reduceEqDiff, Int.reduceEq]
        all_goals (repeat' refine And.intro ?_ ?_) <;> try exact shut7
      · refine goh hm ?_
        exact finh [some 6, some 7, some 8] (And.intro e1 (And.intro e2 hm))
  · simp [no] at hp

@[go_sem] def ctFlush : Ct := ⟨true, [], fun args os => match args, os with
  | [.one (.ptr 0 0)], [.cells [.osl .str 1 0 na, .osl .str 2 0 nb, .osl .late 3 0 nl], .arr .str a, .arr .str b, .arr .late l] =>
    ⟨(Dk.mk a b l).ok = true ∧ na = a.length ∧ nb = b.length ∧ nl = l.length, .tup [], [(0, some (.cells [.osl .str 1 0 na, .osl .str 2 0 nb, .val (.slice none 0 0)])), (1, some (.arr .str (Dk.mk a b l).flushed.a)), (2, some (.arr .str (Dk.mk a b l).flushed.b))], []⟩
  | _, _ => no⟩
@[go_sem] def sgFl (l : List Late) (x : List ByteArray × List ByteArray) (i : Nat) : Sg := ⟨[(0, .one (.ptr 0 0)), (7, .one (.osl .late 3 0 l.length)), (8, vi l.length), (9, vi i)],
  [some (.cells [.osl .str 1 0 x.1.length, .osl .str 2 0 x.2.length, .osl .late 3 0 l.length]), some (.arr .str x.1), some (.arr .str x.2), some (.arr .late l)], [0, 1, 2]⟩
theorem s_flush_e : EnterOk Tryz.prog 105 := ⟨_, Tryz.func105, rfl, by decide⟩
@[go_sem] def s_flush_lv : List (List Nat) := [[0, 7, 8, 9], [0, 7, 8, 9, 10], [0, 3, 7, 8, 9], [0, 7, 8, 9], [0, 7, 8, 9], []]
@[go_sem] noncomputable def s_flush_K : Known := Known.nil
set_option maxHeartbeats 8000000 in
theorem s_flush : Sound Tryz.prog 105 ctFlush := by
  have ke := s_flush_K.env []
  have kl : Lives s_flush_lv := trivial
  refine sound_intro (E := ⟨ti, s_flush_K.Γ, []⟩) ke Tryz.func105 Tryz.ntmps105 rfl (rs := []) rfl ?_
  intro args os hp
  unfold ctFlush at hp ⊢
  dsimp only at hp ⊢
  split at hp
  · rename_i na nb nl a b l
    refine ⟨by simp, fun φ0 w0 => ?_⟩
    obtain ⟨hok, rfl, rfl, rfl⟩ : (Dk.mk a b l).ok = true ∧ na = a.length ∧ nb = b.length ∧ nl = l.length := hp
    have e3 : a.length ≤ 120 ∧ b.length ≤ 120 ∧ l.length ≤ 600 := Dk.ok_small hok
    refine goh trivial ?_
    refine W_le (σ' := sgFl l ((Dk.mk a b l).done 0) 0) [some 0, some 1, some 2, some 3] (by
      simp only [go_sem, Dk.done_zero, inj_r, ↓reduceIte, reduceCtorEq, Nat.reduceAdd, Nat.reduceLT, Nat.reduceLeDiff, Nat.reduceEqDiff, Int.reduceEq]
      all_goals (repeat' refine And.intro ?_ ?_) <;> try exact shut7
      ) ?_
    refine W_loop (fun n σ => ∃ i : Nat, i ≤ l.length ∧ n = l.length - i ∧ σ = sgFl l ((Dk.mk a b l).done i) i) l.length ⟨0, by omega, by omega, rfl⟩ ?_
    rintro n σ ⟨i, hi, rfl, rfl⟩
    obtain ⟨hl1, hl2⟩ := (Dk.mk a b l).done_len i
    simp only at hl1 hl2
    unfold sgFl
    refine goh trivial ?_
    refine W_cnd ?_ ?_ <;> (try simp only [cnd_r]) <;> intro hlt
    · have hi' : i < l.length := by omega
      obtain ⟨ws, w1, w2, w3⟩ := Dk.ok_late hok i hi'
      have hd := (Dk.mk a b l).done_succ i hi'
      obtain ⟨-, -, hab, -⟩ := (Dk.ok_iff _).1 hok
      simp only at ws w1 w2 w3 hd hab
      generalize hx : (Dk.mk a b l).done i = x at *
      generalize hw : l.getD i ET.late.dflt = w at *
      obtain ⟨s, k, t⟩ := w
      simp only at ws w1 w2 w3
      rcases ws with rfl | rfl
      all_goals
        refine goh hw ?_
        refine ⟨l.length - (i + 1), [some 0, some 1, some 2, some 3], sgFl l ((Dk.mk a b l).done (i + 1)) (i + 1), by omega, ?_, i + 1, by omega, rfl, rfl⟩
        rw [hd]
        simp only [go_sem, putW, List.length_set, inj_r, ↓reduceIte, reduceCtorEq, Nat.reduceAdd, Nat.reduceLT, Nat.reduceLeDiff, Nat.reduceEqDiff, Int.reduceEq]
        all_goals (repeat' refine And.intro ?_ ?_) <;> try exact shut7
    · have : i = l.length := by omega
      subst this
      have e4 : (Dk.mk a b l).flushed = ⟨((Dk.mk a b l).done l.length).1, ((Dk.mk a b l).done l.length).2, []⟩ := rfl
      refine goh trivial ?_
      exact finh [some 0, some 1, some 2, some 3] e4
  · simp [no] at hp
end Go.Proofs.YtjedcphhajlnoaaGreatDoor
/- Functions: blocks. -/
namespace Go.Proofs.YtjedcphhajlnoaaGreatDoor
open Go.RowKit

def ptr0 : Ptr := ⟨0, 0, 0⟩
def blkTo (a : Int) (t : ByteArray) (b : Int) : Ptr := if realB ⟨a, (sumOf t : Nat), b⟩ then ⟨a, (sumOf t : Nat), b⟩ else ptr0
@[go_sem] def Ptr.tv (p : Ptr) : TV := .agg [.val (.int .i64 p.at_), .val (.int .i64 p.sum), .val (.int .i64 p.birth)]
@[go_sem] def ctBlkTo : Ct := ⟨false, [], fun args os => match args, os with
  | [.one (.val (.int .i64 a)), .one (.val (.string t)), .one (.val (.int .i64 b))], [] => ifp (t.size ≤ 1000000000) (blkTo a t b).tv
  | _, _ => no⟩
def blkSide (d : Dk) (p : Ptr) (s : Int) : Bool := d.ok && realB p && d.has p s
@[go_sem] def ctBlkSide : Ct := ⟨false, [[some .str, some .str, some .late]], fun args os => match args, os with
  | [.agg [.isl .str a, .isl .str b, .isl .late l], .agg [.val (.int .i64 pa), .val (.int .i64 ps), .val (.int .i64 pb)], .one (.val (.int .i64 s))], [] => ifp (Dk.mk a b l).small (vb (blkSide ⟨a, b, l⟩ ⟨pa, ps, pb⟩ s))
  | _, _ => no⟩
/-- A block, and what it is found to be. -/
def blkRead (d : Dk) (p : Ptr) : ByteArray × Int :=
  if p.at_ = 0 ∧ p.sum = 0 ∧ p.birth = 0 then (⟨#[]⟩, 1) else if d.ok && realB p then (if d.has p 0 then (d.text 0 p.at_, 0) else if d.has p 1 then (d.text 1 p.at_, 0) else (⟨#[]⟩, 2)) else (⟨#[]⟩, 2)
@[go_sem] def ctBlkRead : Ct := ⟨false, [[some .str, some .str, some .late]], fun args os => match args, os with
  | [.agg [.isl .str a, .isl .str b, .isl .late l], .agg [.val (.int .i64 pa), .val (.int .i64 ps), .val (.int .i64 pb)]], [] => ifp (Dk.mk a b l).small (.tup [vs (blkRead ⟨a, b, l⟩ ⟨pa, ps, pb⟩).1, vi (blkRead ⟨a, b, l⟩ ⟨pa, ps, pb⟩).2])
  | _, _ => no⟩
@[go_sem] def sgBr (a b : List ByteArray) (l : List Late) (pa ps pb : Int) (s : Nat) : Sg := ⟨[(2, .one (.ptr 0 0)), (3, .one (.ptr 1 0)), (16, vi s)], [some (.cells [.isl .str a, .isl .str b, .isl .late l]), some (.cells [.val (.int .i64 pa), .val (.int .i64 ps), .val (.int .i64 pb)])], []⟩
theorem same_ptr0 (pa ps pb : Int) : same (Ptr.mk pa ps pb) (Ptr.mk 0 0 0) = decide (pa = 0 ∧ ps = 0 ∧ pb = 0) := by
  rw [Bool.eq_iff_iff, same_true, decide_eq_true_eq, Ptr.mk.injEq]
theorem s_blkRead_e : EnterOk Tryz.prog 29 := ⟨_, Tryz.func29, rfl, by decide⟩
@[go_sem] def s_blkRead_lv : List (List Nat) := [[2, 3], [2, 3, 9], [4, 5], [2, 3, 15], [2, 3, 16], [2, 3, 16, 17], [2, 3, 6, 16], [2, 3, 6, 16, 22], [4, 5], [2, 3, 16], [4, 5]]
@[go_sem] noncomputable def s_blkRead_K : Known := ((((Known.nil).cons 80 ctDiskOk s_diskOk s_diskOk_e).cons 91 ctReal s_isReal s_isReal_e).cons 82 ctHas s_has s_has_e).cons 94 ctTextOf s_textOf s_textOf_e
set_option maxHeartbeats 8000000 in
theorem s_blkRead : Sound Tryz.prog 29 ctBlkRead := by
  have ke := s_blkRead_K.env []
  have kl : Lives s_blkRead_lv := trivial
  refine sound_intro (E := ⟨ti, s_blkRead_K.Γ, []⟩) ke Tryz.func29 Tryz.ntmps29 rfl (rs := [.tmp 4, .tmp 5]) rfl ?_
  intro args os hp
  unfold ctBlkRead at hp ⊢
  dsimp only at hp ⊢
  split at hp
  · rename_i a b l pa ps pb
    refine ⟨by simp, fun φ0 w0 => ?_⟩
    obtain ⟨h1, h2, h3⟩ : a.length ≤ 4000000 ∧ b.length ≤ 4000000 ∧ l.length ≤ 4000000 := hp
    have e : blkRead ⟨a, b, l⟩ ⟨pa, ps, pb⟩ = if pa = 0 ∧ ps = 0 ∧ pb = 0 then (⟨#[]⟩, 1) else if (Dk.mk a b l).ok && realB ⟨pa, ps, pb⟩ then (if (Dk.mk a b l).has ⟨pa, ps, pb⟩ 0 then ((Dk.mk a b l).text 0 pa, 0) else if (Dk.mk a b l).has ⟨pa, ps, pb⟩ 1 then ((Dk.mk a b l).text 1 pa, 0) else (⟨#[]⟩, 2)) else (⟨#[]⟩, 2) := rfl
    refine goh trivial ?_
    refine W_cond _ (by exact rfl) (by exact trivial) ?_ ?_ <;> intro hc <;> rw [same_ptr0] at hc
    · have hc : pa = 0 ∧ ps = 0 ∧ pb = 0 := by simpa only [decide_eq_true_eq] using hc
      rw [if_pos hc] at e
      refine goh trivial ?_
      exact finh [] e
    · have hc : ¬ (pa = 0 ∧ ps = 0 ∧ pb = 0) := by simpa only [decide_eq_false_iff_not] using hc
      rw [if_neg hc] at e
      refine goh trivial ?_
      refine W_cond _ (by exact rfl) (by exact trivial) ?_ ?_ <;> intro hc2
      · obtain ⟨hok, hre⟩ : (Dk.mk a b l).ok = true ∧ realB ⟨pa, ps, pb⟩ = true := by
          simp only [Bool.if_false_right, Bool.and_eq_true, decide_eq_true_eq] at hc2; exact hc2
        rw [hok, hre] at e
        simp only [Bool.and_self, if_true] at e
        obtain ⟨-, -, hab, -⟩ := (Dk.ok_iff _).1 hok
        simp only at hab
        refine goh trivial ?_
        refine W_le (σ' := sgBr a b l pa ps pb 0) [some 0, some 1] (by
          simp only [go_sem, inj_r, ↓reduceIte, reduceCtorEq, Nat.reduceAdd, Nat.reduceLT, Nat.reduceLeDiff, Nat.reduceEqDiff, Int.reduceEq]
          all_goals (repeat' refine And.intro ?_ ?_) <;> try exact shut7
          ) ?_
        refine W_loop (fun n σ => ∃ s : Nat, s ≤ 2 ∧ n = 2 - s ∧ (0 < s → (Dk.mk a b l).has ⟨pa, ps, pb⟩ 0 = false) ∧ (1 < s → (Dk.mk a b l).has ⟨pa, ps, pb⟩ 1 = false) ∧ σ = sgBr a b l pa ps pb s) 2 ⟨0, by omega, by omega, fun h => absurd h (by omega), fun h => absurd h (by omega), rfl⟩ ?_
        rintro n σ ⟨s, hs, rfl, hh0, hh1, rfl⟩
        unfold sgBr
        refine goh trivial ?_
        refine W_cnd ?_ ?_ <;> (try simp only [cnd_r]) <;> intro hls
        · have hs2 : s = 0 ∨ s = 1 := by omega
          rcases hs2 with hs2 | hs2
          all_goals
            refine goh hs2 ?_
            refine W_cond _ (by exact rfl) (by exact trivial) ?_ ?_ <;> intro hc3
            · have hsec := hc3
              unfold Dk.has at hsec
              simp only [Bool.and_eq_true] at hsec
              have hse := hsec.1
              refine goh hs2 ?_
              refine ⟨by (simp only [go_sem, e, hc3, ↓reduceIte, reduceCtorEq, Nat.reduceAdd, Nat.reduceLT, Nat.reduceLeDiff, Nat.reduceEqDiff]) <;> trivial, [], ?_⟩
              all_goals try simp only [go_sem, e, hc3, inj_r, ↓reduceIte, reduceCtorEq, Nat.reduceAdd, Nat.reduceLT, Nat.reduceLeDiff, Nat.reduceEqDiff, Int.reduceEq]
              all_goals (repeat' refine And.intro ?_ ?_) <;> try exact shut7
              all_goals try simp only [hh0 (by omega), hc3, if_true, if_false, Bool.false_eq_true]
            · refine goh hs2 ?_
              refine ⟨2 - (s + 1), [some 0, some 1], sgBr a b l pa ps pb (s + 1), by omega, ?_, s + 1, by omega, rfl, fun h => ?_, fun h => ?_, rfl⟩
              · exact leh hs2
              · first | exact hc3 | exact hh0 (by omega)
              · first | (exfalso; omega) | exact hc3
        · have : s = 2 := by omega
          subst this
          rw [hh0 (by omega), hh1 (by omega)] at e
          simp only [if_false, Bool.false_eq_true] at e
          refine goh trivial ?_
          exact finh [] e
      · have hre : ((Dk.mk a b l).ok && realB ⟨pa, ps, pb⟩) = false := by
          simp only [Bool.if_false_right, Bool.decide_eq_true] at hc2; exact hc2
        rw [hre] at e
        simp only [if_false, Bool.false_eq_true] at e
        refine goh trivial ?_
        exact finh [] e
  · simp [no, ifp] at hp
/-- (*Disk).writeBoth: both sides, or none. -/
def Dk.may2 (d : Dk) (k : Int) (t : ByteArray) : Bool := decide (d.l.length ≤ 598) && d.may 0 k t
@[go_sem] def ctWriteBoth : Ct := ⟨true, [], fun args os => match args, os with
  | [.one (.ptr 0 0), .one (.val (.int .i64 k)), .one (.val (.string t))], [.cells [.osl .str 1 0 na, .osl .str 2 0 nb, .osl .late 3 0 nl], .arr .str a, .arr .str b, .arr .late l] =>
    if (Dk.mk a b l).may2 k t then ⟨(Dk.mk a b l).small ∧ na = a.length ∧ nb = b.length ∧ nl = l.length, vb true, [(0, some (.cells [.osl .str 1 0 na, .osl .str 2 0 nb, .osl .late 4 0 (nl + 2)])), (3, none)], [.arr .late (l ++ [⟨0, k, t⟩] ++ [⟨1, k, t⟩])]⟩
    else ⟨(Dk.mk a b l).small ∧ na = a.length ∧ nb = b.length ∧ nl = l.length, vb false, [], []⟩
  | _, _ => no⟩
end Go.Proofs.YtjedcphhajlnoaaGreatDoor
/- Functions: blocks, written to both sides. -/
namespace Go.Proofs.YtjedcphhajlnoaaGreatDoor
open Go.RowKit

def Dk.add2 (d : Dk) (k : Int) (t : ByteArray) : Dk := ⟨d.a, d.b, d.l ++ [⟨0, k, t⟩] ++ [⟨1, k, t⟩]⟩
def blkWrite (d : Dk) (k : Int) (t : ByteArray) : Dk := if d.ok then if d.may2 k t then d.add2 k t else d else .nil
def blkWrites (d : Dk) (k : Int) (t : ByteArray) : Bool := d.ok && d.may2 k t
@[go_sem] def ctBlkWrite : Ct := ⟨false, [[some .str, some .str, some .late]], fun args os => match args, os with
  | [.agg [.isl .str a, .isl .str b, .isl .late l], .one (.val (.int .i64 k)), .one (.val (.string t))], [] => ⟨(Dk.mk a b l).small, .tup [(blkWrite ⟨a, b, l⟩ k t).v 0, vb (blkWrites ⟨a, b, l⟩ k t)], [], (blkWrite ⟨a, b, l⟩ k t).objs⟩
  | _, _ => no⟩
theorem write_small (d : Dk) (s k : Int) (t : ByteArray) : (dkWrite d s k t).a.length ≤ d.a.length ∧ (dkWrite d s k t).b.length ≤ d.b.length ∧ (dkWrite d s k t).l.length ≤ d.l.length + 1 := by
  unfold dkWrite
  split
  · split
    · refine ⟨Nat.le_refl _, Nat.le_refl _, ?_⟩
      show (d.l ++ [_]).length ≤ _
      simp
    · exact ⟨Nat.le_refl _, Nat.le_refl _, by omega⟩
  · exact ⟨Nat.zero_le _, Nat.zero_le _, Nat.zero_le _⟩
theorem may2_one {d : Dk} (k : Int) (t : ByteArray) (h : d.may 0 k t = true) (hl : d.l.length ≤ 598) : (d.add 0 k t).may 1 k t = true := by
  rw [may_iff] at h ⊢
  have : (d.add 0 k t).l.length = d.l.length + 1 := by show (d.l ++ [_]).length = _; simp
  have h2 : (d.add 0 k t).a.length = d.a.length := rfl
  omega
theorem blkWrite_two {d : Dk} (h : d.ok = true) (k : Int) (t : ByteArray) (hl : d.l.length ≤ 598) :
    (dkWrites d 0 k t = true → dkWrite (dkWrite d 0 k t) 1 k t = blkWrite d k t ∧ dkWrites (dkWrite d 0 k t) 1 k t = true ∧ blkWrites d k t = true) ∧
    (dkWrites d 0 k t = false → dkWrite d 0 k t = blkWrite d k t ∧ blkWrites d k t = false) := by
  have e1 : dkWrites d 0 k t = d.may 0 k t := by unfold dkWrites; rw [h]; rfl
  have e2 : d.may2 k t = d.may 0 k t := by unfold Dk.may2; rw [decide_eq_true hl, Bool.true_and]
  have e3 : blkWrites d k t = d.may 0 k t := by unfold blkWrites; rw [h, e2]; rfl
  rw [e1, e3]
  constructor
  · intro hm
    have hx : dkWrite d 0 k t = d.add 0 k t := by unfold dkWrite; rw [if_pos h, if_pos hm]
    have hxo := Dk.add_ok h hm
    have hm1 := may2_one k t hm hl
    rw [hx]
    refine ⟨?_, by unfold dkWrites; rw [hxo, hm1]; rfl, hm⟩
    unfold dkWrite blkWrite
    rw [if_pos hxo, if_pos hm1, if_pos h, if_pos (e2.trans hm)]
    rfl
  · intro hm
    refine ⟨?_, hm⟩
    unfold dkWrite blkWrite
    rw [if_pos h, if_pos h, if_neg (by rw [hm]; simp), if_neg (by rw [e2, hm]; simp)]
theorem s_specBlkWrite_e : EnterOk Tryz.prog 173 := ⟨_, Tryz.func173, rfl, by decide⟩
@[go_sem] def s_specBlkWrite_lv : List (List Nat) := [[1, 2, 3, 6], [1, 2, 3, 6, 12], [6, 7], [1, 2, 3, 6, 17], [6, 7], [1, 2, 6, 8, 9], [1, 2, 6, 8, 28], [6, 7], [6, 7]]
@[go_sem] noncomputable def s_specBlkWrite_K : Known := (((Known.nil).cons 28 ctDiskOk s_specDiskOk s_specDiskOk_e).cons 85 ctOwn s_copy s_copy_e).cons 86 ctDiskWrite s_specWrite s_specWrite_e
set_option maxHeartbeats 8000000 in
theorem s_specBlkWrite : Sound Tryz.prog 173 ctBlkWrite := by
  have ke := s_specBlkWrite_K.env []
  have kl : Lives s_specBlkWrite_lv := trivial
  refine sound_intro (E := ⟨ti, s_specBlkWrite_K.Γ, []⟩) ke Tryz.func173 Tryz.ntmps173 rfl (rs := [.cell 6 39, .tmp 7]) rfl ?_
  intro args os hp
  unfold ctBlkWrite at hp ⊢
  dsimp only at hp ⊢
  split at hp
  · rename_i a b l k t
    refine ⟨by simp, fun φ0 w0 => ?_⟩
    obtain ⟨h1, h2, h3⟩ : a.length ≤ 4000000 ∧ b.length ≤ 4000000 ∧ l.length ≤ 4000000 := hp
    refine goh trivial ?_
    refine W_cnd ?_ ?_ <;> (try simp only [cnd_r]) <;> intro hok
    · have e1 : blkWrite ⟨a, b, l⟩ k t = .nil := by unfold blkWrite; rw [hok]; rfl
      have e2 : blkWrites ⟨a, b, l⟩ k t = false := by unfold blkWrites; rw [hok]; rfl
      refine goh trivial ?_
      refine ⟨by (simp only [go_sem, e1, e2, Dk.nil, ↓reduceIte, reduceCtorEq, Nat.reduceAdd, Nat.reduceLT, Nat.reduceLeDiff, Nat.reduceEqDiff]) <;> trivial, [none, none, none], ?_⟩
      all_goals try simp only [go_sem, e1, e2, Dk.nil, inj_r, ↓reduceIte, reduceCtorEq, Nat.reduceAdd, Nat.reduceLT, Nat.reduceLeDiff, Nat.reduceEqDiff, Int.reduceEq]
      all_goals (repeat' refine And.intro ?_ ?_) <;> try exact shut7
    · have e3 : a.length ≤ 120 ∧ b.length ≤ 120 ∧ l.length ≤ 600 := Dk.ok_small hok
      refine goh trivial ?_
      refine W_cnd ?_ ?_ <;> (try simp only [cnd_r]) <;> intro hl
      · have hm : (Dk.mk a b l).may2 k t = false := by
          unfold Dk.may2; rw [Bool.and_eq_false_iff]; left; simp; omega
        have e1 : blkWrite ⟨a, b, l⟩ k t = ⟨a, b, l⟩ := by unfold blkWrite; rw [if_pos hok, if_neg (by rw [hm]; simp)]
        have e2 : blkWrites ⟨a, b, l⟩ k t = false := by unfold blkWrites; rw [hm, Bool.and_false]
        refine goh trivial ?_
        exact finh [some 2, some 3, some 4] (And.intro e1 e2)
      · obtain ⟨q1, q2⟩ := blkWrite_two hok k t (show l.length ≤ 598 by omega)
        refine goh trivial ?_
        refine W_cnd ?_ ?_ <;> (try simp only [cnd_r]) <;> intro hw
        · obtain ⟨e1, e2⟩ := q2 hw
          refine goh trivial ?_
          exact finh [some 2, some 3, some 4] (And.intro e1 e2)
        · have hw : dkWrites ⟨a, b, l⟩ 0 k t = true := by simpa using hw
          obtain ⟨e1, e2, e4⟩ := q1 hw
          obtain ⟨x1, x2, x3⟩ : (dkWrite ⟨a, b, l⟩ 0 k t).a.length ≤ a.length ∧ (dkWrite ⟨a, b, l⟩ 0 k t).b.length ≤ b.length ∧ (dkWrite ⟨a, b, l⟩ 0 k t).l.length ≤ l.length + 1 := write_small ⟨a, b, l⟩ 0 k t
          refine goh trivial ?_
          exact finh [some 6, some 7, some 8] (And.intro e1 (And.intro e2 e4))
  · simp [no] at hp
end Go.Proofs.YtjedcphhajlnoaaGreatDoor
/- Functions: a block healed. -/
namespace Go.Proofs.YtjedcphhajlnoaaGreatDoor
open Go.RowKit

def badSide (d : Dk) (p : Ptr) : Int := if d.has p 0 then 1 else 0
def blkHeal (d : Dk) (p : Ptr) : Dk × Int :=
  if d.ok then
    if (blkRead d p).2 ≠ 0 ∨ d.has p 0 = d.has p 1 then (d, (blkRead d p).2)
    else if d.may (badSide d p) p.at_ (blkRead d p).1 then (d.add (badSide d p) p.at_ (blkRead d p).1, (blkRead d p).2) else (d, 2)
  else (.nil, 2)
@[go_sem] def ctBlkHeal : Ct := ⟨false, [[some .str, some .str, some .late]], fun args os => match args, os with
  | [.agg [.isl .str a, .isl .str b, .isl .late l], .agg [.val (.int .i64 pa), .val (.int .i64 ps), .val (.int .i64 pb)]], [] => ⟨(Dk.mk a b l).small, .tup [(blkHeal ⟨a, b, l⟩ ⟨pa, ps, pb⟩).1.v 0, vi (blkHeal ⟨a, b, l⟩ ⟨pa, ps, pb⟩).2], [], (blkHeal ⟨a, b, l⟩ ⟨pa, ps, pb⟩).1.objs⟩
  | _, _ => no⟩
theorem s_blkHeal_e : EnterOk Tryz.prog 21 := ⟨_, Tryz.func21, rfl, by decide⟩
@[go_sem] def s_blkHeal_lv : List (List Nat) := [[2, 3, 4], [2, 3, 4, 12], [4, 5], [2, 3, 4, 6], [2, 3, 4, 6, 7, 8], [2, 3, 4, 6, 7, 8, 32], [4, 5], [2, 3, 4, 6, 7, 8, 9], [3, 4, 6, 7, 8, 9, 37], [3, 4, 6, 7, 8, 9], [4, 6, 8, 43], [4, 5], [4, 5]]
@[go_sem] noncomputable def s_blkHeal_K : Known := (((((Known.nil).cons 80 ctDiskOk s_diskOk s_diskOk_e).cons 81 ctOwn s_own s_own_e).cons 29 ctBlkRead s_blkRead s_blkRead_e).cons 82 ctHas s_has s_has_e).cons 83 ctWrite s_write s_write_e
set_option maxHeartbeats 8000000 in
theorem s_blkHeal : Sound Tryz.prog 21 ctBlkHeal := by
  have ke := s_blkHeal_K.env []
  have kl : Lives s_blkHeal_lv := trivial
  refine sound_intro (E := ⟨ti, s_blkHeal_K.Γ, []⟩) ke Tryz.func21 Tryz.ntmps21 rfl (rs := [.cell 4 39, .tmp 5]) rfl ?_
  intro args os hp
  unfold ctBlkHeal at hp ⊢
  dsimp only at hp ⊢
  split at hp
  · rename_i a b l pa ps pb
    refine ⟨by simp, fun φ0 w0 => ?_⟩
    obtain ⟨h1, h2, h3⟩ : a.length ≤ 4000000 ∧ b.length ≤ 4000000 ∧ l.length ≤ 4000000 := hp
    refine goh trivial ?_
    refine W_cnd ?_ ?_ <;> (try simp only [cnd_r]) <;> intro hok
    · have e1 : blkHeal ⟨a, b, l⟩ ⟨pa, ps, pb⟩ = (.nil, 2) := by unfold blkHeal; rw [if_neg (by rw [hok]; simp)]
      refine goh trivial ?_
      refine ⟨by (simp only [go_sem, e1, Dk.nil, ↓reduceIte, reduceCtorEq, Nat.reduceAdd, Nat.reduceLT, Nat.reduceLeDiff, Nat.reduceEqDiff]) <;> trivial, [none, none, none], ?_⟩
      all_goals try simp only [go_sem, e1, Dk.nil, inj_r, ↓reduceIte, reduceCtorEq, Nat.reduceAdd, Nat.reduceLT, Nat.reduceLeDiff, Nat.reduceEqDiff, Int.reduceEq]
      all_goals (repeat' refine And.intro ?_ ?_) <;> try exact shut7
    · have e3 : a.length ≤ 120 ∧ b.length ≤ 120 ∧ l.length ≤ 600 := Dk.ok_small hok
      refine goh trivial ?_
      refine W_cnd ?_ ?_ <;> (try simp only [cnd_r]) <;> intro hc
      · have e1 : blkHeal ⟨a, b, l⟩ ⟨pa, ps, pb⟩ = (⟨a, b, l⟩, (blkRead ⟨a, b, l⟩ ⟨pa, ps, pb⟩).2) := by unfold blkHeal; rw [if_pos hok, if_pos hc]
        refine goh trivial ?_
        exact finh [some 3, some 4, some 5] e1
      · obtain ⟨c1, c2⟩ := hc
        have hcn : ¬ ((blkRead ⟨a, b, l⟩ ⟨pa, ps, pb⟩).2 ≠ 0 ∨ (Dk.mk a b l).has ⟨pa, ps, pb⟩ 0 = (Dk.mk a b l).has ⟨pa, ps, pb⟩ 1) := by
          rintro (h | h)
          · exact h c1
          · rw [h] at c2; simp at c2
        refine goh trivial ?_
        refine W_cond _ (by exact rfl) (by exact trivial) ?_ ?_ <;> intro hh
        · have hb : badSide ⟨a, b, l⟩ ⟨pa, ps, pb⟩ = 1 := by unfold badSide; rw [hh]; rfl
          by_cases hm : (Dk.mk a b l).may 1 pa (blkRead ⟨a, b, l⟩ ⟨pa, ps, pb⟩).1 = true
          · have e1 : blkHeal ⟨a, b, l⟩ ⟨pa, ps, pb⟩ = ((Dk.mk a b l).add 1 pa (blkRead ⟨a, b, l⟩ ⟨pa, ps, pb⟩).1, (blkRead ⟨a, b, l⟩ ⟨pa, ps, pb⟩).2) := by
              unfold blkHeal; rw [if_pos hok, if_neg hcn, hb, if_pos hm]
            refine goh hm ?_
            refine W_cnd ?_ ?_ <;> intro hlit <;> try (cases hlit; done)
            refine goh hm ?_
            refine ⟨by (simp only [go_sem, e1, Dk.add, ↓reduceIte, reduceCtorEq, Nat.reduceAdd, Nat.reduceLT, Nat.reduceLeDiff, Nat.reduceEqDiff]) <;> trivial, [some 8, some 9, some 10], ?_⟩
            all_goals try simp only [go_sem, e1, Dk.add, inj_r, ↓reduceIte, reduceCtorEq, Nat.reduceAdd, Nat.reduceLT, Nat.reduceLeDiff, Nat.reduceEqDiff, Int.reduceEq]
            all_goals (repeat' refine And.intro ?_ ?_) <;> try exact shut7
          · have e1 : blkHeal ⟨a, b, l⟩ ⟨pa, ps, pb⟩ = (⟨a, b, l⟩, 2) := by
              unfold blkHeal; rw [if_pos hok, if_neg hcn, hb, if_neg hm]
            refine goh hm ?_
            refine W_cnd ?_ ?_ <;> intro hlit <;> try (cases hlit; done)
            refine goh hm ?_
            exact finh [some 3, some 4, some 5] e1
        · have hb : badSide ⟨a, b, l⟩ ⟨pa, ps, pb⟩ = 0 := by unfold badSide; rw [hh]; rfl
          by_cases hm : (Dk.mk a b l).may 0 pa (blkRead ⟨a, b, l⟩ ⟨pa, ps, pb⟩).1 = true
          · have e1 : blkHeal ⟨a, b, l⟩ ⟨pa, ps, pb⟩ = ((Dk.mk a b l).add 0 pa (blkRead ⟨a, b, l⟩ ⟨pa, ps, pb⟩).1, (blkRead ⟨a, b, l⟩ ⟨pa, ps, pb⟩).2) := by
              unfold blkHeal; rw [if_pos hok, if_neg hcn, hb, if_pos hm]
            refine goh hm ?_
            refine W_cnd ?_ ?_ <;> intro hlit <;> try (cases hlit; done)
            refine goh hm ?_
            refine ⟨by (simp only [go_sem, e1, Dk.add, ↓reduceIte, reduceCtorEq, Nat.reduceAdd, Nat.reduceLT, Nat.reduceLeDiff, Nat.reduceEqDiff]) <;> trivial, [some 8, some 9, some 10], ?_⟩
            all_goals try simp only [go_sem, e1, Dk.add, inj_r, ↓reduceIte, reduceCtorEq, Nat.reduceAdd, Nat.reduceLT, Nat.reduceLeDiff, Nat.reduceEqDiff, Int.reduceEq]
            all_goals (repeat' refine And.intro ?_ ?_) <;> try exact shut7
          · have e1 : blkHeal ⟨a, b, l⟩ ⟨pa, ps, pb⟩ = (⟨a, b, l⟩, 2) := by
              unfold blkHeal; rw [if_pos hok, if_neg hcn, hb, if_neg hm]
            refine goh hm ?_
            refine W_cnd ?_ ?_ <;> intro hlit <;> try (cases hlit; done)
            refine goh hm ?_
            exact finh [some 3, some 4, some 5] e1
  · simp [no] at hp
end Go.Proofs.YtjedcphhajlnoaaGreatDoor
