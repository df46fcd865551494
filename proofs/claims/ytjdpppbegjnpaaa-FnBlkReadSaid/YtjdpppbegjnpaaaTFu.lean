/- Functions: a disk of blocks that is drawn. -/
import Derived.Test.YtjdpppbegjnpaaaTFs
import Derived.Test.YtjdpppbegjnpaaaTFl
set_option linter.unusedSimpArgs false
set_option linter.unusedVariables false
set_option linter.unusedSectionVars false
namespace Go.Proofs.Ytjdpppbegjnpaaa
open Go.RowKit

def l3s : List ByteArray := [⟨#[97]⟩, ⟨#[98, 98]⟩, ⟨#[120, 32, 121]⟩, ⟨#[97]⟩, ⟨#[]⟩]
/-- n blocks written, from place i on. -/
def l3W (bs : List UInt8) : Nat → Int → Dk → Int → Dk
  | 0, _, d, _ => d
  | n + 1, i, d, p => l3W bs n (i + 1) (blkWrite d i (ET.str.at l3s (pickV bs p 5).toNat)) (p + 1)
/-- n writes. -/
def l3V (bs : List UInt8) : Nat → Dk → Int → Dk × Int
  | 0, d, p => (d, p)
  | n + 1, d, p => l3V bs n (dstep1 bs d p) (textP bs (p + 2))
def l3a (bs : List UInt8) (p : Int) : Dk := l3W bs 5 1 (dkOpen 6) p
def l3b (bs : List UInt8) (p : Int) : Dk := if pickV bs (p + 5) 2 = 0 then dkFlush (l3a bs p) else l3a bs p
def l3c (bs : List UInt8) (p : Int) : Dk × Int := l3V bs (pickV bs (p + 6) 3).toNat (l3b bs p) (p + 7)
def blkDisk (bs : List UInt8) (p : Int) : Dk × Int := (if pickV bs (l3c bs p).2 16 = 0 then ⟨[], (l3c bs p).1.b, (l3c bs p).1.l⟩ else (l3c bs p).1, (l3c bs p).2 + 1)
theorem few_blk {d : Dk} {n : Nat} (h : d.few n) (k : Int) (t : ByteArray) : (blkWrite d k t).few (n + 2) := by
  obtain ⟨h1, h2, h3⟩ := h
  unfold blkWrite
  split
  · split
    · refine ⟨h1, h2, ?_⟩
      show (d.l ++ [_] ++ [_]).length ≤ n + 2
      simp only [List.length_append, List.length_cons, List.length_nil]; omega
    · exact ⟨h1, h2, by omega⟩
  · exact ⟨Nat.zero_le _, Nat.zero_le _, Nat.zero_le _⟩
theorem few_mono {d : Dk} {n m : Nat} (h : d.few n) (hm : n ≤ m) : d.few m := ⟨h.1, h.2.1, Nat.le_trans h.2.2 hm⟩
theorem l3W_few (bs : List UInt8) : ∀ (n : Nat) (i : Int) (d : Dk) (p : Int) (m : Nat), d.few m → (l3W bs n i d p).few (m + 2 * n)
  | 0, _, _, _, _, h => h
  | n + 1, i, d, p, m, h => few_mono (l3W_few bs n (i + 1) _ (p + 1) (m + 2) (few_blk h _ _)) (by omega)
theorem l3V_all (bs : List UInt8) (hb : bs.length ≤ 2000) : ∀ (n : Nat) (d : Dk) (p : Int) (m : Nat), 0 ≤ p → p + 10 * n ≤ 800000 → d.few m → (l3V bs n d p).1.few (m + n) ∧ p ≤ (l3V bs n d p).2 ∧ (l3V bs n d p).2 ≤ p + 10 * n
  | 0, d, p, m, h0, h1, h2 => ⟨h2, Int.le_refl _, by show p ≤ _; omega⟩
  | n + 1, d, p, m, h0, h1, h2 => by
    have ht := textP_in bs (p + 2) ⟨by omega, by omega, hb⟩
    obtain ⟨k1, k2, k3⟩ := l3V_all bs hb n (dstep1 bs d p) (textP bs (p + 2)) (m + 1) (by omega) (by omega) (Dk.few_write h2 _ _ _)
    refine ⟨few_mono k1 (by omega), ?_, ?_⟩
    · show p ≤ (l3V bs n _ _).2; omega
    · show (l3V bs n _ _).2 ≤ _; omega
theorem l3s_size (i : Nat) : (ET.str.at l3s i).size ≤ 3 := at_size (by decide) i
theorem blkDisk_all (bs : List UInt8) (p : Int) (h : rdOk2 bs p) : ((l3b bs p).few 10 ∧ (l3c bs p).1.few 12 ∧ p + 7 ≤ (l3c bs p).2 ∧ (l3c bs p).2 ≤ p + 27) := by
  obtain ⟨h1, h2, h3⟩ := h
  have ha : (l3a bs p).few 10 := few_mono (l3W_few bs 5 1 _ p 0 (dkOpen_few 6 (by omega))) (by omega)
  have hb : (l3b bs p).few 10 := by
    unfold l3b; split
    · exact Dk.few_flush ha
    · exact ha
  have hp := pickV_in bs (p + 6) 3 (by omega) (by omega) (by omega)
  obtain ⟨k1, k2, k3⟩ := l3V_all bs h3 (pickV bs (p + 6) 3).toNat (l3b bs p) (p + 7) 10 (by omega) (by omega) hb
  refine ⟨hb, few_mono k1 (by omega), by unfold l3c; omega, by unfold l3c; omega⟩
@[go_sem] def ctBlkDisk : Ct := ⟨true, [], fun args os => match args, os with
  | [.one (.ptr 0 0)], [.cells [.isl .byte bs, .val (.int .i64 p)]] => ⟨rdOk2 bs p, (blkDisk bs p).1.v 1, [(0, some (rdO bs (blkDisk bs p).2))], (blkDisk bs p).1.objs⟩
  | _, _ => no⟩
@[go_sem] def sgB3 (bs : List UInt8) (p : Int) (i : Nat) (d : Dk) : Sg := ⟨[(0, .one (.ptr 0 0)), (2, .one (.ptr 1 0)), (3, .one (.ptr 2 0)), (5, vi i)], (sgDraw bs p i d).tab, [0]⟩
structure Box (X : Prop) : Prop where
  out : X
theorem merge {A X : Prop} (h : Box X → A) (x : X) : A := h ⟨x⟩
theorem s_blkDisk_e : EnterOk Try.prog 50 := ⟨_, Try.func50, rfl, by decide⟩
@[go_sem] def s_blkDisk_lv : List (List Nat) := [[0, 2], [0, 2, 3], [0, 2, 3, 4], [0, 2, 3, 4, 8], [0, 2, 3, 4], [0, 2, 3, 4], [0, 2, 3, 22], [0, 2, 3], [0, 2, 3, 5], [0, 2, 3, 5, 28], [0, 2, 3, 5], [0, 2, 3, 5], [2, 3, 44], [2, 3], [2]]
@[go_sem] noncomputable def s_blkDisk_K : Known := (((((((Known.nil).cons 58 ctSpecOpen s_specOpen s_specOpen_e).cons 61 ctOf s_of s_of_e).cons 25 ctBlkWrite s_specBlkWrite s_specBlkWrite_e).cons 35 ctPick s_pick s_pick_e).cons 32 ctDiskFlush s_specFlush s_specFlush_e).cons 47 ctText s_text s_text_e).cons 21 ctDiskWrite s_specWrite s_specWrite_e
set_option maxHeartbeats 8000000 in
theorem s_blkDisk : Sound Try.prog 50 ctBlkDisk := by
  refine sound_intro (E := ⟨ti, s_blkDisk_K.Γ, []⟩) (s_blkDisk_K.env []) Try.func50 Try.ntmps50 rfl (rs := [.cell 2 27]) rfl ?_
  intro args os hp
  unfold ctBlkDisk at hp ⊢
  dsimp only at hp ⊢
  split at hp
  · rename_i bs p
    refine ⟨by simp, fun φ0 w0 => ?_⟩
    have hr : rdOk2 bs p := hp
    obtain ⟨h1, h2, h3⟩ := hr
    obtain ⟨⟨b1, b2, b3⟩, ⟨c1, c2, c3⟩, c4, c5⟩ := blkDisk_all bs p ⟨h1, h2, h3⟩
    repeat' first
      | refine W_seq ?_
      | (refine W_reg (s_blkDisk_K.env []) s_blkDisk_lv fun K' hK' => ?_
         simp only [go_sem, ↓reduceIte, ↓reduceDIte, reduceCtorEq, Nat.reduceAdd, Nat.reduceMul, Nat.reduceSub, Nat.reduceLT, Nat.reduceLeDiff, Nat.reduceEqDiff, Nat.reduceBEq, Int.reduceToNat, Int.reduceLE, Int.reduceLT, Int.reduceEq, Int.reduceNe, Int.reduceNeg]
         (repeat' apply And.intro) <;> try first | ((with_reducible refine hK' _ ?_ ?_ ?_); rotate_left; (simp only [go_sem, pr, keepSl, ↓reduceIte, Nat.reduceEqDiff]; try rfl); clear hK' K') | (clear hK' K'; first | omega | (with_reducible refine drawOk_k ?_; kernel_rfl) | assumption | refine Eq.refl _ | exact fun h => ⟨h, fun k => ⟨h, k⟩⟩ | (intro _; (repeat' apply And.intro) <;> first | omega | assumption) | skip))
      | with_reducible first | refine W_skip ?_ | refine W_exit ?_ | refine W_ret ?_ | refine W_block ?_ | refine thenG_n ?_ | refine thenG_x ?_ | refine thenG_r ?_ | refine blockG_n ?_ | refine blockG_r ?_ | refine blockG_x ?_ | refine blockG_o (by decide) ?_
    refine W_le (σ' := sgDraw bs p 1 (dkOpen 6)) [some 0, some 1, some 5, some 2, some 3, some 4] (by
      simp only [go_sem, ↓reduceIte, reduceCtorEq, Nat.reduceAdd, Nat.reduceLT, Nat.reduceLeDiff, Nat.reduceEqDiff, Int.reduceEq, TC.val.injEq, Value.bool.injEq, Value.int.injEq, Value.string.injEq, TV.one.injEq]
      all_goals (repeat' apply And.intro) <;> try first | rfl | trivial | omega | (rw [wrap_id] <;> omega)
      ) ?_
    refine W_loop (fun n σ => ∃ (i : Nat) (q : Int) (e : Dk), n = 6 - i ∧ 1 ≤ i ∧ i ≤ 6 ∧ e.few (2 * (i - 1)) ∧ q + 1 = p + i ∧ l3W bs (6 - i) i e q = l3a bs p ∧ σ = sgDraw bs q i e) 5
      ⟨1, p, _, by omega, by omega, by omega, dkOpen_few 6 (by omega), by omega, rfl, rfl⟩ ?_
    rintro n σ ⟨i, q, e, rfl, hi1, hi, he, hq, hw, rfl⟩
    obtain ⟨f1, f2, f3⟩ := he
    unfold sgDraw
    repeat' first
      | refine W_seq ?_
      | (refine W_reg (s_blkDisk_K.env []) s_blkDisk_lv fun K' hK' => ?_
         simp only [go_sem, ↓reduceIte, ↓reduceDIte, reduceCtorEq, Nat.reduceAdd, Nat.reduceMul, Nat.reduceSub, Nat.reduceLT, Nat.reduceLeDiff, Nat.reduceEqDiff, Nat.reduceBEq, Int.reduceToNat, Int.reduceLE, Int.reduceLT, Int.reduceEq, Int.reduceNe, Int.reduceNeg]
         (repeat' apply And.intro) <;> try first | ((with_reducible refine hK' _ ?_ ?_ ?_); rotate_left; (simp only [go_sem, pr, keepSl, ↓reduceIte, Nat.reduceEqDiff]; try rfl); clear hK' K') | (clear hK' K'; first | omega | (with_reducible refine drawOk_k ?_; kernel_rfl) | assumption | refine Eq.refl _ | exact fun h => ⟨h, fun k => ⟨h, k⟩⟩ | (intro _; (repeat' apply And.intro) <;> first | omega | assumption) | skip))
      | with_reducible first | refine W_skip ?_ | refine W_exit ?_ | refine W_ret ?_ | refine W_block ?_ | refine thenG_n ?_ | refine thenG_x ?_ | refine thenG_r ?_ | refine blockG_n ?_ | refine blockG_r ?_ | refine blockG_x ?_ | refine blockG_o (by decide) ?_
    refine W_cond _ (by exact rfl) (by exact trivial) ?_ ?_ <;> (try simp only [Bool.if_true_left, Bool.if_false_right, Bool.if_true_right, Bool.if_false_left, Bool.decide_eq_true, Bool.or_assoc, Bool.and_assoc, Bool.and_true, Bool.or_false, Bool.true_and, Bool.false_or, decide_eq_true_eq, decide_eq_false_iff_not, not_and, not_or, Classical.not_not, Bool.and_eq_true, Bool.or_eq_true, Bool.not_eq_true', Bool.not_eq_false', Bool.or_eq_false_iff, Bool.and_eq_false_iff, bne_iff_ne, ne_eq, beq_iff_eq, bne_eq_false_iff_eq, same_true, same_false, Int.ofNat_inj]) <;> intro hlt
    · obtain ⟨j, hj⟩ : ∃ j, 6 - i = j + 1 := ⟨5 - i, by omega⟩
      have h5 := pickV_in bs q 5 (by omega) (by omega) (by omega)
      rw [hj] at hw
      have hw : l3W bs j (i + 1) (blkWrite e i (ET.str.at l3s (pickV bs q 5).toNat)) (q + 1) = l3a bs p := hw
      have hts : ET.str.at l3s (pickV bs q 5).toNat = ([⟨#[97]⟩, ⟨#[98, 98]⟩, ⟨#[120, 32, 121]⟩, ⟨#[97]⟩, ⟨#[]⟩] : List ByteArray).getD (pickV bs q 5).toNat ET.str.dflt := rfl
      repeat' first
        | refine W_seq ?_
        | (refine W_reg (s_blkDisk_K.env []) s_blkDisk_lv fun K' hK' => ?_
           simp only [go_sem, Dk.small, ↓reduceIte, ↓reduceDIte, reduceCtorEq, Nat.reduceAdd, Nat.reduceMul, Nat.reduceSub, Nat.reduceLT, Nat.reduceLeDiff, Nat.reduceEqDiff, Nat.reduceBEq, Int.reduceToNat, Int.reduceLE, Int.reduceLT, Int.reduceEq, Int.reduceNe, Int.reduceNeg]
           (repeat' apply And.intro) <;> try first | ((with_reducible refine hK' _ ?_ ?_ ?_); rotate_left; (simp only [go_sem, Dk.small, pr, keepSl, ↓reduceIte, Nat.reduceEqDiff]; try rfl); clear hK' K') | (clear hK' K'; first | omega | (with_reducible refine drawOk_k ?_; kernel_rfl) | assumption | refine Eq.refl _ | exact fun h => ⟨h, fun k => ⟨h, k⟩⟩ | (intro _; (repeat' apply And.intro) <;> first | omega | assumption) | skip))
        | with_reducible first | refine W_skip ?_ | refine W_exit ?_ | refine W_ret ?_ | refine W_block ?_ | refine thenG_n ?_ | refine thenG_x ?_ | refine thenG_r ?_ | refine blockG_n ?_ | refine blockG_r ?_ | refine blockG_x ?_ | refine blockG_o (by decide) ?_
      refine ⟨6 - (i + 1), [some 0, some 1, some 2, some 7, some 8, some 9], sgDraw bs (q + 1) (i + 1) (blkWrite e i (ET.str.at l3s (pickV bs q 5).toNat)), by omega, ?_, i + 1, q + 1, _, rfl, by omega, by omega, few_mono (few_blk ⟨f1, f2, f3⟩ _ _) (by omega), by omega, by rw [show 6 - (i + 1) = j by omega]; exact hw, rfl⟩
      rw [hts]
      simp only [go_sem, ↓reduceIte, reduceCtorEq, Nat.reduceAdd, Nat.reduceLT, Nat.reduceLeDiff, Nat.reduceEqDiff, Int.reduceEq, TC.val.injEq, Value.bool.injEq, Value.int.injEq, Value.string.injEq, TV.one.injEq]
      all_goals (repeat' apply And.intro) <;> try first | rfl | trivial | omega | (rw [wrap_id] <;> omega)
    · obtain rfl : i = 6 := by omega
      have hwe : e = l3a bs p := hw
      obtain rfl : q = p + 5 := by omega
      have g0 : p + 5 + 1 = p + 6 := by omega
      have g1 : p + 6 + 1 = p + 7 := by omega
      have h8 := pickV_in bs (p + 6) 3 (by omega) (by omega) (by omega)
      repeat' first
        | refine W_seq ?_
        | (refine W_reg (s_blkDisk_K.env []) s_blkDisk_lv fun K' hK' => ?_
           simp only [go_sem, Dk.small, ↓reduceIte, ↓reduceDIte, reduceCtorEq, Nat.reduceAdd, Nat.reduceMul, Nat.reduceSub, Nat.reduceLT, Nat.reduceLeDiff, Nat.reduceEqDiff, Nat.reduceBEq, Int.reduceToNat, Int.reduceLE, Int.reduceLT, Int.reduceEq, Int.reduceNe, Int.reduceNeg]
           (repeat' apply And.intro) <;> try first | ((with_reducible refine hK' _ ?_ ?_ ?_); rotate_left; (simp only [go_sem, Dk.small, pr, keepSl, ↓reduceIte, Nat.reduceEqDiff]; try rfl); clear hK' K') | (clear hK' K'; first | omega | (with_reducible refine drawOk_k ?_; kernel_rfl) | assumption | refine Eq.refl _ | exact fun h => ⟨h, fun k => ⟨h, k⟩⟩ | (intro _; (repeat' apply And.intro) <;> first | omega | assumption) | skip))
        | with_reducible first | refine W_skip ?_ | refine W_exit ?_ | refine W_ret ?_ | refine W_block ?_ | refine thenG_n ?_ | refine thenG_x ?_ | refine thenG_r ?_ | refine blockG_n ?_ | refine blockG_r ?_ | refine blockG_x ?_ | refine blockG_o (by decide) ?_
      refine @merge _ ?X (fun key => ?_) ?_
      rotate_left
      · refine W_cond _ (by exact rfl) (by exact trivial) ?_ ?_ <;> intro hc
        · have c0 : pickV bs (p + 5) 2 = 0 := by simpa using hc
          have e2 : l3b bs p = dkFlush e := by unfold l3b; rw [if_pos c0, hwe]
          repeat' first
            | refine W_seq ?_
            | (refine W_reg (s_blkDisk_K.env []) s_blkDisk_lv fun K' hK' => ?_
               simp only [go_sem, Dk.small, g0, g1, ↓reduceIte, ↓reduceDIte, reduceCtorEq, Nat.reduceAdd, Nat.reduceMul, Nat.reduceSub, Nat.reduceLT, Nat.reduceLeDiff, Nat.reduceEqDiff, Nat.reduceBEq, Int.reduceToNat, Int.reduceLE, Int.reduceLT, Int.reduceEq, Int.reduceNe, Int.reduceNeg]
               (repeat' apply And.intro) <;> try first | ((with_reducible refine hK' _ ?_ ?_ ?_); rotate_left; (simp only [go_sem, Dk.small, g0, g1, pr, keepSl, ↓reduceIte, Nat.reduceEqDiff]; try rfl); clear hK' K') | (clear hK' K'; first | omega | (with_reducible refine drawOk_k ?_; kernel_rfl) | assumption | refine Eq.refl _ | exact fun h => ⟨h, fun k => ⟨h, k⟩⟩ | (intro _; (repeat' apply And.intro) <;> first | omega | assumption) | skip))
            | with_reducible first | refine W_skip ?_ | refine W_exit ?_ | refine W_ret ?_ | refine W_block ?_ | refine thenG_n ?_ | refine thenG_x ?_ | refine thenG_r ?_ | refine blockG_n ?_ | refine blockG_r ?_ | refine blockG_x ?_ | refine blockG_o (by decide) ?_
          refine W_le (σ' := sgB3 bs (p + 7) (pickV bs (p + 6) 3).toNat (l3b bs p)) [some 0, some 1, some 2, some 6, some 7, some 8] (by
            rw [e2]
            simp only [go_sem, ↓reduceIte, reduceCtorEq, Nat.reduceAdd, Nat.reduceLT, Nat.reduceLeDiff, Nat.reduceEqDiff, Int.reduceEq, TC.val.injEq, Value.bool.injEq, Value.int.injEq, Value.string.injEq, TV.one.injEq]
            all_goals (repeat' apply And.intro) <;> try first | rfl | trivial | omega | (rw [wrap_id] <;> omega)
            ) ?_
          exact key.1
        · have c0 : ¬ pickV bs (p + 5) 2 = 0 := by simpa using hc
          have e2 : l3b bs p = e := by unfold l3b; rw [if_neg c0, hwe]
          repeat' first
            | refine W_seq ?_
            | (refine W_reg (s_blkDisk_K.env []) s_blkDisk_lv fun K' hK' => ?_
               simp only [go_sem, Dk.small, g0, g1, ↓reduceIte, ↓reduceDIte, reduceCtorEq, Nat.reduceAdd, Nat.reduceMul, Nat.reduceSub, Nat.reduceLT, Nat.reduceLeDiff, Nat.reduceEqDiff, Nat.reduceBEq, Int.reduceToNat, Int.reduceLE, Int.reduceLT, Int.reduceEq, Int.reduceNe, Int.reduceNeg]
               (repeat' apply And.intro) <;> try first | ((with_reducible refine hK' _ ?_ ?_ ?_); rotate_left; (simp only [go_sem, Dk.small, g0, g1, pr, keepSl, ↓reduceIte, Nat.reduceEqDiff]; try rfl); clear hK' K') | (clear hK' K'; first | omega | (with_reducible refine drawOk_k ?_; kernel_rfl) | assumption | refine Eq.refl _ | exact fun h => ⟨h, fun k => ⟨h, k⟩⟩ | (intro _; (repeat' apply And.intro) <;> first | omega | assumption) | skip))
            | with_reducible first | refine W_skip ?_ | refine W_exit ?_ | refine W_ret ?_ | refine W_block ?_ | refine thenG_n ?_ | refine thenG_x ?_ | refine thenG_r ?_ | refine blockG_n ?_ | refine blockG_r ?_ | refine blockG_x ?_ | refine blockG_o (by decide) ?_
          refine W_le (σ' := sgB3 bs (p + 7) (pickV bs (p + 6) 3).toNat (l3b bs p)) [some 0, some 1, some 2, some 3, some 4, some 5] (by
            rw [e2]
            simp only [go_sem, ↓reduceIte, reduceCtorEq, Nat.reduceAdd, Nat.reduceLT, Nat.reduceLeDiff, Nat.reduceEqDiff, Int.reduceEq, TC.val.injEq, Value.bool.injEq, Value.int.injEq, Value.string.injEq, TV.one.injEq]
            all_goals (repeat' apply And.intro) <;> try first | rfl | trivial | omega | (rw [wrap_id] <;> omega)
            ) ?_
          exact key.1
      · obtain ⟨d, hd⟩ : ∃ d, d = l3c bs p := ⟨_, rfl⟩
        refine W_loop (fun n σ => ∃ (i : Nat) (q : Int) (e : Dk), n = i ∧ i ≤ 2 ∧ e.few (12 - i) ∧ 0 ≤ q ∧ q + 10 * i ≤ 750000 ∧ l3V bs i e q = d ∧ σ = sgB3 bs q i e) (pickV bs (p + 6) 3).toNat
          ⟨_, _, _, rfl, by omega, ⟨b1, b2, by omega⟩, by omega, by omega, hd.symm, rfl⟩ ?_
        clear hi1 hi f1 f2 f3 hlt hw hwe hq
        rintro n σ ⟨i, q, e, rfl, hi, he, hq, hq2, hds, rfl⟩
        obtain ⟨f1, f2, f3⟩ := he
        unfold sgB3
        repeat' first
          | refine W_seq ?_
          | (refine W_reg (s_blkDisk_K.env []) s_blkDisk_lv fun K' hK' => ?_
             simp only [go_sem, ↓reduceIte, ↓reduceDIte, reduceCtorEq, Nat.reduceAdd, Nat.reduceMul, Nat.reduceSub, Nat.reduceLT, Nat.reduceLeDiff, Nat.reduceEqDiff, Nat.reduceBEq, Int.reduceToNat, Int.reduceLE, Int.reduceLT, Int.reduceEq, Int.reduceNe, Int.reduceNeg]
             (repeat' apply And.intro) <;> try first | ((with_reducible refine hK' _ ?_ ?_ ?_); rotate_left; (simp only [go_sem, pr, keepSl, ↓reduceIte, Nat.reduceEqDiff]; try rfl); clear hK' K') | (clear hK' K'; first | omega | (with_reducible refine drawOk_k ?_; kernel_rfl) | assumption | refine Eq.refl _ | exact fun h => ⟨h, fun k => ⟨h, k⟩⟩ | (intro _; (repeat' apply And.intro) <;> first | omega | assumption) | skip))
          | with_reducible first | refine W_skip ?_ | refine W_exit ?_ | refine W_ret ?_ | refine W_block ?_ | refine thenG_n ?_ | refine thenG_x ?_ | refine thenG_r ?_ | refine blockG_n ?_ | refine blockG_r ?_ | refine blockG_x ?_ | refine blockG_o (by decide) ?_
        refine W_cond _ (by exact rfl) (by exact trivial) ?_ ?_ <;> (try simp only [Bool.if_true_left, Bool.if_false_right, Bool.if_true_right, Bool.if_false_left, Bool.decide_eq_true, Bool.or_assoc, Bool.and_assoc, Bool.and_true, Bool.or_false, Bool.true_and, Bool.false_or, decide_eq_true_eq, decide_eq_false_iff_not, not_and, not_or, Classical.not_not, Bool.and_eq_true, Bool.or_eq_true, Bool.not_eq_true', Bool.not_eq_false', Bool.or_eq_false_iff, Bool.and_eq_false_iff, bne_iff_ne, ne_eq, beq_iff_eq, bne_eq_false_iff_eq, same_true, same_false, Int.ofNat_inj]) <;> intro hlt
        · obtain ⟨j, rfl⟩ : ∃ j, n = j + 1 := ⟨n - 1, by omega⟩
          have g1 : q + 1 + 1 = q + 2 := by omega
          have g2 : rdOk bs (q + 2) := ⟨by omega, by omega, h3⟩
          have g3 := textP_in bs (q + 2) g2
          have hds : l3V bs j (dstep1 bs e q) (textP bs (q + 2)) = d := hds
          have e1 : dkWrite e (pickV bs q 2) (pickV bs (q + 1) 6) (textV bs (q + 2)) = dstep1 bs e q := rfl
          have g9 : (dstep1 bs e q).few (12 - (j + 1) + 1) := Dk.few_write ⟨f1, f2, f3⟩ _ _ _
          obtain ⟨k1, k2, k3⟩ := g9
          repeat' first
            | refine W_seq ?_
            | (refine W_reg (s_blkDisk_K.env []) s_blkDisk_lv fun K' hK' => ?_
               simp only [go_sem, Dk.small, g1, e1, ↓reduceIte, ↓reduceDIte, reduceCtorEq, Nat.reduceAdd, Nat.reduceMul, Nat.reduceSub, Nat.reduceLT, Nat.reduceLeDiff, Nat.reduceEqDiff, Nat.reduceBEq, Int.reduceToNat, Int.reduceLE, Int.reduceLT, Int.reduceEq, Int.reduceNe, Int.reduceNeg]
               (repeat' apply And.intro) <;> try first | ((with_reducible refine hK' _ ?_ ?_ ?_); rotate_left; (simp only [go_sem, Dk.small, g1, e1, pr, keepSl, ↓reduceIte, Nat.reduceEqDiff]; try rfl); clear hK' K') | (clear hK' K'; first | omega | (with_reducible refine drawOk_k ?_; kernel_rfl) | assumption | refine Eq.refl _ | exact fun h => ⟨h, fun k => ⟨h, k⟩⟩ | (intro _; (repeat' apply And.intro) <;> first | omega | assumption) | skip))
            | with_reducible first | refine W_skip ?_ | refine W_exit ?_ | refine W_ret ?_ | refine W_block ?_ | refine thenG_n ?_ | refine thenG_x ?_ | refine thenG_r ?_ | refine blockG_n ?_ | refine blockG_r ?_ | refine blockG_x ?_ | refine blockG_o (by decide) ?_
          refine ⟨j, [some 0, some 1, some 2, some 6, some 7, some 8], sgB3 bs (textP bs (q + 2)) j (dstep1 bs e q), by omega, ?_, j, _, _, rfl, by omega, ⟨k1, k2, by omega⟩, by omega, by omega, hds, rfl⟩
          simp only [go_sem, ↓reduceIte, reduceCtorEq, Nat.reduceAdd, Nat.reduceLT, Nat.reduceLeDiff, Nat.reduceEqDiff, Int.reduceEq, TC.val.injEq, Value.bool.injEq, Value.int.injEq, Value.string.injEq, TV.one.injEq]
          all_goals (repeat' apply And.intro) <;> try first | rfl | trivial | omega | (rw [wrap_id] <;> omega)
        · have hn0 : n = 0 := by omega
          subst hn0
          have hds : (e, q) = d := hds
          have hc1 : (l3c bs p).1 = e := by rw [← hd, ← hds]
          have hc2 : (l3c bs p).2 = q := by rw [← hd, ← hds]
          repeat' first
            | refine W_seq ?_
            | (refine W_reg (s_blkDisk_K.env []) s_blkDisk_lv fun K' hK' => ?_
               simp only [go_sem, ↓reduceIte, ↓reduceDIte, reduceCtorEq, Nat.reduceAdd, Nat.reduceMul, Nat.reduceSub, Nat.reduceLT, Nat.reduceLeDiff, Nat.reduceEqDiff, Nat.reduceBEq, Int.reduceToNat, Int.reduceLE, Int.reduceLT, Int.reduceEq, Int.reduceNe, Int.reduceNeg]
               (repeat' apply And.intro) <;> try first | ((with_reducible refine hK' _ ?_ ?_ ?_); rotate_left; (simp only [go_sem, pr, keepSl, ↓reduceIte, Nat.reduceEqDiff]; try rfl); clear hK' K') | (clear hK' K'; first | omega | (with_reducible refine drawOk_k ?_; kernel_rfl) | assumption | refine Eq.refl _ | exact fun h => ⟨h, fun k => ⟨h, k⟩⟩ | (intro _; (repeat' apply And.intro) <;> first | omega | assumption) | skip))
            | with_reducible first | refine W_skip ?_ | refine W_exit ?_ | refine W_ret ?_ | refine W_block ?_ | refine thenG_n ?_ | refine thenG_x ?_ | refine thenG_r ?_ | refine blockG_n ?_ | refine blockG_r ?_ | refine blockG_x ?_ | refine blockG_o (by decide) ?_
          refine W_cond _ (by exact rfl) (by exact trivial) ?_ ?_ <;> intro hc
          · have c0 : pickV bs q 16 = 0 := by simpa using hc
            have e2 : blkDisk bs p = (⟨[], e.b, e.l⟩, q + 1) := by unfold blkDisk; rw [hc1, hc2, if_pos c0]
            repeat' first
              | refine W_seq ?_
              | (refine W_reg (s_blkDisk_K.env []) s_blkDisk_lv fun K' hK' => ?_
                 simp only [go_sem, ↓reduceIte, ↓reduceDIte, reduceCtorEq, Nat.reduceAdd, Nat.reduceMul, Nat.reduceSub, Nat.reduceLT, Nat.reduceLeDiff, Nat.reduceEqDiff, Nat.reduceBEq, Int.reduceToNat, Int.reduceLE, Int.reduceLT, Int.reduceEq, Int.reduceNe, Int.reduceNeg]
                 (repeat' apply And.intro) <;> try first | ((with_reducible refine hK' _ ?_ ?_ ?_); rotate_left; (simp only [go_sem, pr, keepSl, ↓reduceIte, Nat.reduceEqDiff]; try rfl); clear hK' K') | (clear hK' K'; first | omega | (with_reducible refine drawOk_k ?_; kernel_rfl) | assumption | refine Eq.refl _ | exact fun h => ⟨h, fun k => ⟨h, k⟩⟩ | (intro _; (repeat' apply And.intro) <;> first | omega | assumption) | skip))
              | with_reducible first | refine W_skip ?_ | refine W_exit ?_ | refine W_ret ?_ | refine W_block ?_ | refine thenG_n ?_ | refine thenG_x ?_ | refine thenG_r ?_ | refine blockG_n ?_ | refine blockG_r ?_ | refine blockG_x ?_ | refine blockG_o (by decide) ?_
            refine ⟨by (simp only [go_sem, e2, ↓reduceIte, reduceCtorEq, Nat.reduceAdd, Nat.reduceLT, Nat.reduceLeDiff, Nat.reduceEqDiff]) <;> trivial, [some 0, none, some 4, some 5], ?_⟩
            all_goals try simp only [go_sem, e2, ↓reduceIte, reduceCtorEq, Nat.reduceAdd, Nat.reduceLT, Nat.reduceLeDiff, Nat.reduceEqDiff, Int.reduceEq, TC.val.injEq, Value.bool.injEq, Value.int.injEq, Value.string.injEq, TV.one.injEq]
            all_goals (repeat' apply And.intro) <;> try first | rfl | trivial | omega | (rw [wrap_id] <;> omega)
          · have c0 : ¬ pickV bs q 16 = 0 := by simpa using hc
            have e2 : blkDisk bs p = (e, q + 1) := by unfold blkDisk; rw [hc1, hc2, if_neg c0]
            repeat' first
              | refine W_seq ?_
              | (refine W_reg (s_blkDisk_K.env []) s_blkDisk_lv fun K' hK' => ?_
                 simp only [go_sem, ↓reduceIte, ↓reduceDIte, reduceCtorEq, Nat.reduceAdd, Nat.reduceMul, Nat.reduceSub, Nat.reduceLT, Nat.reduceLeDiff, Nat.reduceEqDiff, Nat.reduceBEq, Int.reduceToNat, Int.reduceLE, Int.reduceLT, Int.reduceEq, Int.reduceNe, Int.reduceNeg]
                 (repeat' apply And.intro) <;> try first | ((with_reducible refine hK' _ ?_ ?_ ?_); rotate_left; (simp only [go_sem, pr, keepSl, ↓reduceIte, Nat.reduceEqDiff]; try rfl); clear hK' K') | (clear hK' K'; first | omega | (with_reducible refine drawOk_k ?_; kernel_rfl) | assumption | refine Eq.refl _ | exact fun h => ⟨h, fun k => ⟨h, k⟩⟩ | (intro _; (repeat' apply And.intro) <;> first | omega | assumption) | skip))
              | with_reducible first | refine W_skip ?_ | refine W_exit ?_ | refine W_ret ?_ | refine W_block ?_ | refine thenG_n ?_ | refine thenG_x ?_ | refine thenG_r ?_ | refine blockG_n ?_ | refine blockG_r ?_ | refine blockG_x ?_ | refine blockG_o (by decide) ?_
            refine ⟨by (simp only [go_sem, e2, ↓reduceIte, reduceCtorEq, Nat.reduceAdd, Nat.reduceLT, Nat.reduceLeDiff, Nat.reduceEqDiff]) <;> trivial, [some 0, some 3, some 4, some 5], ?_⟩
            all_goals try simp only [go_sem, e2, ↓reduceIte, reduceCtorEq, Nat.reduceAdd, Nat.reduceLT, Nat.reduceLeDiff, Nat.reduceEqDiff, Int.reduceEq, TC.val.injEq, Value.bool.injEq, Value.int.injEq, Value.string.injEq, TV.one.injEq]
            all_goals (repeat' apply And.intro) <;> try first | rfl | trivial | omega | (rw [wrap_id] <;> omega)
  · simp [no] at hp
end Go.Proofs.Ytjdpppbegjnpaaa
