/- Functions: what the reader of codes draws. -/
import Derived.Test.YtjdpppbegjnpaaaTFa
set_option linter.unusedSimpArgs false
set_option linter.unusedVariables false
set_option linter.unusedSectionVars false
namespace Go.Proofs.Ytjdpppbegjnpaaa
open Go.RowKit

/-- The reader's object: bytes, place. -/
@[go_sem] def rdO (bs : List UInt8) (p : Int) : Obj := .cells [.isl .byte bs, .val (.int .i64 p)]
@[go_sem] def ctOpen : Ct := ⟨true, [[some .byte]], fun args os => match args, os with
  | [.one (.isl .byte bs)], [] => ⟨bs.length ≤ 1048576, .one (.ptr 0 0), [], [rdO (bs.take 2000) 0]⟩
  | _, _ => no⟩
theorem s_open_e : EnterOk Try.prog 31 := ⟨_, Try.func31, rfl, by decide⟩
@[go_sem] def s_open_lv : List (List Nat) := [[0], [0, 5], [0], [2]]
@[go_sem] noncomputable def s_open_K : Known := Known.nil
set_option maxHeartbeats 8000000 in
theorem s_open : Sound Try.prog 31 ctOpen := by
  refine sound_intro (E := ⟨ti, s_open_K.Γ, []⟩) (s_open_K.env []) Try.func31 Try.ntmps31 rfl (rs := [.tmp 2]) rfl ?_
  intro args os hp
  unfold ctOpen at hp ⊢
  dsimp only at hp ⊢
  split at hp
  · rename_i bs
    refine ⟨by simp, fun φ0 w0 => ?_⟩
    have hlen : bs.length ≤ 1048576 := hp
    clear hp
    repeat' first
      | refine W_seq ?_
      | (refine W_reg (s_open_K.env []) s_open_lv fun K' hK' => ?_
         simp only [go_sem, ↓reduceIte, ↓reduceDIte, reduceCtorEq, Nat.reduceAdd, Nat.reduceMul, Nat.reduceSub, Nat.reduceLT, Nat.reduceLeDiff, Nat.reduceEqDiff, Nat.reduceBEq, Int.reduceToNat, Int.reduceLE, Int.reduceLT, Int.reduceEq, Int.reduceNe, Int.reduceNeg]
         (repeat' apply And.intro) <;> try first | ((with_reducible refine hK' _ ?_ ?_ ?_); rotate_left; (simp only [go_sem, pr, keepSl, ↓reduceIte, Nat.reduceEqDiff]; try rfl); clear hK' K') | (clear hK' K'; first | omega | (with_reducible refine drawOk_k ?_; kernel_rfl) | assumption | refine Eq.refl _ | exact fun h => ⟨h, fun k => ⟨h, k⟩⟩ | (intro _; (repeat' apply And.intro) <;> first | omega | assumption) | skip))
      | with_reducible first | refine W_skip ?_ | refine W_exit ?_ | refine W_ret ?_ | refine W_block ?_ | refine thenG_n ?_ | refine thenG_x ?_ | refine thenG_r ?_ | refine blockG_n ?_ | refine blockG_r ?_ | refine blockG_x ?_ | refine blockG_o (by decide) ?_
    refine W_cond _ (by exact rfl) (by exact trivial) ?_ ?_ <;> (try simp only [Bool.if_true_left, Bool.if_false_right, Bool.if_true_right, Bool.if_false_left, Bool.decide_eq_true, Bool.or_assoc, Bool.and_assoc, Bool.and_true, Bool.or_false, Bool.true_and, Bool.false_or, decide_eq_true_eq, decide_eq_false_iff_not, not_and, not_or, Classical.not_not, Bool.and_eq_true, Bool.or_eq_true, Bool.not_eq_true', Bool.not_eq_false', Bool.or_eq_false_iff, Bool.and_eq_false_iff, bne_iff_ne, ne_eq, beq_iff_eq, bne_eq_false_iff_eq, same_true, same_false, Int.ofNat_inj]) <;> intro hc
    · repeat' first
        | refine W_seq ?_
        | (refine W_reg (s_open_K.env []) s_open_lv fun K' hK' => ?_
           simp only [go_sem, ↓reduceIte, ↓reduceDIte, reduceCtorEq, Nat.reduceAdd, Nat.reduceMul, Nat.reduceSub, Nat.reduceLT, Nat.reduceLeDiff, Nat.reduceEqDiff, Nat.reduceBEq, Int.reduceToNat, Int.reduceLE, Int.reduceLT, Int.reduceEq, Int.reduceNe, Int.reduceNeg]
           (repeat' apply And.intro) <;> try first | ((with_reducible refine hK' _ ?_ ?_ ?_); rotate_left; (simp only [go_sem, pr, keepSl, ↓reduceIte, Nat.reduceEqDiff]; try rfl); clear hK' K') | (clear hK' K'; first | omega | (with_reducible refine drawOk_k ?_; kernel_rfl) | assumption | refine Eq.refl _ | exact fun h => ⟨h, fun k => ⟨h, k⟩⟩ | (intro _; (repeat' apply And.intro) <;> first | omega | assumption) | skip))
        | with_reducible first | refine W_skip ?_ | refine W_exit ?_ | refine W_ret ?_ | refine W_block ?_ | refine thenG_n ?_ | refine thenG_x ?_ | refine thenG_r ?_ | refine blockG_n ?_ | refine blockG_r ?_ | refine blockG_x ?_ | refine blockG_o (by decide) ?_
      refine ⟨by (simp only [go_sem, ↓reduceIte, reduceCtorEq, Nat.reduceAdd, Nat.reduceLT, Nat.reduceLeDiff, Nat.reduceEqDiff]) <;> trivial, [some 0], ?_⟩
      all_goals try simp only [go_sem, ↓reduceIte, reduceCtorEq, Nat.reduceAdd, Nat.reduceLT, Nat.reduceLeDiff, Nat.reduceEqDiff, Int.reduceEq, TC.val.injEq, Value.bool.injEq, Value.int.injEq, Value.string.injEq, TV.one.injEq]
      all_goals (repeat' apply And.intro) <;> try first | rfl | trivial | omega | (rw [wrap_id] <;> omega)
    · repeat' first
        | refine W_seq ?_
        | (refine W_reg (s_open_K.env []) s_open_lv fun K' hK' => ?_
           simp only [go_sem, ↓reduceIte, ↓reduceDIte, reduceCtorEq, Nat.reduceAdd, Nat.reduceMul, Nat.reduceSub, Nat.reduceLT, Nat.reduceLeDiff, Nat.reduceEqDiff, Nat.reduceBEq, Int.reduceToNat, Int.reduceLE, Int.reduceLT, Int.reduceEq, Int.reduceNe, Int.reduceNeg]
           (repeat' apply And.intro) <;> try first | ((with_reducible refine hK' _ ?_ ?_ ?_); rotate_left; (simp only [go_sem, pr, keepSl, ↓reduceIte, Nat.reduceEqDiff]; try rfl); clear hK' K') | (clear hK' K'; first | omega | (with_reducible refine drawOk_k ?_; kernel_rfl) | assumption | refine Eq.refl _ | exact fun h => ⟨h, fun k => ⟨h, k⟩⟩ | (intro _; (repeat' apply And.intro) <;> first | omega | assumption) | skip))
        | with_reducible first | refine W_skip ?_ | refine W_exit ?_ | refine W_ret ?_ | refine W_block ?_ | refine thenG_n ?_ | refine thenG_x ?_ | refine thenG_r ?_ | refine blockG_n ?_ | refine blockG_r ?_ | refine blockG_x ?_ | refine blockG_o (by decide) ?_
      have ht : bs.take 2000 = bs := List.take_of_length_le (by omega)
      rw [ht]
      refine ⟨by (simp only [go_sem, ↓reduceIte, reduceCtorEq, Nat.reduceAdd, Nat.reduceLT, Nat.reduceLeDiff, Nat.reduceEqDiff]) <;> trivial, [some 0], ?_⟩
      all_goals try simp only [go_sem, ↓reduceIte, reduceCtorEq, Nat.reduceAdd, Nat.reduceLT, Nat.reduceLeDiff, Nat.reduceEqDiff, Int.reduceEq, TC.val.injEq, Value.bool.injEq, Value.int.injEq, Value.string.injEq, TV.one.injEq]
      all_goals (repeat' apply And.intro) <;> try first | rfl | trivial | omega | (rw [wrap_id] <;> omega)
  · simp [no] at hp

def byteAt (bs : List UInt8) (i : Int) : Int := ((bs.getD i.toNat 0).toNat : Int)
def byteW (bs : List UInt8) (i : Int) : Int := IntKind.i64.wrap ((UInt8.toNat (bs.getD i.toNat ET.byte.dflt) : Nat) : Int)
/-- What is drawn behind the code's end. -/
def mixS (bs : List UInt8) (k : Int) : Int := IntKind.i64.wrap (IntKind.i64.wrap (IntKind.i64.wrap (IntKind.i64.wrap (byteW bs (k.tmod bs.length) * 131) + IntKind.i64.wrap (byteW bs ((IntKind.i64.wrap (IntKind.i64.wrap (k * 7) + 3)).tmod bs.length) * 1117)) + IntKind.i64.wrap (k * 29)) + IntKind.i64.wrap (IntKind.i64.wrap (k.tdiv bs.length) * 53))
def mixV (bs : List UInt8) (k : Int) : Int := IntKind.i64.wrap (((BitVec.ofInt 64 (mixS bs k) ^^^ BitVec.ofInt 64 (IntKind.i64.wrap ((mixS bs k).tdiv 64))).toNat : Nat) : Int)
theorem byteW_eq (bs : List UInt8) (i : Int) : byteW bs i = byteAt bs i ∧ 0 ≤ byteAt bs i ∧ byteAt bs i < 256 := by
  have hb : (UInt8.toNat (bs.getD i.toNat (0 : UInt8))) < 256 := UInt8.toNat_lt _
  have e : byteW bs i = IntKind.i64.wrap (byteAt bs i) := rfl
  unfold byteAt at e ⊢
  rw [e, wrap_id _ (by omega) (by omega)]
  omega
theorem tmod_in (k : Int) (n : Nat) (hk : 0 ≤ k) (hn : n ≠ 0) : 0 ≤ k.tmod n ∧ k.tmod n < n := ⟨Int.tmod_nonneg _ hk, Int.tmod_lt_of_pos _ (show (0 : Int) < n by omega)⟩
theorem tdiv_in (k : Int) (n : Int) (hk : 0 ≤ k) (hn : 0 < n) : 0 ≤ k.tdiv n ∧ k.tdiv n ≤ k := ⟨Int.tdiv_nonneg hk (by omega), by
  rw [Int.tdiv_eq_ediv_of_nonneg hk]; exact Int.ediv_le_self n hk⟩
theorem mixS_in (bs : List UInt8) (k : Int) (h1 : 0 ≤ k) (h2 : k ≤ 1000000) (hb : bs.length ≠ 0) : 0 ≤ mixS bs k ∧ mixS bs k ≤ 1000000000 := by
  obtain ⟨a1, a2, a3⟩ := byteW_eq bs (k.tmod bs.length)
  obtain ⟨b1, b2, b3⟩ := byteW_eq bs ((IntKind.i64.wrap (IntKind.i64.wrap (k * 7) + 3)).tmod bs.length)
  obtain ⟨c1, c2⟩ := tdiv_in k bs.length h1 (by omega)
  unfold mixS
  rw [a1, b1]
  generalize byteAt bs (k.tmod bs.length) = x at *
  generalize byteAt bs ((IntKind.i64.wrap (IntKind.i64.wrap (k * 7) + 3)).tmod bs.length) = y at *
  generalize k.tdiv bs.length = z at *
  rw [wrap_id (x * 131) (by omega) (by omega), wrap_id (y * 1117) (by omega) (by omega), wrap_id (k * 29) (by omega) (by omega), wrap_id z (by omega) (by omega), wrap_id (z * 53) (by omega) (by omega),
    wrap_id (x * 131 + y * 1117) (by omega) (by omega), wrap_id (x * 131 + y * 1117 + k * 29) (by omega) (by omega), wrap_id (x * 131 + y * 1117 + k * 29 + z * 53) (by omega) (by omega)]
  omega
theorem xor_in (a b : Int) (ha : 0 ≤ a) (hb : 0 ≤ b) (ha' : a < 4611686018427387904) (hb' : b < 4611686018427387904) : 0 ≤ IntKind.i64.wrap (((BitVec.ofInt 64 a ^^^ BitVec.ofInt 64 b).toNat : Nat) : Int) := by
  obtain ⟨a, rfl⟩ := Int.eq_ofNat_of_zero_le ha
  obtain ⟨b, rfl⟩ := Int.eq_ofNat_of_zero_le hb
  have h : (BitVec.ofInt 64 (a : Int) ^^^ BitVec.ofInt 64 (b : Int)).toNat < 2 ^ 62 := by
    rw [BitVec.toNat_xor, BitVec.toNat_ofInt, BitVec.toNat_ofInt]
    refine Nat.xor_lt_two_pow ?_ ?_ <;> omega
  generalize (BitVec.ofInt 64 (a : Int) ^^^ BitVec.ofInt 64 (b : Int)).toNat = x at *
  rw [wrap_id _ (by omega) (by omega)]
  omega
theorem mixV_in (bs : List UInt8) (k : Int) (h1 : 0 ≤ k) (h2 : k ≤ 1000000) (hb : bs.length ≠ 0) : 0 ≤ mixV bs k := by
  obtain ⟨a, b⟩ := mixS_in bs k h1 h2 hb
  obtain ⟨c, d⟩ := tdiv_in (mixS bs k) 64 a (by omega)
  unfold mixV
  refine xor_in _ _ a ?_ (by omega) ?_ <;> rw [wrap_id _ (by omega) (by omega)] <;> omega
/-- The number that is picked. -/
def pickV (bs : List UInt8) (p n : Int) : Int := if n < 1 ∨ bs.length = 0 then 0 else if p < bs.length then (byteAt bs p).tmod n else (mixV bs p).tmod n
@[go_sem] def ctPick : Ct := ⟨true, [], fun args os => match args, os with
  | [.one (.ptr 0 0), .one (.val (.int .i64 n))], [.cells [.isl .byte bs, .val (.int .i64 p)]] => ⟨0 ≤ p ∧ p ≤ 1000000 ∧ bs.length ≤ 2000, vi (pickV bs p n), [(0, some (rdO bs (p + 1)))], []⟩
  | _, _ => no⟩
theorem s_pick_e : EnterOk Try.prog 35 := ⟨_, Try.func35, rfl, by decide⟩
@[go_sem] def s_pick_lv : List (List Nat) := [[0, 1], [0, 1], [0, 1, 24], [4], [0, 1, 5], [0, 1, 5, 36], [4], [1, 6], [1, 6], [4]]
@[go_sem] noncomputable def s_pick_K : Known := Known.nil
set_option maxHeartbeats 8000000 in
theorem s_pick : Sound Try.prog 35 ctPick := by
  refine sound_intro (E := ⟨ti, s_pick_K.Γ, []⟩) (s_pick_K.env []) Try.func35 Try.ntmps35 rfl (rs := [.tmp 4]) rfl ?_
  intro args os hp
  unfold ctPick at hp ⊢
  dsimp only at hp ⊢
  split at hp
  · rename_i n bs p
    refine ⟨by simp, fun φ0 w0 => ?_⟩
    obtain ⟨h1, h2, h3⟩ : 0 ≤ p ∧ p ≤ 1000000 ∧ bs.length ≤ 2000 := hp
    have hw1 : IntKind.i64.wrap (p + 1) = p + 1 := wrap_id _ (by omega) (by omega)
    have hw2 : IntKind.i64.wrap (p + 1 - 1) = p := by rw [wrap_id _ (by omega) (by omega)]; omega
    repeat' first
      | refine W_seq ?_
      | (refine W_reg (s_pick_K.env []) s_pick_lv fun K' hK' => ?_
         simp only [go_sem, hw1, hw2, ↓reduceIte, ↓reduceDIte, reduceCtorEq, Nat.reduceAdd, Nat.reduceMul, Nat.reduceSub, Nat.reduceLT, Nat.reduceLeDiff, Nat.reduceEqDiff, Nat.reduceBEq, Int.reduceToNat, Int.reduceLE, Int.reduceLT, Int.reduceEq, Int.reduceNe, Int.reduceNeg]
         (repeat' apply And.intro) <;> try first | ((with_reducible refine hK' _ ?_ ?_ ?_); rotate_left; (simp only [go_sem, hw1, hw2, pr, keepSl, ↓reduceIte, Nat.reduceEqDiff]; try rfl); clear hK' K') | (clear hK' K'; first | omega | (with_reducible refine drawOk_k ?_; kernel_rfl) | assumption | refine Eq.refl _ | exact fun h => ⟨h, fun k => ⟨h, k⟩⟩ | (intro _; (repeat' apply And.intro) <;> first | omega | assumption) | skip))
      | with_reducible first | refine W_skip ?_ | refine W_exit ?_ | refine W_ret ?_ | refine W_block ?_ | refine thenG_n ?_ | refine thenG_x ?_ | refine thenG_r ?_ | refine blockG_n ?_ | refine blockG_r ?_ | refine blockG_x ?_ | refine blockG_o (by decide) ?_
    refine W_cond _ (by exact rfl) (by exact trivial) ?_ ?_ <;> intro hc
    · have hc' : n < 1 ∨ bs.length = 0 := by
        by_cases hn : n < 1
        · exact .inl hn
        · rw [if_neg hn] at hc; simp at hc; exact .inr (by simp [hc])
      repeat' first
        | refine W_seq ?_
        | (refine W_reg (s_pick_K.env []) s_pick_lv fun K' hK' => ?_
           simp only [go_sem, ↓reduceIte, ↓reduceDIte, reduceCtorEq, Nat.reduceAdd, Nat.reduceMul, Nat.reduceSub, Nat.reduceLT, Nat.reduceLeDiff, Nat.reduceEqDiff, Nat.reduceBEq, Int.reduceToNat, Int.reduceLE, Int.reduceLT, Int.reduceEq, Int.reduceNe, Int.reduceNeg]
           (repeat' apply And.intro) <;> try first | ((with_reducible refine hK' _ ?_ ?_ ?_); rotate_left; (simp only [go_sem, pr, keepSl, ↓reduceIte, Nat.reduceEqDiff]; try rfl); clear hK' K') | (clear hK' K'; first | omega | (with_reducible refine drawOk_k ?_; kernel_rfl) | assumption | refine Eq.refl _ | exact fun h => ⟨h, fun k => ⟨h, k⟩⟩ | (intro _; (repeat' apply And.intro) <;> first | omega | assumption) | skip))
        | with_reducible first | refine W_skip ?_ | refine W_exit ?_ | refine W_ret ?_ | refine W_block ?_ | refine thenG_n ?_ | refine thenG_x ?_ | refine thenG_r ?_ | refine blockG_n ?_ | refine blockG_r ?_ | refine blockG_x ?_ | refine blockG_o (by decide) ?_
      refine ⟨by (simp only [go_sem, ↓reduceIte, reduceCtorEq, Nat.reduceAdd, Nat.reduceLT, Nat.reduceLeDiff, Nat.reduceEqDiff]) <;> trivial, [some 0], ?_⟩
      all_goals try simp only [go_sem, ↓reduceIte, reduceCtorEq, Nat.reduceAdd, Nat.reduceLT, Nat.reduceLeDiff, Nat.reduceEqDiff, Int.reduceEq, TC.val.injEq, Value.bool.injEq, Value.int.injEq, Value.string.injEq, TV.one.injEq]
      all_goals (repeat' apply And.intro) <;> try first | rfl | trivial | omega | (rw [wrap_id] <;> omega)
      unfold pickV
      rw [if_pos hc']
    · have hn : ¬ n < 1 := by intro hn; rw [if_pos hn] at hc; cases hc
      have hl : bs.length ≠ 0 := by rw [if_neg hn] at hc; simp at hc; intro h; exact hc (List.length_eq_zero_iff.1 h)
      have hpv : pickV bs p n = if p < bs.length then (byteAt bs p).tmod n else (mixV bs p).tmod n := by
        unfold pickV
        rw [if_neg (by rintro (h | h); exact hn h; exact hl h)]
      clear hc
      repeat' first
        | refine W_seq ?_
        | (refine W_reg (s_pick_K.env []) s_pick_lv fun K' hK' => ?_
           simp only [go_sem, hw2, ↓reduceIte, ↓reduceDIte, reduceCtorEq, Nat.reduceAdd, Nat.reduceMul, Nat.reduceSub, Nat.reduceLT, Nat.reduceLeDiff, Nat.reduceEqDiff, Nat.reduceBEq, Int.reduceToNat, Int.reduceLE, Int.reduceLT, Int.reduceEq, Int.reduceNe, Int.reduceNeg]
           (repeat' apply And.intro) <;> try first | ((with_reducible refine hK' _ ?_ ?_ ?_); rotate_left; (simp only [go_sem, hw2, pr, keepSl, ↓reduceIte, Nat.reduceEqDiff]; try rfl); clear hK' K') | (clear hK' K'; first | omega | (with_reducible refine drawOk_k ?_; kernel_rfl) | assumption | refine Eq.refl _ | exact fun h => ⟨h, fun k => ⟨h, k⟩⟩ | (intro _; (repeat' apply And.intro) <;> first | omega | assumption) | skip))
        | with_reducible first | refine W_skip ?_ | refine W_exit ?_ | refine W_ret ?_ | refine W_block ?_ | refine thenG_n ?_ | refine thenG_x ?_ | refine thenG_r ?_ | refine blockG_n ?_ | refine blockG_r ?_ | refine blockG_x ?_ | refine blockG_o (by decide) ?_
      refine W_cond _ (by exact rfl) (by exact trivial) ?_ ?_ <;> (try simp only [Bool.if_true_left, Bool.if_false_right, Bool.if_true_right, Bool.if_false_left, Bool.decide_eq_true, Bool.or_assoc, Bool.and_assoc, Bool.and_true, Bool.or_false, Bool.true_and, Bool.false_or, decide_eq_true_eq, decide_eq_false_iff_not, not_and, not_or, Classical.not_not, Bool.and_eq_true, Bool.or_eq_true, Bool.not_eq_true', Bool.not_eq_false', Bool.or_eq_false_iff, Bool.and_eq_false_iff, bne_iff_ne, ne_eq, beq_iff_eq, bne_eq_false_iff_eq, same_true, same_false, Int.ofNat_inj]) <;> intro hlt
      · repeat' first
          | refine W_seq ?_
          | (refine W_reg (s_pick_K.env []) s_pick_lv fun K' hK' => ?_
             simp only [go_sem, ↓reduceIte, ↓reduceDIte, reduceCtorEq, Nat.reduceAdd, Nat.reduceMul, Nat.reduceSub, Nat.reduceLT, Nat.reduceLeDiff, Nat.reduceEqDiff, Nat.reduceBEq, Int.reduceToNat, Int.reduceLE, Int.reduceLT, Int.reduceEq, Int.reduceNe, Int.reduceNeg]
             (repeat' apply And.intro) <;> try first | ((with_reducible refine hK' _ ?_ ?_ ?_); rotate_left; (simp only [go_sem, pr, keepSl, ↓reduceIte, Nat.reduceEqDiff]; try rfl); clear hK' K') | (clear hK' K'; first | omega | (with_reducible refine drawOk_k ?_; kernel_rfl) | assumption | refine Eq.refl _ | exact fun h => ⟨h, fun k => ⟨h, k⟩⟩ | (intro _; (repeat' apply And.intro) <;> first | omega | assumption) | skip))
          | with_reducible first | refine W_skip ?_ | refine W_exit ?_ | refine W_ret ?_ | refine W_block ?_ | refine thenG_n ?_ | refine thenG_x ?_ | refine thenG_r ?_ | refine blockG_n ?_ | refine blockG_r ?_ | refine blockG_x ?_ | refine blockG_o (by decide) ?_
        refine ⟨by (simp only [go_sem, ↓reduceIte, reduceCtorEq, Nat.reduceAdd, Nat.reduceLT, Nat.reduceLeDiff, Nat.reduceEqDiff]) <;> trivial, [some 0], ?_⟩
        all_goals try simp only [go_sem, ↓reduceIte, reduceCtorEq, Nat.reduceAdd, Nat.reduceLT, Nat.reduceLeDiff, Nat.reduceEqDiff, Int.reduceEq, TC.val.injEq, Value.bool.injEq, Value.int.injEq, Value.string.injEq, TV.one.injEq]
        all_goals (repeat' apply And.intro) <;> try first | rfl | trivial | omega | (rw [wrap_id] <;> omega)
        rw [hpv, if_pos hlt, ← (byteW_eq bs p).1]
        rfl
      · have h7 : IntKind.i64.wrap (IntKind.i64.wrap (p * 7) + 3) = p * 7 + 3 := by rw [wrap_id (p * 7) (by omega) (by omega), wrap_id _ (by omega) (by omega)]
        have t1 := tmod_in p bs.length h1 hl
        have t2 := tmod_in (p * 7 + 3) bs.length (by omega) hl
        repeat' first
          | refine W_seq ?_
          | (refine W_reg (s_pick_K.env []) s_pick_lv fun K' hK' => ?_
             simp only [go_sem, h7, ↓reduceIte, ↓reduceDIte, reduceCtorEq, Nat.reduceAdd, Nat.reduceMul, Nat.reduceSub, Nat.reduceLT, Nat.reduceLeDiff, Nat.reduceEqDiff, Nat.reduceBEq, Int.reduceToNat, Int.reduceLE, Int.reduceLT, Int.reduceEq, Int.reduceNe, Int.reduceNeg]
             (repeat' apply And.intro) <;> try first | ((with_reducible refine hK' _ ?_ ?_ ?_); rotate_left; (simp only [go_sem, h7, pr, keepSl, ↓reduceIte, Nat.reduceEqDiff]; try rfl); clear hK' K') | (clear hK' K'; first | omega | (with_reducible refine drawOk_k ?_; kernel_rfl) | assumption | refine Eq.refl _ | exact fun h => ⟨h, fun k => ⟨h, k⟩⟩ | (intro _; (repeat' apply And.intro) <;> first | omega | assumption) | skip))
          | with_reducible first | refine W_skip ?_ | refine W_exit ?_ | refine W_ret ?_ | refine W_block ?_ | refine thenG_n ?_ | refine thenG_x ?_ | refine thenG_r ?_ | refine blockG_n ?_ | refine blockG_r ?_ | refine blockG_x ?_ | refine blockG_o (by decide) ?_
        refine ⟨by (simp only [go_sem, ↓reduceIte, reduceCtorEq, Nat.reduceAdd, Nat.reduceLT, Nat.reduceLeDiff, Nat.reduceEqDiff]) <;> trivial, [some 0], ?_⟩
        all_goals try simp only [go_sem, ↓reduceIte, reduceCtorEq, Nat.reduceAdd, Nat.reduceLT, Nat.reduceLeDiff, Nat.reduceEqDiff, Int.reduceEq, TC.val.injEq, Value.bool.injEq, Value.int.injEq, Value.string.injEq, TV.one.injEq]
        all_goals (repeat' apply And.intro) <;> try first | rfl | trivial | omega | (rw [wrap_id] <;> omega)
        rw [hpv, if_neg hlt, mixV, mixS, h7]
        rfl
  · simp [no] at hp
theorem pickV_in (bs : List UInt8) (p n : Int) (h1 : 0 ≤ p) (h2 : p ≤ 1000000) (hn : 1 ≤ n) : 0 ≤ pickV bs p n ∧ pickV bs p n < n := by
  unfold pickV
  split
  · omega
  · rename_i h
    have hb : bs.length ≠ 0 := fun e => h (.inr e)
    split
    · exact ⟨Int.tmod_nonneg _ (byteW_eq bs p).2.1, Int.tmod_lt_of_pos _ (by omega)⟩
    · exact ⟨Int.tmod_nonneg _ (mixV_in bs p h1 h2 hb), Int.tmod_lt_of_pos _ (by omega)⟩
end Go.Proofs.Ytjdpppbegjnpaaa
