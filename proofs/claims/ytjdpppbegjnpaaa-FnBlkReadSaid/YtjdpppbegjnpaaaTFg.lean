/- Functions: one of a list; texts that are drawn. -/
import Derived.Test.YtjdpppbegjnpaaaTFf
set_option linter.unusedSimpArgs false
set_option linter.unusedVariables false
set_option linter.unusedSectionVars false
namespace Go.Proofs.Ytjdpppbegjnpaaa
open Go.RowKit

/-- May the reader go on from here? -/
def rdOk (bs : List UInt8) (p : Int) : Prop := 0 ≤ p ∧ p ≤ 900000 ∧ bs.length ≤ 2000
@[go_sem] def ctNum : Ct := ⟨true, [], fun args os => match args, os with
  | [.one (.ptr 0 0), .one (.osl .int 1 0 n)], [.cells [.isl .byte bs, .val (.int .i64 p)], .arr .int xs] => ⟨(0 ≤ p ∧ p ≤ 1000000 ∧ bs.length ≤ 2000) ∧ n = xs.length ∧ 0 < n ∧ n ≤ 1000, vi (ET.int.at xs (pickV bs p n).toNat), [(0, some (rdO bs (p + 1)))], []⟩
  | _, _ => no⟩
theorem s_num_e : EnterOk Try.prog 34 := ⟨_, Try.func34, rfl, by decide⟩
@[go_sem] def s_num_lv : List (List Nat) := [[0, 1], [4]]
@[go_sem] noncomputable def s_num_K : Known := (Known.nil).cons 35 ctPick s_pick s_pick_e
set_option maxHeartbeats 8000000 in
theorem s_num : Sound Try.prog 34 ctNum := by
  refine sound_intro (E := ⟨ti, s_num_K.Γ, []⟩) (s_num_K.env []) Try.func34 Try.ntmps34 rfl (rs := [.tmp 4]) rfl ?_
  intro args os hp
  unfold ctNum at hp ⊢
  dsimp only at hp ⊢
  split at hp
  · rename_i n bs p xs
    refine ⟨by simp, fun φ0 w0 => ?_⟩
    obtain ⟨⟨h1, h2, h3⟩, h4, h5, h6⟩ : (0 ≤ p ∧ p ≤ 1000000 ∧ bs.length ≤ 2000) ∧ n = xs.length ∧ 0 < n ∧ n ≤ 1000 := hp
    have h7 := pickV_in bs p n h1 h2 (by omega)
    repeat' first
      | refine W_seq ?_
      | (refine W_reg (s_num_K.env []) s_num_lv fun K' hK' => ?_
         simp only [go_sem, ↓reduceIte, ↓reduceDIte, reduceCtorEq, Nat.reduceAdd, Nat.reduceMul, Nat.reduceSub, Nat.reduceLT, Nat.reduceLeDiff, Nat.reduceEqDiff, Nat.reduceBEq, Int.reduceToNat, Int.reduceLE, Int.reduceLT, Int.reduceEq, Int.reduceNe, Int.reduceNeg]
         (repeat' apply And.intro) <;> try first | ((with_reducible refine hK' _ ?_ ?_ ?_); rotate_left; (simp only [go_sem, pr, keepSl, ↓reduceIte, Nat.reduceEqDiff]; try rfl); clear hK' K') | (clear hK' K'; first | omega | (with_reducible refine drawOk_k ?_; kernel_rfl) | assumption | refine Eq.refl _ | exact fun h => ⟨h, fun k => ⟨h, k⟩⟩ | (intro _; (repeat' apply And.intro) <;> first | omega | assumption) | skip))
      | with_reducible first | refine W_skip ?_ | refine W_exit ?_ | refine W_ret ?_ | refine W_block ?_ | refine thenG_n ?_ | refine thenG_x ?_ | refine thenG_r ?_ | refine blockG_n ?_ | refine blockG_r ?_ | refine blockG_x ?_ | refine blockG_o (by decide) ?_
    refine ⟨by (simp only [go_sem, ↓reduceIte, reduceCtorEq, Nat.reduceAdd, Nat.reduceLT, Nat.reduceLeDiff, Nat.reduceEqDiff]) <;> trivial, [some 0, some 1], ?_⟩
    all_goals try simp only [go_sem, ↓reduceIte, reduceCtorEq, Nat.reduceAdd, Nat.reduceLT, Nat.reduceLeDiff, Nat.reduceEqDiff, Int.reduceEq, TC.val.injEq, Value.bool.injEq, Value.int.injEq, Value.string.injEq, TV.one.injEq]
    all_goals (repeat' apply And.intro) <;> try first | rfl | trivial | omega | (rw [wrap_id] <;> omega)
  · simp [no] at hp
@[go_sem] def ctOf : Ct := ⟨true, [], fun args os => match args, os with
  | [.one (.ptr 0 0), .one (.osl .str 1 0 n)], [.cells [.isl .byte bs, .val (.int .i64 p)], .arr .str xs] => ⟨(0 ≤ p ∧ p ≤ 1000000 ∧ bs.length ≤ 2000) ∧ n = xs.length ∧ 0 < n ∧ n ≤ 1000, vs (ET.str.at xs (pickV bs p n).toNat), [(0, some (rdO bs (p + 1)))], []⟩
  | _, _ => no⟩
theorem s_of_e : EnterOk Try.prog 61 := ⟨_, Try.func61, rfl, by decide⟩
@[go_sem] def s_of_lv : List (List Nat) := [[0, 1], [4]]
@[go_sem] noncomputable def s_of_K : Known := (Known.nil).cons 35 ctPick s_pick s_pick_e
set_option maxHeartbeats 8000000 in
theorem s_of : Sound Try.prog 61 ctOf := by
  refine sound_intro (E := ⟨ti, s_of_K.Γ, []⟩) (s_of_K.env []) Try.func61 Try.ntmps61 rfl (rs := [.tmp 4]) rfl ?_
  intro args os hp
  unfold ctOf at hp ⊢
  dsimp only at hp ⊢
  split at hp
  · rename_i n bs p xs
    refine ⟨by simp, fun φ0 w0 => ?_⟩
    obtain ⟨⟨h1, h2, h3⟩, h4, h5, h6⟩ : (0 ≤ p ∧ p ≤ 1000000 ∧ bs.length ≤ 2000) ∧ n = xs.length ∧ 0 < n ∧ n ≤ 1000 := hp
    have h7 := pickV_in bs p n h1 h2 (by omega)
    repeat' first
      | refine W_seq ?_
      | (refine W_reg (s_of_K.env []) s_of_lv fun K' hK' => ?_
         simp only [go_sem, ↓reduceIte, ↓reduceDIte, reduceCtorEq, Nat.reduceAdd, Nat.reduceMul, Nat.reduceSub, Nat.reduceLT, Nat.reduceLeDiff, Nat.reduceEqDiff, Nat.reduceBEq, Int.reduceToNat, Int.reduceLE, Int.reduceLT, Int.reduceEq, Int.reduceNe, Int.reduceNeg]
         (repeat' apply And.intro) <;> try first | ((with_reducible refine hK' _ ?_ ?_ ?_); rotate_left; (simp only [go_sem, pr, keepSl, ↓reduceIte, Nat.reduceEqDiff]; try rfl); clear hK' K') | (clear hK' K'; first | omega | (with_reducible refine drawOk_k ?_; kernel_rfl) | assumption | refine Eq.refl _ | exact fun h => ⟨h, fun k => ⟨h, k⟩⟩ | (intro _; (repeat' apply And.intro) <;> first | omega | assumption) | skip))
      | with_reducible first | refine W_skip ?_ | refine W_exit ?_ | refine W_ret ?_ | refine W_block ?_ | refine thenG_n ?_ | refine thenG_x ?_ | refine thenG_r ?_ | refine blockG_n ?_ | refine blockG_r ?_ | refine blockG_x ?_ | refine blockG_o (by decide) ?_
    refine ⟨by (simp only [go_sem, ↓reduceIte, reduceCtorEq, Nat.reduceAdd, Nat.reduceLT, Nat.reduceLeDiff, Nat.reduceEqDiff]) <;> trivial, [some 0, some 1], ?_⟩
    all_goals try simp only [go_sem, ↓reduceIte, reduceCtorEq, Nat.reduceAdd, Nat.reduceLT, Nat.reduceLeDiff, Nat.reduceEqDiff, Int.reduceEq, TC.val.injEq, Value.bool.injEq, Value.int.injEq, Value.string.injEq, TV.one.injEq]
    all_goals (repeat' apply And.intro) <;> try first | rfl | trivial | omega | (rw [wrap_id] <;> omega)
  · simp [no] at hp
def txts : List ByteArray := [⟨#[97]⟩, ⟨#[98]⟩, ⟨#[32]⟩, ⟨#[58]⟩, ⟨#[10]⟩, ⟨#[49, 50]⟩, ⟨#[255]⟩, ⟨#[0]⟩, ⟨#[120, 121, 122]⟩]
theorem at_size {xs : List ByteArray} {m : Nat} (h : ∀ s ∈ xs, s.size ≤ m) (i : Nat) : (ET.str.at xs i).size ≤ m := by
  unfold ET.at
  rcases Nat.lt_or_ge i xs.length with hi | hi
  · rw [List.getD_eq_getElem?_getD, List.getElem?_eq_getElem hi]; exact h _ (List.getElem_mem hi)
  · rw [List.getD_eq_getElem?_getD, List.getElem?_eq_none hi]; exact Nat.zero_le _
theorem txts_size (i : Nat) : (ET.str.at txts i).size ≤ 3 := at_size (by decide) i
def l1T (bs : List UInt8) : Nat → Int → ByteArray → ByteArray
  | 0, _, out => out
  | i + 1, p, out => l1T bs i (p + 1) (out ++ ET.str.at txts (pickV bs p 9).toNat)
theorem l1T_size (bs : List UInt8) : ∀ (i : Nat) (p : Int) (out : ByteArray), (l1T bs i p out).size ≤ out.size + 3 * i
  | 0, p, out => by simp [l1T]
  | i + 1, p, out => by
    have h1 := l1T_size bs i (p + 1) (out ++ ET.str.at txts (pickV bs p 9).toNat)
    have h2 := txts_size (pickV bs p 9).toNat
    rw [ByteArray.size_append] at h1
    unfold l1T; omega
/-- A text that is drawn, and where the reader goes on. -/
def textV (bs : List UInt8) (p : Int) : ByteArray := l1T bs (pickV bs p 7).toNat (p + 1) ⟨#[]⟩
def textP (bs : List UInt8) (p : Int) : Int := p + 1 + pickV bs p 7
theorem textV_size (bs : List UInt8) (p : Int) (h : rdOk bs p) : (textV bs p).size ≤ 18 := by
  have h1 := pickV_in bs p 7 h.1 (by have := h.2.1; omega) (by omega)
  have h2 := l1T_size bs (pickV bs p 7).toNat (p + 1) ⟨#[]⟩
  have h3 : (⟨#[]⟩ : ByteArray).size = 0 := rfl
  unfold textV; omega
theorem textP_in (bs : List UInt8) (p : Int) (h : rdOk bs p) : p + 1 ≤ textP bs p ∧ textP bs p ≤ p + 7 := by
  have h1 := pickV_in bs p 7 h.1 (by have := h.2.1; omega) (by omega)
  unfold textP; omega
@[go_sem] def ctText : Ct := ⟨true, [], fun args os => match args, os with
  | [.one (.ptr 0 0)], [.cells [.isl .byte bs, .val (.int .i64 p)]] => ⟨rdOk bs p, vs (textV bs p), [(0, some (rdO bs (textP bs p)))], []⟩
  | _, _ => no⟩
@[go_sem] def sgText (bs : List UInt8) (p : Int) (i : Nat) (out : ByteArray) : Sg := ⟨[(0, .one (.ptr 0 0)), (3, vs out), (4, vi i)], [some (rdO bs p)], [0]⟩
theorem s_text_e : EnterOk Try.prog 47 := ⟨_, Try.func47, rfl, by decide⟩
@[go_sem] def s_text_lv : List (List Nat) := [[0], [0, 3], [0, 3, 4], [0, 3, 4, 8], [0, 3, 4], [0, 3, 4], [2]]
@[go_sem] noncomputable def s_text_K : Known := ((Known.nil).cons 35 ctPick s_pick s_pick_e).cons 61 ctOf s_of s_of_e
set_option maxHeartbeats 8000000 in
theorem s_text : Sound Try.prog 47 ctText := by
  refine sound_intro (E := ⟨ti, s_text_K.Γ, []⟩) (s_text_K.env []) Try.func47 Try.ntmps47 rfl (rs := [.tmp 2]) rfl ?_
  intro args os hp
  unfold ctText at hp ⊢
  dsimp only at hp ⊢
  split at hp
  · rename_i bs p
    refine ⟨by simp, fun φ0 w0 => ?_⟩
    have hr : rdOk bs p := hp
    obtain ⟨h1, h2, h3⟩ := hr
    have h7 := pickV_in bs p 7 h1 (by omega) (by omega)
    have hT : textP bs p = p + 1 + pickV bs p 7 := rfl
    have hV : textV bs p = l1T bs (pickV bs p 7).toNat (p + 1) ⟨#[]⟩ := rfl
    repeat' first
      | refine W_seq ?_
      | (refine W_reg (s_text_K.env []) s_text_lv fun K' hK' => ?_
         simp only [go_sem, ↓reduceIte, ↓reduceDIte, reduceCtorEq, Nat.reduceAdd, Nat.reduceMul, Nat.reduceSub, Nat.reduceLT, Nat.reduceLeDiff, Nat.reduceEqDiff, Nat.reduceBEq, Int.reduceToNat, Int.reduceLE, Int.reduceLT, Int.reduceEq, Int.reduceNe, Int.reduceNeg]
         (repeat' apply And.intro) <;> try first | ((with_reducible refine hK' _ ?_ ?_ ?_); rotate_left; (simp only [go_sem, pr, keepSl, ↓reduceIte, Nat.reduceEqDiff]; try rfl); clear hK' K') | (clear hK' K'; first | omega | (with_reducible refine drawOk_k ?_; kernel_rfl) | assumption | refine Eq.refl _ | exact fun h => ⟨h, fun k => ⟨h, k⟩⟩ | (intro _; (repeat' apply And.intro) <;> first | omega | assumption) | skip))
      | with_reducible first | refine W_skip ?_ | refine W_exit ?_ | refine W_ret ?_ | refine W_block ?_ | refine thenG_n ?_ | refine thenG_x ?_ | refine thenG_r ?_ | refine blockG_n ?_ | refine blockG_r ?_ | refine blockG_x ?_ | refine blockG_o (by decide) ?_
    refine W_le (σ' := sgText bs (p + 1) (pickV bs p 7).toNat ⟨#[]⟩) [some 0] (by
      simp only [go_sem, ↓reduceIte, reduceCtorEq, Nat.reduceAdd, Nat.reduceLT, Nat.reduceLeDiff, Nat.reduceEqDiff, Int.reduceEq, TC.val.injEq, Value.bool.injEq, Value.int.injEq, Value.string.injEq, TV.one.injEq]
      all_goals (repeat' apply And.intro) <;> try first | rfl | trivial | omega | (rw [wrap_id] <;> omega)
      ) ?_
    refine W_loop (fun n σ => ∃ (i : Nat) (q : Int) (out : ByteArray), n = i ∧ i ≤ 6 ∧ out.size ≤ 3 * (6 - i) ∧ 0 ≤ q ∧ q + i = textP bs p ∧ l1T bs i q out = textV bs p ∧ σ = sgText bs q i out) (pickV bs p 7).toNat ⟨_, _, _, rfl, by omega, Nat.zero_le _, by omega, by omega, hV.symm, rfl⟩ ?_
    rintro n σ ⟨i, q, out, rfl, hi, ho, hq, hqi, hl, rfl⟩
    unfold sgText
    repeat' first
      | refine W_seq ?_
      | (refine W_reg (s_text_K.env []) s_text_lv fun K' hK' => ?_
         simp only [go_sem, ↓reduceIte, ↓reduceDIte, reduceCtorEq, Nat.reduceAdd, Nat.reduceMul, Nat.reduceSub, Nat.reduceLT, Nat.reduceLeDiff, Nat.reduceEqDiff, Nat.reduceBEq, Int.reduceToNat, Int.reduceLE, Int.reduceLT, Int.reduceEq, Int.reduceNe, Int.reduceNeg]
         (repeat' apply And.intro) <;> try first | ((with_reducible refine hK' _ ?_ ?_ ?_); rotate_left; (simp only [go_sem, pr, keepSl, ↓reduceIte, Nat.reduceEqDiff]; try rfl); clear hK' K') | (clear hK' K'; first | omega | (with_reducible refine drawOk_k ?_; kernel_rfl) | assumption | refine Eq.refl _ | exact fun h => ⟨h, fun k => ⟨h, k⟩⟩ | (intro _; (repeat' apply And.intro) <;> first | omega | assumption) | skip))
      | with_reducible first | refine W_skip ?_ | refine W_exit ?_ | refine W_ret ?_ | refine W_block ?_ | refine thenG_n ?_ | refine thenG_x ?_ | refine thenG_r ?_ | refine blockG_n ?_ | refine blockG_r ?_ | refine blockG_x ?_ | refine blockG_o (by decide) ?_
    refine W_cond _ (by exact rfl) (by exact trivial) ?_ ?_ <;> (try simp only [Bool.if_true_left, Bool.if_false_right, Bool.if_true_right, Bool.if_false_left, Bool.decide_eq_true, Bool.or_assoc, Bool.and_assoc, Bool.and_true, Bool.or_false, Bool.true_and, Bool.false_or, decide_eq_true_eq, decide_eq_false_iff_not, not_and, not_or, Classical.not_not, Bool.and_eq_true, Bool.or_eq_true, Bool.not_eq_true', Bool.not_eq_false', Bool.or_eq_false_iff, Bool.and_eq_false_iff, bne_iff_ne, ne_eq, beq_iff_eq, bne_eq_false_iff_eq, same_true, same_false, Int.ofNat_inj]) <;> intro hlt
    · obtain ⟨j, rfl⟩ : ∃ j, n = j + 1 := ⟨n - 1, by omega⟩
      have h9 := pickV_in bs q 9 hq (by omega) (by omega)
      have ht := txts_size (pickV bs q 9).toNat
      simp only [ET.at, txts] at ht
      repeat' first
        | refine W_seq ?_
        | (refine W_reg (s_text_K.env []) s_text_lv fun K' hK' => ?_
           simp only [go_sem, ↓reduceIte, ↓reduceDIte, reduceCtorEq, Nat.reduceAdd, Nat.reduceMul, Nat.reduceSub, Nat.reduceLT, Nat.reduceLeDiff, Nat.reduceEqDiff, Nat.reduceBEq, Int.reduceToNat, Int.reduceLE, Int.reduceLT, Int.reduceEq, Int.reduceNe, Int.reduceNeg]
           (repeat' apply And.intro) <;> try first | ((with_reducible refine hK' _ ?_ ?_ ?_); rotate_left; (simp only [go_sem, pr, keepSl, ↓reduceIte, Nat.reduceEqDiff]; try rfl); clear hK' K') | (clear hK' K'; first | omega | (with_reducible refine drawOk_k ?_; kernel_rfl) | assumption | refine Eq.refl _ | exact fun h => ⟨h, fun k => ⟨h, k⟩⟩ | (intro _; (repeat' apply And.intro) <;> first | omega | assumption) | skip))
        | with_reducible first | refine W_skip ?_ | refine W_exit ?_ | refine W_ret ?_ | refine W_block ?_ | refine thenG_n ?_ | refine thenG_x ?_ | refine thenG_r ?_ | refine blockG_n ?_ | refine blockG_r ?_ | refine blockG_x ?_ | refine blockG_o (by decide) ?_
      refine ⟨j, [some 0], sgText bs (q + 1) j (out ++ ET.str.at txts (pickV bs q 9).toNat), by omega, ?_, j, q + 1, _, rfl, by omega, ?_, by omega, by omega, hl, rfl⟩
      · simp only [go_sem, ↓reduceIte, reduceCtorEq, Nat.reduceAdd, Nat.reduceLT, Nat.reduceLeDiff, Nat.reduceEqDiff, Int.reduceEq, TC.val.injEq, Value.bool.injEq, Value.int.injEq, Value.string.injEq, TV.one.injEq]
        all_goals (repeat' apply And.intro) <;> try first | rfl | trivial | omega | (rw [wrap_id] <;> omega)
      · simp only [ET.at, txts, ByteArray.size_append]; omega
    · repeat' first
        | refine W_seq ?_
        | (refine W_reg (s_text_K.env []) s_text_lv fun K' hK' => ?_
           simp only [go_sem, ↓reduceIte, ↓reduceDIte, reduceCtorEq, Nat.reduceAdd, Nat.reduceMul, Nat.reduceSub, Nat.reduceLT, Nat.reduceLeDiff, Nat.reduceEqDiff, Nat.reduceBEq, Int.reduceToNat, Int.reduceLE, Int.reduceLT, Int.reduceEq, Int.reduceNe, Int.reduceNeg]
           (repeat' apply And.intro) <;> try first | ((with_reducible refine hK' _ ?_ ?_ ?_); rotate_left; (simp only [go_sem, pr, keepSl, ↓reduceIte, Nat.reduceEqDiff]; try rfl); clear hK' K') | (clear hK' K'; first | omega | (with_reducible refine drawOk_k ?_; kernel_rfl) | assumption | refine Eq.refl _ | exact fun h => ⟨h, fun k => ⟨h, k⟩⟩ | (intro _; (repeat' apply And.intro) <;> first | omega | assumption) | skip))
        | with_reducible first | refine W_skip ?_ | refine W_exit ?_ | refine W_ret ?_ | refine W_block ?_ | refine thenG_n ?_ | refine thenG_x ?_ | refine thenG_r ?_ | refine blockG_n ?_ | refine blockG_r ?_ | refine blockG_x ?_ | refine blockG_o (by decide) ?_
      refine ⟨by (simp only [go_sem, ↓reduceIte, reduceCtorEq, Nat.reduceAdd, Nat.reduceLT, Nat.reduceLeDiff, Nat.reduceEqDiff]) <;> trivial, [some 0], ?_⟩
      all_goals try simp only [go_sem, ↓reduceIte, reduceCtorEq, Nat.reduceAdd, Nat.reduceLT, Nat.reduceLeDiff, Nat.reduceEqDiff, Int.reduceEq, TC.val.injEq, Value.bool.injEq, Value.int.injEq, Value.string.injEq, TV.one.injEq]
      all_goals (repeat' apply And.intro) <;> try first | rfl | trivial | omega | (rw [wrap_id] <;> omega)
      · have : n = 0 := by omega
        subst this
        exact hl
  · simp [no] at hp
def fates : List Int := [0, 1, 1, 1, 2, 3]
def l2F (bs : List UInt8) : Nat → Int → List Int → List Int
  | 0, _, out => out
  | i + 1, p, out => l2F bs i (p + 1) (out ++ [ET.int.at fates (pickV bs p 6).toNat])
theorem l2F_len (bs : List UInt8) : ∀ (i : Nat) (p : Int) (out : List Int), (l2F bs i p out).length = out.length + i
  | 0, p, out => by simp [l2F]
  | i + 1, p, out => by
    have h1 := l2F_len bs i (p + 1) (out ++ [ET.int.at fates (pickV bs p 6).toNat])
    rw [List.length_append] at h1
    simp only [List.length_cons, List.length_nil] at h1
    unfold l2F; omega
/-- What becomes of writes, as it is drawn. -/
def fateV (bs : List UInt8) (p : Int) : List Int := l2F bs (pickV bs p 16).toNat (p + 1) []
def fateP (bs : List UInt8) (p : Int) : Int := p + 1 + pickV bs p 16
theorem fateV_len (bs : List UInt8) (p : Int) (h : rdOk bs p) : (fateV bs p).length ≤ 15 := by
  have h1 := pickV_in bs p 16 h.1 (by have := h.2.1; omega) (by omega)
  unfold fateV; rw [l2F_len]; simp only [List.length_nil]; omega
theorem fateP_in (bs : List UInt8) (p : Int) (h : rdOk bs p) : p + 1 ≤ fateP bs p ∧ fateP bs p ≤ p + 16 := by
  have h1 := pickV_in bs p 16 h.1 (by have := h.2.1; omega) (by omega)
  unfold fateP; omega
@[go_sem] def ctFate : Ct := ⟨true, [], fun args os => match args, os with
  | [.one (.ptr 0 0)], [.cells [.isl .byte bs, .val (.int .i64 p)]] => ⟨rdOk bs p, .one (.osl .int 1 0 (fateV bs p).length), [(0, some (rdO bs (fateP bs p)))], [.arr .int (fateV bs p)]⟩
  | _, _ => no⟩
@[go_sem] def sgFate (bs : List UInt8) (p : Int) (i : Nat) (out : List Int) : Sg := ⟨[(0, .one (.ptr 0 0)), (3, .one (.osl .int 1 0 out.length)), (4, vi i)], [some (rdO bs p), some (.arr .int out)], [0]⟩
theorem s_fate_e : EnterOk Try.prog 43 := ⟨_, Try.func43, rfl, by decide⟩
@[go_sem] def s_fate_lv : List (List Nat) := [[0], [0, 3], [0, 3, 4], [0, 3, 4, 9], [0, 3, 4], [0, 3, 4], [2]]
@[go_sem] noncomputable def s_fate_K : Known := ((Known.nil).cons 35 ctPick s_pick s_pick_e).cons 34 ctNum s_num s_num_e
set_option maxHeartbeats 8000000 in
theorem s_fate : Sound Try.prog 43 ctFate := by
  refine sound_intro (E := ⟨ti, s_fate_K.Γ, []⟩) (s_fate_K.env []) Try.func43 Try.ntmps43 rfl (rs := [.tmp 2]) rfl ?_
  intro args os hp
  unfold ctFate at hp ⊢
  dsimp only at hp ⊢
  split at hp
  · rename_i bs p
    refine ⟨by simp, fun φ0 w0 => ?_⟩
    have hr : rdOk bs p := hp
    obtain ⟨h1, h2, h3⟩ := hr
    have h7 := pickV_in bs p 16 h1 (by omega) (by omega)
    have hT : fateP bs p = p + 1 + pickV bs p 16 := rfl
    have hV : fateV bs p = l2F bs (pickV bs p 16).toNat (p + 1) [] := rfl
    repeat' first
      | refine W_seq ?_
      | (refine W_reg (s_fate_K.env []) s_fate_lv fun K' hK' => ?_
         simp only [go_sem, ↓reduceIte, ↓reduceDIte, reduceCtorEq, Nat.reduceAdd, Nat.reduceMul, Nat.reduceSub, Nat.reduceLT, Nat.reduceLeDiff, Nat.reduceEqDiff, Nat.reduceBEq, Int.reduceToNat, Int.reduceLE, Int.reduceLT, Int.reduceEq, Int.reduceNe, Int.reduceNeg]
         (repeat' apply And.intro) <;> try first | ((with_reducible refine hK' _ ?_ ?_ ?_); rotate_left; (simp only [go_sem, pr, keepSl, ↓reduceIte, Nat.reduceEqDiff]; try rfl); clear hK' K') | (clear hK' K'; first | omega | (with_reducible refine drawOk_k ?_; kernel_rfl) | assumption | refine Eq.refl _ | exact fun h => ⟨h, fun k => ⟨h, k⟩⟩ | (intro _; (repeat' apply And.intro) <;> first | omega | assumption) | skip))
      | with_reducible first | refine W_skip ?_ | refine W_exit ?_ | refine W_ret ?_ | refine W_block ?_ | refine thenG_n ?_ | refine thenG_x ?_ | refine thenG_r ?_ | refine blockG_n ?_ | refine blockG_r ?_ | refine blockG_x ?_ | refine blockG_o (by decide) ?_
    refine W_le (σ' := sgFate bs (p + 1) (pickV bs p 16).toNat []) [some 0, some 1] (by
      simp only [go_sem, ↓reduceIte, reduceCtorEq, Nat.reduceAdd, Nat.reduceLT, Nat.reduceLeDiff, Nat.reduceEqDiff, Int.reduceEq, TC.val.injEq, Value.bool.injEq, Value.int.injEq, Value.string.injEq, TV.one.injEq]
      all_goals (repeat' apply And.intro) <;> try first | rfl | trivial | omega | (rw [wrap_id] <;> omega)
      ) ?_
    refine W_loop (fun n σ => ∃ (i : Nat) (q : Int) (out : List Int), n = i ∧ i ≤ 15 ∧ out.length ≤ 15 - i ∧ 0 ≤ q ∧ q + i = fateP bs p ∧ l2F bs i q out = fateV bs p ∧ σ = sgFate bs q i out) (pickV bs p 16).toNat ⟨_, _, _, rfl, by omega, Nat.zero_le _, by omega, by omega, hV.symm, rfl⟩ ?_
    rintro n σ ⟨i, q, out, rfl, hi, ho, hq, hqi, hl, rfl⟩
    unfold sgFate
    repeat' first
      | refine W_seq ?_
      | (refine W_reg (s_fate_K.env []) s_fate_lv fun K' hK' => ?_
         simp only [go_sem, ↓reduceIte, ↓reduceDIte, reduceCtorEq, Nat.reduceAdd, Nat.reduceMul, Nat.reduceSub, Nat.reduceLT, Nat.reduceLeDiff, Nat.reduceEqDiff, Nat.reduceBEq, Int.reduceToNat, Int.reduceLE, Int.reduceLT, Int.reduceEq, Int.reduceNe, Int.reduceNeg]
         (repeat' apply And.intro) <;> try first | ((with_reducible refine hK' _ ?_ ?_ ?_); rotate_left; (simp only [go_sem, pr, keepSl, ↓reduceIte, Nat.reduceEqDiff]; try rfl); clear hK' K') | (clear hK' K'; first | omega | (with_reducible refine drawOk_k ?_; kernel_rfl) | assumption | refine Eq.refl _ | exact fun h => ⟨h, fun k => ⟨h, k⟩⟩ | (intro _; (repeat' apply And.intro) <;> first | omega | assumption) | skip))
      | with_reducible first | refine W_skip ?_ | refine W_exit ?_ | refine W_ret ?_ | refine W_block ?_ | refine thenG_n ?_ | refine thenG_x ?_ | refine thenG_r ?_ | refine blockG_n ?_ | refine blockG_r ?_ | refine blockG_x ?_ | refine blockG_o (by decide) ?_
    refine W_cond _ (by exact rfl) (by exact trivial) ?_ ?_ <;> (try simp only [Bool.if_true_left, Bool.if_false_right, Bool.if_true_right, Bool.if_false_left, Bool.decide_eq_true, Bool.or_assoc, Bool.and_assoc, Bool.and_true, Bool.or_false, Bool.true_and, Bool.false_or, decide_eq_true_eq, decide_eq_false_iff_not, not_and, not_or, Classical.not_not, Bool.and_eq_true, Bool.or_eq_true, Bool.not_eq_true', Bool.not_eq_false', Bool.or_eq_false_iff, Bool.and_eq_false_iff, bne_iff_ne, ne_eq, beq_iff_eq, bne_eq_false_iff_eq, same_true, same_false, Int.ofNat_inj]) <;> intro hlt
    · obtain ⟨j, rfl⟩ : ∃ j, n = j + 1 := ⟨n - 1, by omega⟩
      have h9 := pickV_in bs q 6 hq (by omega) (by omega)
      repeat' first
        | refine W_seq ?_
        | (refine W_reg (s_fate_K.env []) s_fate_lv fun K' hK' => ?_
           simp only [go_sem, ↓reduceIte, ↓reduceDIte, reduceCtorEq, Nat.reduceAdd, Nat.reduceMul, Nat.reduceSub, Nat.reduceLT, Nat.reduceLeDiff, Nat.reduceEqDiff, Nat.reduceBEq, Int.reduceToNat, Int.reduceLE, Int.reduceLT, Int.reduceEq, Int.reduceNe, Int.reduceNeg]
           (repeat' apply And.intro) <;> try first | ((with_reducible refine hK' _ ?_ ?_ ?_); rotate_left; (simp only [go_sem, pr, keepSl, ↓reduceIte, Nat.reduceEqDiff]; try rfl); clear hK' K') | (clear hK' K'; first | omega | (with_reducible refine drawOk_k ?_; kernel_rfl) | assumption | refine Eq.refl _ | exact fun h => ⟨h, fun k => ⟨h, k⟩⟩ | (intro _; (repeat' apply And.intro) <;> first | omega | assumption) | skip))
        | with_reducible first | refine W_skip ?_ | refine W_exit ?_ | refine W_ret ?_ | refine W_block ?_ | refine thenG_n ?_ | refine thenG_x ?_ | refine thenG_r ?_ | refine blockG_n ?_ | refine blockG_r ?_ | refine blockG_x ?_ | refine blockG_o (by decide) ?_
      refine ⟨j, [some 0, some 4], sgFate bs (q + 1) j (out ++ [ET.int.at fates (pickV bs q 6).toNat]), by omega, ?_, j, q + 1, _, rfl, by omega, ?_, by omega, by omega, hl, rfl⟩
      · simp only [go_sem, ↓reduceIte, reduceCtorEq, Nat.reduceAdd, Nat.reduceLT, Nat.reduceLeDiff, Nat.reduceEqDiff, Int.reduceEq, TC.val.injEq, Value.bool.injEq, Value.int.injEq, Value.string.injEq, TV.one.injEq]
        all_goals (repeat' apply And.intro) <;> try first | rfl | trivial | omega | (rw [wrap_id] <;> omega)
      · simp only [List.length_append, List.length_cons, List.length_nil]; omega
    · repeat' first
        | refine W_seq ?_
        | (refine W_reg (s_fate_K.env []) s_fate_lv fun K' hK' => ?_
           simp only [go_sem, ↓reduceIte, ↓reduceDIte, reduceCtorEq, Nat.reduceAdd, Nat.reduceMul, Nat.reduceSub, Nat.reduceLT, Nat.reduceLeDiff, Nat.reduceEqDiff, Nat.reduceBEq, Int.reduceToNat, Int.reduceLE, Int.reduceLT, Int.reduceEq, Int.reduceNe, Int.reduceNeg]
           (repeat' apply And.intro) <;> try first | ((with_reducible refine hK' _ ?_ ?_ ?_); rotate_left; (simp only [go_sem, pr, keepSl, ↓reduceIte, Nat.reduceEqDiff]; try rfl); clear hK' K') | (clear hK' K'; first | omega | (with_reducible refine drawOk_k ?_; kernel_rfl) | assumption | refine Eq.refl _ | exact fun h => ⟨h, fun k => ⟨h, k⟩⟩ | (intro _; (repeat' apply And.intro) <;> first | omega | assumption) | skip))
        | with_reducible first | refine W_skip ?_ | refine W_exit ?_ | refine W_ret ?_ | refine W_block ?_ | refine thenG_n ?_ | refine thenG_x ?_ | refine thenG_r ?_ | refine blockG_n ?_ | refine blockG_r ?_ | refine blockG_x ?_ | refine blockG_o (by decide) ?_
      have : n = 0 := by omega
      subst this
      have hl : out = fateV bs p := hl
      subst hl
      refine ⟨by (simp only [go_sem, ↓reduceIte, reduceCtorEq, Nat.reduceAdd, Nat.reduceLT, Nat.reduceLeDiff, Nat.reduceEqDiff]) <;> trivial, [some 0, some 1], ?_⟩
      all_goals try simp only [go_sem, ↓reduceIte, reduceCtorEq, Nat.reduceAdd, Nat.reduceLT, Nat.reduceLeDiff, Nat.reduceEqDiff, Int.reduceEq, TC.val.injEq, Value.bool.injEq, Value.int.injEq, Value.string.injEq, TV.one.injEq]
      all_goals (repeat' apply And.intro) <;> try first | rfl | trivial | omega | (rw [wrap_id] <;> omega)
  · simp [no] at hp
/-- A text n times. -/
def manyL : Nat → ByteArray → Nat → ByteArray → ByteArray
  | 0, _, _, out => out
  | f + 1, s, n, out => if n = 0 then out else manyL f (s ++ s) (n / 2) (if n % 2 = 1 then out ++ s else out)
theorem manyL_size : ∀ (f : Nat) (s : ByteArray) (n : Nat) (out : ByteArray), n < 2 ^ f → (manyL f s n out).size = out.size + n * s.size
  | 0, s, n, out, h => by
    have : n = 0 := by simp at h; exact h
    subst this; simp [manyL]
  | f + 1, s, n, out, h => by
    unfold manyL
    split
    · rename_i h0; subst h0; simp
    · rw [manyL_size f _ _ _ (by rw [Nat.pow_succ] at h; omega), ByteArray.size_append]
      have e : n * s.size = (n / 2) * (s.size + s.size) + (n % 2) * s.size := by
        have : n = 2 * (n / 2) + n % 2 := by omega
        rw [Nat.mul_add, ← Nat.add_mul, ← Nat.add_mul]; congr 1; omega
      split
      · rename_i h1; rw [e, h1, ByteArray.size_append]; omega
      · rename_i h1
        have : n % 2 = 0 := by omega
        rw [e, this]; omega
theorem manyL_enough : ∀ (f : Nat) (s : ByteArray) (n : Nat) (out : ByteArray), n < 2 ^ f → manyL (f + 1) s n out = manyL f s n out
  | 0, s, n, out, h => by
    have : n = 0 := by simp at h; exact h
    subst this; simp [manyL]
  | f + 1, s, n, out, h => by
    have h2 : n / 2 < 2 ^ f := by rw [Nat.pow_succ] at h; omega
    conv => lhs; unfold manyL
    conv => rhs; unfold manyL
    rw [manyL_enough f _ _ _ h2]
def many (s : ByteArray) (n : Nat) : ByteArray := manyL 10 s n ⟨#[]⟩
theorem many_size (s : ByteArray) (n : Nat) (h : n ≤ 1000) : (many s n).size = n * s.size := by
  unfold many; rw [manyL_size _ _ _ _ (by omega)]; exact Nat.zero_add _
theorem manyL_step (s : ByteArray) (n : Nat) (out : ByteArray) (h : n ≤ 1000) (h0 : n ≠ 0) : manyL 10 s n out = manyL 10 (s ++ s) (n / 2) (if n % 2 = 1 then out ++ s else out) := by
  conv => lhs; unfold manyL
  rw [if_neg h0, ← manyL_enough 9 _ _ _ (by omega)]
@[go_sem] def ctMany : Ct := ⟨false, [], fun args os => match args, os with
  | [.one (.val (.string s)), .one (.val (.int .i64 n))], [] => ifp (0 ≤ n ∧ n ≤ 1000 ∧ s.size ≤ 100) (vs (many s n.toNat))
  | _, _ => no⟩
@[go_sem] def sgMany (s : ByteArray) (n : Nat) (out : ByteArray) : Sg := ⟨[(0, vs s), (1, vi n), (5, vs out)], [], []⟩
theorem s_many_e : EnterOk Try.prog 46 := ⟨_, Try.func46, rfl, by decide⟩
@[go_sem] def s_many_lv : List (List Nat) := [[0, 1], [0, 1, 5], [0, 1, 5, 7], [0, 1, 5, 10], [0, 1, 5], [0, 1, 5], [0, 1, 5], [4]]
@[go_sem] noncomputable def s_many_K : Known := Known.nil
set_option maxHeartbeats 8000000 in
theorem s_many : Sound Try.prog 46 ctMany := by
  refine sound_intro (E := ⟨ti, s_many_K.Γ, []⟩) (s_many_K.env []) Try.func46 Try.ntmps46 rfl (rs := [.tmp 4]) rfl ?_
  intro args os hp
  unfold ctMany at hp ⊢
  dsimp only at hp ⊢
  split at hp
  · rename_i s0 n0
    refine ⟨by simp, fun φ0 w0 => ?_⟩
    obtain ⟨h1, h2, h3⟩ : 0 ≤ n0 ∧ n0 ≤ 1000 ∧ s0.size ≤ 100 := hp
    obtain ⟨n0, rfl⟩ := Int.eq_ofNat_of_zero_le h1
    have hb : n0 * s0.size ≤ 100000 := Nat.mul_le_mul (show n0 ≤ 1000 by omega) h3
    have hn0 : (n0 : Int).toNat = n0 := Int.toNat_natCast n0
    repeat' first
      | refine W_seq ?_
      | (refine W_reg (s_many_K.env []) s_many_lv fun K' hK' => ?_
         simp only [go_sem, ↓reduceIte, ↓reduceDIte, reduceCtorEq, Nat.reduceAdd, Nat.reduceMul, Nat.reduceSub, Nat.reduceLT, Nat.reduceLeDiff, Nat.reduceEqDiff, Nat.reduceBEq, Int.reduceToNat, Int.reduceLE, Int.reduceLT, Int.reduceEq, Int.reduceNe, Int.reduceNeg]
         (repeat' apply And.intro) <;> try first | ((with_reducible refine hK' _ ?_ ?_ ?_); rotate_left; (simp only [go_sem, pr, keepSl, ↓reduceIte, Nat.reduceEqDiff]; try rfl); clear hK' K') | (clear hK' K'; first | omega | (with_reducible refine drawOk_k ?_; kernel_rfl) | assumption | refine Eq.refl _ | exact fun h => ⟨h, fun k => ⟨h, k⟩⟩ | (intro _; (repeat' apply And.intro) <;> first | omega | assumption) | skip))
      | with_reducible first | refine W_skip ?_ | refine W_exit ?_ | refine W_ret ?_ | refine W_block ?_ | refine thenG_n ?_ | refine thenG_x ?_ | refine thenG_r ?_ | refine blockG_n ?_ | refine blockG_r ?_ | refine blockG_x ?_ | refine blockG_o (by decide) ?_
    refine W_le (σ' := sgMany s0 n0 ⟨#[]⟩) [] (by
      simp only [go_sem, ↓reduceIte, reduceCtorEq, Nat.reduceAdd, Nat.reduceLT, Nat.reduceLeDiff, Nat.reduceEqDiff, Int.reduceEq, TC.val.injEq, Value.bool.injEq, Value.int.injEq, Value.string.injEq, TV.one.injEq]
      all_goals (repeat' apply And.intro) <;> try first | rfl | trivial | omega | (rw [wrap_id] <;> omega)
      ) ?_
    refine W_loop (fun n σ => ∃ (s : ByteArray) (i : Nat) (out : ByteArray), n = i ∧ i ≤ 1000 ∧ out.size + i * s.size ≤ 100000 ∧ s.size ≤ 200000 ∧ manyL 10 s i out = many s0 n0 ∧ σ = sgMany s i out) n0 ⟨_, _, _, rfl, by omega, by rw [show (⟨#[]⟩ : ByteArray).size = 0 from rfl]; omega, by omega, rfl, rfl⟩ ?_
    rintro n σ ⟨s, i, out, rfl, hi, ho, hs, hm, rfl⟩
    unfold sgMany
    repeat' first
      | refine W_seq ?_
      | (refine W_reg (s_many_K.env []) s_many_lv fun K' hK' => ?_
         simp only [go_sem, ↓reduceIte, ↓reduceDIte, reduceCtorEq, Nat.reduceAdd, Nat.reduceMul, Nat.reduceSub, Nat.reduceLT, Nat.reduceLeDiff, Nat.reduceEqDiff, Nat.reduceBEq, Int.reduceToNat, Int.reduceLE, Int.reduceLT, Int.reduceEq, Int.reduceNe, Int.reduceNeg]
         (repeat' apply And.intro) <;> try first | ((with_reducible refine hK' _ ?_ ?_ ?_); rotate_left; (simp only [go_sem, pr, keepSl, ↓reduceIte, Nat.reduceEqDiff]; try rfl); clear hK' K') | (clear hK' K'; first | omega | (with_reducible refine drawOk_k ?_; kernel_rfl) | assumption | refine Eq.refl _ | exact fun h => ⟨h, fun k => ⟨h, k⟩⟩ | (intro _; (repeat' apply And.intro) <;> first | omega | assumption) | skip))
      | with_reducible first | refine W_skip ?_ | refine W_exit ?_ | refine W_ret ?_ | refine W_block ?_ | refine thenG_n ?_ | refine thenG_x ?_ | refine thenG_r ?_ | refine blockG_n ?_ | refine blockG_r ?_ | refine blockG_x ?_ | refine blockG_o (by decide) ?_
    refine W_cond _ (by exact rfl) (by exact trivial) ?_ ?_ <;> (try simp only [Bool.if_true_left, Bool.if_false_right, Bool.if_true_right, Bool.if_false_left, Bool.decide_eq_true, Bool.or_assoc, Bool.and_assoc, Bool.and_true, Bool.or_false, Bool.true_and, Bool.false_or, decide_eq_true_eq, decide_eq_false_iff_not, not_and, not_or, Classical.not_not, Bool.and_eq_true, Bool.or_eq_true, Bool.not_eq_true', Bool.not_eq_false', Bool.or_eq_false_iff, Bool.and_eq_false_iff, bne_iff_ne, ne_eq, beq_iff_eq, bne_eq_false_iff_eq, same_true, same_false, Int.ofNat_inj]) <;> intro hlt
    · have hr : ((n : Int)).tmod 2 = ((n % 2 : Nat) : Int) := (Int.ofNat_tmod _ _).symm
      have hq : IntKind.i64.wrap (((n : Int)).tdiv 2) = ((n / 2 : Nat) : Int) := by
        have : (n : Int).tdiv 2 = ((n / 2 : Nat) : Int) := (Int.ofNat_tdiv _ _).symm
        rw [this]; exact wrap_id _ (by omega) (by omega)
      have hst := manyL_step s n out (by omega) (by omega)
      have hs1 : s.size ≤ 100000 := by have := Nat.mul_le_mul_right s.size (show 1 ≤ n by omega); omega
      have e : n * s.size = (n / 2) * (s.size + s.size) + (n % 2) * s.size := by
        have : n = 2 * (n / 2) + n % 2 := by omega
        rw [Nat.mul_add, ← Nat.add_mul, ← Nat.add_mul]; congr 1; omega
      repeat' first
        | refine W_seq ?_
        | (refine W_reg (s_many_K.env []) s_many_lv fun K' hK' => ?_
           simp only [go_sem, hr, ↓reduceIte, ↓reduceDIte, reduceCtorEq, Nat.reduceAdd, Nat.reduceMul, Nat.reduceSub, Nat.reduceLT, Nat.reduceLeDiff, Nat.reduceEqDiff, Nat.reduceBEq, Int.reduceToNat, Int.reduceLE, Int.reduceLT, Int.reduceEq, Int.reduceNe, Int.reduceNeg]
           (repeat' apply And.intro) <;> try first | ((with_reducible refine hK' _ ?_ ?_ ?_); rotate_left; (simp only [go_sem, hr, pr, keepSl, ↓reduceIte, Nat.reduceEqDiff]; try rfl); clear hK' K') | (clear hK' K'; first | omega | (with_reducible refine drawOk_k ?_; kernel_rfl) | assumption | refine Eq.refl _ | exact fun h => ⟨h, fun k => ⟨h, k⟩⟩ | (intro _; (repeat' apply And.intro) <;> first | omega | assumption) | skip))
        | with_reducible first | refine W_skip ?_ | refine W_exit ?_ | refine W_ret ?_ | refine W_block ?_ | refine thenG_n ?_ | refine thenG_x ?_ | refine thenG_r ?_ | refine blockG_n ?_ | refine blockG_r ?_ | refine blockG_x ?_ | refine blockG_o (by decide) ?_
      refine W_cond _ (by exact rfl) (by exact trivial) ?_ ?_ <;> intro hc
      · have h1 : n % 2 = 1 := by simp only [beq_iff_eq] at hc; omega
        rw [if_pos h1] at hst
        rw [h1] at e
        repeat' first
          | refine W_seq ?_
          | (refine W_reg (s_many_K.env []) s_many_lv fun K' hK' => ?_
             simp only [go_sem, hq, ↓reduceIte, ↓reduceDIte, reduceCtorEq, Nat.reduceAdd, Nat.reduceMul, Nat.reduceSub, Nat.reduceLT, Nat.reduceLeDiff, Nat.reduceEqDiff, Nat.reduceBEq, Int.reduceToNat, Int.reduceLE, Int.reduceLT, Int.reduceEq, Int.reduceNe, Int.reduceNeg]
             (repeat' apply And.intro) <;> try first | ((with_reducible refine hK' _ ?_ ?_ ?_); rotate_left; (simp only [go_sem, hq, pr, keepSl, ↓reduceIte, Nat.reduceEqDiff]; try rfl); clear hK' K') | (clear hK' K'; first | omega | (with_reducible refine drawOk_k ?_; kernel_rfl) | assumption | refine Eq.refl _ | exact fun h => ⟨h, fun k => ⟨h, k⟩⟩ | (intro _; (repeat' apply And.intro) <;> first | omega | assumption) | skip))
          | with_reducible first | refine W_skip ?_ | refine W_exit ?_ | refine W_ret ?_ | refine W_block ?_ | refine thenG_n ?_ | refine thenG_x ?_ | refine thenG_r ?_ | refine blockG_n ?_ | refine blockG_r ?_ | refine blockG_x ?_ | refine blockG_o (by decide) ?_
        refine ⟨n / 2, [], sgMany (s ++ s) (n / 2) (out ++ s), by omega, ?_, _, _, _, rfl, by omega, ?_, ?_, hst ▸ hm, rfl⟩
        · simp only [go_sem, ↓reduceIte, reduceCtorEq, Nat.reduceAdd, Nat.reduceLT, Nat.reduceLeDiff, Nat.reduceEqDiff, Int.reduceEq, TC.val.injEq, Value.bool.injEq, Value.int.injEq, Value.string.injEq, TV.one.injEq]
          all_goals (repeat' apply And.intro) <;> try first | rfl | trivial | omega | (rw [wrap_id] <;> omega)
        · rw [ByteArray.size_append, ByteArray.size_append]; omega
        · rw [ByteArray.size_append]; omega
      · have h1 : n % 2 = 0 := by
          have : ¬ (((n % 2 : Nat) : Int) = 1) := by simpa using hc
          omega
        rw [if_neg (by omega)] at hst
        rw [h1] at e
        repeat' first
          | refine W_seq ?_
          | (refine W_reg (s_many_K.env []) s_many_lv fun K' hK' => ?_
             simp only [go_sem, hq, ↓reduceIte, ↓reduceDIte, reduceCtorEq, Nat.reduceAdd, Nat.reduceMul, Nat.reduceSub, Nat.reduceLT, Nat.reduceLeDiff, Nat.reduceEqDiff, Nat.reduceBEq, Int.reduceToNat, Int.reduceLE, Int.reduceLT, Int.reduceEq, Int.reduceNe, Int.reduceNeg]
             (repeat' apply And.intro) <;> try first | ((with_reducible refine hK' _ ?_ ?_ ?_); rotate_left; (simp only [go_sem, hq, pr, keepSl, ↓reduceIte, Nat.reduceEqDiff]; try rfl); clear hK' K') | (clear hK' K'; first | omega | (with_reducible refine drawOk_k ?_; kernel_rfl) | assumption | refine Eq.refl _ | exact fun h => ⟨h, fun k => ⟨h, k⟩⟩ | (intro _; (repeat' apply And.intro) <;> first | omega | assumption) | skip))
          | with_reducible first | refine W_skip ?_ | refine W_exit ?_ | refine W_ret ?_ | refine W_block ?_ | refine thenG_n ?_ | refine thenG_x ?_ | refine thenG_r ?_ | refine blockG_n ?_ | refine blockG_r ?_ | refine blockG_x ?_ | refine blockG_o (by decide) ?_
        refine ⟨n / 2, [], sgMany (s ++ s) (n / 2) out, by omega, ?_, _, _, _, rfl, by omega, ?_, ?_, hst ▸ hm, rfl⟩
        · simp only [go_sem, ↓reduceIte, reduceCtorEq, Nat.reduceAdd, Nat.reduceLT, Nat.reduceLeDiff, Nat.reduceEqDiff, Int.reduceEq, TC.val.injEq, Value.bool.injEq, Value.int.injEq, Value.string.injEq, TV.one.injEq]
          all_goals (repeat' apply And.intro) <;> try first | rfl | trivial | omega | (rw [wrap_id] <;> omega)
        · rw [ByteArray.size_append]; omega
        · rw [ByteArray.size_append]; omega
    · repeat' first
        | refine W_seq ?_
        | (refine W_reg (s_many_K.env []) s_many_lv fun K' hK' => ?_
           simp only [go_sem, ↓reduceIte, ↓reduceDIte, reduceCtorEq, Nat.reduceAdd, Nat.reduceMul, Nat.reduceSub, Nat.reduceLT, Nat.reduceLeDiff, Nat.reduceEqDiff, Nat.reduceBEq, Int.reduceToNat, Int.reduceLE, Int.reduceLT, Int.reduceEq, Int.reduceNe, Int.reduceNeg]
           (repeat' apply And.intro) <;> try first | ((with_reducible refine hK' _ ?_ ?_ ?_); rotate_left; (simp only [go_sem, pr, keepSl, ↓reduceIte, Nat.reduceEqDiff]; try rfl); clear hK' K') | (clear hK' K'; first | omega | (with_reducible refine drawOk_k ?_; kernel_rfl) | assumption | refine Eq.refl _ | exact fun h => ⟨h, fun k => ⟨h, k⟩⟩ | (intro _; (repeat' apply And.intro) <;> first | omega | assumption) | skip))
        | with_reducible first | refine W_skip ?_ | refine W_exit ?_ | refine W_ret ?_ | refine W_block ?_ | refine thenG_n ?_ | refine thenG_x ?_ | refine thenG_r ?_ | refine blockG_n ?_ | refine blockG_r ?_ | refine blockG_x ?_ | refine blockG_o (by decide) ?_
      have : n = 0 := by omega
      subst this
      have hm : out = many s0 n0 := hm
      subst hm
      refine ⟨by (simp only [go_sem, ↓reduceIte, reduceCtorEq, Nat.reduceAdd, Nat.reduceLT, Nat.reduceLeDiff, Nat.reduceEqDiff]) <;> trivial, [], ?_⟩
      all_goals try simp only [go_sem, ↓reduceIte, reduceCtorEq, Nat.reduceAdd, Nat.reduceLT, Nat.reduceLeDiff, Nat.reduceEqDiff, Int.reduceEq, TC.val.injEq, Value.bool.injEq, Value.int.injEq, Value.string.injEq, TV.one.injEq]
      all_goals (repeat' apply And.intro) <;> try first | rfl | trivial | omega | (rw [wrap_id] <;> omega)
  · simp [no, ifp] at hp
end Go.Proofs.Ytjdpppbegjnpaaa
