/- Functions: a disk that is drawn. -/
import Derived.Test.YtjdpppbegjnpaaaTFi
import Derived.Test.YtjdpppbegjnpaaaTFg
set_option linter.unusedSimpArgs false
set_option linter.unusedVariables false
set_option linter.unusedSectionVars false
namespace Go.Proofs.Ytjdpppbegjnpaaa
open Go.RowKit

@[go_sem] theorem Dk.eta (d : Dk) : Dk.mk d.a d.b d.l = d := rfl
def dstep1 (bs : List UInt8) (d : Dk) (p : Int) : Dk := dkWrite d (pickV bs p 2) (pickV bs (p + 1) 6) (textV bs (p + 2))
def dstep (bs : List UInt8) (d : Dk) (p : Int) : Dk × Int :=
  if pickV bs (textP bs (p + 2)) 8 = 0 then (dkFlush (dstep1 bs d p), textP bs (p + 2) + 1)
  else if pickV bs (textP bs (p + 2)) 8 = 1 then (dkFall (dstep1 bs d p) (fateV bs (textP bs (p + 2) + 1)), fateP bs (textP bs (p + 2) + 1))
  else (dstep1 bs d p, textP bs (p + 2) + 1)
def dsteps (bs : List UInt8) : Nat → Dk → Int → Dk × Int
  | 0, d, p => (d, p)
  | i + 1, d, p => dsteps bs i (dstep bs d p).1 (dstep bs d p).2
def bend (bs : List UInt8) (d : Dk) (p : Int) : Dk × Int :=
  if pickV bs p 24 = 0 then (⟨d.a, d.b ++ [⟨#[]⟩], d.l⟩, p + 1)
  else if pickV bs p 24 = 1 then (⟨d.a, d.b, d.l ++ [⟨ET.int.at [-1, 2, 0] (pickV bs (p + 1) 3).toNat, ET.int.at [-1, 6, 0] (pickV bs (p + 2) 3).toNat, ⟨#[]⟩⟩]⟩, p + 3)
  else if pickV bs p 24 = 2 then (⟨[], d.b, d.l⟩, p + 1)
  else (d, p + 1)
def drawDisk0 (bs : List UInt8) (p : Int) : Dk × Int := dsteps bs (pickV bs (p + 1) 14).toNat (dkOpen (1 + pickV bs p 6)) (p + 2)
/-- A disk that is drawn, and where the reader goes on. -/
def drawDisk (bs : List UInt8) (p : Int) : Dk × Int := bend bs (drawDisk0 bs p).1 (drawDisk0 bs p).2
/-- Few sectors, few writes. -/
def Dk.few (d : Dk) (n : Nat) : Prop := d.a.length ≤ 6 ∧ d.b.length ≤ 6 ∧ d.l.length ≤ n
theorem Dk.few_write {d : Dk} {n : Nat} (h : d.few n) (s k : Int) (t : ByteArray) : (dkWrite d s k t).few (n + 1) := by
  obtain ⟨h1, h2, h3⟩ := h
  unfold dkWrite
  split
  · split
    · refine ⟨h1, h2, ?_⟩
      show (d.l ++ [_]).length ≤ n + 1
      rw [List.length_append]; simp only [List.length_cons, List.length_nil]; omega
    · exact ⟨h1, h2, by omega⟩
  · exact ⟨Nat.zero_le _, Nat.zero_le _, Nat.zero_le _⟩
theorem Dk.few_flush {d : Dk} {n : Nat} (h : d.few n) : (dkFlush d).few n := by
  obtain ⟨h1, h2, h3⟩ := h
  unfold dkFlush
  split
  · have := d.done_len d.l.length
    exact ⟨by show (d.done _).1.length ≤ 6; omega, by show (d.done _).2.length ≤ 6; omega, Nat.zero_le _⟩
  · exact ⟨Nat.zero_le _, Nat.zero_le _, Nat.zero_le _⟩
theorem Dk.few_fall {d : Dk} {n : Nat} (h : d.few n) (f : List Int) : (dkFall d f).few n := by
  obtain ⟨h1, h2, h3⟩ := h
  unfold dkFall
  split
  · have := d.fallN_len f (min d.l.length f.length)
    exact ⟨by show (d.fallN f _).1.length ≤ 6; omega, by show (d.fallN f _).2.length ≤ 6; omega, Nat.zero_le _⟩
  · exact ⟨Nat.zero_le _, Nat.zero_le _, Nat.zero_le _⟩
theorem dstep_few (bs : List UInt8) (d : Dk) (p : Int) {n : Nat} (h : d.few n) : (dstep bs d p).1.few (n + 1) := by
  have h1 : (dstep1 bs d p).few (n + 1) := Dk.few_write h _ _ _
  unfold dstep
  split
  · exact Dk.few_flush h1
  · split
    · exact Dk.few_fall h1 _
    · exact h1
theorem dstep_p (bs : List UInt8) (d : Dk) (p : Int) (hp : 0 ≤ p) (hp2 : p ≤ 800000) (hb : bs.length ≤ 2000) : p + 1 ≤ (dstep bs d p).2 ∧ (dstep bs d p).2 ≤ p + 30 := by
  have h1 := textP_in bs (p + 2) ⟨by omega, by omega, hb⟩
  have h2 := fateP_in bs (textP bs (p + 2) + 1) ⟨by omega, by omega, hb⟩
  unfold dstep
  split
  · simp only; omega
  · split
    · simp only; omega
    · simp only; omega
theorem dkOpen_few (n : Int) (h : n ≤ 6) : (dkOpen n).few 0 := by
  unfold dkOpen
  split
  · exact ⟨by show (List.replicate _ _).length ≤ 6; rw [List.length_replicate]; omega, by show (List.replicate _ _).length ≤ 6; rw [List.length_replicate]; omega, Nat.zero_le _⟩
  · exact ⟨Nat.zero_le _, Nat.zero_le _, Nat.zero_le _⟩
theorem dsteps_all (bs : List UInt8) (hb : bs.length ≤ 2000) : ∀ (i : Nat) (d : Dk) (p : Int) (n : Nat), 0 ≤ p → p + 30 * i ≤ 800000 → d.few n → (dsteps bs i d p).1.few (n + i) ∧ p ≤ (dsteps bs i d p).2 ∧ (dsteps bs i d p).2 ≤ p + 30 * i
  | 0, d, p, n, h0, h1, h2 => by
    refine ⟨h2, Int.le_refl _, ?_⟩
    show p ≤ _
    omega
  | i + 1, d, p, n, h0, h1, h2 => by
    have hs := dstep_p bs d p h0 (by omega) hb
    obtain ⟨k1, k2, k3⟩ := dsteps_all bs hb i (dstep bs d p).1 (dstep bs d p).2 (n + 1) (by omega) (by omega) (dstep_few bs d p h2)
    refine ⟨?_, ?_, ?_⟩
    · have : n + (i + 1) = n + 1 + i := by omega
      rw [this]; exact k1
    · show p ≤ (dsteps bs i _ _).2; omega
    · show (dsteps bs i _ _).2 ≤ _; omega
def rdOk2 (bs : List UInt8) (p : Int) : Prop := 0 ≤ p ∧ p ≤ 700000 ∧ bs.length ≤ 2000
theorem drawDisk0_all (bs : List UInt8) (p : Int) (h : rdOk2 bs p) : (drawDisk0 bs p).1.few 13 ∧ p ≤ (drawDisk0 bs p).2 ∧ (drawDisk0 bs p).2 ≤ p + 500 := by
  obtain ⟨h1, h2, h3⟩ := h
  have h7 := pickV_in bs p 6 h1 (by omega) (by omega)
  have h8 := pickV_in bs (p + 1) 14 (by omega) (by omega) (by omega)
  obtain ⟨k1, k2, k3⟩ := dsteps_all bs h3 (pickV bs (p + 1) 14).toNat (dkOpen (1 + pickV bs p 6)) (p + 2) 0 (by omega) (by omega) (dkOpen_few _ (by omega))
  unfold drawDisk0
  refine ⟨⟨k1.1, k1.2.1, Nat.le_trans k1.2.2 (by omega)⟩, by omega, by omega⟩
theorem drawDisk_all (bs : List UInt8) (p : Int) (h : rdOk2 bs p) : ((drawDisk bs p).1.a.length ≤ 7 ∧ (drawDisk bs p).1.b.length ≤ 7 ∧ (drawDisk bs p).1.l.length ≤ 14) ∧ p ≤ (drawDisk bs p).2 ∧ (drawDisk bs p).2 ≤ p + 503 := by
  obtain ⟨⟨k1, k2, k3⟩, k4, k5⟩ := drawDisk0_all bs p h
  unfold drawDisk bend
  split
  · refine ⟨⟨by simp only; omega, ?_, by simp only; omega⟩, by simp only; omega, by simp only; omega⟩
    simp only [List.length_append, List.length_cons, List.length_nil]; omega
  · split
    · refine ⟨⟨by simp only; omega, by simp only; omega, ?_⟩, by simp only; omega, by simp only; omega⟩
      simp only [List.length_append, List.length_cons, List.length_nil]; omega
    · split
      · exact ⟨⟨Nat.zero_le _, by simp only; omega, by simp only; omega⟩, by simp only; omega, by simp only; omega⟩
      · exact ⟨⟨by simp only; omega, by simp only; omega, by simp only; omega⟩, by simp only; omega, by simp only; omega⟩
@[go_sem] def ctDrawDisk : Ct := ⟨true, [], fun args os => match args, os with
  | [.one (.ptr 0 0)], [.cells [.isl .byte bs, .val (.int .i64 p)]] => ⟨rdOk2 bs p, (drawDisk bs p).1.v 1, [(0, some (rdO bs (drawDisk bs p).2))], (drawDisk bs p).1.objs⟩
  | _, _ => no⟩
@[go_sem] def sgDraw (bs : List UInt8) (p : Int) (i : Nat) (d : Dk) : Sg := ⟨[(0, .one (.ptr 0 0)), (2, .one (.ptr 1 0)), (3, .one (.ptr 2 0)), (4, vi i)],
  [some (rdO bs p), some (.cells [.val (.slice none 0 0), .val (.slice none 0 0), .val (.slice none 0 0)]), some (.cells [.osl .str 3 0 d.a.length, .osl .str 4 0 d.b.length, .osl .late 5 0 d.l.length]), some (.arr .str d.a), some (.arr .str d.b), some (.arr .late d.l)], [0]⟩
theorem s_drawDisk_e : EnterOk Try.prog 33 := ⟨_, Try.func33, rfl, by decide⟩
@[go_sem] def s_drawDisk_lv : List (List Nat) := [[0, 2], [0, 2, 3], [0, 2, 3, 4], [0, 2, 3, 4, 14], [0, 2, 3, 4], [0, 2, 3, 4, 5], [0, 2, 3, 4], [0, 2, 3, 4, 30], [0, 2, 3, 4, 30, 31], [0, 2, 3, 4], [0, 2, 3, 4, 35], [0, 2, 3, 4], [0, 2, 3, 42], [0, 2, 3, 42, 43], [2, 3], [0, 2, 3, 42, 52], [2, 3], [2, 3, 66], [2, 3], [2]]
@[go_sem] noncomputable def s_drawDisk_K : Known := ((((((((Known.nil).cons 35 ctPick s_pick s_pick_e).cons 58 ctSpecOpen s_specOpen s_specOpen_e).cons 47 ctText s_text s_text_e).cons 21 ctDiskWrite s_specWrite s_specWrite_e).cons 32 ctDiskFlush s_specFlush s_specFlush_e).cons 43 ctFate s_fate s_fate_e).cons 17 ctDiskFall s_specFall s_specFall_e).cons 34 ctNum s_num s_num_e
set_option maxHeartbeats 8000000 in
theorem s_drawDisk : Sound Try.prog 33 ctDrawDisk := by
  refine sound_intro (E := ⟨ti, s_drawDisk_K.Γ, []⟩) (s_drawDisk_K.env []) Try.func33 Try.ntmps33 rfl (rs := [.cell 2 27]) rfl ?_
  intro args os hp
  unfold ctDrawDisk at hp ⊢
  dsimp only at hp ⊢
  split at hp
  · rename_i bs p
    refine ⟨by simp, fun φ0 w0 => ?_⟩
    have hr : rdOk2 bs p := hp
    obtain ⟨h1, h2, h3⟩ := hr
    have h7 := pickV_in bs p 6 h1 (by omega) (by omega)
    have h8 := pickV_in bs (p + 1) 14 (by omega) (by omega) (by omega)
    have hw := wrap_id (1 + pickV bs p 6) (by omega) (by omega)
    have hp2 : p + 1 + 1 = p + 2 := by omega
    repeat' first
      | refine W_seq ?_
      | (refine W_reg (s_drawDisk_K.env []) s_drawDisk_lv fun K' hK' => ?_
         simp only [go_sem, hw, hp2, ↓reduceIte, ↓reduceDIte, reduceCtorEq, Nat.reduceAdd, Nat.reduceMul, Nat.reduceSub, Nat.reduceLT, Nat.reduceLeDiff, Nat.reduceEqDiff, Nat.reduceBEq, Int.reduceToNat, Int.reduceLE, Int.reduceLT, Int.reduceEq, Int.reduceNe, Int.reduceNeg]
         (repeat' apply And.intro) <;> try first | ((with_reducible refine hK' _ ?_ ?_ ?_); rotate_left; (simp only [go_sem, hw, hp2, pr, keepSl, ↓reduceIte, Nat.reduceEqDiff]; try rfl); clear hK' K') | (clear hK' K'; first | omega | (with_reducible refine drawOk_k ?_; kernel_rfl) | assumption | refine Eq.refl _ | exact fun h => ⟨h, fun k => ⟨h, k⟩⟩ | (intro _; (repeat' apply And.intro) <;> first | omega | assumption) | skip))
      | with_reducible first | refine W_skip ?_ | refine W_exit ?_ | refine W_ret ?_ | refine W_block ?_ | refine thenG_n ?_ | refine thenG_x ?_ | refine thenG_r ?_ | refine blockG_n ?_ | refine blockG_r ?_ | refine blockG_x ?_ | refine blockG_o (by decide) ?_
    refine W_le (σ' := sgDraw bs (p + 2) (pickV bs (p + 1) 14).toNat (dkOpen (1 + pickV bs p 6))) [some 0, some 1, some 5, some 2, some 3, some 4] (by
      simp only [go_sem, ↓reduceIte, reduceCtorEq, Nat.reduceAdd, Nat.reduceLT, Nat.reduceLeDiff, Nat.reduceEqDiff, Int.reduceEq, TC.val.injEq, Value.bool.injEq, Value.int.injEq, Value.string.injEq, TV.one.injEq]
      all_goals (repeat' apply And.intro) <;> try first | rfl | trivial | omega | (rw [wrap_id] <;> omega)
      ) ?_
    obtain ⟨d, hd⟩ : ∃ d, d = drawDisk0 bs p := ⟨_, rfl⟩
    refine W_loop (fun n σ => ∃ (i : Nat) (q : Int) (e : Dk), n = i ∧ i ≤ 13 ∧ e.few (13 - i) ∧ 0 ≤ q ∧ q + 30 * i ≤ 750000 ∧ dsteps bs i e q = d ∧ σ = sgDraw bs q i e) (pickV bs (p + 1) 14).toNat
      ⟨_, _, _, rfl, by omega, ⟨(dkOpen_few _ (by omega)).1, (dkOpen_few _ (by omega)).2.1, Nat.le_trans (dkOpen_few _ (by omega)).2.2 (Nat.zero_le _)⟩, by omega, by omega, hd.symm, rfl⟩ ?_
    rintro n σ ⟨i, q, e, rfl, hi, he, hq, hq2, hds, rfl⟩
    obtain ⟨f1, f2, f3⟩ := he
    unfold sgDraw
    repeat' first
      | refine W_seq ?_
      | (refine W_reg (s_drawDisk_K.env []) s_drawDisk_lv fun K' hK' => ?_
         simp only [go_sem, ↓reduceIte, ↓reduceDIte, reduceCtorEq, Nat.reduceAdd, Nat.reduceMul, Nat.reduceSub, Nat.reduceLT, Nat.reduceLeDiff, Nat.reduceEqDiff, Nat.reduceBEq, Int.reduceToNat, Int.reduceLE, Int.reduceLT, Int.reduceEq, Int.reduceNe, Int.reduceNeg]
         (repeat' apply And.intro) <;> try first | ((with_reducible refine hK' _ ?_ ?_ ?_); rotate_left; (simp only [go_sem, pr, keepSl, ↓reduceIte, Nat.reduceEqDiff]; try rfl); clear hK' K') | (clear hK' K'; first | omega | (with_reducible refine drawOk_k ?_; kernel_rfl) | assumption | refine Eq.refl _ | exact fun h => ⟨h, fun k => ⟨h, k⟩⟩ | (intro _; (repeat' apply And.intro) <;> first | omega | assumption) | skip))
      | with_reducible first | refine W_skip ?_ | refine W_exit ?_ | refine W_ret ?_ | refine W_block ?_ | refine thenG_n ?_ | refine thenG_x ?_ | refine thenG_r ?_ | refine blockG_n ?_ | refine blockG_r ?_ | refine blockG_x ?_ | refine blockG_o (by decide) ?_
    refine W_cond _ (by exact rfl) (by exact trivial) ?_ ?_ <;> (try simp only [Bool.if_true_left, Bool.if_false_right, Bool.if_true_right, Bool.if_false_left, Bool.decide_eq_true, Bool.or_assoc, Bool.and_assoc, Bool.and_true, Bool.or_false, Bool.true_and, Bool.false_or, decide_eq_true_eq, decide_eq_false_iff_not, not_and, not_or, Classical.not_not, Bool.and_eq_true, Bool.or_eq_true, Bool.not_eq_true', Bool.not_eq_false', Bool.or_eq_false_iff, Bool.and_eq_false_iff, bne_iff_ne, ne_eq, beq_iff_eq, bne_eq_false_iff_eq, same_true, same_false, Int.ofNat_inj]) <;> intro hlt
    · obtain ⟨j, rfl⟩ : ∃ j, n = j + 1 := ⟨n - 1, by omega⟩
      have g1 : q + 1 + 1 = q + 2 := by omega
      have g2 : rdOk bs (q + 2) := ⟨by omega, by omega, h3⟩
      have g3 := textP_in bs (q + 2) g2
      have g4 : rdOk bs (textP bs (q + 2) + 1) := ⟨by omega, by omega, h3⟩
      have g5 := fateP_in bs (textP bs (q + 2) + 1) g4
      have g6 := fateV_len bs (textP bs (q + 2) + 1) g4
      have g7 := dstep_few bs e q (n := 13 - (j + 1)) ⟨f1, f2, f3⟩
      have g8 := dstep_p bs e q hq (by omega) h3
      have hds : dsteps bs j (dstep bs e q).1 (dstep bs e q).2 = d := hds
      have e1 : dkWrite e (pickV bs q 2) (pickV bs (q + 1) 6) (textV bs (q + 2)) = dstep1 bs e q := rfl
      have g9 : (dstep1 bs e q).few (13 - (j + 1) + 1) := Dk.few_write ⟨f1, f2, f3⟩ _ _ _
      obtain ⟨k1, k2, k3⟩ := g9
      have kn : (dstep bs e q).1.few (13 - j) := ⟨g7.1, g7.2.1, Nat.le_trans g7.2.2 (by omega)⟩
      repeat' first
        | refine W_seq ?_
        | (refine W_reg (s_drawDisk_K.env []) s_drawDisk_lv fun K' hK' => ?_
           simp only [go_sem, Dk.small, g1, e1, ↓reduceIte, ↓reduceDIte, reduceCtorEq, Nat.reduceAdd, Nat.reduceMul, Nat.reduceSub, Nat.reduceLT, Nat.reduceLeDiff, Nat.reduceEqDiff, Nat.reduceBEq, Int.reduceToNat, Int.reduceLE, Int.reduceLT, Int.reduceEq, Int.reduceNe, Int.reduceNeg]
           (repeat' apply And.intro) <;> try first | ((with_reducible refine hK' _ ?_ ?_ ?_); rotate_left; (simp only [go_sem, Dk.small, g1, e1, pr, keepSl, ↓reduceIte, Nat.reduceEqDiff]; try rfl); clear hK' K') | (clear hK' K'; first | omega | (with_reducible refine drawOk_k ?_; kernel_rfl) | assumption | refine Eq.refl _ | exact fun h => ⟨h, fun k => ⟨h, k⟩⟩ | (intro _; (repeat' apply And.intro) <;> first | omega | assumption) | skip))
        | with_reducible first | refine W_skip ?_ | refine W_exit ?_ | refine W_ret ?_ | refine W_block ?_ | refine thenG_n ?_ | refine thenG_x ?_ | refine thenG_r ?_ | refine blockG_n ?_ | refine blockG_r ?_ | refine blockG_x ?_ | refine blockG_o (by decide) ?_
      refine W_cond _ (by exact rfl) (by exact trivial) ?_ ?_ <;> intro hc
      · have c0 : pickV bs (textP bs (q + 2)) 8 = 0 := by simpa using hc
        have ed : dstep bs e q = (dkFlush (dstep1 bs e q), textP bs (q + 2) + 1) := by unfold dstep; rw [if_pos c0]
        repeat' first
          | refine W_seq ?_
          | (refine W_reg (s_drawDisk_K.env []) s_drawDisk_lv fun K' hK' => ?_
             simp only [go_sem, Dk.small, ↓reduceIte, ↓reduceDIte, reduceCtorEq, Nat.reduceAdd, Nat.reduceMul, Nat.reduceSub, Nat.reduceLT, Nat.reduceLeDiff, Nat.reduceEqDiff, Nat.reduceBEq, Int.reduceToNat, Int.reduceLE, Int.reduceLT, Int.reduceEq, Int.reduceNe, Int.reduceNeg]
             (repeat' apply And.intro) <;> try first | ((with_reducible refine hK' _ ?_ ?_ ?_); rotate_left; (simp only [go_sem, Dk.small, pr, keepSl, ↓reduceIte, Nat.reduceEqDiff]; try rfl); clear hK' K') | (clear hK' K'; first | omega | (with_reducible refine drawOk_k ?_; kernel_rfl) | assumption | refine Eq.refl _ | exact fun h => ⟨h, fun k => ⟨h, k⟩⟩ | (intro _; (repeat' apply And.intro) <;> first | omega | assumption) | skip))
          | with_reducible first | refine W_skip ?_ | refine W_exit ?_ | refine W_ret ?_ | refine W_block ?_ | refine thenG_n ?_ | refine thenG_x ?_ | refine thenG_r ?_ | refine blockG_n ?_ | refine blockG_r ?_ | refine blockG_x ?_ | refine blockG_o (by decide) ?_
        refine ⟨j, [some 0, some 1, some 2, some 10, some 11, some 12], sgDraw bs (dstep bs e q).2 j (dstep bs e q).1, by omega, ?_, j, _, _, rfl, by omega, kn, by omega, by omega, hds, rfl⟩
        rw [ed]
        simp only [go_sem, ↓reduceIte, reduceCtorEq, Nat.reduceAdd, Nat.reduceLT, Nat.reduceLeDiff, Nat.reduceEqDiff, Int.reduceEq, TC.val.injEq, Value.bool.injEq, Value.int.injEq, Value.string.injEq, TV.one.injEq]
        all_goals (repeat' apply And.intro) <;> try first | rfl | trivial | omega | (rw [wrap_id] <;> omega)
      · have c0 : ¬ pickV bs (textP bs (q + 2)) 8 = 0 := by simpa using hc
        repeat' first
          | refine W_seq ?_
          | (refine W_reg (s_drawDisk_K.env []) s_drawDisk_lv fun K' hK' => ?_
             simp only [go_sem, Dk.small, ↓reduceIte, ↓reduceDIte, reduceCtorEq, Nat.reduceAdd, Nat.reduceMul, Nat.reduceSub, Nat.reduceLT, Nat.reduceLeDiff, Nat.reduceEqDiff, Nat.reduceBEq, Int.reduceToNat, Int.reduceLE, Int.reduceLT, Int.reduceEq, Int.reduceNe, Int.reduceNeg]
             (repeat' apply And.intro) <;> try first | ((with_reducible refine hK' _ ?_ ?_ ?_); rotate_left; (simp only [go_sem, Dk.small, pr, keepSl, ↓reduceIte, Nat.reduceEqDiff]; try rfl); clear hK' K') | (clear hK' K'; first | omega | (with_reducible refine drawOk_k ?_; kernel_rfl) | assumption | refine Eq.refl _ | exact fun h => ⟨h, fun k => ⟨h, k⟩⟩ | (intro _; (repeat' apply And.intro) <;> first | omega | assumption) | skip))
          | with_reducible first | refine W_skip ?_ | refine W_exit ?_ | refine W_ret ?_ | refine W_block ?_ | refine thenG_n ?_ | refine thenG_x ?_ | refine thenG_r ?_ | refine blockG_n ?_ | refine blockG_r ?_ | refine blockG_x ?_ | refine blockG_o (by decide) ?_
        refine W_cond _ (by exact rfl) (by exact trivial) ?_ ?_ <;> intro hc2
        · have c1 : pickV bs (textP bs (q + 2)) 8 = 1 := by simpa using hc2
          have ed : dstep bs e q = (dkFall (dstep1 bs e q) (fateV bs (textP bs (q + 2) + 1)), fateP bs (textP bs (q + 2) + 1)) := by unfold dstep; rw [if_neg c0, if_pos c1]
          repeat' first
            | refine W_seq ?_
            | (refine W_reg (s_drawDisk_K.env []) s_drawDisk_lv fun K' hK' => ?_
               simp only [go_sem, Dk.small, ↓reduceIte, ↓reduceDIte, reduceCtorEq, Nat.reduceAdd, Nat.reduceMul, Nat.reduceSub, Nat.reduceLT, Nat.reduceLeDiff, Nat.reduceEqDiff, Nat.reduceBEq, Int.reduceToNat, Int.reduceLE, Int.reduceLT, Int.reduceEq, Int.reduceNe, Int.reduceNeg]
               (repeat' apply And.intro) <;> try first | ((with_reducible refine hK' _ ?_ ?_ ?_); rotate_left; (simp only [go_sem, Dk.small, pr, keepSl, ↓reduceIte, Nat.reduceEqDiff]; try rfl); clear hK' K') | (clear hK' K'; first | omega | (with_reducible refine drawOk_k ?_; kernel_rfl) | assumption | refine Eq.refl _ | exact fun h => ⟨h, fun k => ⟨h, k⟩⟩ | (intro _; (repeat' apply And.intro) <;> first | omega | assumption) | skip))
            | with_reducible first | refine W_skip ?_ | refine W_exit ?_ | refine W_ret ?_ | refine W_block ?_ | refine thenG_n ?_ | refine thenG_x ?_ | refine thenG_r ?_ | refine blockG_n ?_ | refine blockG_r ?_ | refine blockG_x ?_ | refine blockG_o (by decide) ?_
          refine ⟨j, [some 0, some 1, some 2, some 11, some 12, some 13], sgDraw bs (dstep bs e q).2 j (dstep bs e q).1, by omega, ?_, j, _, _, rfl, by omega, kn, by omega, by omega, hds, rfl⟩
          rw [ed]
          simp only [go_sem, ↓reduceIte, reduceCtorEq, Nat.reduceAdd, Nat.reduceLT, Nat.reduceLeDiff, Nat.reduceEqDiff, Int.reduceEq, TC.val.injEq, Value.bool.injEq, Value.int.injEq, Value.string.injEq, TV.one.injEq]
          all_goals (repeat' apply And.intro) <;> try first | rfl | trivial | omega | (rw [wrap_id] <;> omega)
        · have c1 : ¬ pickV bs (textP bs (q + 2)) 8 = 1 := by simpa using hc2
          have ed : dstep bs e q = (dstep1 bs e q, textP bs (q + 2) + 1) := by unfold dstep; rw [if_neg c0, if_neg c1]
          repeat' first
            | refine W_seq ?_
            | (refine W_reg (s_drawDisk_K.env []) s_drawDisk_lv fun K' hK' => ?_
               simp only [go_sem, Dk.small, ↓reduceIte, ↓reduceDIte, reduceCtorEq, Nat.reduceAdd, Nat.reduceMul, Nat.reduceSub, Nat.reduceLT, Nat.reduceLeDiff, Nat.reduceEqDiff, Nat.reduceBEq, Int.reduceToNat, Int.reduceLE, Int.reduceLT, Int.reduceEq, Int.reduceNe, Int.reduceNeg]
               (repeat' apply And.intro) <;> try first | ((with_reducible refine hK' _ ?_ ?_ ?_); rotate_left; (simp only [go_sem, Dk.small, pr, keepSl, ↓reduceIte, Nat.reduceEqDiff]; try rfl); clear hK' K') | (clear hK' K'; first | omega | (with_reducible refine drawOk_k ?_; kernel_rfl) | assumption | refine Eq.refl _ | exact fun h => ⟨h, fun k => ⟨h, k⟩⟩ | (intro _; (repeat' apply And.intro) <;> first | omega | assumption) | skip))
            | with_reducible first | refine W_skip ?_ | refine W_exit ?_ | refine W_ret ?_ | refine W_block ?_ | refine thenG_n ?_ | refine thenG_x ?_ | refine thenG_r ?_ | refine blockG_n ?_ | refine blockG_r ?_ | refine blockG_x ?_ | refine blockG_o (by decide) ?_
          refine ⟨j, [some 0, some 1, some 2, some 6, some 7, some 8], sgDraw bs (dstep bs e q).2 j (dstep bs e q).1, by omega, ?_, j, _, _, rfl, by omega, kn, by omega, by omega, hds, rfl⟩
          rw [ed]
          simp only [go_sem, ↓reduceIte, reduceCtorEq, Nat.reduceAdd, Nat.reduceLT, Nat.reduceLeDiff, Nat.reduceEqDiff, Int.reduceEq, TC.val.injEq, Value.bool.injEq, Value.int.injEq, Value.string.injEq, TV.one.injEq]
          all_goals (repeat' apply And.intro) <;> try first | rfl | trivial | omega | (rw [wrap_id] <;> omega)
    · have hn0 : n = 0 := by omega
      subst hn0
      have hds : (e, q) = d := hds
      have e1 : drawDisk bs p = bend bs e q := by unfold drawDisk; rw [← hd, ← hds]
      repeat' first
        | refine W_seq ?_
        | (refine W_reg (s_drawDisk_K.env []) s_drawDisk_lv fun K' hK' => ?_
           simp only [go_sem, ↓reduceIte, ↓reduceDIte, reduceCtorEq, Nat.reduceAdd, Nat.reduceMul, Nat.reduceSub, Nat.reduceLT, Nat.reduceLeDiff, Nat.reduceEqDiff, Nat.reduceBEq, Int.reduceToNat, Int.reduceLE, Int.reduceLT, Int.reduceEq, Int.reduceNe, Int.reduceNeg]
           (repeat' apply And.intro) <;> try first | ((with_reducible refine hK' _ ?_ ?_ ?_); rotate_left; (simp only [go_sem, pr, keepSl, ↓reduceIte, Nat.reduceEqDiff]; try rfl); clear hK' K') | (clear hK' K'; first | omega | (with_reducible refine drawOk_k ?_; kernel_rfl) | assumption | refine Eq.refl _ | exact fun h => ⟨h, fun k => ⟨h, k⟩⟩ | (intro _; (repeat' apply And.intro) <;> first | omega | assumption) | skip))
        | with_reducible first | refine W_skip ?_ | refine W_exit ?_ | refine W_ret ?_ | refine W_block ?_ | refine thenG_n ?_ | refine thenG_x ?_ | refine thenG_r ?_ | refine blockG_n ?_ | refine blockG_r ?_ | refine blockG_x ?_ | refine blockG_o (by decide) ?_
      refine W_cond _ (by exact rfl) (by exact trivial) ?_ ?_ <;> intro hc
      · have c0 : pickV bs q 24 = 0 := by simpa using hc
        have e2 : bend bs e q = (⟨e.a, e.b ++ [⟨#[]⟩], e.l⟩, q + 1) := by unfold bend; rw [if_pos c0]
        repeat' first
          | refine W_seq ?_
          | (refine W_reg (s_drawDisk_K.env []) s_drawDisk_lv fun K' hK' => ?_
             simp only [go_sem, ↓reduceIte, ↓reduceDIte, reduceCtorEq, Nat.reduceAdd, Nat.reduceMul, Nat.reduceSub, Nat.reduceLT, Nat.reduceLeDiff, Nat.reduceEqDiff, Nat.reduceBEq, Int.reduceToNat, Int.reduceLE, Int.reduceLT, Int.reduceEq, Int.reduceNe, Int.reduceNeg]
             (repeat' apply And.intro) <;> try first | ((with_reducible refine hK' _ ?_ ?_ ?_); rotate_left; (simp only [go_sem, pr, keepSl, ↓reduceIte, Nat.reduceEqDiff]; try rfl); clear hK' K') | (clear hK' K'; first | omega | (with_reducible refine drawOk_k ?_; kernel_rfl) | assumption | refine Eq.refl _ | exact fun h => ⟨h, fun k => ⟨h, k⟩⟩ | (intro _; (repeat' apply And.intro) <;> first | omega | assumption) | skip))
          | with_reducible first | refine W_skip ?_ | refine W_exit ?_ | refine W_ret ?_ | refine W_block ?_ | refine thenG_n ?_ | refine thenG_x ?_ | refine thenG_r ?_ | refine blockG_n ?_ | refine blockG_r ?_ | refine blockG_x ?_ | refine blockG_o (by decide) ?_
        refine ⟨by (simp only [go_sem, e1, e2, ↓reduceIte, reduceCtorEq, Nat.reduceAdd, Nat.reduceLT, Nat.reduceLeDiff, Nat.reduceEqDiff]) <;> trivial, [some 0, some 3, some 7, some 5], ?_⟩
        all_goals try simp only [go_sem, e1, e2, ↓reduceIte, reduceCtorEq, Nat.reduceAdd, Nat.reduceLT, Nat.reduceLeDiff, Nat.reduceEqDiff, Int.reduceEq, TC.val.injEq, Value.bool.injEq, Value.int.injEq, Value.string.injEq, TV.one.injEq]
        all_goals (repeat' apply And.intro) <;> try first | rfl | trivial | omega | (rw [wrap_id] <;> omega)
      · have c0 : ¬ pickV bs q 24 = 0 := by simpa using hc
        repeat' first
          | refine W_seq ?_
          | (refine W_reg (s_drawDisk_K.env []) s_drawDisk_lv fun K' hK' => ?_
             simp only [go_sem, ↓reduceIte, ↓reduceDIte, reduceCtorEq, Nat.reduceAdd, Nat.reduceMul, Nat.reduceSub, Nat.reduceLT, Nat.reduceLeDiff, Nat.reduceEqDiff, Nat.reduceBEq, Int.reduceToNat, Int.reduceLE, Int.reduceLT, Int.reduceEq, Int.reduceNe, Int.reduceNeg]
             (repeat' apply And.intro) <;> try first | ((with_reducible refine hK' _ ?_ ?_ ?_); rotate_left; (simp only [go_sem, pr, keepSl, ↓reduceIte, Nat.reduceEqDiff]; try rfl); clear hK' K') | (clear hK' K'; first | omega | (with_reducible refine drawOk_k ?_; kernel_rfl) | assumption | refine Eq.refl _ | exact fun h => ⟨h, fun k => ⟨h, k⟩⟩ | (intro _; (repeat' apply And.intro) <;> first | omega | assumption) | skip))
          | with_reducible first | refine W_skip ?_ | refine W_exit ?_ | refine W_ret ?_ | refine W_block ?_ | refine thenG_n ?_ | refine thenG_x ?_ | refine thenG_r ?_ | refine blockG_n ?_ | refine blockG_r ?_ | refine blockG_x ?_ | refine blockG_o (by decide) ?_
        refine W_cond _ (by exact rfl) (by exact trivial) ?_ ?_ <;> intro hc2
        · have c1 : pickV bs q 24 = 1 := by simpa using hc2
          have g1 : q + 1 + 1 = q + 2 := by omega
          have g2 : q + 2 + 1 = q + 3 := by omega
          have e2 : bend bs e q = (⟨e.a, e.b, e.l ++ [⟨ET.int.at [-1, 2, 0] (pickV bs (q + 1) 3).toNat, ET.int.at [-1, 6, 0] (pickV bs (q + 2) 3).toNat, ⟨#[]⟩⟩]⟩, q + 3) := by unfold bend; rw [if_neg c0, if_pos c1]
          repeat' first
            | refine W_seq ?_
            | (refine W_reg (s_drawDisk_K.env []) s_drawDisk_lv fun K' hK' => ?_
               simp only [go_sem, g1, g2, ↓reduceIte, ↓reduceDIte, reduceCtorEq, Nat.reduceAdd, Nat.reduceMul, Nat.reduceSub, Nat.reduceLT, Nat.reduceLeDiff, Nat.reduceEqDiff, Nat.reduceBEq, Int.reduceToNat, Int.reduceLE, Int.reduceLT, Int.reduceEq, Int.reduceNe, Int.reduceNeg]
               (repeat' apply And.intro) <;> try first | ((with_reducible refine hK' _ ?_ ?_ ?_); rotate_left; (simp only [go_sem, g1, g2, pr, keepSl, ↓reduceIte, Nat.reduceEqDiff]; try rfl); clear hK' K') | (clear hK' K'; first | omega | (with_reducible refine drawOk_k ?_; kernel_rfl) | assumption | refine Eq.refl _ | exact fun h => ⟨h, fun k => ⟨h, k⟩⟩ | (intro _; (repeat' apply And.intro) <;> first | omega | assumption) | skip))
            | with_reducible first | refine W_skip ?_ | refine W_exit ?_ | refine W_ret ?_ | refine W_block ?_ | refine thenG_n ?_ | refine thenG_x ?_ | refine thenG_r ?_ | refine blockG_n ?_ | refine blockG_r ?_ | refine blockG_x ?_ | refine blockG_o (by decide) ?_
          refine ⟨by (simp only [go_sem, e1, e2, ↓reduceIte, reduceCtorEq, Nat.reduceAdd, Nat.reduceLT, Nat.reduceLeDiff, Nat.reduceEqDiff]) <;> trivial, [some 0, some 3, some 4, some 9], ?_⟩
          all_goals try simp only [go_sem, e1, e2, ↓reduceIte, reduceCtorEq, Nat.reduceAdd, Nat.reduceLT, Nat.reduceLeDiff, Nat.reduceEqDiff, Int.reduceEq, TC.val.injEq, Value.bool.injEq, Value.int.injEq, Value.string.injEq, TV.one.injEq]
          all_goals (repeat' apply And.intro) <;> try first | rfl | trivial | omega | (rw [wrap_id] <;> omega)
        · have c1 : ¬ pickV bs q 24 = 1 := by simpa using hc2
          repeat' first
            | refine W_seq ?_
            | (refine W_reg (s_drawDisk_K.env []) s_drawDisk_lv fun K' hK' => ?_
               simp only [go_sem, ↓reduceIte, ↓reduceDIte, reduceCtorEq, Nat.reduceAdd, Nat.reduceMul, Nat.reduceSub, Nat.reduceLT, Nat.reduceLeDiff, Nat.reduceEqDiff, Nat.reduceBEq, Int.reduceToNat, Int.reduceLE, Int.reduceLT, Int.reduceEq, Int.reduceNe, Int.reduceNeg]
               (repeat' apply And.intro) <;> try first | ((with_reducible refine hK' _ ?_ ?_ ?_); rotate_left; (simp only [go_sem, pr, keepSl, ↓reduceIte, Nat.reduceEqDiff]; try rfl); clear hK' K') | (clear hK' K'; first | omega | (with_reducible refine drawOk_k ?_; kernel_rfl) | assumption | refine Eq.refl _ | exact fun h => ⟨h, fun k => ⟨h, k⟩⟩ | (intro _; (repeat' apply And.intro) <;> first | omega | assumption) | skip))
            | with_reducible first | refine W_skip ?_ | refine W_exit ?_ | refine W_ret ?_ | refine W_block ?_ | refine thenG_n ?_ | refine thenG_x ?_ | refine thenG_r ?_ | refine blockG_n ?_ | refine blockG_r ?_ | refine blockG_x ?_ | refine blockG_o (by decide) ?_
          refine W_cond _ (by exact rfl) (by exact trivial) ?_ ?_ <;> intro hc3
          · have c2 : pickV bs q 24 = 2 := by simpa using hc3
            have e2 : bend bs e q = (⟨[], e.b, e.l⟩, q + 1) := by unfold bend; rw [if_neg c0, if_neg c1, if_pos c2]
            repeat' first
              | refine W_seq ?_
              | (refine W_reg (s_drawDisk_K.env []) s_drawDisk_lv fun K' hK' => ?_
                 simp only [go_sem, ↓reduceIte, ↓reduceDIte, reduceCtorEq, Nat.reduceAdd, Nat.reduceMul, Nat.reduceSub, Nat.reduceLT, Nat.reduceLeDiff, Nat.reduceEqDiff, Nat.reduceBEq, Int.reduceToNat, Int.reduceLE, Int.reduceLT, Int.reduceEq, Int.reduceNe, Int.reduceNeg]
                 (repeat' apply And.intro) <;> try first | ((with_reducible refine hK' _ ?_ ?_ ?_); rotate_left; (simp only [go_sem, pr, keepSl, ↓reduceIte, Nat.reduceEqDiff]; try rfl); clear hK' K') | (clear hK' K'; first | omega | (with_reducible refine drawOk_k ?_; kernel_rfl) | assumption | refine Eq.refl _ | exact fun h => ⟨h, fun k => ⟨h, k⟩⟩ | (intro _; (repeat' apply And.intro) <;> first | omega | assumption) | skip))
              | with_reducible first | refine W_skip ?_ | refine W_exit ?_ | refine W_ret ?_ | refine W_block ?_ | refine thenG_n ?_ | refine thenG_x ?_ | refine thenG_r ?_ | refine blockG_n ?_ | refine blockG_r ?_ | refine blockG_x ?_ | refine blockG_o (by decide) ?_
            refine ⟨by (simp only [go_sem, e1, e2, ↓reduceIte, reduceCtorEq, Nat.reduceAdd, Nat.reduceLT, Nat.reduceLeDiff, Nat.reduceEqDiff]) <;> trivial, [some 0, none, some 4, some 5], ?_⟩
            all_goals try simp only [go_sem, e1, e2, ↓reduceIte, reduceCtorEq, Nat.reduceAdd, Nat.reduceLT, Nat.reduceLeDiff, Nat.reduceEqDiff, Int.reduceEq, TC.val.injEq, Value.bool.injEq, Value.int.injEq, Value.string.injEq, TV.one.injEq]
            all_goals (repeat' apply And.intro) <;> try first | rfl | trivial | omega | (rw [wrap_id] <;> omega)
          · have c2 : ¬ pickV bs q 24 = 2 := by simpa using hc3
            have e2 : bend bs e q = (e, q + 1) := by unfold bend; rw [if_neg c0, if_neg c1, if_neg c2]
            repeat' first
              | refine W_seq ?_
              | (refine W_reg (s_drawDisk_K.env []) s_drawDisk_lv fun K' hK' => ?_
                 simp only [go_sem, ↓reduceIte, ↓reduceDIte, reduceCtorEq, Nat.reduceAdd, Nat.reduceMul, Nat.reduceSub, Nat.reduceLT, Nat.reduceLeDiff, Nat.reduceEqDiff, Nat.reduceBEq, Int.reduceToNat, Int.reduceLE, Int.reduceLT, Int.reduceEq, Int.reduceNe, Int.reduceNeg]
                 (repeat' apply And.intro) <;> try first | ((with_reducible refine hK' _ ?_ ?_ ?_); rotate_left; (simp only [go_sem, pr, keepSl, ↓reduceIte, Nat.reduceEqDiff]; try rfl); clear hK' K') | (clear hK' K'; first | omega | (with_reducible refine drawOk_k ?_; kernel_rfl) | assumption | refine Eq.refl _ | exact fun h => ⟨h, fun k => ⟨h, k⟩⟩ | (intro _; (repeat' apply And.intro) <;> first | omega | assumption) | skip))
              | with_reducible first | refine W_skip ?_ | refine W_exit ?_ | refine W_ret ?_ | refine W_block ?_ | refine thenG_n ?_ | refine thenG_x ?_ | refine thenG_r ?_ | refine blockG_n ?_ | refine blockG_r ?_ | refine blockG_x ?_ | refine blockG_o (by decide) ?_
            refine ⟨by (simp only [go_sem, e1, e2, ↓reduceIte, reduceCtorEq, Nat.reduceAdd, Nat.reduceLT, Nat.reduceLeDiff, Nat.reduceEqDiff]) <;> trivial, [some 0, some 3, some 4, some 5], ?_⟩
            all_goals try simp only [go_sem, e1, e2, ↓reduceIte, reduceCtorEq, Nat.reduceAdd, Nat.reduceLT, Nat.reduceLeDiff, Nat.reduceEqDiff, Int.reduceEq, TC.val.injEq, Value.bool.injEq, Value.int.injEq, Value.string.injEq, TV.one.injEq]
            all_goals (repeat' apply And.intro) <;> try first | rfl | trivial | omega | (rw [wrap_id] <;> omega)
  · simp [no] at hp
end Go.Proofs.Ytjdpppbegjnpaaa
