import Derived.Test.YtjedcphhajlnoaaGreatDoorM10
import Derived.Test.YtjedcphhajlnoaaGreatDoorM13
import Derived.Test.YtjedcphhajlnoaaGreatDoorM15
import Derived.Test.YtjedcphhajlnoaaGreatDoorM16
set_option linter.unusedSimpArgs false
set_option linter.unusedVariables false
set_option linter.unusedSectionVars false
/- Functions: entries of a table, places. -/
namespace Go.Proofs.YtjedcphhajlnoaaGreatDoor
open Go.RowKit

@[go_sem] def ctEntOk : Ct := ⟨false, [], fun args os => match args, os with
  | [.agg [.val (.int .i64 a), .val (.int .i64 b), .val (.int .i64 c)]], [] => is (vb (entB ⟨a, b, c⟩))
  | _, _ => no⟩
theorem s_entryOk_e : EnterOk Tryz.prog 258 := ⟨_, Tryz.func258, rfl, by decide⟩
@[go_sem] def s_entryOk_lv : List (List Nat) := [[1], [2]]
@[go_sem] noncomputable def s_entryOk_K : Known := (Known.nil).cons 89 ctWithin s_within s_within_e
set_option maxHeartbeats 8000000 in
theorem s_entryOk : Sound Tryz.prog 258 ctEntOk := by
  have ke := s_entryOk_K.env []
  have kl : Lives s_entryOk_lv := trivial
  refine sound_intro (E := ⟨ti, s_entryOk_K.Γ, []⟩) ke Tryz.func258 Tryz.ntmps258 rfl (rs := [.tmp 2]) rfl ?_
  intro args os hp
  unfold ctEntOk at hp ⊢
  dsimp only at hp ⊢
  split at hp
  · rename_i a b c
    refine ⟨by simp, fun φ0 w0 => ?_⟩
    refine goh trivial ?_
    refine ⟨by (simp only [go_sem, ↓reduceIte, reduceCtorEq, Nat.reduceAdd, Nat.reduceLT, Nat.reduceLeDiff, Nat.reduceEqDiff]) <;> trivial, [], ?_⟩
    all_goals try simp only [go_sem, inj_r, ↓reduceIte, reduceCtorEq, Nat.reduceAdd, Nat.reduceLT, Nat.reduceLeDiff, Nat.reduceEqDiff, Int.reduceEq]
    all_goals (repeat' refine And.intro ?_ ?_) <;> try exact shut7
    rw [Bool.eq_iff_iff]; simp [entB]; try omega
  · simp [no, is] at hp
theorem s_l5Entry_e : EnterOk Tryz.prog 211 := ⟨_, Tryz.func211, rfl, by decide⟩
@[go_sem] def s_l5Entry_lv : List (List Nat) := [[1], [2]]
@[go_sem] noncomputable def s_l5Entry_K : Known := Known.nil
set_option maxHeartbeats 8000000 in
theorem s_l5Entry : Sound Tryz.prog 211 ctEntOk := by
  have ke := s_l5Entry_K.env []
  have kl : Lives s_l5Entry_lv := trivial
  refine sound_intro (E := ⟨ti, s_l5Entry_K.Γ, []⟩) ke Tryz.func211 Tryz.ntmps211 rfl (rs := [.tmp 2]) rfl ?_
  intro args os hp
  unfold ctEntOk at hp ⊢
  dsimp only at hp ⊢
  split at hp
  · rename_i a b c
    refine ⟨by simp, fun φ0 w0 => ?_⟩
    refine goh trivial ?_
    refine ⟨by (simp only [go_sem, ↓reduceIte, reduceCtorEq, Nat.reduceAdd, Nat.reduceLT, Nat.reduceLeDiff, Nat.reduceEqDiff]) <;> trivial, [], ?_⟩
    all_goals try simp only [go_sem, inj_r, ↓reduceIte, reduceCtorEq, Nat.reduceAdd, Nat.reduceLT, Nat.reduceLeDiff, Nat.reduceEqDiff, Int.reduceEq]
    all_goals (repeat' refine And.intro ?_ ?_) <;> try exact shut7
    rw [Bool.eq_iff_iff]; simp [entB]; try omega
  · simp [no, is] at hp
@[go_sem] noncomputable def ctDdtOk : Ct := ⟨false, [[some .ent]], fun args os => match args, os with
  | [.one (.isl .ent es)], [] => ifp (es.length ≤ 4000000) (vb (ddtB es))
  | _, _ => no⟩
theorem ent_bad {es : List Ent} {i : Nat} (hi : i < es.length) (h : entB (es.getD i ET.ent.dflt) = false ∨ (i : Int) > 0 ∧ (es.getD i ET.ent.dflt).at_ ≤ (es.getD (i - 1) ET.ent.dflt).at_) : ddtB es = false :=
  ddtB_false.2 fun hd => by
    obtain ⟨h1, h2⟩ := hd.each i hi
    rcases h with h | ⟨h3, h4⟩
    · rw [h1] at h; cases h
    · have := h2 (by omega); omega
theorem ent_good {es : List Ent} {i : Nat} (hb : ∀ j, j < i → EntOk es j) (h : ¬ entB (es.getD i ET.ent.dflt) = false ∧ (¬ (i : Int) > 0 ∨ ¬ (es.getD i ET.ent.dflt).at_ ≤ (es.getD (i - 1) ET.ent.dflt).at_)) : ∀ j, j < i + 1 → EntOk es j := fun j hj => by
  rcases Nat.lt_succ_iff_lt_or_eq.1 hj with h2 | rfl
  · exact hb j h2
  · exact ⟨by simpa using h.1, fun h0 => by rcases h.2 with h3 | h3 <;> omega⟩
theorem s_specDdtOk_e : EnterOk Tryz.prog 148 := ⟨_, Tryz.func148, rfl, by decide⟩
@[go_sem] def s_specDdtOk_lv : List (List Nat) := [[0], [0, 6], [2], [0, 3], [0, 3, 10], [0, 3], [0, 3, 36], [2], [2]]
@[go_sem] noncomputable def s_specDdtOk_K : Known := (Known.nil).cons 211 ctEntOk s_l5Entry s_l5Entry_e
set_option maxHeartbeats 8000000 in
theorem s_specDdtOk : Sound Tryz.prog 148 ctDdtOk := by
  have ke := s_specDdtOk_K.env []
  have kl : Lives s_specDdtOk_lv := trivial
  refine sound_intro (E := ⟨ti, s_specDdtOk_K.Γ, []⟩) ke Tryz.func148 Tryz.ntmps148 rfl (rs := [.tmp 2]) rfl ?_
  intro args os hp
  unfold ctDdtOk at hp ⊢
  dsimp only at hp ⊢
  split at hp
  · rename_i es
    refine ⟨by simp, fun φ0 w0 => ?_⟩
    have hlen : es.length ≤ 4000000 := hp
    refine goh trivial ?_
    refine W_cnd ?_ ?_ <;> (try simp only [cnd_r]) <;> intro hc
    · have e : ddtB es = false := ddtB_false.2 fun h => by have := h.few; omega
      refine goh trivial ?_
      exact finh [] e
    · refine goh trivial ?_
      refine W_for es.length (fun i => ∀ j, j < i → EntOk es j) (fun i => ⟨[(0, .one (.isl .ent es)), (3, vi i)], [], []⟩) [] (leh trivial) (by omega) fun i hi hb => ?_
      refine goh trivial ?_
      refine W_cnd ?_ ?_ <;> (try simp only [cnd_r]) <;> intro hlt
      · have w1 : IntKind.i64.wrap ((i : Int) - 1) = (i : Int) - 1 := wrap_id _ (by omega) (by omega)
        have ht : ((i : Int) - 1).toNat = i - 1 := by omega
        refine goh (And.intro w1 ht) ?_
        refine W_cnd ?_ ?_ <;> (try simp only [cnd_r]) <;> intro hx
        · have e := ent_bad (by omega) hx
          refine goh trivial ?_
          exact finh [] e
        · refine goh trivial ?_
          exact ⟨[], by omega, leh trivial, ent_good hb hx⟩
      · have e : ddtB es = true := ddtB_true.2 ⟨by omega, fun j hj => hb j (by omega)⟩
        refine goh trivial ?_
        exact finh [] e
  · simp [no, ifp] at hp
theorem s_ddtOk_e : EnterOk Tryz.prog 218 := ⟨_, Tryz.func218, rfl, by decide⟩
@[go_sem] def s_ddtOk_lv : List (List Nat) := [[0], [0, 5, 6, 7], [0, 5, 6, 7, 8], [0, 3, 4, 5, 6, 7], [0, 5, 6, 7, 29], [2], [0, 5, 6, 7], [2]]
@[go_sem] noncomputable def s_ddtOk_K : Known := (Known.nil).cons 258 ctEntOk s_entryOk s_entryOk_e
set_option maxHeartbeats 8000000 in
theorem s_ddtOk : Sound Tryz.prog 218 ctDdtOk := by
  have ke := s_ddtOk_K.env []
  have kl : Lives s_ddtOk_lv := trivial
  refine sound_intro (E := ⟨ti, s_ddtOk_K.Γ, []⟩) ke Tryz.func218 Tryz.ntmps218 rfl (rs := [.tmp 2]) rfl ?_
  intro args os hp
  unfold ctDdtOk at hp ⊢
  dsimp only at hp ⊢
  split at hp
  · rename_i es
    refine ⟨by simp, fun φ0 w0 => ?_⟩
    have hlen : es.length ≤ 4000000 := hp
    refine goh trivial ?_
    refine W_for es.length (fun i => ∀ j, j < i → EntOk es j) (fun i => ⟨[(0, .one (.isl .ent es)), (5, .one (.isl .ent es)), (6, vi es.length), (7, vi i)], [], []⟩) [] (leh trivial) (by omega) fun i hi hb => ?_
    refine goh trivial ?_
    refine W_cnd ?_ ?_ <;> (try simp only [cnd_r]) <;> intro hlt
    · have w1 : IntKind.i64.wrap ((i : Int) - 1) = (i : Int) - 1 := wrap_id _ (by omega) (by omega)
      have ht : ((i : Int) - 1).toNat = i - 1 := by omega
      refine goh (And.intro w1 ht) ?_
      refine W_cnd ?_ ?_ <;> (try simp only [cnd_r]) <;> intro hx
      · have e := ent_bad (es := es) (i := i) (by omega) (by rcases hx with h | ⟨h1, h2⟩; exact .inl h; exact .inr ⟨by omega, by omega⟩)
        refine goh trivial ?_
        exact finh [] e
      · refine goh trivial ?_
        exact ⟨[], by omega, leh trivial, ent_good hb ⟨hx.1, by rcases hx.2 with h | h; exact .inl (by omega); exact .inr (by omega)⟩⟩
    · have e : ddtB es = decide ((es.length : Int) ≤ 48) := by
        rw [Bool.eq_iff_iff, ddtB_true, decide_eq_true_eq]
        exact ⟨fun h => by have := h.few; omega, fun h => ⟨by omega, fun j hj => hb j (by omega)⟩⟩
      refine goh trivial ?_
      exact finh [] e
  · simp [no, ifp] at hp
@[go_sem] noncomputable def ctPlaces : Ct := ⟨false, [[some .int]], fun args os => match args, os with
  | [.one (.isl .int zs)], [] => ifp (zs.length ≤ 4000000) (vb (safeB zs))
  | _, _ => no⟩
theorem s_l6Places_e : EnterOk Tryz.prog 149 := ⟨_, Tryz.func149, rfl, by decide⟩
@[go_sem] def s_l6Places_lv : List (List Nat) := [[0], [0, 3], [0, 3, 7], [0, 3], [0, 3, 37], [2], [2]]
@[go_sem] noncomputable def s_l6Places_K : Known := Known.nil
set_option maxHeartbeats 8000000 in
theorem s_l6Places : Sound Tryz.prog 149 ctPlaces := by
  have ke := s_l6Places_K.env []
  have kl : Lives s_l6Places_lv := trivial
  refine sound_intro (E := ⟨ti, s_l6Places_K.Γ, []⟩) ke Tryz.func149 Tryz.ntmps149 rfl (rs := [.tmp 2]) rfl ?_
  intro args os hp
  unfold ctPlaces at hp ⊢
  dsimp only at hp ⊢
  split at hp
  · rename_i zs
    refine ⟨by simp, fun φ0 w0 => ?_⟩
    have hlen : zs.length ≤ 4000000 := hp
    refine goh trivial ?_
    refine W_for zs.length (fun i => ∀ j, j < i → Safe zs j) (fun i => ⟨[(0, .one (.isl .int zs)), (3, vi i)], [], []⟩) [] (leh trivial) (by omega) fun i hi hb => ?_
    refine goh trivial ?_
    refine W_cnd ?_ ?_ <;> (try simp only [cnd_r]) <;> intro hlt
    · have w1 : IntKind.i64.wrap ((i : Int) - 1) = (i : Int) - 1 := wrap_id _ (by omega) (by omega)
      have ht : ((i : Int) - 1).toNat = i - 1 := by omega
      refine goh (And.intro w1 ht) ?_
      refine W_cnd ?_ ?_ <;> (try simp only [cnd_r]) <;> intro hx
      · have e : safeB zs = false := safeB_false.2 fun h => by
          obtain ⟨h1, h2⟩ := h i (by omega)
          have hx' : ((List.getD (α := Int) zs i 0) < (13 : Int) ∨ (List.getD (α := Int) zs i 0) ≥ (120 : Int)) ∨ (i : Int) > 0 ∧ (List.getD (α := Int) zs i 0) ≤ (List.getD (α := Int) zs (i - 1) 0) := hx
          clear hx
          rcases hx' with h3 | ⟨h3, h4⟩
          · omega
          · have := h2 (by omega); omega
        refine goh trivial ?_
        exact finh [] e
      · refine goh trivial ?_
        exact ⟨[], by omega, leh trivial, fun j hj => by
          rcases Nat.lt_succ_iff_lt_or_eq.1 hj with h2 | rfl
          · exact hb j h2
          · have hx' : (¬ (List.getD (α := Int) zs j 0) < (13 : Int) ∧ ¬ (List.getD (α := Int) zs j 0) ≥ (120 : Int)) ∧ (¬ (j : Int) > 0 ∨ ¬ (List.getD (α := Int) zs j 0) ≤ (List.getD (α := Int) zs (j - 1) 0)) := hx
            clear hx
            exact ⟨by omega, fun h0 => by omega⟩⟩
    · have e : safeB zs = true := safeB_true.2 fun j hj => hb j (by omega)
      refine goh trivial ?_
      exact finh [] e
  · simp [no, ifp] at hp
@[go_sem] noncomputable def ctAtE : Ct := ⟨false, [[some .ent]], fun args os => match args, os with
  | [.one (.isl .ent es), .one (.val (.int .i64 a))], [] => ifp (es.length ≤ 4000000) (.tup [vi (lowE es a), vb (thereE es a)])
  | _, _ => no⟩
theorem thereE_eq (es : List Ent) (a : Int) {k : Nat} (e : lowE es a = k) : thereE es a = if (k : Int) < es.length then decide ((es.getD k ET.ent.dflt).at_ = a) else false := by
  unfold thereE
  rw [e]
  by_cases h : (k : Int) < es.length
  · rw [if_pos h, decide_eq_true (show k < es.length by omega), Bool.true_and]
  · rw [if_neg h, decide_eq_false (show ¬ k < es.length by omega), Bool.false_and]
theorem s_l5At_e : EnterOk Tryz.prog 214 := ⟨_, Tryz.func214, rfl, by decide⟩
@[go_sem] def s_l5At_lv : List (List Nat) := [[0, 1], [0, 1, 6], [0, 1, 6, 19], [0, 1, 6], [4, 5]]
@[go_sem] noncomputable def s_l5At_K : Known := Known.nil
set_option maxHeartbeats 8000000 in
theorem s_l5At : Sound Tryz.prog 214 ctAtE := by
  have ke := s_l5At_K.env []
  have kl : Lives s_l5At_lv := trivial
  refine sound_intro (E := ⟨ti, s_l5At_K.Γ, []⟩) ke Tryz.func214 Tryz.ntmps214 rfl (rs := [.tmp 4, .tmp 5]) rfl ?_
  intro args os hp
  unfold ctAtE at hp ⊢
  dsimp only at hp ⊢
  split at hp
  · rename_i es a
    refine ⟨by simp, fun φ0 w0 => ?_⟩
    have hlen : es.length ≤ 4000000 := hp
    refine goh trivial ?_
    refine W_for es.length (fun i => ∀ j, j < i → (es.getD j ET.ent.dflt).at_ < a) (fun i => ⟨[(0, .one (.isl .ent es)), (1, vi a), (6, vi i)], [], []⟩) [] (leh trivial) (by omega) fun i hi hb => ?_
    refine goh trivial ?_
    refine W_cnd ?_ ?_ <;> (try simp only [cnd_r]) <;> intro hc
    · refine goh trivial ?_
      exact ⟨[], by omega, leh trivial, fun j hj => by
        rcases Nat.lt_succ_iff_lt_or_eq.1 hj with h2 | rfl
        · exact hb j h2
        · exact hc.2⟩
    · have e : lowE es a = i := lowE_eq hi hb (by omega)
      have e2 := thereE_eq es a e
      refine goh trivial ?_
      exact finh [] (And.intro e e2)
  · simp [no, ifp] at hp
@[go_sem] def ctCmpE : Ct := ⟨false, [], fun args os => match args, os with
  | [.agg [.val (.int .i64 a), .val (.int .i64 b), .val (.int .i64 c)], .one (.val (.int .i64 t))], [] => ifp ((-1000000 ≤ b ∧ b ≤ 1000000) ∧ (-1000000 ≤ t ∧ t ≤ 1000000)) (vi (b - t))
  | _, _ => no⟩
theorem s_ddtPlace1_e : EnterOk Tryz.prog 289 := ⟨_, Tryz.func289, rfl, by decide⟩
@[go_sem] def s_ddtPlace1_lv : List (List Nat) := [[1, 2], [4]]
@[go_sem] noncomputable def s_ddtPlace1_K : Known := Known.nil
set_option maxHeartbeats 8000000 in
theorem s_ddtPlace1 : Sound Tryz.prog 289 ctCmpE := by
  have ke := s_ddtPlace1_K.env []
  have kl : Lives s_ddtPlace1_lv := trivial
  refine sound_intro (E := ⟨ti, s_ddtPlace1_K.Γ, []⟩) ke Tryz.func289 Tryz.ntmps289 rfl (rs := [.tmp 4]) rfl ?_
  intro args os hp
  unfold ctCmpE at hp ⊢
  dsimp only at hp ⊢
  split at hp
  · rename_i a b c t
    refine ⟨by simp, fun φ0 w0 => ?_⟩
    obtain ⟨h1, h2⟩ : (-1000000 ≤ b ∧ b ≤ 1000000) ∧ (-1000000 ≤ t ∧ t ≤ 1000000) := hp
    refine goh trivial ?_
    exact finh [] trivial
  · simp [no, ifp] at hp
@[go_sem] noncomputable def ctSearchE : Ct := ⟨false, [[some .ent]], fun args os => match args, os with
  | [.one (.isl .ent es), .one (.val (.int .i64 a)), .one (.fn 289 [])], [] => ifp (es.length ≤ 4000000 ∧ Asc es ∧ (-1000000 ≤ a ∧ a ≤ 1000000)) (.tup [vi (lowE es a), vb (thereE es a)])
  | _, _ => no⟩
@[go_sem] def sgSearchE (es : List Ent) (a : Int) (i j : Nat) : Sg := ⟨[(0, .one (.isl .ent es)), (1, vi a), (2, .one (.fn 289 [])), (8, vi es.length), (9, vi i), (10, vi j)], [], []⟩
theorem Asc.hi {es : List Ent} (h : Asc es) {a : Int} {i j : Nat} (hij : i ≤ j) (hj : j < es.length) (hs : ¬ (es.getD i ET.ent.dflt).at_ < a) : ¬ (es.getD j ET.ent.dflt).at_ < a := by
  have := h.le hij hj; omega
theorem s_searchE_e : EnterOk Tryz.prog 288 := ⟨_, Tryz.func288, rfl, by decide⟩
@[go_sem] def s_searchE_lv : List (List Nat) := [[0, 1, 2], [0, 1, 2, 8], [0, 1, 2, 8, 9, 10], [0, 1, 2, 8, 9, 10, 17], [0, 1, 2, 8, 9, 10, 11], [0, 1, 2, 8, 9, 10, 11, 31], [0, 1, 2, 8, 9, 10], [0, 1, 2, 8, 9, 10], [6, 7]]
@[go_sem] noncomputable def s_searchE_K : Known := (Known.nil).cons 289 ctCmpE s_ddtPlace1 s_ddtPlace1_e
set_option maxHeartbeats 8000000 in
theorem s_searchE : Sound Tryz.prog 288 ctSearchE := by
  have ke := s_searchE_K.env []
  have kl : Lives s_searchE_lv := trivial
  refine sound_intro (E := ⟨ti, s_searchE_K.Γ, []⟩) ke Tryz.func288 Tryz.ntmps288 rfl (rs := [.tmp 6, .tmp 7]) rfl ?_
  intro args os hp
  unfold ctSearchE at hp ⊢
  dsimp only at hp ⊢
  split at hp
  · rename_i es a
    refine ⟨by simp, fun φ0 w0 => ?_⟩
    obtain ⟨hlen, hso, ha⟩ : es.length ≤ 4000000 ∧ Asc es ∧ (-1000000 ≤ a ∧ a ≤ 1000000) := hp
    refine goh trivial ?_
    refine W_le (σ' := sgSearchE es a 0 es.length) [] (leh trivial) ?_
    refine W_loop (fun q σ => ∃ i j : Nat, i ≤ j ∧ j ≤ es.length ∧ q = j - i ∧ (∀ k, k < i → (es.getD k ET.ent.dflt).at_ < a) ∧ (j < es.length → ¬ (es.getD j ET.ent.dflt).at_ < a) ∧ σ = sgSearchE es a i j) es.length ⟨0, es.length, by omega, by omega, by omega, by omega, by omega, rfl⟩ ?_
    rintro q σ ⟨i, j, hij, hj, rfl, hlo, hhi, rfl⟩
    unfold sgSearchE
    refine goh trivial ?_
    refine W_cnd ?_ ?_ <;> (try simp only [cnd_r]) <;> intro hlt
    · have hH := half i j (by omega) (by omega)
      obtain ⟨h, hh⟩ : ∃ h, (i + j) / 2 = h := ⟨_, rfl⟩
      rw [hh] at hH
      have hb := hso.lo h (by omega)
      refine goh hH ?_
      refine W_cnd ?_ ?_ <;> (try simp only [cnd_r]) <;> intro hc
      · refine goh trivial ?_
        refine ⟨j - (h + 1), [], sgSearchE es a (h + 1) j, by omega, leh trivial, h + 1, j, by omega, hj, rfl, fun k hk => ?_, hhi, rfl⟩
        have := hso.le (show k ≤ h by omega) (by omega)
        omega
      · refine goh trivial ?_
        exact ⟨h - i, [], sgSearchE es a i h, by omega, leh trivial, i, h, by omega, by omega, rfl, hlo, fun _ => by omega, rfl⟩
    · obtain rfl : i = j := by omega
      have e : lowE es a = i := lowE_eq hj hlo (by
        by_cases h : i < es.length
        · exact .inr (hhi h)
        · exact .inl (by omega))
      have e2 := thereE_eq es a e
      by_cases hi : i < es.length
      · have hb := hso.lo i hi
        refine goh trivial ?_
        refine ⟨by (simp only [go_sem, e, e2, ↓reduceIte, reduceCtorEq, Nat.reduceAdd, Nat.reduceLT, Nat.reduceLeDiff, Nat.reduceEqDiff]) <;> trivial, [], ?_⟩
        all_goals try simp only [go_sem, e, e2, inj_r, ↓reduceIte, reduceCtorEq, Nat.reduceAdd, Nat.reduceLT, Nat.reduceLeDiff, Nat.reduceEqDiff, Int.reduceEq]
        all_goals (repeat' refine And.intro ?_ ?_) <;> try exact shut7
        rw [if_pos (by omega), if_pos (by omega), Bool.eq_iff_iff, beq_iff_eq, decide_eq_true_eq]
        omega
      · refine goh trivial ?_
        refine ⟨by (simp only [go_sem, e, e2, ↓reduceIte, reduceCtorEq, Nat.reduceAdd, Nat.reduceLT, Nat.reduceLeDiff, Nat.reduceEqDiff]) <;> trivial, [], ?_⟩
        all_goals try simp only [go_sem, e, e2, inj_r, ↓reduceIte, reduceCtorEq, Nat.reduceAdd, Nat.reduceLT, Nat.reduceLeDiff, Nat.reduceEqDiff, Int.reduceEq]
        all_goals (repeat' refine And.intro ?_ ?_) <;> try exact shut7
        rw [if_neg (by omega), if_neg (by omega)]
  · simp [no, ifp] at hp
@[go_sem] noncomputable def ctPlaceE : Ct := ⟨false, [[some .ent]], fun args os => match args, os with
  | [.one (.isl .ent es), .one (.val (.int .i64 a))], [] => ifp (es.length ≤ 4000000 ∧ Asc es ∧ (-1000000 ≤ a ∧ a ≤ 1000000)) (.tup [vi (lowE es a), vb (thereE es a)])
  | _, _ => no⟩
theorem s_ddtPlace_e : EnterOk Tryz.prog 265 := ⟨_, Tryz.func265, rfl, by decide⟩
@[go_sem] def s_ddtPlace_lv : List (List Nat) := [[0, 1], [4, 5]]
@[go_sem] noncomputable def s_ddtPlace_K : Known := ((Known.nil).cons 288 ctSearchE s_searchE s_searchE_e).cons 289 ctCmpE s_ddtPlace1 s_ddtPlace1_e
set_option maxHeartbeats 8000000 in
theorem s_ddtPlace : Sound Tryz.prog 265 ctPlaceE := by
  have ke := s_ddtPlace_K.env []
  have kl : Lives s_ddtPlace_lv := trivial
  refine sound_intro (E := ⟨ti, s_ddtPlace_K.Γ, []⟩) ke Tryz.func265 Tryz.ntmps265 rfl (rs := [.tmp 4, .tmp 5]) rfl ?_
  intro args os hp
  unfold ctPlaceE at hp ⊢
  dsimp only at hp ⊢
  split at hp
  · rename_i es a
    refine ⟨by simp, fun φ0 w0 => ?_⟩
    obtain ⟨hlen, hso, ha⟩ : es.length ≤ 4000000 ∧ Asc es ∧ (-1000000 ≤ a ∧ a ≤ 1000000) := hp
    refine goh trivial ?_
    exact finh [] trivial
  · simp [no, ifp] at hp
end Go.Proofs.YtjedcphhajlnoaaGreatDoor
/- Functions: single sets. -/
namespace Go.Proofs.YtjedcphhajlnoaaGreatDoor
open Go.RowKit

@[go_sem] noncomputable def ctBadPtr : Ct := ⟨false, [], fun args os => match args, os with
  | [.agg [.val (.int .i64 a), .val (.int .i64 s), .val (.int .i64 b)]], [] => is (vb (badPtr ⟨a, s, b⟩))
  | _, _ => no⟩
theorem s_setOk1_e : EnterOk Tryz.prog 260 := ⟨_, Tryz.func260, rfl, by decide⟩
@[go_sem] def s_setOk1_lv : List (List Nat) := [[1], [2]]
@[go_sem] noncomputable def s_setOk1_K : Known := (Known.nil).cons 24 ctPtrOk s_ptrOk s_ptrOk_e
set_option maxHeartbeats 8000000 in
theorem s_setOk1 : Sound Tryz.prog 260 ctBadPtr := by
  have ke := s_setOk1_K.env []
  have kl : Lives s_setOk1_lv := trivial
  refine sound_intro (E := ⟨ti, s_setOk1_K.Γ, []⟩) ke Tryz.func260 Tryz.ntmps260 rfl (rs := [.tmp 2]) rfl ?_
  intro args os hp
  unfold ctBadPtr at hp ⊢
  dsimp only at hp ⊢
  split at hp
  · rename_i a s b
    refine ⟨by simp, fun φ0 w0 => ?_⟩
    refine goh trivial ?_
    refine ⟨by (simp only [go_sem, badPtr, ↓reduceIte, reduceCtorEq, Nat.reduceAdd, Nat.reduceLT, Nat.reduceLeDiff, Nat.reduceEqDiff]) <;> trivial, [], ?_⟩
    all_goals try simp only [go_sem, badPtr, inj_r, ↓reduceIte, reduceCtorEq, Nat.reduceAdd, Nat.reduceLT, Nat.reduceLeDiff, Nat.reduceEqDiff, Int.reduceEq]
    all_goals (repeat' refine And.intro ?_ ?_) <;> try exact shut7
  · simp [no, is] at hp
@[go_sem] noncomputable def ctPartBad : Ct := ⟨false, [], fun args os => match args, os with
  | [.agg [.val (.int .i64 a), .val (.int .i64 s), .val (.int .i64 b)]], [] => is (vb (partBad ⟨a, s, b⟩))
  | _, _ => no⟩
theorem s_coreOk1_e : EnterOk Tryz.prog 220 := ⟨_, Tryz.func220, rfl, by decide⟩
@[go_sem] def s_coreOk1_lv : List (List Nat) := [[1], [2]]
@[go_sem] noncomputable def s_coreOk1_K : Known := (Known.nil).cons 91 ctReal s_isReal s_isReal_e
set_option maxHeartbeats 8000000 in
theorem s_coreOk1 : Sound Tryz.prog 220 ctPartBad := by
  have ke := s_coreOk1_K.env []
  have kl : Lives s_coreOk1_lv := trivial
  refine sound_intro (E := ⟨ti, s_coreOk1_K.Γ, []⟩) ke Tryz.func220 Tryz.ntmps220 rfl (rs := [.tmp 2]) rfl ?_
  intro args os hp
  unfold ctPartBad at hp ⊢
  dsimp only at hp ⊢
  split at hp
  · rename_i a s b
    refine ⟨by simp, fun φ0 w0 => ?_⟩
    refine goh trivial ?_
    refine ⟨by (simp only [go_sem, partBad, ↓reduceIte, reduceCtorEq, Nat.reduceAdd, Nat.reduceLT, Nat.reduceLeDiff, Nat.reduceEqDiff]) <;> trivial, [], ?_⟩
    all_goals try simp only [go_sem, partBad, inj_r, ↓reduceIte, reduceCtorEq, Nat.reduceAdd, Nat.reduceLT, Nat.reduceLeDiff, Nat.reduceEqDiff, Int.reduceEq]
    all_goals (repeat' refine And.intro ?_ ?_) <;> try exact shut7
  · simp [no, is] at hp
@[go_sem] noncomputable def ctIxBadPtr : Ct := ⟨false, [[some .ptr]], fun args os => match args, os with
  | [.one (.isl .ptr xs), .one (.fn 260 [])], [] => ifp (xs.length ≤ 4000000) (vi (firstAt badPtr xs))
  | _, _ => no⟩
theorem s_ixBadPtr_e : EnterOk Tryz.prog 259 := ⟨_, Tryz.func259, rfl, by decide⟩
@[go_sem] def s_ixBadPtr_lv : List (List Nat) := [[0, 1], [0, 1, 7, 8], [0, 1, 7, 8, 9], [0, 1, 5, 7, 8], [0, 1, 5, 7, 8, 16], [4], [0, 1, 7, 8], [4]]
@[go_sem] noncomputable def s_ixBadPtr_K : Known := (Known.nil).cons 260 ctBadPtr s_setOk1 s_setOk1_e
set_option maxHeartbeats 8000000 in
theorem s_ixBadPtr : Sound Tryz.prog 259 ctIxBadPtr := by
  have ke := s_ixBadPtr_K.env []
  have kl : Lives s_ixBadPtr_lv := trivial
  refine sound_intro (E := ⟨ti, s_ixBadPtr_K.Γ, []⟩) ke Tryz.func259 Tryz.ntmps259 rfl (rs := [.tmp 4]) rfl ?_
  intro args os hp
  unfold ctIxBadPtr at hp ⊢
  dsimp only at hp ⊢
  split at hp
  · rename_i xs
    refine ⟨by simp, fun φ0 w0 => ?_⟩
    have hlen : xs.length ≤ 4000000 := hp
    refine goh trivial ?_
    refine W_for xs.length (fun i => ∀ j, j < i → badPtr (xs.getD j ET.ptr.dflt) = false) (fun i => ⟨[(8, vi i), (7, vi xs.length), (0, .one (.isl .ptr xs)), (1, .one (.fn 260 []))], [], []⟩) [] (leh trivial) (by omega) fun i hi hb => ?_
    refine goh trivial ?_
    refine W_cnd ?_ ?_ <;> (try simp only [cnd_r]) <;> intro hlt
    · refine goh trivial ?_
      refine W_cnd ?_ ?_ <;> (try simp only [cnd_r]) <;> intro hl
      · have e : firstAt badPtr xs = i := firstAt_some (d := ET.ptr.dflt) (by omega) hb hl
        refine goh trivial ?_
        exact finh [] e
      · refine goh trivial ?_
        exact ⟨[], by omega, leh trivial, fun j hj => by
          rcases Nat.lt_succ_iff_lt_or_eq.1 hj with h | rfl
          · exact hb j h
          · exact hl⟩
    · have e : firstAt badPtr xs = -1 := firstAt_none (d := ET.ptr.dflt) fun j hj => hb j (by omega)
      refine goh trivial ?_
      exact finh [] e
  · simp [no, ifp] at hp
@[go_sem] noncomputable def ctHasBadPtr : Ct := ⟨false, [[some .ptr]], fun args os => match args, os with
  | [.one (.isl .ptr xs), .one (.fn 260 [])], [] => ifp (xs.length ≤ 4000000) (vb (xs.any badPtr))
  | _, _ => no⟩
theorem s_hasBadPtr_e : EnterOk Tryz.prog 219 := ⟨_, Tryz.func219, rfl, by decide⟩
@[go_sem] def s_hasBadPtr_lv : List (List Nat) := [[0, 1], [4]]
@[go_sem] noncomputable def s_hasBadPtr_K : Known := (Known.nil).cons 259 ctIxBadPtr s_ixBadPtr s_ixBadPtr_e
set_option maxHeartbeats 8000000 in
theorem s_hasBadPtr : Sound Tryz.prog 219 ctHasBadPtr := by
  have ke := s_hasBadPtr_K.env []
  have kl : Lives s_hasBadPtr_lv := trivial
  refine sound_intro (E := ⟨ti, s_hasBadPtr_K.Γ, []⟩) ke Tryz.func219 Tryz.ntmps219 rfl (rs := [.tmp 4]) rfl ?_
  intro args os hp
  unfold ctHasBadPtr at hp ⊢
  dsimp only at hp ⊢
  split at hp
  · rename_i xs
    refine ⟨by simp, fun φ0 w0 => ?_⟩
    have hlen : xs.length ≤ 4000000 := hp
    refine goh trivial ?_
    refine ⟨by (simp only [go_sem, ↓reduceIte, reduceCtorEq, Nat.reduceAdd, Nat.reduceLT, Nat.reduceLeDiff, Nat.reduceEqDiff]) <;> trivial, [], ?_⟩
    all_goals try simp only [go_sem, inj_r, ↓reduceIte, reduceCtorEq, Nat.reduceAdd, Nat.reduceLT, Nat.reduceLeDiff, Nat.reduceEqDiff, Int.reduceEq]
    all_goals (repeat' refine And.intro ?_ ?_) <;> try exact shut7
    exact firstAt_ge _ _
  · simp [no, ifp] at hp
@[go_sem] noncomputable def ctIxPart : Ct := ⟨false, [[some .ptr]], fun args os => match args, os with
  | [.one (.isl .ptr xs), .one (.fn 220 [])], [] => ifp (xs.length ≤ 4000000) (vi (firstAt partBad xs))
  | _, _ => no⟩
theorem s_ixPart_e : EnterOk Tryz.prog 259 := ⟨_, Tryz.func259, rfl, by decide⟩
@[go_sem] def s_ixPart_lv : List (List Nat) := [[0, 1], [0, 1, 7, 8], [0, 1, 7, 8, 9], [0, 1, 5, 7, 8], [0, 1, 5, 7, 8, 16], [4], [0, 1, 7, 8], [4]]
@[go_sem] noncomputable def s_ixPart_K : Known := (Known.nil).cons 220 ctPartBad s_coreOk1 s_coreOk1_e
set_option maxHeartbeats 8000000 in
theorem s_ixPart : Sound Tryz.prog 259 ctIxPart := by
  have ke := s_ixPart_K.env []
  have kl : Lives s_ixPart_lv := trivial
  refine sound_intro (E := ⟨ti, s_ixPart_K.Γ, []⟩) ke Tryz.func259 Tryz.ntmps259 rfl (rs := [.tmp 4]) rfl ?_
  intro args os hp
  unfold ctIxPart at hp ⊢
  dsimp only at hp ⊢
  split at hp
  · rename_i xs
    refine ⟨by simp, fun φ0 w0 => ?_⟩
    have hlen : xs.length ≤ 4000000 := hp
    refine goh trivial ?_
    refine W_for xs.length (fun i => ∀ j, j < i → partBad (xs.getD j ET.ptr.dflt) = false) (fun i => ⟨[(8, vi i), (7, vi xs.length), (0, .one (.isl .ptr xs)), (1, .one (.fn 220 []))], [], []⟩) [] (leh trivial) (by omega) fun i hi hb => ?_
    refine goh trivial ?_
    refine W_cnd ?_ ?_ <;> (try simp only [cnd_r]) <;> intro hlt
    · refine goh trivial ?_
      refine W_cnd ?_ ?_ <;> (try simp only [cnd_r]) <;> intro hl
      · have e : firstAt partBad xs = i := firstAt_some (d := ET.ptr.dflt) (by omega) hb hl
        refine goh trivial ?_
        exact finh [] e
      · refine goh trivial ?_
        exact ⟨[], by omega, leh trivial, fun j hj => by
          rcases Nat.lt_succ_iff_lt_or_eq.1 hj with h | rfl
          · exact hb j h
          · exact hl⟩
    · have e : firstAt partBad xs = -1 := firstAt_none (d := ET.ptr.dflt) fun j hj => hb j (by omega)
      refine goh trivial ?_
      exact finh [] e
  · simp [no, ifp] at hp
@[go_sem] noncomputable def ctHasPart : Ct := ⟨false, [[some .ptr]], fun args os => match args, os with
  | [.one (.isl .ptr xs), .one (.fn 220 [])], [] => ifp (xs.length ≤ 4000000) (vb (xs.any partBad))
  | _, _ => no⟩
theorem s_hasPart_e : EnterOk Tryz.prog 219 := ⟨_, Tryz.func219, rfl, by decide⟩
@[go_sem] def s_hasPart_lv : List (List Nat) := [[0, 1], [4]]
@[go_sem] noncomputable def s_hasPart_K : Known := (Known.nil).cons 259 ctIxPart s_ixPart s_ixPart_e
set_option maxHeartbeats 8000000 in
theorem s_hasPart : Sound Tryz.prog 219 ctHasPart := by
  have ke := s_hasPart_K.env []
  have kl : Lives s_hasPart_lv := trivial
  refine sound_intro (E := ⟨ti, s_hasPart_K.Γ, []⟩) ke Tryz.func219 Tryz.ntmps219 rfl (rs := [.tmp 4]) rfl ?_
  intro args os hp
  unfold ctHasPart at hp ⊢
  dsimp only at hp ⊢
  split at hp
  · rename_i xs
    refine ⟨by simp, fun φ0 w0 => ?_⟩
    have hlen : xs.length ≤ 4000000 := hp
    refine goh trivial ?_
    refine ⟨by (simp only [go_sem, ↓reduceIte, reduceCtorEq, Nat.reduceAdd, Nat.reduceLT, Nat.reduceLeDiff, Nat.reduceEqDiff]) <;> trivial, [], ?_⟩
    all_goals try simp only [go_sem, inj_r, ↓reduceIte, reduceCtorEq, Nat.reduceAdd, Nat.reduceLT, Nat.reduceLeDiff, Nat.reduceEqDiff, Int.reduceEq]
    all_goals (repeat' refine And.intro ?_ ?_) <;> try exact shut7
    exact firstAt_ge _ _
  · simp [no, ifp] at hp
structure CSet.small (s : CSet) : Prop where
  name : s.name.size ≤ 9223372036854775807
  from_ : s.from_.size ≤ 9223372036854775807
@[go_sem] noncomputable def ctSetOk : Ct := ⟨false, [], fun args os => match args, os with
  | [.agg cs], [] => (match csetOf cs with | some s => ifp s.small (vb (csetB s)) | none => no)
  | _, _ => no⟩
theorem s_setOk_e : EnterOk Tryz.prog 223 := ⟨_, Tryz.func223, rfl, by decide⟩
@[go_sem] def s_setOk_lv : List (List Nat) := [[1], [1, 33], [2], [2]]
@[go_sem] noncomputable def s_setOk_K : Known := ((((Known.nil).cons 127 ctName s_bookName s_bookName_e).cons 24 ctPtrOk s_ptrOk s_ptrOk_e).cons 219 ctHasBadPtr s_hasBadPtr s_hasBadPtr_e).cons 260 ctBadPtr s_setOk1 s_setOk1_e
set_option maxHeartbeats 8000000 in
theorem s_setOk : Sound Tryz.prog 223 ctSetOk := by
  have ke := s_setOk_K.env []
  have kl : Lives s_setOk_lv := trivial
  refine sound_intro (E := ⟨ti, s_setOk_K.Γ, []⟩) ke Tryz.func223 Tryz.ntmps223 rfl (rs := [.tmp 2]) rfl ?_
  intro args os hp
  unfold ctSetOk at hp ⊢
  dsimp only at hp ⊢
  split at hp
  · rename_i cs
    split at hp
    · rename_i s hs
      obtain rfl := csetOf_some hs
      obtain ⟨h1, h2⟩ : s.small := hp
      clear hs
      refine ⟨by simp, fun φ0 w0 => ?_⟩
      refine goh trivial ?_
      refine W_cnd ?_ ?_ <;> (try simp only [cnd_r]) <;> intro hc
      · have e := csetB_no hc
        refine goh trivial ?_
        exact finh [] e
      · have e := csetB_yes hc
        simp only [Eight.list, List.any_cons, List.any_nil, Bool.or_false] at e
        refine goh trivial ?_
        exact finh [] e
    · simp [no] at hp
  · simp [no] at hp
theorem s_l6Set_e : EnterOk Tryz.prog 150 := ⟨_, Tryz.func150, rfl, by decide⟩
@[go_sem] def s_l6Set_lv : List (List Nat) := [[1], [1, 34], [2], [1, 3], [1, 3, 36], [1, 3], [1, 3, 44], [2], [2]]
@[go_sem] noncomputable def s_l6Set_K : Known := ((Known.nil).cons 132 ctName s_specName s_specName_e).cons 25 ctPtrOk s_specPtrOk s_specPtrOk_e
set_option maxHeartbeats 8000000 in
theorem s_l6Set : Sound Tryz.prog 150 ctSetOk := by
  have ke := s_l6Set_K.env []
  have kl : Lives s_l6Set_lv := trivial
  refine sound_intro (E := ⟨ti, s_l6Set_K.Γ, []⟩) ke Tryz.func150 Tryz.ntmps150 rfl (rs := [.tmp 2]) rfl ?_
  intro args os hp
  unfold ctSetOk at hp ⊢
  dsimp only at hp ⊢
  split at hp
  · rename_i cs
    split at hp
    · rename_i s hs
      obtain rfl := csetOf_some hs
      obtain ⟨h1, h2⟩ : s.small := hp
      clear hs
      refine ⟨by simp, fun φ0 w0 => ?_⟩
      refine goh trivial ?_
      refine W_cnd ?_ ?_ <;> (try simp only [cnd_r]) <;> intro hc
      · have e : csetB s = false := csetB_no (by
          rcases hc with ((h | h) | h) | h
          · exact .inl (.inl h)
          · exact .inl (.inr (by omega))
          · exact .inl (.inr (by omega))
          · exact .inr h)
        refine goh trivial ?_
        exact finh [] e
      · have e : csetB s = !s.map.list.any badPtr := csetB_yes ⟨⟨hc.1.1.1, fun _ => by omega⟩, hc.2⟩
        refine goh trivial ?_
        refine W_for 8 (fun i => (s.map.list.take i).any badPtr = false) (fun i => ⟨[(1, .one (.ptr 0 0)), (3, vi i)], [some (.cells ((ET.cset.cells s).map .val))], []⟩) [some 0] (leh trivial) rfl fun i hi hb => ?_
        rcases (show i < 8 ∨ i = 8 by omega) with hi8 | hc8
        · rcases (show i = 0 ∨ i = 1 ∨ i = 2 ∨ i = 3 ∨ i = 4 ∨ i = 5 ∨ i = 6 ∨ i = 7 by omega) with hc8 | hc8 | hc8 | hc8 | hc8 | hc8 | hc8 | hc8
          all_goals
            subst hc8
            refine goh trivial ?_
            refine W_cnd ?_ ?_ <;> intro hlit <;> try (cases hlit; done)
            refine goh trivial ?_
            refine W_cnd ?_ ?_ <;> (try simp only [cnd_r]) <;> intro hl
            · have e : csetB s = false := by
                rw [e]
                simp only [Eight.list, List.any_cons, List.any_nil, Bool.or_false, badPtr, hl, Bool.not_false, Bool.true_or, Bool.or_true, Bool.not_true]
              refine goh trivial ?_
              exact finh [] e
            · refine goh trivial ?_
              exact ⟨[some 0], by omega, leh trivial, by
                simp only [Eight.list, List.take_succ_cons, List.take_zero, List.any_cons, List.any_nil, Bool.or_false, badPtr, Bool.or_eq_false_iff] at hb ⊢
                simp only [hb, hl, Bool.not_true, and_self]⟩
        · subst hc8
          have e : csetB s = true := by rw [e, show s.map.list = s.map.list.take 8 from rfl, hb]; rfl
          refine goh trivial ?_
          refine W_cnd ?_ ?_ <;> intro hlit <;> try (cases hlit; done)
          refine goh trivial ?_
          exact finh [] e
    · simp [no] at hp
  · simp [no] at hp
end Go.Proofs.YtjedcphhajlnoaaGreatDoor
/- Functions: the book of a core's sets; sets that are not well formed. -/
namespace Go.Proofs.YtjedcphhajlnoaaGreatDoor
open Go.RowKit

@[go_sem] noncomputable def ctFrame : Ct := ⟨false, [[none, some .cset, some .ent, some .ptr, none, some .int, none]], fun args os => match args, os with
  | [.agg [.val (.int .i64 txg), .isl .cset cs, .isl .ent es, .isl .ptr ps, .val (.bool dirty), .isl .int zs, .val (.int .i64 logn)]], [] => ⟨cs.length ≤ 4000000, .agg [.osl .bset 0 0 (frameOf cs).length], [], [.arr .bset (frameOf cs)]⟩
  | _, _ => no⟩
attribute [go_sem] Eight.rep
theorem frame_takes (cs : List CSet) (i : Nat) : (frameOf (cs.take i)).take i = frameOf (cs.take i) := List.take_of_length_le (by rw [frame_len, List.length_take]; omega)
theorem frame_end {cs : List CSet} {i : Nat} (h : cs.length ≤ i) : frameOf (cs.take i) = frameOf cs := by rw [List.take_of_length_le h]
theorem s_frame_e : EnterOk Tryz.prog 225 := ⟨_, Tryz.func225, rfl, by decide⟩
@[go_sem] def s_frame_lv : List (List Nat) := [[1, 2], [1, 2, 3], [2, 3, 7, 8, 9], [2, 3, 7, 8, 9, 10], [2, 3, 5, 7, 8, 9], [2, 3, 7, 8, 9], [2, 3, 7, 8, 9], [2]]
@[go_sem] noncomputable def s_frame_K : Known := Known.nil
set_option maxHeartbeats 8000000 in
theorem s_frame : Sound Tryz.prog 225 ctFrame := by
  have ke := s_frame_K.env []
  have kl : Lives s_frame_lv := trivial
  refine sound_intro (E := ⟨ti, s_frame_K.Γ, []⟩) ke Tryz.func225 Tryz.ntmps225 rfl (rs := [.cell 2 119]) rfl ?_
  intro args os hp
  unfold ctFrame at hp ⊢
  dsimp only at hp ⊢
  split at hp
  · rename_i txg cs es ps dirty zs logn
    refine ⟨by simp, fun φ0 w0 => ?_⟩
    have hlen : cs.length ≤ 4000000 := hp
    refine goh trivial ?_
    refine W_for cs.length (fun i => True) (fun i => ⟨[(2, .one (.ptr 0 0)), (3, .one (.ptr 1 0)), (7, .one (.isl .cset cs)), (8, vi cs.length), (9, vi i)], [some (.cells [.val (.slice none 0 0)]), some (.cells [.osl .bset 2 0 i]), some (.arr .bset (frameOf (cs.take i)))], []⟩) [some 1, some 2, none] (leh trivial) trivial fun i hi _ => ?_
    refine goh trivial ?_
    refine W_cnd ?_ ?_ <;> (try simp only [cnd_r]) <;> intro hlt
    · have hk := frame_take (show i < cs.length by omega)
      have hl : (frameOf (cs.take i)).length = i := by rw [frame_len, List.length_take]; omega
      refine goh hl ?_
      exact ⟨[some 0, some 1, some 5], by omega, leh (And.intro (frame_takes cs i) hk), trivial⟩
    · have e := frame_end (show cs.length ≤ i by omega)
      obtain rfl : i = cs.length := by omega
      refine goh trivial ?_
      exact finh [some 2] (And.intro e ((frame_len cs)))
  · simp [no, ifp] at hp
theorem s_l6Names_e : EnterOk Tryz.prog 74 := ⟨_, Tryz.func74, rfl, by decide⟩
@[go_sem] def s_l6Names_lv : List (List Nat) := [[1, 2], [1, 2, 3], [1, 2, 3, 4], [1, 2, 3, 4, 10], [1, 2, 3, 4], [1, 2, 3, 4], [2]]
@[go_sem] noncomputable def s_l6Names_K : Known := Known.nil
set_option maxHeartbeats 8000000 in
theorem s_l6Names : Sound Tryz.prog 74 ctFrame := by
  have ke := s_l6Names_K.env []
  have kl : Lives s_l6Names_lv := trivial
  refine sound_intro (E := ⟨ti, s_l6Names_K.Γ, []⟩) ke Tryz.func74 Tryz.ntmps74 rfl (rs := [.cell 2 119]) rfl ?_
  intro args os hp
  unfold ctFrame at hp ⊢
  dsimp only at hp ⊢
  split at hp
  · rename_i txg cs es ps dirty zs logn
    refine ⟨by simp, fun φ0 w0 => ?_⟩
    have hlen : cs.length ≤ 4000000 := hp
    refine goh trivial ?_
    refine W_for cs.length (fun i => True) (fun i => ⟨[(1, .one (.ptr 0 0)), (2, .one (.ptr 1 0)), (3, .one (.ptr 2 0)), (4, vi i)], [some (.cells [.val (.int .i64 txg), .isl .cset cs, .isl .ent es, .isl .ptr ps, .val (.bool dirty), .isl .int zs, .val (.int .i64 logn)]), some (.cells [.val (.slice none 0 0)]), some (.cells [.osl .bset 3 0 i]), some (.arr .bset (frameOf (cs.take i)))], []⟩) [some 0, some 1, some 2, none] (leh trivial) trivial fun i hi _ => ?_
    refine goh trivial ?_
    refine W_cnd ?_ ?_ <;> (try simp only [cnd_r]) <;> intro hlt
    · have hk := frame_take (show i < cs.length by omega)
      have hl : (frameOf (cs.take i)).length = i := by rw [frame_len, List.length_take]; omega
      refine goh hl ?_
      exact ⟨[some 0, some 1, some 2, some 5], by omega, leh (And.intro (frame_takes cs i) hk), trivial⟩
    · have e := frame_end (show cs.length ≤ i by omega)
      obtain rfl : i = cs.length := by omega
      refine goh trivial ?_
      exact finh [some 3] (And.intro e ((frame_len cs)))
  · simp [no, ifp] at hp
end Go.Proofs.YtjedcphhajlnoaaGreatDoor
/- Functions: pointers counted. -/
namespace Go.Proofs.YtjedcphhajlnoaaGreatDoor
open Go.RowKit

@[go_sem] noncomputable def ctRefs : Ct := ⟨false, [[none, some .cset, some .ent, some .ptr, none, some .int, none]], fun args os => match args, os with
  | [.agg [.val (.int .i64 txg), .isl .cset cs, .isl .ent es, .isl .ptr ps, .val (.bool dirty), .isl .int zs, .val (.int .i64 logn)], .one (.val (.int .i64 a))], [] => ifp (cs.length ≤ 4000000) (vi (rcnt (refsP cs) a))
  | _, _ => no⟩
@[go_sem] def obCo (txg : Int) (cs : List CSet) (es : List Ent) (ps : List Ptr) (dirty : Bool) (zs : List Int) (logn : Int) : Obj := .cells [.val (.int .i64 txg), .isl .cset cs, .isl .ent es, .isl .ptr ps, .val (.bool dirty), .isl .int zs, .val (.int .i64 logn)]
theorem s_l6Refs_e : EnterOk Tryz.prog 213 := ⟨_, Tryz.func213, rfl, by decide⟩
@[go_sem] def s_l6Refs_lv : List (List Nat) := [[1, 2], [1, 2, 5], [1, 2, 5, 6], [1, 2, 5, 6, 12], [1, 2, 5, 6], [1, 2, 5, 6, 7], [1, 2, 5, 6, 7, 16], [1, 2, 5, 6, 7], [1, 2, 5, 6, 7, 33], [1, 2, 5, 6, 7], [4]]
@[go_sem] noncomputable def s_l6Refs_K : Known := Known.nil
set_option maxHeartbeats 8000000 in
theorem s_l6Refs : Sound Tryz.prog 213 ctRefs := by
  have ke := s_l6Refs_K.env []
  have kl : Lives s_l6Refs_lv := trivial
  refine sound_intro (E := ⟨ti, s_l6Refs_K.Γ, []⟩) ke Tryz.func213 Tryz.ntmps213 rfl (rs := [.tmp 4]) rfl ?_
  intro args os hp
  unfold ctRefs at hp ⊢
  dsimp only at hp ⊢
  split at hp
  · rename_i txg cs es ps dirty zs logn a
    refine ⟨by simp, fun φ0 w0 => ?_⟩
    have hlen : cs.length ≤ 4000000 := hp
    refine goh trivial ?_
    refine W_for cs.length (fun i => True) (fun i => ⟨[(1, vi a), (2, .one (.ptr 0 0)), (5, vi (rcnt (refsP (cs.take i)) a)), (6, vi i)], [some (obCo txg cs es ps dirty zs logn)], []⟩) [some 0] (leh (rcnt_nil a)) trivial fun i hi _ => ?_
    refine goh trivial ?_
    refine W_cnd ?_ ?_ <;> (try simp only [cnd_r]) <;> intro hlt
    · refine goh trivial ?_
      have h0 := ptrsTo_zero cs i
      refine W_for 8 (fun j => True) (fun j => ⟨[(1, vi a), (2, .one (.ptr 0 0)), (5, vi (rcnt (ptrsTo cs i j) a)), (6, vi i), (7, vi j)], [some (obCo txg cs es ps dirty zs logn)], []⟩) [some 0] (leh h0) trivial fun j hj _ => ?_
      rcases (show j < 8 ∨ j = 8 by omega) with hi8 | hc8
      · have hn := ptrsTo_next cs i hi8
        have hl := ptrsTo_len cs i j
        have hr2 := rcnt_le (ptrsTo cs i j) a
        have hw := wrap_id (rcnt (ptrsTo cs i j) a + 1) (by omega) (by omega)
        rcases (show j = 0 ∨ j = 1 ∨ j = 2 ∨ j = 3 ∨ j = 4 ∨ j = 5 ∨ j = 6 ∨ j = 7 by omega) with hc8 | hc8 | hc8 | hc8 | hc8 | hc8 | hc8 | hc8
        all_goals
          subst hc8
          refine goh trivial ?_
          refine W_cnd ?_ ?_ <;> intro hlit <;> try (cases hlit; done)
          refine goh trivial ?_
          refine W_cnd ?_ ?_ <;> (try simp only [cnd_r]) <;> intro hx
          · have hr := (congrArg (rcnt · a) hn).trans (rcnt_yes hx)
            simp only [Nat.reduceAdd] at hr
            refine goh hw ?_
            exact ⟨[some 0], by omega, leh hr, trivial⟩
          · have hr := (congrArg (rcnt · a) hn).trans (rcnt_no hx)
            simp only [Nat.reduceAdd] at hr
            refine goh trivial ?_
            exact ⟨[some 0], by omega, leh hr, trivial⟩
      · subst hc8
        have he := ptrsTo_end (show i < cs.length by omega)
        refine goh trivial ?_
        refine W_cnd ?_ ?_ <;> intro hlit <;> try (cases hlit; done)
        refine goh trivial ?_
        exact ⟨[some 0], by omega, leh he, trivial⟩
    · have e := refs_end (show cs.length ≤ i by omega)
      refine goh trivial ?_
      exact finh [] e
  · simp [no, ifp] at hp
@[go_sem] noncomputable def ctCountsS : Ct := ⟨false, [[none, some .cset, some .ent, some .ptr, none, some .int, none]], fun args os => match args, os with
  | [.agg [.val (.int .i64 txg), .isl .cset cs, .isl .ent es, .isl .ptr ps, .val (.bool dirty), .isl .int zs, .val (.int .i64 logn)]], [] => ifp (cs.length ≤ 4000000 ∧ es.length ≤ 48) (vb (countsS (refsP cs) es))
  | _, _ => no⟩
theorem s_l6Counts_e : EnterOk Tryz.prog 152 := ⟨_, Tryz.func152, rfl, by decide⟩
@[go_sem] def s_l6Counts_lv : List (List Nat) := [[1], [1, 3], [1, 3, 4], [1, 3, 4, 11], [1, 3, 4], [1, 3, 4, 28], [2], [1, 3, 4], [1, 3, 5], [1, 3, 5, 41], [1, 3, 5], [1, 3, 5, 6], [1, 3, 5, 6, 45], [1, 3, 5, 6], [1, 3, 5, 6, 57], [1, 3, 5, 6], [2]]
@[go_sem] noncomputable def s_l6Counts_K : Known := (Known.nil).cons 213 ctRefs s_l6Refs s_l6Refs_e
set_option maxHeartbeats 8000000 in
theorem s_l6Counts : Sound Tryz.prog 152 ctCountsS := by
  have ke := s_l6Counts_K.env []
  have kl : Lives s_l6Counts_lv := trivial
  refine sound_intro (E := ⟨ti, s_l6Counts_K.Γ, []⟩) ke Tryz.func152 Tryz.ntmps152 rfl (rs := [.tmp 2]) rfl ?_
  intro args os hp
  unfold ctCountsS at hp ⊢
  dsimp only at hp ⊢
  split at hp
  · rename_i txg cs es ps dirty zs logn
    refine ⟨by simp, fun φ0 w0 => ?_⟩
    obtain ⟨hlen, hes⟩ : cs.length ≤ 4000000 ∧ es.length ≤ 48 := hp
    have hrl := refs_len cs
    refine goh trivial ?_
    refine W_for es.length (fun i => ∀ j, j < i → rcnt (refsP cs) (es.getD j ET.ent.dflt).at_ = (es.getD j ET.ent.dflt).count) (fun i => ⟨[(1, .one (.ptr 0 0)), (3, vi (sumC (es.take i))), (4, vi i)], [some (obCo txg cs es ps dirty zs logn)], []⟩) [some 0] (leh sumC_nil) (by omega) fun i hi hb => ?_
    have hsl := sumC_le (n := 32000000) hi fun j hj => by
      have h1 := hb j hj
      have h2 := rcnt_le (refsP cs) (es.getD j ET.ent.dflt).at_
      omega
    refine goh trivial ?_
    refine W_cnd ?_ ?_ <;> (try simp only [cnd_r]) <;> intro hlt
    · refine goh trivial ?_
      refine W_cnd ?_ ?_ <;> (try simp only [cnd_r]) <;> intro hx
      · have e : countsS (refsP cs) es = false := countsS_false.2 fun h => hx (h.1 i (by omega))
        refine goh trivial ?_
        exact finh [] e
      · have hk := sumC_take (show i < es.length by omega)
        have h2 := rcnt_le (refsP cs) (es.getD i ET.ent.dflt).at_
        have hw := wrap_id (sumC (es.take i) + (es.getD i ET.ent.dflt).count) (by omega) (by omega)
        refine goh hw ?_
        exact ⟨[some 0], by omega, leh hk, fun j hj => by
          rcases Nat.lt_succ_iff_lt_or_eq.1 hj with h | rfl
          · exact hb j h
          · exact hx⟩
    · have hse := sumC_end (show es.length ≤ i by omega)
      rw [hse] at hsl
      have hall : ∀ k, k < es.length → rcnt (refsP cs) (es.getD k ET.ent.dflt).at_ = (es.getD k ET.ent.dflt).count := fun k hk => hb k (by omega)
      refine goh hse ?_
      have hp0 : sumC es - ((posN (refsP []) : Nat) : Int) = sumC es := by rw [refs_nil]; simp [posN]
      refine W_for cs.length (fun i => True) (fun i => ⟨[(1, .one (.ptr 0 0)), (3, vi (sumC es - posN (refsP (cs.take i)))), (5, vi i)], [some (obCo txg cs es ps dirty zs logn)], []⟩) [some 0] (leh hp0) trivial fun i hi _ => ?_
      refine goh trivial ?_
      refine W_cnd ?_ ?_ <;> (try simp only [cnd_r]) <;> intro hlt
      · refine goh trivial ?_
        have h0 := ptrsTo_zero cs i
        refine W_for 8 (fun j => True) (fun j => ⟨[(1, .one (.ptr 0 0)), (3, vi (sumC es - posN (ptrsTo cs i j))), (5, vi i), (6, vi j)], [some (obCo txg cs es ps dirty zs logn)], []⟩) [some 0] (leh h0) trivial fun j hj _ => ?_
        rcases (show j < 8 ∨ j = 8 by omega) with hi8 | hc8
        · have hn := ptrsTo_next cs i hi8
          have hl := ptrsTo_len cs i j
          have hr2 := posN_le (ptrsTo cs i j)
          have hw := wrap_id (sumC es - posN (ptrsTo cs i j) - 1) (by omega) (by omega)
          have ha : ∀ q : Int, q = posN (ptrsTo cs i j) + 1 → sumC es - posN (ptrsTo cs i j) - 1 = sumC es - q := fun q hq => by omega
          rcases (show j = 0 ∨ j = 1 ∨ j = 2 ∨ j = 3 ∨ j = 4 ∨ j = 5 ∨ j = 6 ∨ j = 7 by omega) with hc8 | hc8 | hc8 | hc8 | hc8 | hc8 | hc8 | hc8
          all_goals
            subst hc8
            refine goh trivial ?_
            refine W_cnd ?_ ?_ <;> intro hlit <;> try (cases hlit; done)
            refine goh trivial ?_
            refine W_cnd ?_ ?_ <;> (try simp only [cnd_r]) <;> intro hx
            · have hr := ha _ ((congrArg (fun l => (posN l : Int)) hn).trans (posN_yes hx))
              simp only [Nat.reduceAdd] at hr
              refine goh hw ?_
              exact ⟨[some 0], by omega, leh hr, trivial⟩
            · have hr := (congrArg posN hn).trans (posN_no hx)
              simp only [Nat.reduceAdd] at hr
              refine goh trivial ?_
              exact ⟨[some 0], by omega, leh hr, trivial⟩
        · subst hc8
          have he := ptrsTo_end (show i < cs.length by omega)
          refine goh trivial ?_
          refine W_cnd ?_ ?_ <;> intro hlit <;> try (cases hlit; done)
          refine goh trivial ?_
          exact ⟨[some 0], by omega, leh he, trivial⟩
      · have e := refs_end (show cs.length ≤ i by omega)
        have e2 : countsS (refsP cs) es = (sumC es - posN (refsP cs) == 0) := by
          rw [Bool.eq_iff_iff, countsS_true, beq_iff_eq]
          exact ⟨fun h => by have := h.2; omega, fun h => ⟨hall, by omega⟩⟩
        refine goh e ?_
        exact finh [] e2
  · simp [no, ifp] at hp
@[go_sem] noncomputable def ctSumsS : Ct := ⟨false, [[none, some .cset, some .ent, some .ptr, none, some .int, none]], fun args os => match args, os with
  | [.agg [.val (.int .i64 txg), .isl .cset cs, .isl .ent es, .isl .ptr ps, .val (.bool dirty), .isl .int zs, .val (.int .i64 logn)]], [] => ifp (cs.length ≤ 4000000 ∧ es.length ≤ 4000000) (vb (sumsS (refsP cs) es))
  | _, _ => no⟩
/-- A pointer's sum is the table's. -/
def PtrSum (es : List Ent) (p : Ptr) : Prop := p.at_ > 0 → thereE es p.at_ = true ∧ (es.getD (lowE es p.at_) ET.ent.dflt).sum = p.sum
theorem ptr_in {cs : List CSet} {i j : Nat} (hi : i < cs.length) (hj : j < 8) : (cs.getD i ET.cset.dflt).map.get j ∈ refsP cs := by
  have h1 : (cs.getD i ET.cset.dflt).map.get j ∈ (cs.getD i ET.cset.dflt).map.list := List.mem_of_mem_take (by rw [list_take _ _ hj]; simp)
  unfold refsP
  rw [List.mem_flatMap]
  exact ⟨_, by simp [hi], h1⟩
theorem s_l6Sums_e : EnterOk Tryz.prog 153 := ⟨_, Tryz.func153, rfl, by decide⟩
@[go_sem] def s_l6Sums_lv : List (List Nat) := [[1], [1, 3], [1, 3, 12], [1, 3], [1, 3, 4], [1, 3, 4, 16], [1, 3, 4], [1, 3, 4, 5], [1, 3, 4, 5, 6, 7], [1, 3, 4, 52], [2], [2]]
@[go_sem] noncomputable def s_l6Sums_K : Known := (Known.nil).cons 214 ctAtE s_l5At s_l5At_e
set_option maxHeartbeats 8000000 in
theorem s_l6Sums : Sound Tryz.prog 153 ctSumsS := by
  have ke := s_l6Sums_K.env []
  have kl : Lives s_l6Sums_lv := trivial
  refine sound_intro (E := ⟨ti, s_l6Sums_K.Γ, []⟩) ke Tryz.func153 Tryz.ntmps153 rfl (rs := [.tmp 2]) rfl ?_
  intro args os hp
  unfold ctSumsS at hp ⊢
  dsimp only at hp ⊢
  split at hp
  · rename_i txg cs es ps dirty zs logn
    refine ⟨by simp, fun φ0 w0 => ?_⟩
    obtain ⟨hlen, hes⟩ : cs.length ≤ 4000000 ∧ es.length ≤ 4000000 := hp
    refine goh trivial ?_
    refine W_for cs.length (fun i => ∀ p ∈ refsP (cs.take i), PtrSum es p) (fun i => ⟨[(1, .one (.ptr 0 0)), (3, vi i)], [some (obCo txg cs es ps dirty zs logn)], []⟩) [some 0] (leh trivial) (fun p hp => by cases hp) fun i hi hb => ?_
    refine goh trivial ?_
    refine W_cnd ?_ ?_ <;> (try simp only [cnd_r]) <;> intro hlt
    · refine goh trivial ?_
      refine W_for 8 (fun j => ∀ p ∈ ptrsTo cs i j, PtrSum es p) (fun j => ⟨[(1, .one (.ptr 0 0)), (3, vi i), (4, vi j)], [some (obCo txg cs es ps dirty zs logn)], []⟩) [some 0] (leh trivial) (by rw [ptrsTo_zero]; exact hb) fun j hj hb2 => ?_
      rcases (show j < 8 ∨ j = 8 by omega) with hi8 | hc8
      · have hn := ptrsTo_next cs i hi8
        have hin := ptr_in (show i < cs.length by omega) hi8
        have hnext : PtrSum es ((cs.getD i ET.cset.dflt).map.get j) → ∀ p ∈ ptrsTo cs i (j + 1), PtrSum es p := fun h p hp => by
          rw [hn, List.mem_append, List.mem_singleton] at hp
          rcases hp with hp | rfl
          · exact hb2 p hp
          · exact h
        have hcase : thereE es ((cs.getD i ET.cset.dflt).map.get j).at_ = false ∨ thereE es ((cs.getD i ET.cset.dflt).map.get j).at_ = true ∧ lowE es ((cs.getD i ET.cset.dflt).map.get j).at_ < es.length := by
          cases h : thereE es ((cs.getD i ET.cset.dflt).map.get j).at_ with
          | false => exact .inl rfl
          | true => exact .inr ⟨rfl, (thereE_at h).1⟩
        have hbad : ¬ PtrSum es ((cs.getD i ET.cset.dflt).map.get j) → sumsS (refsP cs) es = false := fun h => sumsS_false.2 fun h2 => h (h2 _ hin)
        rcases (show j = 0 ∨ j = 1 ∨ j = 2 ∨ j = 3 ∨ j = 4 ∨ j = 5 ∨ j = 6 ∨ j = 7 by omega) with hc8 | hc8 | hc8 | hc8 | hc8 | hc8 | hc8 | hc8
        all_goals
          subst hc8
          simp only [Eight.get, Nat.reduceAdd] at hnext hbad hcase
          rcases hcase with ht | ⟨ht, hlow⟩
          · refine goh trivial ?_
            refine W_cnd ?_ ?_ <;> intro hlit <;> try (cases hlit; done)
            refine goh ht ?_
            refine W_cnd ?_ ?_ <;> (try simp only [cnd_r]) <;> intro hx
            · have e := hbad fun h => by have := (h hx).1; rw [ht] at this; cases this
              refine goh trivial ?_
              exact finh [] e
            · refine goh trivial ?_
              exact ⟨[some 0], by omega, leh trivial, hnext fun h => absurd h hx⟩
          · refine goh trivial ?_
            refine W_cnd ?_ ?_ <;> intro hlit <;> try (cases hlit; done)
            refine goh ht ?_
            refine W_cnd ?_ ?_ <;> (try simp only [cnd_r]) <;> intro hx
            · have e := hbad fun h => hx.2 (h hx.1).2
              refine goh trivial ?_
              exact finh [] e
            · refine goh trivial ?_
              exact ⟨[some 0], by omega, leh trivial, hnext fun h => ⟨ht, hx.elim (fun k => absurd h k) id⟩⟩
      · subst hc8
        have he := ptrsTo_end (show i < cs.length by omega)
        refine goh trivial ?_
        refine W_cnd ?_ ?_ <;> intro hlit <;> try (cases hlit; done)
        refine goh trivial ?_
        exact ⟨[some 0], by omega, leh trivial, by rw [← he]; exact hb2⟩
    · have e := refs_end (show cs.length ≤ i by omega)
      have e2 : sumsS (refsP cs) es = true := sumsS_true.2 (by rw [← e]; exact hb)
      refine goh trivial ?_
      exact finh [] e2
  · simp [no, ifp] at hp
end Go.Proofs.YtjedcphhajlnoaaGreatDoor
/- Functions: pointers counted, the program's. -/
namespace Go.Proofs.YtjedcphhajlnoaaGreatDoor
open Go.RowKit

/-- A pointer is null or has the table's sum. -/
def PtrHas (es : List Ent) (p : Ptr) : Prop := p.at_ ≠ 0 → thereE es p.at_ = true ∧ (es.getD (lowE es p.at_) ET.ent.dflt).sum = p.sum
attribute [go_sem] Eight.list
theorem cnts_nil (es : List Ent) : cnts es (refsP []) = List.replicate es.length ET.int.dflt := cnts_none es
@[go_sem] noncomputable def ctCountsOk : Ct := ⟨false, [[none, some .cset, some .ent, some .ptr, none, some .int, none]], fun args os => match args, os with
  | [.agg [.val (.int .i64 txg), .isl .cset cs, .isl .ent es, .isl .ptr ps, .val (.bool dirty), .isl .int zs, .val (.int .i64 logn)]], [] => ifp (cs.length ≤ 4000000 ∧ es.length ≤ 48 ∧ Asc es ∧ (∀ p ∈ refsP cs, -1000000 ≤ p.at_ ∧ p.at_ ≤ 1000000)) (vb (countB (refsP cs) es))
  | _, _ => no⟩
@[go_sem] def obCk (txg : Int) (cs : List CSet) (es : List Ent) (ps : List Ptr) (dirty : Bool) (zs : List Int) (logn : Int) (ns : List Int) : List (Option Obj) := [some (obCo txg cs es ps dirty zs logn), some (.arr .int ns)]
theorem s_countsOk_e : EnterOk Tryz.prog 226 := ⟨_, Tryz.func226, rfl, by decide⟩
@[go_sem] def s_countsOk_lv : List (List Nat) := [[1], [1, 3], [1, 3, 17, 18, 19], [1, 3, 17, 18, 19, 20], [1, 3, 5, 17, 18, 19], [1, 3, 17, 18, 19, 24, 25], [1, 3, 17, 18, 19, 24, 25, 26], [1, 3, 7, 17, 18, 19, 24, 25], [1, 3, 7, 17, 18, 19, 24, 25, 30], [1, 3, 7, 8, 9, 17, 18, 19, 24, 25], [1, 3, 8, 17, 18, 19, 24, 25, 51], [2], [1, 3, 17, 18, 19, 24, 25], [1, 3, 17, 18, 19, 24, 25], [1, 3, 17, 18, 19], [3, 61, 62, 63], [3, 61, 62, 63, 64], [3, 10, 11, 61, 62, 63], [3, 61, 62, 63, 74], [2], [3, 61, 62, 63], [2]]
@[go_sem] noncomputable def s_countsOk_K : Known := (Known.nil).cons 265 ctPlaceE s_ddtPlace s_ddtPlace_e
set_option maxHeartbeats 8000000 in
theorem s_countsOk : Sound Tryz.prog 226 ctCountsOk := by
  have ke := s_countsOk_K.env []
  have kl : Lives s_countsOk_lv := trivial
  refine sound_intro (E := ⟨ti, s_countsOk_K.Γ, []⟩) ke Tryz.func226 Tryz.ntmps226 rfl (rs := [.tmp 2]) rfl ?_
  intro args os hp
  unfold ctCountsOk at hp ⊢
  dsimp only at hp ⊢
  split at hp
  · rename_i txg cs es ps dirty zs logn
    refine ⟨by simp, fun φ0 w0 => ?_⟩
    obtain ⟨hlen, hes, hasc, hat⟩ : cs.length ≤ 4000000 ∧ es.length ≤ 48 ∧ Asc es ∧ (∀ p ∈ refsP cs, -1000000 ≤ p.at_ ∧ p.at_ ≤ 1000000) := hp
    refine goh trivial ?_
    refine W_for cs.length (fun i => ∀ p ∈ refsP (cs.take i), PtrHas es p) (fun i => ⟨[(1, .one (.ptr 0 0)), (3, .one (.osl .int 1 0 es.length)), (17, .one (.isl .cset cs)), (18, vi cs.length), (19, vi i)], obCk txg cs es ps dirty zs logn (cnts es (refsP (cs.take i))), []⟩) [some 0, some 1] (leh (cnts_nil es)) (fun p hp => by cases hp) fun i hi hb => ?_
    have hcl := cnts_len es (refsP (cs.take i))
    refine goh trivial ?_
    refine W_cnd ?_ ?_ <;> (try simp only [cnd_r]) <;> intro hlt
    · have h0 := ptrsTo_zero cs i
      refine goh trivial ?_
      refine W_for 8 (fun j => ∀ p ∈ ptrsTo cs i j, PtrHas es p) (fun j => ⟨[(1, .one (.ptr 0 0)), (3, .one (.osl .int 1 0 es.length)), (17, .one (.isl .cset cs)), (18, vi cs.length), (19, vi i), (24, .agg (((cs.getD i ET.cset.dflt).map.list.flatMap Ptr.cells).map .val)), (25, vi j)], obCk txg cs es ps dirty zs logn (cnts es (ptrsTo cs i j)), []⟩) [some 0, some 1] (leh h0) (by rw [ptrsTo_zero]; exact hb) fun j hj hb2 => ?_
      have hcl2 := cnts_len es (ptrsTo cs i j)
      rcases (show j < 8 ∨ j = 8 by omega) with hi8 | hc8
      · have hn := ptrsTo_next cs i hi8
        have hin := ptr_in (show i < cs.length by omega) hi8
        have hrange := hat _ hin
        have hnext : PtrHas es ((cs.getD i ET.cset.dflt).map.get j) → ∀ p ∈ ptrsTo cs i (j + 1), PtrHas es p := fun h p hp => by
          rw [hn, List.mem_append, List.mem_singleton] at hp
          rcases hp with hp | rfl
          · exact hb2 p hp
          · exact h
        have hcase : thereE es ((cs.getD i ET.cset.dflt).map.get j).at_ = false ∨ thereE es ((cs.getD i ET.cset.dflt).map.get j).at_ = true ∧ lowE es ((cs.getD i ET.cset.dflt).map.get j).at_ < es.length := by
          cases h : thereE es ((cs.getD i ET.cset.dflt).map.get j).at_ with
          | false => exact .inl rfl
          | true => exact .inr ⟨rfl, (thereE_at h).1⟩
        have hbad : ¬ PtrHas es ((cs.getD i ET.cset.dflt).map.get j) → countB (refsP cs) es = false := fun h => countB_false.2 fun h2 => h (h2.sums.each _ hin)
        have hstep : thereE es ((cs.getD i ET.cset.dflt).map.get j).at_ = true → (cnts es (ptrsTo cs i j)).set (lowE es ((cs.getD i ET.cset.dflt).map.get j).at_) ((cnts es (ptrsTo cs i j)).getD (lowE es ((cs.getD i ET.cset.dflt).map.get j).at_) ET.int.dflt + 1) = cnts es (ptrsTo cs i (j + 1)) := fun h => by rw [hn]; exact cnts_step hasc h
        have hskip : ((cs.getD i ET.cset.dflt).map.get j).at_ = 0 → cnts es (ptrsTo cs i (j + 1)) = cnts es (ptrsTo cs i j) := fun h => by rw [hn]; exact cnts_skip hasc _ h
        have hcb : ∀ k, k < es.length → 0 ≤ (cnts es (ptrsTo cs i j)).getD k 0 ∧ (cnts es (ptrsTo cs i j)).getD k 0 ≤ 40000000 := fun k hk => by
          rw [cnts_at _ hk]
          have h1 := cnt_le (ptrsTo cs i j) (es.getD k ET.ent.dflt).at_
          have h2 := ptrsTo_len cs i j
          omega
        have hcw : ∀ k, k < es.length → IntKind.i64.wrap ((cnts es (ptrsTo cs i j)).getD k ET.int.dflt + 1) = (cnts es (ptrsTo cs i j)).getD k ET.int.dflt + 1 := fun k hk => by
          have := hcb k hk
          exact wrap_id ((cnts es (ptrsTo cs i j)).getD k 0 + 1) (by omega) (by omega)
        rcases (show j = 0 ∨ j = 1 ∨ j = 2 ∨ j = 3 ∨ j = 4 ∨ j = 5 ∨ j = 6 ∨ j = 7 by omega) with hc8 | hc8 | hc8 | hc8 | hc8 | hc8 | hc8 | hc8
        all_goals
          subst hc8
          simp only [Eight.get, Nat.reduceAdd] at hnext hbad hcase hrange hstep hskip
          refine goh trivial ?_
          refine W_cnd ?_ ?_ <;> intro hlit <;> try (cases hlit; done)
          refine goh trivial ?_
          refine W_cnd ?_ ?_ <;> (try simp only [cnd_r]) <;> intro hz
          · refine goh trivial ?_
            exact ⟨[some 0, some 1], by omega, leh (hskip hz), hnext fun h => absurd hz h⟩
          · simp only [beq_eq_false_iff_ne, ne_eq] at hz
            rcases hcase with ht | ⟨ht, hlow⟩
            · have e := hbad fun h => by have := (h hz).1; rw [ht] at this; cases this
              refine goh ht ?_
              refine W_cnd ?_ ?_ <;> intro hlit <;> try (cases hlit; done)
              refine goh trivial ?_
              exact finh [] e
            · refine goh ht ?_
              refine W_cnd ?_ ?_ <;> (try simp only [cnd_r]) <;> intro hx
              · have e := hbad fun h => hx (h hz).2
                refine goh trivial ?_
                exact finh [] e
              · have hs := hstep ht
                have hw := hcw _ hlow
                refine goh hw ?_
                exact ⟨[some 0, some 1], by omega, leh hs, hnext fun h => ⟨ht, hx⟩⟩
      · subst hc8
        have he := ptrsTo_end (show i < cs.length by omega)
        refine goh trivial ?_
        refine W_cnd ?_ ?_ <;> intro hlit <;> try (cases hlit; done)
        refine goh trivial ?_
        exact ⟨[some 0, some 1], by omega, leh he, by rw [← he]; exact hb2⟩
    · have e := refs_end (show cs.length ≤ i by omega)
      rw [e] at hb hcl
      have hS : SumsP (refsP cs) es := ⟨hb⟩
      refine goh trivial ?_
      refine W_for es.length (fun k => ∀ q, q < k → (es.getD q ET.ent.dflt).count = cntAt (refsP cs) (es.getD q ET.ent.dflt).at_) (fun k => ⟨[(3, .one (.osl .int 0 0 es.length)), (61, .one (.isl .ent es)), (62, vi es.length), (63, vi k)], [some (.arr .int (cnts es (refsP cs)))], []⟩) [some 1] (leh e) (by omega) fun k hk hb3 => ?_
      refine goh trivial ?_
      refine W_cnd ?_ ?_ <;> (try simp only [cnd_r]) <;> intro hlt2
      · have hck := cnts_at (refsP cs) (show k < es.length by omega)
        refine goh trivial ?_
        refine W_cnd ?_ ?_ <;> (try simp only [cnd_r]) <;> intro hx
        · have e2 : countB (refsP cs) es = false := countB_false.2 fun h => by
            have h1 := h.cnt k (by omega)
            rw [← hck] at h1
            exact hx h1
          refine goh trivial ?_
          exact finh [] e2
        · refine goh trivial ?_
          exact ⟨[some 0], by omega, leh trivial, fun q hq => by
            rcases Nat.lt_succ_iff_lt_or_eq.1 hq with h | rfl
            · exact hb3 q h
            · rw [← hck]; exact hx⟩
      · have e2 : countB (refsP cs) es = true := countB_true.2 ⟨hS, fun q hq => hb3 q (by omega)⟩
        refine goh trivial ?_
        exact finh [] e2
  · simp [no, ifp] at hp
end Go.Proofs.YtjedcphhajlnoaaGreatDoor
