import Derived.Test.YtjedcphhajlnoaaGreatDoorM8
import Derived.Test.YtjedcphhajlnoaaGreatDoorM10
import Derived.Test.YtjedcphhajlnoaaGreatDoorM12
set_option linter.unusedSimpArgs false
set_option linter.unusedVariables false
set_option linter.unusedSectionVars false
/- Functions: pointers counted. -/
namespace Go.Proofs.YtjedcphhajlnoaaGreatDoor
open Go.RowKit

@[go_sem] noncomputable def ctRefs : Ct := ⟨false, [[none, some .cset, some .ent, some .ptr, none, some .int, none]], fun args os => match args, os with
  | [.agg [.val (.int .i64 txg), .isl .cset cs, .isl .ent es, .isl .ptr ps, .val (.bool dirty), .isl .int zs, .val (.int .i64 logn)], .one (.val (.int .i64 a))], [] => ifp (cs.length ≤ 4000000) (vi (rcnt (refsP cs) a))
  | _, _ => no⟩
@[go_sem] def obCo (txg : Int) (cs : List CSet) (es : List Ent) (ps : List Ptr) (dirty : Bool) (zs : List Int) (logn : Int) : Obj := .cells [.val (.int .i64 txg), .isl .cset cs, .isl .ent es, .isl .ptr ps, .val (.bool dirty), .isl .int zs, .val (.int .i64 logn)]
theorem s_l6Refs_e : EnterOk Tryz.prog 213 := ⟨_, Tryz.func213, rfl, by decide⟩
@[go_sem] def s_l6Refs_lv : List (List Nat) := [[1, 2], [1, 2, 5], [1, 2, 5, 6], [1, 2, 5, 6, 12], [1, 2, 5, 6], [1, 2, 5, 6, 7], [1, 2, 5, 6, 7, 16], [1, 2, 5, 6, 7], [1, 2, 5, 6, 7, 33], [1, 2, 5, 6, 7], [4]]
@[go_sem] noncomputable def s_l6Refs_K : Known := Known.nil
set_option maxHeartbeats 8000000 in
theorem s_l6Refs : Sound Tryz.prog 213 ctRefs := by
  have ke := s_l6Refs_K.env []
  have kl : Lives s_l6Refs_lv := trivial
  refine sound_intro (E := ⟨ti, s_l6Refs_K.Γ, []⟩) ke Tryz.func213 Tryz.ntmps213 rfl (rs := [.tmp 4]) rfl ?_
  intro args os hp
  unfold ctRefs at hp ⊢
  dsimp only at hp ⊢
  split at hp
  · rename_i txg cs es ps dirty zs logn a
    refine ⟨by simp, fun φ0 w0 => ?_⟩
    have hlen : cs.length ≤ 4000000 := hp
    refine goh trivial ?_
    refine W_for cs.length (fun i => True) (fun i => ⟨[(1, vi a), (2, .one (.ptr 0 0)), (5, vi (rcnt (refsP (cs.take i)) a)), (6, vi i)], [some (obCo txg cs es ps dirty zs logn)], []⟩) [some 0] (leh (rcnt_nil a)) trivial fun i hi _ => ?_
    refine goh trivial ?_
    refine W_cnd ?_ ?_ <;> (try simp only [cnd_r]) <;> intro hlt
    · refine goh trivial ?_
      have h0 := ptrsTo_zero cs i
      refine W_for 8 (fun j => True) (fun j => ⟨[(1, vi a), (2, .one (.ptr 0 0)), (5, vi (rcnt (ptrsTo cs i j) a)), (6, vi i), (7, vi j)], [some (obCo txg cs es ps dirty zs logn)], []⟩) [some 0] (leh h0) trivial fun j hj _ => ?_
      rcases (show j < 8 ∨ j = 8 by omega) with hi8 | hc8
      · have hn := ptrsTo_next cs i hi8
        have hl := ptrsTo_len cs i j
        have hr2 := rcnt_le (ptrsTo cs i j) a
        have hw := wrap_id (rcnt (ptrsTo cs i j) a + 1) (by omega) (by omega)
        rcases (show j = 0 ∨ j = 1 ∨ j = 2 ∨ j = 3 ∨ j = 4 ∨ j = 5 ∨ j = 6 ∨ j = 7 by omega) with hc8 | hc8 | hc8 | hc8 | hc8 | hc8 | hc8 | hc8
        all_goals
          subst hc8
          refine goh trivial ?_
          refine W_cnd ?_ ?_ <;> intro hlit <;> try (cases hlit; done)
          refine goh trivial ?_
          refine W_cnd ?_ ?_ <;> (try simp only [cnd_r]) <;> intro hx
          · have hr := (congrArg (rcnt · a) hn).trans (rcnt_yes hx)
            simp only [Nat.reduceAdd] at hr
            refine goh hw ?_
            exact ⟨[some 0], by omega, leh hr, trivial⟩
          · have hr := (congrArg (rcnt · a) hn).trans (rcnt_no hx)
            simp only [Nat.reduceAdd] at hr
            refine goh trivial ?_
            exact ⟨[some 0], by omega, leh hr, trivial⟩
      · subst hc8
        have he := ptrsTo_end (show i < cs.length by omega)
        refine goh trivial ?_
        refine W_cnd ?_ ?_ <;> intro hlit <;> try (cases hlit; done)
        refine goh trivial ?_
        exact ⟨[some 0], by omega, leh he, trivial⟩
    · have e := refs_end (show cs.length ≤ i by omega)
      refine goh trivial ?_
      exact finh [] e
  · simp [no, ifp] at hp
@[go_sem] noncomputable def ctCountsS : Ct := ⟨false, [[none, some .cset, some .ent, some .ptr, none, some .int, none]], fun args os => match args, os with
  | [.agg [.val (.int .i64 txg), .isl .cset cs, .isl .ent es, .isl .ptr ps, .val (.bool dirty), .isl .int zs, .val (.int .i64 logn)]], [] => ifp (cs.length ≤ 4000000 ∧ es.length ≤ 48) (vb (countsS (refsP cs) es))
  | _, _ => no⟩
theorem s_l6Counts_e : EnterOk Tryz.prog 152 := ⟨_, Tryz.func152, rfl, by decide⟩
@[go_sem] def s_l6Counts_lv : List (List Nat) := [[1], [1, 3], [1, 3, 4], [1, 3, 4, 11], [1, 3, 4], [1, 3, 4, 28], [2], [1, 3, 4], [1, 3, 5], [1, 3, 5, 41], [1, 3, 5], [1, 3, 5, 6], [1, 3, 5, 6, 45], [1, 3, 5, 6], [1, 3, 5, 6, 57], [1, 3, 5, 6], [2]]
@[go_sem] noncomputable def s_l6Counts_K : Known := (Known.nil).cons 213 ctRefs s_l6Refs s_l6Refs_e
set_option maxHeartbeats 8000000 in
theorem s_l6Counts : Sound Tryz.prog 152 ctCountsS := by
  have ke := s_l6Counts_K.env []
  have kl : Lives s_l6Counts_lv := trivial
  refine sound_intro (E := ⟨ti, s_l6Counts_K.Γ, []⟩) ke Tryz.func152 Tryz.ntmps152 rfl (rs := [.tmp 2]) rfl ?_
  intro args os hp
  unfold ctCountsS at hp ⊢
  dsimp only at hp ⊢
  split at hp
  · rename_i txg cs es ps dirty zs logn
    refine ⟨by simp, fun φ0 w0 => ?_⟩
    obtain ⟨hlen, hes⟩ : cs.length ≤ 4000000 ∧ es.length ≤ 48 := hp
    have hrl := refs_len cs
    refine goh trivial ?_
    refine W_for es.length (fun i => ∀ j, j < i → rcnt (refsP cs) (es.getD j ET.ent.dflt).at_ = (es.getD j ET.ent.dflt).count) (fun i => ⟨[(1, .one (.ptr 0 0)), (3, vi (sumC (es.take i))), (4, vi i)], [some (obCo txg cs es ps dirty zs logn)], []⟩) [some 0] (leh sumC_nil) (by omega) fun i hi hb => ?_
    have hsl := sumC_le (n := 32000000) hi fun j hj => by
      have h1 := hb j hj
      have h2 := rcnt_le (refsP cs) (es.getD j ET.ent.dflt).at_
      omega
    refine goh trivial ?_
    refine W_cnd ?_ ?_ <;> (try simp only [cnd_r]) <;> intro hlt
    · refine goh trivial ?_
      refine W_cnd ?_ ?_ <;> (try simp only [cnd_r]) <;> intro hx
      · have e : countsS (refsP cs) es = false := countsS_false.2 fun h => hx (h.1 i (by omega))
        refine goh trivial ?_
        exact finh [] e
      · have hk := sumC_take (show i < es.length by omega)
        have h2 := rcnt_le (refsP cs) (es.getD i ET.ent.dflt).at_
        have hw := wrap_id (sumC (es.take i) + (es.getD i ET.ent.dflt).count) (by omega) (by omega)
        refine goh hw ?_
        exact ⟨[some 0], by omega, leh hk, fun j hj => by
          rcases Nat.lt_succ_iff_lt_or_eq.1 hj with h | rfl
          · exact hb j h
          · exact hx⟩
    · have hse := sumC_end (show es.length ≤ i by omega)
      rw [hse] at hsl
      have hall : ∀ k, k < es.length → rcnt (refsP cs) (es.getD k ET.ent.dflt).at_ = (es.getD k ET.ent.dflt).count := fun k hk => hb k (by omega)
      refine goh hse ?_
      have hp0 : sumC es - ((posN (refsP []) : Nat) : Int) = sumC es := by rw [refs_nil]; simp [posN]
      refine W_for cs.length (fun i => True) (fun i => ⟨[(1, .one (.ptr 0 0)), (3, vi (sumC es - posN (refsP (cs.take i)))), (5, vi i)], [some (obCo txg cs es ps dirty zs logn)], []⟩) [some 0] (leh hp0) trivial fun i hi _ => ?_
      refine goh trivial ?_
      refine W_cnd ?_ ?_ <;> (try simp only [cnd_r]) <;> intro hlt
      · refine goh trivial ?_
        have h0 := ptrsTo_zero cs i
        refine W_for 8 (fun j => True) (fun j => ⟨[(1, .one (.ptr 0 0)), (3, vi (sumC es - posN (ptrsTo cs i j))), (5, vi i), (6, vi j)], [some (obCo txg cs es ps dirty zs logn)], []⟩) [some 0] (leh h0) trivial fun j hj _ => ?_
        rcases (show j < 8 ∨ j = 8 by omega) with hi8 | hc8
        · have hn := ptrsTo_next cs i hi8
          have hl := ptrsTo_len cs i j
          have hr2 := posN_le (ptrsTo cs i j)
          have hw := wrap_id (sumC es - posN (ptrsTo cs i j) - 1) (by omega) (by omega)
          have ha : ∀ q : Int, q = posN (ptrsTo cs i j) + 1 → sumC es - posN (ptrsTo cs i j) - 1 = sumC es - q := fun q hq => by omega
          rcases (show j = 0 ∨ j = 1 ∨ j = 2 ∨ j = 3 ∨ j = 4 ∨ j = 5 ∨ j = 6 ∨ j = 7 by omega) with hc8 | hc8 | hc8 | hc8 | hc8 | hc8 | hc8 | hc8
          all_goals
            subst hc8
            refine goh trivial ?_
            refine W_cnd ?_ ?_ <;> intro hlit <;> try (cases hlit; done)
            refine goh trivial ?_
            refine W_cnd ?_ ?_ <;> (try simp only [cnd_r]) <;> intro hx
            · have hr := ha _ ((congrArg (fun l => (posN l : Int)) hn).trans (posN_yes hx))
              simp only [Nat.reduceAdd] at hr
              refine goh hw ?_
              exact ⟨[some 0], by omega, leh hr, trivial⟩
            · have hr := (congrArg posN hn).trans (posN_no hx)
              simp only [Nat.reduceAdd] at hr
              refine goh trivial ?_
              exact ⟨[some 0], by omega, leh hr, trivial⟩
        · subst hc8
          have he := ptrsTo_end (show i < cs.length by omega)
          refine goh trivial ?_
          refine W_cnd ?_ ?_ <;> intro hlit <;> try (cases hlit; done)
          refine goh trivial ?_
          exact ⟨[some 0], by omega, leh he, trivial⟩
      · have e := refs_end (show cs.length ≤ i by omega)
        have e2 : countsS (refsP cs) es = (sumC es - posN (refsP cs) == 0) := by
          rw [Bool.eq_iff_iff, countsS_true, beq_iff_eq]
          exact ⟨fun h => by have := h.2; omega, fun h => ⟨hall, by omega⟩⟩
        refine goh e ?_
        exact finh [] e2
  · simp [no, ifp] at hp
@[go_sem] noncomputable def ctSumsS : Ct := ⟨false, [[none, some .cset, some .ent, some .ptr, none, some .int, none]], fun args os => match args, os with
  | [.agg [.val (.int .i64 txg), .isl .cset cs, .isl .ent es, .isl .ptr ps, .val (.bool dirty), .isl .int zs, .val (.int .i64 logn)]], [] => ifp (cs.length ≤ 4000000 ∧ es.length ≤ 4000000) (vb (sumsS (refsP cs) es))
  | _, _ => no⟩
/-- A pointer's sum is the table's. -/
def PtrSum (es : List Ent) (p : Ptr) : Prop := p.at_ > 0 → thereE es p.at_ = true ∧ (es.getD (lowE es p.at_) ET.ent.dflt).sum = p.sum
theorem ptr_in {cs : List CSet} {i j : Nat} (hi : i < cs.length) (hj : j < 8) : (cs.getD i ET.cset.dflt).map.get j ∈ refsP cs := by
  have h1 : (cs.getD i ET.cset.dflt).map.get j ∈ (cs.getD i ET.cset.dflt).map.list := List.mem_of_mem_take (by rw [list_take _ _ hj]; simp)
  unfold refsP
  rw [List.mem_flatMap]
  exact ⟨_, by simp [hi], h1⟩
theorem s_l6Sums_e : EnterOk Tryz.prog 153 := ⟨_, Tryz.func153, rfl, by decide⟩
@[go_sem] def s_l6Sums_lv : List (List Nat) := [[1], [1, 3], [1, 3, 12], [1, 3], [1, 3, 4], [1, 3, 4, 16], [1, 3, 4], [1, 3, 4, 5], [1, 3, 4, 5, 6, 7], [1, 3, 4, 52], [2], [2]]
@[go_sem] noncomputable def s_l6Sums_K : Known := (Known.nil).cons 214 ctAtE s_l5At s_l5At_e
set_option maxHeartbeats 8000000 in
theorem s_l6Sums : Sound Tryz.prog 153 ctSumsS := by
  have ke := s_l6Sums_K.env []
  have kl : Lives s_l6Sums_lv := trivial
  refine sound_intro (E := ⟨ti, s_l6Sums_K.Γ, []⟩) ke Tryz.func153 Tryz.ntmps153 rfl (rs := [.tmp 2]) rfl ?_
  intro args os hp
  unfold ctSumsS at hp ⊢
  dsimp only at hp ⊢
  split at hp
  · rename_i txg cs es ps dirty zs logn
    refine ⟨by simp, fun φ0 w0 => ?_⟩
    obtain ⟨hlen, hes⟩ : cs.length ≤ 4000000 ∧ es.length ≤ 4000000 := hp
    refine goh trivial ?_
    refine W_for cs.length (fun i => ∀ p ∈ refsP (cs.take i), PtrSum es p) (fun i => ⟨[(1, .one (.ptr 0 0)), (3, vi i)], [some (obCo txg cs es ps dirty zs logn)], []⟩) [some 0] (leh trivial) (fun p hp => by cases hp) fun i hi hb => ?_
    refine goh trivial ?_
    refine W_cnd ?_ ?_ <;> (try simp only [cnd_r]) <;> intro hlt
    · refine goh trivial ?_
      refine W_for 8 (fun j => ∀ p ∈ ptrsTo cs i j, PtrSum es p) (fun j => ⟨[(1, .one (.ptr 0 0)), (3, vi i), (4, vi j)], [some (obCo txg cs es ps dirty zs logn)], []⟩) [some 0] (leh trivial) (by rw [ptrsTo_zero]; exact hb) fun j hj hb2 => ?_
      rcases (show j < 8 ∨ j = 8 by omega) with hi8 | hc8
      · have hn := ptrsTo_next cs i hi8
        have hin := ptr_in (show i < cs.length by omega) hi8
        have hnext : PtrSum es ((cs.getD i ET.cset.dflt).map.get j) → ∀ p ∈ ptrsTo cs i (j + 1), PtrSum es p := fun h p hp => by
          rw [hn, List.mem_append, List.mem_singleton] at hp
          rcases hp with hp | rfl
          · exact hb2 p hp
          · exact h
        have hcase : thereE es ((cs.getD i ET.cset.dflt).map.get j).at_ = false ∨ thereE es ((cs.getD i ET.cset.dflt).map.get j).at_ = true ∧ lowE es ((cs.getD i ET.cset.dflt).map.get j).at_ < es.length := by
          cases h : thereE es ((cs.getD i ET.cset.dflt).map.get j).at_ with
          | false => exact .inl rfl
          | true => exact .inr ⟨rfl, (thereE_at h).1⟩
        have hbad : ¬ PtrSum es ((cs.getD i ET.cset.dflt).map.get j) → sumsS (refsP cs) es = false := fun h => sumsS_false.2 fun h2 => h (h2 _ hin)
        rcases (show j = 0 ∨ j = 1 ∨ j = 2 ∨ j = 3 ∨ j = 4 ∨ j = 5 ∨ j = 6 ∨ j = 7 by omega) with hc8 | hc8 | hc8 | hc8 | hc8 | hc8 | hc8 | hc8
        all_goals
          subst hc8
          simp only [Eight.get, Nat.reduceAdd] at hnext hbad hcase
          rcases hcase with ht | ⟨ht, hlow⟩
          · refine goh trivial ?_
            refine W_cnd ?_ ?_ <;> intro hlit <;> try (cases hlit; done)
            refine goh ht ?_
            refine W_cnd ?_ ?_ <;> (try simp only [cnd_r]) <;> intro hx
            · have e := hbad fun h => by have := (h hx).1; rw [ht] at this; cases this
              refine goh trivial ?_
              exact finh [] e
            · refine goh trivial ?_
              exact ⟨[some 0], by omega, leh trivial, hnext fun h => absurd h hx⟩
          · refine goh trivial ?_
            refine W_cnd ?_ ?_ <;> intro hlit <;> try (cases hlit; done)
            refine goh ht ?_
            refine W_cnd ?_ ?_ <;> (try simp only [cnd_r]) <;> intro hx
            · have e := hbad fun h => hx.2 (h hx.1).2
              refine goh trivial ?_
              exact finh [] e
            · refine goh trivial ?_
              exact ⟨[some 0], by omega, leh trivial, hnext fun h => ⟨ht, hx.elim (fun k => absurd h k) id⟩⟩
      · subst hc8
        have he := ptrsTo_end (show i < cs.length by omega)
        refine goh trivial ?_
        refine W_cnd ?_ ?_ <;> intro hlit <;> try (cases hlit; done)
        refine goh trivial ?_
        exact ⟨[some 0], by omega, leh trivial, by rw [← he]; exact hb2⟩
    · have e := refs_end (show cs.length ≤ i by omega)
      have e2 : sumsS (refsP cs) es = true := sumsS_true.2 (by rw [← e]; exact hb)
      refine goh trivial ?_
      exact finh [] e2
  · simp [no, ifp] at hp
end Go.Proofs.YtjedcphhajlnoaaGreatDoor
/- Functions: pointers counted, the program's. -/
namespace Go.Proofs.YtjedcphhajlnoaaGreatDoor
open Go.RowKit

/-- A pointer is null or has the table's sum. -/
def PtrHas (es : List Ent) (p : Ptr) : Prop := p.at_ ≠ 0 → thereE es p.at_ = true ∧ (es.getD (lowE es p.at_) ET.ent.dflt).sum = p.sum
attribute [go_sem] Eight.list
theorem cnts_nil (es : List Ent) : cnts es (refsP []) = List.replicate es.length ET.int.dflt := cnts_none es
@[go_sem] noncomputable def ctCountsOk : Ct := ⟨false, [[none, some .cset, some .ent, some .ptr, none, some .int, none]], fun args os => match args, os with
  | [.agg [.val (.int .i64 txg), .isl .cset cs, .isl .ent es, .isl .ptr ps, .val (.bool dirty), .isl .int zs, .val (.int .i64 logn)]], [] => ifp (cs.length ≤ 4000000 ∧ es.length ≤ 48 ∧ Asc es ∧ (∀ p ∈ refsP cs, -1000000 ≤ p.at_ ∧ p.at_ ≤ 1000000)) (vb (countB (refsP cs) es))
  | _, _ => no⟩
@[go_sem] def obCk (txg : Int) (cs : List CSet) (es : List Ent) (ps : List Ptr) (dirty : Bool) (zs : List Int) (logn : Int) (ns : List Int) : List (Option Obj) := [some (obCo txg cs es ps dirty zs logn), some (.arr .int ns)]
theorem s_countsOk_e : EnterOk Tryz.prog 226 := ⟨_, Tryz.func226, rfl, by decide⟩
@[go_sem] def s_countsOk_lv : List (List Nat) := [[1], [1, 3], [1, 3, 17, 18, 19], [1, 3, 17, 18, 19, 20], [1, 3, 5, 17, 18, 19], [1, 3, 17, 18, 19, 24, 25], [1, 3, 17, 18, 19, 24, 25, 26], [1, 3, 7, 17, 18, 19, 24, 25], [1, 3, 7, 17, 18, 19, 24, 25, 30], [1, 3, 7, 8, 9, 17, 18, 19, 24, 25], [1, 3, 8, 17, 18, 19, 24, 25, 51], [2], [1, 3, 17, 18, 19, 24, 25], [1, 3, 17, 18, 19, 24, 25], [1, 3, 17, 18, 19], [3, 61, 62, 63], [3, 61, 62, 63, 64], [3, 10, 11, 61, 62, 63], [3, 61, 62, 63, 74], [2], [3, 61, 62, 63], [2]]
@[go_sem] noncomputable def s_countsOk_K : Known := (Known.nil).cons 265 ctPlaceE s_ddtPlace s_ddtPlace_e
set_option maxHeartbeats 8000000 in
theorem s_countsOk : Sound Tryz.prog 226 ctCountsOk := by
  have ke := s_countsOk_K.env []
  have kl : Lives s_countsOk_lv := trivial
  refine sound_intro (E := ⟨ti, s_countsOk_K.Γ, []⟩) ke Tryz.func226 Tryz.ntmps226 rfl (rs := [.tmp 2]) rfl ?_
  intro args os hp
  unfold ctCountsOk at hp ⊢
  dsimp only at hp ⊢
  split at hp
  · rename_i txg cs es ps dirty zs logn
    refine ⟨by simp, fun φ0 w0 => ?_⟩
    obtain ⟨hlen, hes, hasc, hat⟩ : cs.length ≤ 4000000 ∧ es.length ≤ 48 ∧ Asc es ∧ (∀ p ∈ refsP cs, -1000000 ≤ p.at_ ∧ p.at_ ≤ 1000000) := hp
    refine goh trivial ?_
    refine W_for cs.length (fun i => ∀ p ∈ refsP (cs.take i), PtrHas es p) (fun i => ⟨[(1, .one (.ptr 0 0)), (3, .one (.osl .int 1 0 es.length)), (17, .one (.isl .cset cs)), (18, vi cs.length), (19, vi i)], obCk txg cs es ps dirty zs logn (cnts es (refsP (cs.take i))), []⟩) [some 0, some 1] (leh (cnts_nil es)) (fun p hp => by cases hp) fun i hi hb => ?_
    have hcl := cnts_len es (refsP (cs.take i))
    refine goh trivial ?_
    refine W_cnd ?_ ?_ <;> (try simp only [cnd_r]) <;> intro hlt
    · have h0 := ptrsTo_zero cs i
      refine goh trivial ?_
      refine W_for 8 (fun j => ∀ p ∈ ptrsTo cs i j, PtrHas es p) (fun j => ⟨[(1, .one (.ptr 0 0)), (3, .one (.osl .int 1 0 es.length)), (17, .one (.isl .cset cs)), (18, vi cs.length), (19, vi i), (24, .agg (((cs.getD i ET.cset.dflt).map.list.flatMap Ptr.cells).map .val)), (25, vi j)], obCk txg cs es ps dirty zs logn (cnts es (ptrsTo cs i j)), []⟩) [some 0, some 1] (leh h0) (by rw [ptrsTo_zero]; exact hb) fun j hj hb2 => ?_
      have hcl2 := cnts_len es (ptrsTo cs i j)
      rcases (show j < 8 ∨ j = 8 by omega) with hi8 | hc8
      · have hn := ptrsTo_next cs i hi8
        have hin := ptr_in (show i < cs.length by omega) hi8
        have hrange := hat _ hin
        have hnext : PtrHas es ((cs.getD i ET.cset.dflt).map.get j) → ∀ p ∈ ptrsTo cs i (j + 1), PtrHas es p := fun h p hp => by
          rw [hn, List.mem_append, List.mem_singleton] at hp
          rcases hp with hp | rfl
          · exact hb2 p hp
          · exact h
        have hcase : thereE es ((cs.getD i ET.cset.dflt).map.get j).at_ = false ∨ thereE es ((cs.getD i ET.cset.dflt).map.get j).at_ = true ∧ lowE es ((cs.getD i ET.cset.dflt).map.get j).at_ < es.length := by
          cases h : thereE es ((cs.getD i ET.cset.dflt).map.get j).at_ with
          | false => exact .inl rfl
          | true => exact .inr ⟨rfl, (thereE_at h).1⟩
        have hbad : ¬ PtrHas es ((cs.getD i ET.cset.dflt).map.get j) → countB (refsP cs) es = false := fun h => countB_false.2 fun h2 => h (h2.sums.each _ hin)
        have hstep : thereE es ((cs.getD i ET.cset.dflt).map.get j).at_ = true → (cnts es (ptrsTo cs i j)).set (lowE es ((cs.getD i ET.cset.dflt).map.get j).at_) ((cnts es (ptrsTo cs i j)).getD (lowE es ((cs.getD i ET.cset.dflt).map.get j).at_) ET.int.dflt + 1) = cnts es (ptrsTo cs i (j + 1)) := fun h => by rw [hn]; exact cnts_step hasc h
        have hskip : ((cs.getD i ET.cset.dflt).map.get j).at_ = 0 → cnts es (ptrsTo cs i (j + 1)) = cnts es (ptrsTo cs i j) := fun h => by rw [hn]; exact cnts_skip hasc _ h
        have hcb : ∀ k, k < es.length → 0 ≤ (cnts es (ptrsTo cs i j)).getD k 0 ∧ (cnts es (ptrsTo cs i j)).getD k 0 ≤ 40000000 := fun k hk => by
          rw [cnts_at _ hk]
          have h1 := cnt_le (ptrsTo cs i j) (es.getD k ET.ent.dflt).at_
          have h2 := ptrsTo_len cs i j
          omega
        have hcw : ∀ k, k < es.length → IntKind.i64.wrap ((cnts es (ptrsTo cs i j)).getD k ET.int.dflt + 1) = (cnts es (ptrsTo cs i j)).getD k ET.int.dflt + 1 := fun k hk => by
          have := hcb k hk
          exact wrap_id ((cnts es (ptrsTo cs i j)).getD k 0 + 1) (by omega) (by omega)
        rcases (show j = 0 ∨ j = 1 ∨ j = 2 ∨ j = 3 ∨ j = 4 ∨ j = 5 ∨ j = 6 ∨ j = 7 by omega) with hc8 | hc8 | hc8 | hc8 | hc8 | hc8 | hc8 | hc8
        all_goals
          subst hc8
          simp only [Eight.get, Nat.reduceAdd] at hnext hbad hcase hrange hstep hskip
          refine goh trivial ?_
          refine W_cnd ?_ ?_ <;> intro hlit <;> try (cases hlit; done)
          refine goh trivial ?_
          refine W_cnd ?_ ?_ <;> (try simp only [cnd_r]) <;> intro hz
          · refine goh trivial ?_
            exact ⟨[some 0, some 1], by omega, leh (hskip hz), hnext fun h => absurd hz h⟩
          · simp only [beq_eq_false_iff_ne, ne_eq] at hz
            rcases hcase with ht | ⟨ht, hlow⟩
            · have e := hbad fun h => by have := (h hz).1; rw [ht] at this; cases this
              refine goh ht ?_
              refine W_cnd ?_ ?_ <;> intro hlit <;> try (cases hlit; done)
              refine goh trivial ?_
              exact finh [] e
            · refine goh ht ?_
              refine W_cnd ?_ ?_ <;> (try simp only [cnd_r]) <;> intro hx
              · have e := hbad fun h => hx (h hz).2
                refine goh trivial ?_
                exact finh [] e
              · have hs := hstep ht
                have hw := hcw _ hlow
                refine goh hw ?_
                exact ⟨[some 0, some 1], by omega, leh hs, hnext fun h => ⟨ht, hx⟩⟩
      · subst hc8
        have he := ptrsTo_end (show i < cs.length by omega)
        refine goh trivial ?_
        refine W_cnd ?_ ?_ <;> intro hlit <;> try (cases hlit; done)
        refine goh trivial ?_
        exact ⟨[some 0, some 1], by omega, leh he, by rw [← he]; exact hb2⟩
    · have e := refs_end (show cs.length ≤ i by omega)
      rw [e] at hb hcl
      have hS : SumsP (refsP cs) es := ⟨hb⟩
      refine goh trivial ?_
      refine W_for es.length (fun k => ∀ q, q < k → (es.getD q ET.ent.dflt).count = cntAt (refsP cs) (es.getD q ET.ent.dflt).at_) (fun k => ⟨[(3, .one (.osl .int 0 0 es.length)), (61, .one (.isl .ent es)), (62, vi es.length), (63, vi k)], [some (.arr .int (cnts es (refsP cs)))], []⟩) [some 1] (leh e) (by omega) fun k hk hb3 => ?_
      refine goh trivial ?_
      refine W_cnd ?_ ?_ <;> (try simp only [cnd_r]) <;> intro hlt2
      · have hck := cnts_at (refsP cs) (show k < es.length by omega)
        refine goh trivial ?_
        refine W_cnd ?_ ?_ <;> (try simp only [cnd_r]) <;> intro hx
        · have e2 : countB (refsP cs) es = false := countB_false.2 fun h => by
            have h1 := h.cnt k (by omega)
            rw [← hck] at h1
            exact hx h1
          refine goh trivial ?_
          exact finh [] e2
        · refine goh trivial ?_
          exact ⟨[some 0], by omega, leh trivial, fun q hq => by
            rcases Nat.lt_succ_iff_lt_or_eq.1 hq with h | rfl
            · exact hb3 q h
            · rw [← hck]; exact hx⟩
      · have e2 : countB (refsP cs) es = true := countB_true.2 ⟨hS, fun q hq => hb3 q (by omega)⟩
        refine goh trivial ?_
        exact finh [] e2
  · simp [no, ifp] at hp
end Go.Proofs.YtjedcphhajlnoaaGreatDoor
/- Functions: valid cores, valid stores. -/
namespace Go.Proofs.YtjedcphhajlnoaaGreatDoor
open Go.RowKit

theorem counts_eq {cs : List CSet} {es : List Ent} (h : DdtP es) (hs : cs.any csetBad = false) : countB (refsP cs) es = (countsS (refsP cs) es && sumsS (refsP cs) es) := by
  have hlow := refs_ok hs
  have hrc : ∀ k, k < es.length → rcnt (refsP cs) (es.getD k ET.ent.dflt).at_ = cntAt (refsP cs) (es.getD k ET.ent.dflt).at_ := fun k hk => by
    have := h.asc.lo k hk
    unfold rcnt
    rw [if_pos (by omega)]
  have hsum : (∀ p ∈ refsP cs, 0 < p.at_ → thereE es p.at_ = true) → (∀ k, k < es.length → (es.getD k ET.ent.dflt).count = cntAt (refsP cs) (es.getD k ET.ent.dflt).at_) → sumC es = posN (refsP cs) := fun h1 h2 => by
    have h3 := cnt_sum h.asc (refsP cs) h1
    rw [← h3]
    have : ∀ l : List Ent, (∀ e ∈ l, e.count = cntAt (refsP cs) e.at_) → sumC l = ((l.map fun e => cntAt (refsP cs) e.at_).sum : Nat) := fun l => by
      induction l with
      | nil => intro _; rfl
      | cons a l ih =>
        intro hl
        have h4 : sumC (a :: l) = a.count + sumC l := by unfold sumC; rw [List.map_cons, List.sum_cons]
        rw [h4, ih fun e he => hl e (List.mem_cons_of_mem _ he), hl a (by simp), List.map_cons, List.sum_cons]
        omega
    refine this es fun e he => ?_
    obtain ⟨k, hk, rfl⟩ := List.getElem_of_mem he
    have h5 := h2 k hk
    rwa [show es.getD k ET.ent.dflt = es[k] by simp [hk]] at h5
  rw [Bool.eq_iff_iff, Bool.and_eq_true, countB_true, countsS_true, sumsS_true]
  constructor
  · rintro ⟨⟨h1⟩, h2⟩
    refine ⟨⟨fun k hk => by rw [hrc k hk, h2 k hk], hsum (fun p hp h0 => (h1 p hp (by omega)).1) h2⟩, fun p hp h0 => h1 p hp (by omega)⟩
  · rintro ⟨⟨h1, -⟩, h2⟩
    refine ⟨⟨fun p hp h0 => h2 p hp ?_⟩, fun k hk => by rw [← h1 k hk, hrc k hk]⟩
    have := ptr_low (hlow p hp)
    omega
theorem Co.ok_eq {c : Co} (h1 : 0 ≤ c.txg ∧ c.txg ≤ 1000000) (h2 : ddtB c.ddt = true) (h3 : c.parts.length ≤ 8) (h4 : c.parts.any partBad = false) (h5 : 0 ≤ c.logn ∧ c.logn ≤ 8) (h6 : safeB c.safe = true) : c.ok = (!c.sets.any csetBad && (bookB (frameOf c.sets) && countB (refsP c.sets) c.ddt)) := by
  rw [Bool.eq_iff_iff, Co.ok_true]
  simp only [Bool.and_eq_true, Bool.not_eq_true', countB_true]
  exact ⟨fun h => ⟨h.sets, h.book, h.counts⟩, fun h => ⟨h1, ddtB_true.1 h2, ⟨h3, h4⟩, h5, safeB_true.1 h6, h.1, h.2.1, h.2.2⟩⟩
@[go_sem] noncomputable def ctBadCset : Ct := ⟨false, [], fun args os => match args, os with
  | [.agg cs], [] => (match csetOf cs with | some s => ifp s.small (vb (csetBad s)) | none => no)
  | _, _ => no⟩
theorem s_coreOk2_e : EnterOk Tryz.prog 222 := ⟨_, Tryz.func222, rfl, by decide⟩
@[go_sem] def s_coreOk2_lv : List (List Nat) := [[1], [2]]
@[go_sem] noncomputable def s_coreOk2_K : Known := (Known.nil).cons 223 ctSetOk s_setOk s_setOk_e
set_option maxHeartbeats 8000000 in
theorem s_coreOk2 : Sound Tryz.prog 222 ctBadCset := by
  have ke := s_coreOk2_K.env []
  have kl : Lives s_coreOk2_lv := trivial
  refine sound_intro (E := ⟨ti, s_coreOk2_K.Γ, []⟩) ke Tryz.func222 Tryz.ntmps222 rfl (rs := [.tmp 2]) rfl ?_
  intro args os hp
  unfold ctBadCset at hp ⊢
  dsimp only at hp ⊢
  split at hp
  · rename_i cs
    split at hp
    · rename_i s hs
      obtain rfl := csetOf_some hs
      have h1 : s.small := hp
      clear hs
      refine ⟨by simp, fun φ0 w0 => ?_⟩
      refine goh trivial ?_
      refine ⟨by (simp only [go_sem, csetBad, ↓reduceIte, reduceCtorEq, Nat.reduceAdd, Nat.reduceLT, Nat.reduceLeDiff, Nat.reduceEqDiff]) <;> trivial, [], ?_⟩
      all_goals try simp only [go_sem, csetBad, inj_r, ↓reduceIte, reduceCtorEq, Nat.reduceAdd, Nat.reduceLT, Nat.reduceLeDiff, Nat.reduceEqDiff, Int.reduceEq]
      all_goals (repeat' refine And.intro ?_ ?_) <;> try exact shut7
    · simp [no] at hp
  · simp [no] at hp
@[go_sem] noncomputable def ctIxCset : Ct := ⟨false, [[some .cset]], fun args os => match args, os with
  | [.one (.isl .cset xs), .one (.fn 222 [])], [] => ifp (xs.length ≤ 4000000 ∧ ∀ i : Nat, (xs.getD i ET.cset.dflt).small) (vi (firstAt csetBad xs))
  | _, _ => no⟩
theorem s_ixCset_e : EnterOk Tryz.prog 77 := ⟨_, Tryz.func77, rfl, by decide⟩
@[go_sem] def s_ixCset_lv : List (List Nat) := [[0, 1], [0, 1, 7, 8], [0, 1, 7, 8, 9], [0, 1, 5, 7, 8], [0, 1, 5, 7, 8, 16], [4], [0, 1, 7, 8], [4]]
@[go_sem] noncomputable def s_ixCset_K : Known := (Known.nil).cons 222 ctBadCset s_coreOk2 s_coreOk2_e
set_option maxHeartbeats 8000000 in
theorem s_ixCset : Sound Tryz.prog 77 ctIxCset := by
  have ke := s_ixCset_K.env []
  have kl : Lives s_ixCset_lv := trivial
  refine sound_intro (E := ⟨ti, s_ixCset_K.Γ, []⟩) ke Tryz.func77 Tryz.ntmps77 rfl (rs := [.tmp 4]) rfl ?_
  intro args os hp
  unfold ctIxCset at hp ⊢
  dsimp only at hp ⊢
  split at hp
  · rename_i xs
    refine ⟨by simp, fun φ0 w0 => ?_⟩
    obtain ⟨hlen, hsm⟩ : xs.length ≤ 4000000 ∧ ∀ i : Nat, (xs.getD i ET.cset.dflt).small := hp
    refine goh trivial ?_
    refine W_for xs.length (fun i => ∀ j, j < i → csetBad (xs.getD j ET.cset.dflt) = false) (fun i => ⟨[(8, vi i), (7, vi xs.length), (0, .one (.isl .cset xs)), (1, .one (.fn 222 []))], [], []⟩) [] (leh trivial) (by omega) fun i hi hb => ?_
    refine goh trivial ?_
    refine W_cnd ?_ ?_ <;> (try simp only [cnd_r]) <;> intro hlt
    · have hs := hsm i
      refine goh trivial ?_
      refine W_cnd ?_ ?_ <;> (try simp only [cnd_r]) <;> intro hl
      · have e : firstAt csetBad xs = i := firstAt_some (d := ET.cset.dflt) (by omega) hb hl
        refine goh trivial ?_
        exact finh [] e
      · refine goh trivial ?_
        exact ⟨[], by omega, leh trivial, fun j hj => by
          rcases Nat.lt_succ_iff_lt_or_eq.1 hj with h | rfl
          · exact hb j h
          · exact hl⟩
    · have e : firstAt csetBad xs = -1 := firstAt_none (d := ET.cset.dflt) fun j hj => hb j (by omega)
      refine goh trivial ?_
      exact finh [] e
  · simp [no, ifp] at hp
@[go_sem] noncomputable def ctHasCset : Ct := ⟨false, [[some .cset]], fun args os => match args, os with
  | [.one (.isl .cset xs), .one (.fn 222 [])], [] => ifp (xs.length ≤ 4000000 ∧ ∀ i : Nat, (xs.getD i ET.cset.dflt).small) (vb (xs.any csetBad))
  | _, _ => no⟩
theorem s_hasCset_e : EnterOk Tryz.prog 221 := ⟨_, Tryz.func221, rfl, by decide⟩
@[go_sem] def s_hasCset_lv : List (List Nat) := [[0, 1], [4]]
@[go_sem] noncomputable def s_hasCset_K : Known := (Known.nil).cons 77 ctIxCset s_ixCset s_ixCset_e
set_option maxHeartbeats 8000000 in
theorem s_hasCset : Sound Tryz.prog 221 ctHasCset := by
  have ke := s_hasCset_K.env []
  have kl : Lives s_hasCset_lv := trivial
  refine sound_intro (E := ⟨ti, s_hasCset_K.Γ, []⟩) ke Tryz.func221 Tryz.ntmps221 rfl (rs := [.tmp 4]) rfl ?_
  intro args os hp
  unfold ctHasCset at hp ⊢
  dsimp only at hp ⊢
  split at hp
  · rename_i xs
    refine ⟨by simp, fun φ0 w0 => ?_⟩
    obtain ⟨hlen, hsm⟩ : xs.length ≤ 4000000 ∧ ∀ i : Nat, (xs.getD i ET.cset.dflt).small := hp
    refine goh trivial ?_
    refine ⟨by (simp only [go_sem, ↓reduceIte, reduceCtorEq, Nat.reduceAdd, Nat.reduceLT, Nat.reduceLeDiff, Nat.reduceEqDiff]) <;> trivial, [], ?_⟩
    all_goals try simp only [go_sem, inj_r, ↓reduceIte, reduceCtorEq, Nat.reduceAdd, Nat.reduceLT, Nat.reduceLeDiff, Nat.reduceEqDiff, Int.reduceEq]
    all_goals (repeat' refine And.intro ?_ ?_) <;> try exact shut7
    exact firstAt_ge _ _
  · simp [no, ifp] at hp
theorem safe_no {zs : List Int} {i : Nat} (hi : i < zs.length) (h : (¬ 13 ≤ zs.getD i ET.int.dflt ∨ ¬ zs.getD i ET.int.dflt ≤ 119) ∨ (i : Int) > 0 ∧ zs.getD (i - 1) ET.int.dflt ≥ zs.getD i ET.int.dflt) : safeB zs = false := safeB_false.2 fun hs => by
  obtain ⟨⟨h1, h2⟩, h3⟩ := hs i hi
  rcases h with (h | h) | ⟨h4, h5⟩
  · exact h h1
  · exact h h2
  · exact absurd (h3 (by omega)) (Int.not_lt.2 h5)
theorem safe_yes {zs : List Int} {i : Nat} (hb : ∀ j, j < i → Safe zs j) (h : (13 ≤ zs.getD i ET.int.dflt ∧ zs.getD i ET.int.dflt ≤ 119) ∧ (¬ (i : Int) > 0 ∨ ¬ zs.getD (i - 1) ET.int.dflt ≥ zs.getD i ET.int.dflt)) : ∀ j, j < i + 1 → Safe zs j := fun j hj => by
  rcases Nat.lt_succ_iff_lt_or_eq.1 hj with h2 | rfl
  · exact hb j h2
  · exact ⟨h.1, fun h0 => h.2.elim (fun h2 => absurd (show (j : Int) > 0 by omega) h2) fun h2 => Int.not_le.1 h2⟩
structure Co.fit (c : Co) : Prop where
  small : c.small
  sets : ∀ i : Nat, (c.sets.getD i ET.cset.dflt).small
@[go_sem] noncomputable def ctCoreOk : Ct := ⟨false, [[none, some .cset, some .ent, some .ptr, none, some .int, none]], fun args os => match args, os with
  | [.agg [.val (.int .i64 txg), .isl .cset cs, .isl .ent es, .isl .ptr ps, .val (.bool dirty), .isl .int zs, .val (.int .i64 logn)]], [] => ifp (Co.mk txg cs es ps dirty zs logn).fit (vb (Co.mk txg cs es ps dirty zs logn).ok)
  | _, _ => no⟩
theorem frame_small {cs : List CSet} (h : ∀ i : Nat, (cs.getD i ET.cset.dflt).small) (i : Nat) : ((frameOf cs).getD i ET.bset.dflt).name.size ≤ 9223372036854775807 := by
  rw [frame_at]; exact (h i).1
/-- A valid store. -/
noncomputable def poolB (p : Pl) : Bool := p.disk.ok && (decide (13 < p.disk.a.length) && p.core.ok)
theorem s_coreOk_e : EnterOk Tryz.prog 157 := ⟨_, Tryz.func157, rfl, by decide⟩
@[go_sem] def s_coreOk_lv : List (List Nat) := [[1], [1, 31], [2], [1, 33, 34, 35], [1, 33, 34, 35, 36], [1, 3, 4, 33, 34, 35], [1, 33, 34, 35, 56], [2], [1, 33, 34, 35], [2]]
@[go_sem] noncomputable def s_coreOk_K : Known := (((((((((Known.nil).cons 89 ctWithin s_within s_within_e).cons 218 ctDdtOk s_ddtOk s_ddtOk_e).cons 219 ctHasPart s_hasPart s_hasPart_e).cons 220 ctPartBad s_coreOk1 s_coreOk1_e).cons 221 ctHasCset s_hasCset s_hasCset_e).cons 222 ctBadCset s_coreOk2 s_coreOk2_e).cons 225 ctFrame s_frame s_frame_e).cons 224 ctBookOk s_bookOk s_bookOk_e).cons 226 ctCountsOk s_countsOk s_countsOk_e
set_option maxHeartbeats 8000000 in
theorem s_coreOk : Sound Tryz.prog 157 ctCoreOk := by
  have ke := s_coreOk_K.env []
  have kl : Lives s_coreOk_lv := trivial
  refine sound_intro (E := ⟨ti, s_coreOk_K.Γ, []⟩) ke Tryz.func157 Tryz.ntmps157 rfl (rs := [.tmp 2]) rfl ?_
  intro args os hp
  unfold ctCoreOk at hp ⊢
  dsimp only at hp ⊢
  split at hp
  · rename_i txg cs es ps dirty zs logn
    refine ⟨by simp, fun φ0 w0 => ?_⟩
    obtain ⟨⟨h1, h2, h3, h4⟩, hsm⟩ : (Co.mk txg cs es ps dirty zs logn).fit := hp
    simp only at h1 h2 h3 h4 hsm
    have hfs := frame_small hsm
    have hfl := frame_len cs
    refine goh trivial ?_
    refine W_cnd ?_ ?_ <;> (try simp only [cnd_r]) <;> intro hc
    · have e : (Co.mk txg cs es ps dirty zs logn).ok = false := Co.ok_false.2 fun h => by
        have h1 := h.txg
        have h2 := ddtB_true.2 h.ddt
        have h3 := h.parts
        have h4 := h.logn
        simp only at h1 h2 h3 h4
        rcases hc with (((hc | hc) | hc) | hc) | hc
        · omega
        · rw [h2] at hc; cases hc
        · omega
        · rw [h3.2] at hc; cases hc
        · omega
      refine goh trivial ?_
      exact finh [] e
    · obtain ⟨⟨⟨⟨k1, k2⟩, k3⟩, k4⟩, k5⟩ := hc
      have k2 : ddtB es = true := by simpa using k2
      have k4 : ps.any partBad = false := by simpa using k4
      have hD := ddtB_true.1 k2
      have hasc := hD.asc
      have hes := hD.few
      refine goh trivial ?_
      refine W_for zs.length (fun i => ∀ j, j < i → Safe zs j) (fun i => ⟨[(1, .one (.ptr 0 0)), (33, .one (.isl .int zs)), (34, vi zs.length), (35, vi i)], [some (obCo txg cs es ps dirty zs logn)], []⟩) [some 0] (leh trivial) (by omega) fun i hi hb => ?_
      refine goh trivial ?_
      refine W_cnd ?_ ?_ <;> (try simp only [cnd_r]) <;> intro hlt
      · have w1 : IntKind.i64.wrap ((i : Int) - 1) = (i : Int) - 1 := wrap_id _ (by omega) (by omega)
        have ht : ((i : Int) - 1).toNat = i - 1 := by omega
        refine goh (And.intro w1 ht) ?_
        refine W_cnd ?_ ?_ <;> (try simp only [cnd_r]) <;> intro hx
        · have e : (Co.mk txg cs es ps dirty zs logn).ok = false := Co.ok_false.2 fun h => by
            have := safeB_true.2 h.safe
            rw [safe_no (by omega) hx] at this; cases this
          refine goh trivial ?_
          exact finh [] e
        · refine goh trivial ?_
          exact ⟨[some 0], by omega, leh trivial, safe_yes hb hx⟩
      · have hS : safeB zs = true := safeB_true.2 fun j hj => hb j (by omega)
        have e := Co.ok_eq (c := ⟨txg, cs, es, ps, dirty, zs, logn⟩) k1 k2 (by simp only; omega) k4 k5 hS
        simp only at e
        cases hA : cs.any csetBad with
        | true =>
          refine goh hA ?_
          rw [hA] at e
          exact finh [] e
        | false =>
          have hat : ∀ p ∈ refsP cs, -1000000 ≤ p.at_ ∧ p.at_ ≤ 1000000 := fun p hp => by
            have := ptr_low (refs_ok hA p hp)
            omega
          rw [hA] at e
          refine goh hA ?_
          refine ⟨by (simp only [go_sem, e, ↓reduceIte, reduceCtorEq, Nat.reduceAdd, Nat.reduceLT, Nat.reduceLeDiff, Nat.reduceEqDiff]) <;> trivial, [], ?_⟩
          all_goals try simp only [go_sem, e, inj_r, ↓reduceIte, reduceCtorEq, Nat.reduceAdd, Nat.reduceLT, Nat.reduceLeDiff, Nat.reduceEqDiff, Int.reduceEq]
          all_goals (repeat' refine And.intro ?_ ?_) <;> try exact shut7
          cases bookB (frameOf cs) <;> rfl
  · simp [no, ifp] at hp
theorem s_specCoreOk_e : EnterOk Tryz.prog 69 := ⟨_, Tryz.func69, rfl, by decide⟩
@[go_sem] def s_specCoreOk_lv : List (List Nat) := [[1], [1, 40], [2], [1, 3], [1, 3, 45], [1, 3], [1, 3, 54], [2], [1, 4], [1, 4, 59], [1, 4], [1, 4, 77], [2], [2]]
@[go_sem] noncomputable def s_specCoreOk_K : Known := ((((((((Known.nil).cons 148 ctDdtOk s_specDdtOk s_specDdtOk_e).cons 149 ctPlaces s_l6Places s_l6Places_e).cons 150 ctSetOk s_l6Set s_l6Set_e).cons 25 ctPtrOk s_specPtrOk s_specPtrOk_e).cons 74 ctFrame s_l6Names s_l6Names_e).cons 151 ctBookOk s_specBookOk s_specBookOk_e).cons 152 ctCountsS s_l6Counts s_l6Counts_e).cons 153 ctSumsS s_l6Sums s_l6Sums_e
set_option maxHeartbeats 8000000 in
theorem s_specCoreOk : Sound Tryz.prog 69 ctCoreOk := by
  have ke := s_specCoreOk_K.env []
  have kl : Lives s_specCoreOk_lv := trivial
  refine sound_intro (E := ⟨ti, s_specCoreOk_K.Γ, []⟩) ke Tryz.func69 Tryz.ntmps69 rfl (rs := [.tmp 2]) rfl ?_
  intro args os hp
  unfold ctCoreOk at hp ⊢
  dsimp only at hp ⊢
  split at hp
  · rename_i txg cs es ps dirty zs logn
    refine ⟨by simp, fun φ0 w0 => ?_⟩
    obtain ⟨⟨h1, h2, h3, h4⟩, hsm⟩ : (Co.mk txg cs es ps dirty zs logn).fit := hp
    simp only at h1 h2 h3 h4 hsm
    have hfs := frame_small hsm
    have hfl := frame_len cs
    refine goh trivial ?_
    refine W_cnd ?_ ?_ <;> (try simp only [cnd_r]) <;> intro hc
    · have e : (Co.mk txg cs es ps dirty zs logn).ok = false := Co.ok_false.2 fun h => by
        have h1 := h.txg
        have h2 := ddtB_true.2 h.ddt
        have h3 := h.parts
        have h4 := h.logn
        have h5 := safeB_true.2 h.safe
        simp only at h1 h2 h3 h4 h5
        rcases hc with (((((hc | hc) | hc) | hc) | hc) | hc) | hc
        · omega
        · omega
        · rw [h2] at hc; cases hc
        · omega
        · rw [h5] at hc; cases hc
        · omega
        · omega
      refine goh trivial ?_
      exact finh [] e
    · obtain ⟨⟨⟨⟨⟨⟨k1, k1b⟩, k2⟩, k3⟩, hS⟩, k5⟩, k5b⟩ := hc
      have k2 : ddtB es = true := by simpa using k2
      have hS : safeB zs = true := by simpa using hS
      have hD := ddtB_true.1 k2
      have hasc := hD.asc
      have hes := hD.few
      refine goh trivial ?_
      refine W_for cs.length (fun i => ∀ j, j < i → csetB (cs.getD j ET.cset.dflt) = true) (fun i => ⟨[(1, .one (.ptr 0 0)), (3, vi i)], [some (obCo txg cs es ps dirty zs logn)], []⟩) [some 0] (leh trivial) (by omega) fun i hi hb => ?_
      refine goh trivial ?_
      refine W_cnd ?_ ?_ <;> (try simp only [cnd_r]) <;> intro hlt
      · have hs := hsm i
        refine goh trivial ?_
        refine W_cnd ?_ ?_ <;> (try simp only [cnd_r]) <;> intro hx
        · have e : (Co.mk txg cs es ps dirty zs logn).ok = false := Co.ok_false.2 fun h => by
            have h1 := h.sets
            rw [List.any_eq_false] at h1
            have h2 := h1 (cs.getD i ET.cset.dflt) (by simp [show i < cs.length by omega])
            unfold csetBad at h2
            rw [hx] at h2
            simp at h2
          refine goh trivial ?_
          exact finh [] e
        · refine goh trivial ?_
          exact ⟨[some 0], by omega, leh trivial, fun j hj => by
            rcases Nat.lt_succ_iff_lt_or_eq.1 hj with h | rfl
            · exact hb j h
            · exact hx⟩
      · have hA : cs.any csetBad = false := by
          rw [List.any_eq_false]
          intro s hs
          obtain ⟨j, hj, rfl⟩ := List.getElem_of_mem hs
          have h1 := hb j (by omega)
          rw [show cs.getD j ET.cset.dflt = cs[j] by simp [hj]] at h1
          unfold csetBad
          rw [h1]; decide
        clear hb hlt hi
        refine goh trivial ?_
        refine W_for ps.length (fun i => ∀ j, j < i → partBad (ps.getD j ET.ptr.dflt) = false) (fun i => ⟨[(1, .one (.ptr 0 0)), (4, vi i)], [some (obCo txg cs es ps dirty zs logn)], []⟩) [some 0] (leh trivial) (by omega) fun i hi hb => ?_
        refine goh trivial ?_
        refine W_cnd ?_ ?_ <;> (try simp only [cnd_r]) <;> intro hlt
        · refine goh trivial ?_
          refine W_cnd ?_ ?_ <;> (try simp only [cnd_r]) <;> intro hx
          · have e : (Co.mk txg cs es ps dirty zs logn).ok = false := Co.ok_false.2 fun h => by
              have h1 := h.parts.2
              rw [List.any_eq_false] at h1
              have h2 := h1 (ps.getD i ET.ptr.dflt) (by simp [show i < ps.length by omega])
              unfold partBad realB at h2
              rcases hx with hx | hx
              · rw [hx] at h2; simp at h2
              · rw [hx] at h2; simp at h2
            refine goh trivial ?_
            exact finh [] e
          · refine goh trivial ?_
            exact ⟨[some 0], by omega, leh trivial, fun j hj => by
              rcases Nat.lt_succ_iff_lt_or_eq.1 hj with h | rfl
              · exact hb j h
              · have x1 : ptrOkB (ps.getD j ET.ptr.dflt) = true := (Bool.not_eq_false _).mp hx.1
                have x2 := hx.2
                unfold partBad realB
                rw [x1, x2]; rfl⟩
        · have k4 : ps.any partBad = false := by
            rw [List.any_eq_false]
            intro s hs
            obtain ⟨j, hj, rfl⟩ := List.getElem_of_mem hs
            have h1 := hb j (by omega)
            rw [show ps.getD j ET.ptr.dflt = ps[j] by simp [hj]] at h1
            rw [h1]; decide
          have e := Co.ok_eq (c := ⟨txg, cs, es, ps, dirty, zs, logn⟩) (by simp only; omega) k2 (by simp only; omega) k4 (by simp only; omega) hS
          simp only at e
          rw [hA, counts_eq hD hA] at e
          refine goh trivial ?_
          refine ⟨by (simp only [go_sem, e, ↓reduceIte, reduceCtorEq, Nat.reduceAdd, Nat.reduceLT, Nat.reduceLeDiff, Nat.reduceEqDiff]) <;> trivial, [], ?_⟩
          all_goals try simp only [go_sem, e, inj_r, ↓reduceIte, reduceCtorEq, Nat.reduceAdd, Nat.reduceLT, Nat.reduceLeDiff, Nat.reduceEqDiff, Int.reduceEq]
          all_goals (repeat' refine And.intro ?_ ?_) <;> try exact shut7
          cases bookB (frameOf cs) <;> cases countsS (refsP cs) es <;> rfl
  · simp [no, ifp] at hp
theorem pool_ok1 (x y : Bool) (n : Nat) : (if (if x = true then y else false) = true then decide ((n : Int) > 13) else false) = (x && (decide (13 < n) && y)) := by
  rw [show decide ((n : Int) > 13) = decide (13 < n) from decide_eq_decide.2 (by omega)]
  cases x <;> cases y <;> simp
theorem pool_ok2 (x y : Bool) (n : Nat) : (if (if x = true then decide ((n : Int) > 13) else false) = true then y else false) = (x && (decide (13 < n) && y)) := by
  rw [show decide ((n : Int) > 13) = decide (13 < n) from decide_eq_decide.2 (by omega)]
  cases x <;> cases y <;> simp
@[go_sem] noncomputable def ctCommitOk : Ct := ⟨false, [[some .str, some .str, some .late], [none, some .cset, some .ent, some .ptr, none, some .int, none]], fun args os => match args, os with
  | [.agg [.isl .str a, .isl .str b, .isl .late l], .agg [.val (.int .i64 txg), .isl .cset cs, .isl .ent es, .isl .ptr ps, .val (.bool dirty), .isl .int zs, .val (.int .i64 logn)]], [] => ifp ((Dk.mk a b l).small ∧ (Co.mk txg cs es ps dirty zs logn).fit) (vb (poolB ⟨⟨a, b, l⟩, ⟨txg, cs, es, ps, dirty, zs, logn⟩, true⟩))
  | _, _ => no⟩
theorem s_commitOk_e : EnterOk Tryz.prog 71 := ⟨_, Tryz.func71, rfl, by decide⟩
@[go_sem] def s_commitOk_lv : List (List Nat) := [[2, 3], [4]]
@[go_sem] noncomputable def s_commitOk_K : Known := ((Known.nil).cons 80 ctDiskOk s_diskOk s_diskOk_e).cons 157 ctCoreOk s_coreOk s_coreOk_e
set_option maxHeartbeats 8000000 in
theorem s_commitOk : Sound Tryz.prog 71 ctCommitOk := by
  have ke := s_commitOk_K.env []
  have kl : Lives s_commitOk_lv := trivial
  refine sound_intro (E := ⟨ti, s_commitOk_K.Γ, []⟩) ke Tryz.func71 Tryz.ntmps71 rfl (rs := [.tmp 4]) rfl ?_
  intro args os hp
  unfold ctCommitOk at hp ⊢
  dsimp only at hp ⊢
  split at hp
  · rename_i a b l txg cs es ps dirty zs logn
    refine ⟨by simp, fun φ0 w0 => ?_⟩
    obtain ⟨⟨h1, h2, h3⟩, hf⟩ : (Dk.mk a b l).small ∧ (Co.mk txg cs es ps dirty zs logn).fit := hp
    refine goh trivial ?_
    refine ⟨by (simp only [go_sem, poolB, ↓reduceIte, reduceCtorEq, Nat.reduceAdd, Nat.reduceLT, Nat.reduceLeDiff, Nat.reduceEqDiff]) <;> trivial, [], ?_⟩
    all_goals try simp only [go_sem, poolB, inj_r, ↓reduceIte, reduceCtorEq, Nat.reduceAdd, Nat.reduceLT, Nat.reduceLeDiff, Nat.reduceEqDiff, Int.reduceEq]
    all_goals (repeat' refine And.intro ?_ ?_) <;> try exact shut7
    exact pool_ok1 _ _ _
  · simp [no, ifp] at hp
@[go_sem] noncomputable def ctPoolOk : Ct := ⟨false, [[some .str, some .str, some .late, none, some .cset, some .ent, some .ptr, none, some .int, none, none]], fun args os => match args, os with
  | [.agg [.isl .str a, .isl .str b, .isl .late l, .val (.int .i64 txg), .isl .cset cs, .isl .ent es, .isl .ptr ps, .val (.bool dirty), .isl .int zs, .val (.int .i64 logn), .val (.bool up)]], [] => ifp ((Dk.mk a b l).small ∧ (Co.mk txg cs es ps dirty zs logn).fit) (vb (poolB ⟨⟨a, b, l⟩, ⟨txg, cs, es, ps, dirty, zs, logn⟩, up⟩))
  | _, _ => no⟩
theorem s_poolOk_e : EnterOk Tryz.prog 16 := ⟨_, Tryz.func16, rfl, by decide⟩
@[go_sem] def s_poolOk_lv : List (List Nat) := [[1], [2]]
@[go_sem] noncomputable def s_poolOk_K : Known := (Known.nil).cons 71 ctCommitOk s_commitOk s_commitOk_e
set_option maxHeartbeats 8000000 in
theorem s_poolOk : Sound Tryz.prog 16 ctPoolOk := by
  have ke := s_poolOk_K.env []
  have kl : Lives s_poolOk_lv := trivial
  refine sound_intro (E := ⟨ti, s_poolOk_K.Γ, []⟩) ke Tryz.func16 Tryz.ntmps16 rfl (rs := [.tmp 2]) rfl ?_
  intro args os hp
  unfold ctPoolOk at hp ⊢
  dsimp only at hp ⊢
  split at hp
  · rename_i a b l txg cs es ps dirty zs logn up
    refine ⟨by simp, fun φ0 w0 => ?_⟩
    obtain ⟨⟨h1, h2, h3⟩, hf⟩ : (Dk.mk a b l).small ∧ (Co.mk txg cs es ps dirty zs logn).fit := hp
    have e : poolB ⟨⟨a, b, l⟩, ⟨txg, cs, es, ps, dirty, zs, logn⟩, true⟩ = poolB ⟨⟨a, b, l⟩, ⟨txg, cs, es, ps, dirty, zs, logn⟩, up⟩ := rfl
    refine goh trivial ?_
    exact finh [] e
  · simp [no, ifp] at hp
theorem s_specPoolOk_e : EnterOk Tryz.prog 14 := ⟨_, Tryz.func14, rfl, by decide⟩
@[go_sem] def s_specPoolOk_lv : List (List Nat) := [[1], [2]]
@[go_sem] noncomputable def s_specPoolOk_K : Known := ((Known.nil).cons 28 ctDiskOk s_specDiskOk s_specDiskOk_e).cons 69 ctCoreOk s_specCoreOk s_specCoreOk_e
set_option maxHeartbeats 8000000 in
theorem s_specPoolOk : Sound Tryz.prog 14 ctPoolOk := by
  have ke := s_specPoolOk_K.env []
  have kl : Lives s_specPoolOk_lv := trivial
  refine sound_intro (E := ⟨ti, s_specPoolOk_K.Γ, []⟩) ke Tryz.func14 Tryz.ntmps14 rfl (rs := [.tmp 2]) rfl ?_
  intro args os hp
  unfold ctPoolOk at hp ⊢
  dsimp only at hp ⊢
  split at hp
  · rename_i a b l txg cs es ps dirty zs logn up
    refine ⟨by simp, fun φ0 w0 => ?_⟩
    obtain ⟨⟨h1, h2, h3⟩, hf⟩ : (Dk.mk a b l).small ∧ (Co.mk txg cs es ps dirty zs logn).fit := hp
    refine goh trivial ?_
    refine ⟨by (simp only [go_sem, poolB, ↓reduceIte, reduceCtorEq, Nat.reduceAdd, Nat.reduceLT, Nat.reduceLeDiff, Nat.reduceEqDiff]) <;> trivial, [], ?_⟩
    all_goals try simp only [go_sem, poolB, inj_r, ↓reduceIte, reduceCtorEq, Nat.reduceAdd, Nat.reduceLT, Nat.reduceLeDiff, Nat.reduceEqDiff, Int.reduceEq]
    all_goals (repeat' refine And.intro ?_ ?_) <;> try exact shut7
    exact pool_ok2 _ _ _
  · simp [no, ifp] at hp
end Go.Proofs.YtjedcphhajlnoaaGreatDoor
/- Functions: a block of a store. -/
namespace Go.Proofs.YtjedcphhajlnoaaGreatDoor
open Go.RowKit

@[go_sem] def ctIsBlock : Ct := ⟨false, [], fun args os => match args, os with
  | [.one (.val (.int .i64 i))], [] => is (vb (decide (0 ≤ i) && decide (i ≤ 7)))
  | _, _ => no⟩
theorem s_isBlock_e : EnterOk Tryz.prog 76 := ⟨_, Tryz.func76, rfl, by decide⟩
@[go_sem] def s_isBlock_lv : List (List Nat) := [[0], [2]]
@[go_sem] noncomputable def s_isBlock_K : Known := (Known.nil).cons 89 ctWithin s_within s_within_e
set_option maxHeartbeats 8000000 in
theorem s_isBlock : Sound Tryz.prog 76 ctIsBlock := by
  have ke := s_isBlock_K.env []
  have kl : Lives s_isBlock_lv := trivial
  refine sound_intro (E := ⟨ti, s_isBlock_K.Γ, []⟩) ke Tryz.func76 Tryz.ntmps76 rfl (rs := [.tmp 2]) rfl ?_
  intro args os hp
  unfold ctIsBlock at hp ⊢
  dsimp only at hp ⊢
  split at hp
  · rename_i i
    refine ⟨by simp, fun φ0 w0 => ?_⟩
    refine goh trivial ?_
    exact finh [] trivial
  · simp [no, is] at hp
@[go_sem] noncomputable def ctGetName : Ct := ⟨true, [], fun args os => match args, os with
  | [.agg cs, .one (.ptr 0 0)], [.cells [.val (.string name)]] => (match csetOf cs with | some s => is (vb (same s.name name)) | none => no)
  | _, _ => no⟩
theorem s_getName_e : EnterOk Tryz.prog 78 := ⟨_, Tryz.func78, rfl, by decide⟩
@[go_sem] def s_getName_lv : List (List Nat) := [[1, 2], [3]]
@[go_sem] noncomputable def s_getName_K : Known := Known.nil
set_option maxHeartbeats 8000000 in
theorem s_getName : Sound Tryz.prog 78 ctGetName := by
  have ke := s_getName_K.env []
  have kl : Lives s_getName_lv := trivial
  refine sound_intro (E := ⟨ti, s_getName_K.Γ, []⟩) ke Tryz.func78 Tryz.ntmps78 rfl (rs := [.tmp 3]) rfl ?_
  intro args os hp
  unfold ctGetName at hp ⊢
  dsimp only at hp ⊢
  split at hp
  · rename_i cs name
    split at hp
    · rename_i s hs
      obtain rfl := csetOf_some hs
      clear hs
      refine ⟨by simp, fun φ0 w0 => ?_⟩
      refine goh trivial ?_
      exact finh [some 0] trivial
    · simp [no] at hp
  · simp [no] at hp
noncomputable def atC (cs : List CSet) (name : ByteArray) : Int := firstAt (fun s => same s.name name) cs
@[go_sem] noncomputable def ctIxName : Ct := ⟨true, [[some .cset]], fun args os => match args, os with
  | [.one (.isl .cset xs), .one (.fn 78 [(0, 0)])], [.cells [.val (.string name)]] => ifp (xs.length ≤ 4000000) (vi (atC xs name))
  | _, _ => no⟩
theorem s_ixName_e : EnterOk Tryz.prog 77 := ⟨_, Tryz.func77, rfl, by decide⟩
@[go_sem] def s_ixName_lv : List (List Nat) := [[0, 1], [0, 1, 7, 8], [0, 1, 7, 8, 9], [0, 1, 5, 7, 8], [0, 1, 5, 7, 8, 16], [4], [0, 1, 7, 8], [4]]
@[go_sem] noncomputable def s_ixName_K : Known := (Known.nil).cons 78 ctGetName s_getName s_getName_e
set_option maxHeartbeats 8000000 in
theorem s_ixName : Sound Tryz.prog 77 ctIxName := by
  have ke := s_ixName_K.env []
  have kl : Lives s_ixName_lv := trivial
  refine sound_intro (E := ⟨ti, s_ixName_K.Γ, []⟩) ke Tryz.func77 Tryz.ntmps77 rfl (rs := [.tmp 4]) rfl ?_
  intro args os hp
  unfold ctIxName at hp ⊢
  dsimp only at hp ⊢
  split at hp
  · rename_i xs name
    refine ⟨by simp, fun φ0 w0 => ?_⟩
    have hlen : xs.length ≤ 4000000 := hp
    refine goh trivial ?_
    refine W_for xs.length (fun i => ∀ j, j < i → same (xs.getD j ET.cset.dflt).name name = false) (fun i => ⟨[(8, vi i), (7, vi xs.length), (0, .one (.isl .cset xs)), (1, .one (.fn 78 [(0, 0)]))], [some (.cells [.val (.string name)])], []⟩) [some 0] (leh trivial) (by omega) fun i hi hb => ?_
    refine goh trivial ?_
    refine W_cnd ?_ ?_ <;> (try simp only [cnd_r]) <;> intro hlt
    · refine goh trivial ?_
      refine W_cond _ (by exact rfl) (by exact trivial) ?_ ?_ <;> intro hl
      · have e : atC xs name = i := firstAt_some (d := ET.cset.dflt) (by omega) hb hl
        refine goh trivial ?_
        exact finh [some 0] e
      · refine goh trivial ?_
        exact ⟨[some 0], by omega, leh trivial, fun j hj => by
          rcases Nat.lt_succ_iff_lt_or_eq.1 hj with h | rfl
          · first | exact hb j h | exact same_false.1 (hb j h)
          · first | exact hl | exact same_false.1 hl⟩
    · have e : atC xs name = -1 := firstAt_none (d := ET.cset.dflt) fun j hj => hb j (by omega)
      refine goh trivial ?_
      exact finh [some 0] e
  · simp [no, ifp] at hp
theorem atC_frame (cs : List CSet) (name : ByteArray) : atB (frameOf cs) name = atC cs name := by
  unfold atB atC firstAt frameOf
  rw [List.findIdx?_map]
  rfl
theorem atC_lt (xs : List CSet) (name : ByteArray) : atC xs name < xs.length := by
  have h := atB_lt (frameOf xs) name
  rw [atC_frame, frame_len] at h
  exact h
/-- What is read of a store. -/
noncomputable def poolGet (p : Pl) (name : ByteArray) (i : Int) : ByteArray × Int :=
  if poolB p = true ∧ 0 ≤ i ∧ i ≤ 7 then
    if p.up = true then
      if thereB (frameOf p.core.sets) name = true then
        if (blkRead p.disk ((p.core.sets.getD (lowN (frameOf p.core.sets) name) ET.cset.dflt).map.get i.toNat)).2 = 2 then (⟨#[]⟩, 8)
        else ((blkRead p.disk ((p.core.sets.getD (lowN (frameOf p.core.sets) name) ET.cset.dflt).map.get i.toNat)).1, 0)
      else (⟨#[]⟩, 1)
    else (⟨#[]⟩, 9)
  else (⟨#[]⟩, 5)
@[go_sem] noncomputable def ctPoolGet : Ct := ⟨false, [[some .str, some .str, some .late, none, some .cset, some .ent, some .ptr, none, some .int, none, none]], fun args os => match args, os with
  | [.agg [.isl .str a, .isl .str b, .isl .late l, .val (.int .i64 txg), .isl .cset cs, .isl .ent es, .isl .ptr ps, .val (.bool dirty), .isl .int zs, .val (.int .i64 logn), .val (.bool up)], .one (.val (.string name)), .one (.val (.int .i64 i))], [] => ifp ((Dk.mk a b l).small ∧ (Co.mk txg cs es ps dirty zs logn).fit) (.tup [vs (poolGet ⟨⟨a, b, l⟩, ⟨txg, cs, es, ps, dirty, zs, logn⟩, up⟩ name i).1, vi (poolGet ⟨⟨a, b, l⟩, ⟨txg, cs, es, ps, dirty, zs, logn⟩, up⟩ name i).2])
  | _, _ => no⟩
theorem poolB_parts {p : Pl} (h : poolB p = true) : p.disk.ok = true ∧ 13 < p.disk.a.length ∧ CoreP p.core := by
  unfold poolB at h
  simp only [Bool.and_eq_true, decide_eq_true_eq] at h
  exact ⟨h.1, h.2.1, Co.ok_true.1 h.2.2⟩
theorem s_poolGet_e : EnterOk Tryz.prog 19 := ⟨_, Tryz.func19, rfl, by decide⟩
@[go_sem] def s_poolGet_lv : List (List Nat) := [[2, 3, 4], [2, 3, 4, 11], [6, 7], [2, 3, 4, 20], [6, 7], [2, 3, 8], [2, 3, 8, 30], [6, 7], [9, 10], [9, 47], [6, 7], [6, 7]]
@[go_sem] noncomputable def s_poolGet_K : Known := (((((Known.nil).cons 16 ctPoolOk s_poolOk s_poolOk_e).cons 76 ctIsBlock s_isBlock s_isBlock_e).cons 77 ctIxName s_ixName s_ixName_e).cons 29 ctBlkRead s_blkRead s_blkRead_e).cons 78 ctGetName s_getName s_getName_e
set_option maxHeartbeats 8000000 in
theorem s_poolGet : Sound Tryz.prog 19 ctPoolGet := by
  have ke := s_poolGet_K.env []
  have kl : Lives s_poolGet_lv := trivial
  refine sound_intro (E := ⟨ti, s_poolGet_K.Γ, []⟩) ke Tryz.func19 Tryz.ntmps19 rfl (rs := [.tmp 6, .tmp 7]) rfl ?_
  intro args os hp
  unfold ctPoolGet at hp ⊢
  dsimp only at hp ⊢
  split at hp
  · rename_i a b l txg cs es ps dirty zs logn up name i
    refine ⟨by simp, fun φ0 w0 => ?_⟩
    obtain ⟨⟨h1, h2, h3⟩, hf⟩ : (Dk.mk a b l).small ∧ (Co.mk txg cs es ps dirty zs logn).fit := hp
    have hlen := hf.small.1
    simp only at hlen
    have hd := poolGet.eq_1 ⟨⟨a, b, l⟩, ⟨txg, cs, es, ps, dirty, zs, logn⟩, up⟩ name i
    simp only at hd
    refine goh trivial ?_
    refine W_cnd ?_ ?_ <;> (try simp only [cnd_r]) <;> intro hc
    · rw [if_neg (by rintro ⟨g1, g2, g3⟩; rcases hc with hc | hc | hc; (rw [g1] at hc; cases hc); exact hc g2; exact hc g3)] at hd
      refine goh trivial ?_
      exact finh [] hd
    · have hok : poolB ⟨⟨a, b, l⟩, ⟨txg, cs, es, ps, dirty, zs, logn⟩, up⟩ = true := by simpa using hc.1
      rw [if_pos ⟨hok, hc.2.1, hc.2.2⟩] at hd
      obtain ⟨hdk, -, hC⟩ := poolB_parts hok
      have hso := book_sorted (bookB_true.1 hC.book)
      simp only at hso
      refine goh trivial ?_
      refine W_cnd ?_ ?_ <;> (try simp only [cnd_r]) <;> intro hu
      · rw [if_neg (by rw [hu]; decide)] at hd
        refine goh trivial ?_
        exact finh [] hd
      · rw [if_pos hu] at hd
        obtain ⟨l1, l2⟩ := at_low hso name
        rw [atC_frame] at l1 l2
        have hcl := atC_lt cs name
        have hfl := frame_len cs
        cases ht : thereB (frameOf cs) name with
        | false =>
          have h0 := l2 ht
          rw [ht, if_neg (by decide)] at hd
          refine goh trivial ?_
          refine W_cnd ?_ ?_ <;> (try simp only [cnd_r]) <;> intro hk
          · refine goh trivial ?_
            exact finh [] hd
          · omega
        | true =>
          have h0 := l1 ht
          rw [ht, if_pos rfl] at hd
          have hlow := (there_lt ht).1
          rw [hfl] at hlow
          obtain ⟨k, hk⟩ : ∃ k, lowN (frameOf cs) name = k := ⟨_, rfl⟩
          rw [hk] at h0 hd hlow
          obtain ⟨j, rfl⟩ : ∃ j : Nat, i = j := ⟨i.toNat, by omega⟩
          rw [Int.toNat_natCast] at hd
          have hj8 : j < 8 := by omega
          refine goh h0 ?_
          refine W_cnd ?_ ?_ <;> (try simp only [cnd_r]) <;> intro hneg
          · omega
          · rcases (show j = 0 ∨ j = 1 ∨ j = 2 ∨ j = 3 ∨ j = 4 ∨ j = 5 ∨ j = 6 ∨ j = 7 by omega) with hc8 | hc8 | hc8 | hc8 | hc8 | hc8 | hc8 | hc8
            all_goals
              subst hc8
              simp only [Eight.get, Int.cast_ofNat_Int] at hd
              refine goh h0 ?_
              refine W_cnd ?_ ?_ <;> (try simp only [cnd_r]) <;> intro hbad
              · rw [if_pos hbad] at hd
                refine goh trivial ?_
                exact finh [] hd
              · simp only [beq_eq_false_iff_ne, ne_eq] at hbad
                rw [if_neg hbad] at hd
                refine goh trivial ?_
                exact finh [] hd
  · simp [no, ifp] at hp
theorem s_specPoolGet_e : EnterOk Tryz.prog 18 := ⟨_, Tryz.func18, rfl, by decide⟩
@[go_sem] def s_specPoolGet_lv : List (List Nat) := [[1, 2, 3], [1, 2, 3, 12], [6, 7], [1, 2, 3, 24], [6, 7], [2, 3, 8, 9], [2, 3, 8, 37], [6, 7], [10, 11], [10, 54], [6, 7], [6, 7]]
@[go_sem] noncomputable def s_specPoolGet_K : Known := ((((Known.nil).cons 14 ctPoolOk s_specPoolOk s_specPoolOk_e).cons 74 ctFrame s_l6Names s_l6Names_e).cons 73 ctAt s_l4At s_l4At_e).cons 75 ctBlkRead s_specBlkRead s_specBlkRead_e
set_option maxHeartbeats 8000000 in
theorem s_specPoolGet : Sound Tryz.prog 18 ctPoolGet := by
  have ke := s_specPoolGet_K.env []
  have kl : Lives s_specPoolGet_lv := trivial
  refine sound_intro (E := ⟨ti, s_specPoolGet_K.Γ, []⟩) ke Tryz.func18 Tryz.ntmps18 rfl (rs := [.tmp 6, .tmp 7]) rfl ?_
  intro args os hp
  unfold ctPoolGet at hp ⊢
  dsimp only at hp ⊢
  split at hp
  · rename_i a b l txg cs es ps dirty zs logn up name i
    refine ⟨by simp, fun φ0 w0 => ?_⟩
    obtain ⟨⟨h1, h2, h3⟩, hf⟩ : (Dk.mk a b l).small ∧ (Co.mk txg cs es ps dirty zs logn).fit := hp
    have hlen := hf.small.1
    simp only at hlen
    have hfl := frame_len cs
    have hd := poolGet.eq_1 ⟨⟨a, b, l⟩, ⟨txg, cs, es, ps, dirty, zs, logn⟩, up⟩ name i
    simp only at hd
    refine goh trivial ?_
    refine W_cnd ?_ ?_ <;> (try simp only [cnd_r]) <;> intro hc
    · rw [if_neg (by rintro ⟨g1, g2, g3⟩; rcases hc with (hc | hc) | hc; (rw [g1] at hc; cases hc); omega; omega)] at hd
      refine goh trivial ?_
      exact finh [] hd
    · have hok : poolB ⟨⟨a, b, l⟩, ⟨txg, cs, es, ps, dirty, zs, logn⟩, up⟩ = true := by simpa using hc.1.1
      rw [if_pos ⟨hok, by omega, by omega⟩] at hd
      refine goh trivial ?_
      refine W_cnd ?_ ?_ <;> (try simp only [cnd_r]) <;> intro hu
      · rw [if_neg (by rw [hu]; decide)] at hd
        refine goh trivial ?_
        exact finh [] hd
      · rw [if_pos hu] at hd
        cases ht : thereB (frameOf cs) name with
        | false =>
          rw [ht, if_neg (by decide)] at hd
          refine goh ht ?_
          refine W_cnd ?_ ?_ <;> intro hlit <;> try (cases hlit; done)
          refine goh trivial ?_
          exact finh [] hd
        | true =>
          rw [ht, if_pos rfl] at hd
          have hlow := (there_lt ht).1
          rw [hfl] at hlow
          obtain ⟨j, rfl⟩ : ∃ j : Nat, i = j := ⟨i.toNat, by omega⟩
          rw [Int.toNat_natCast] at hd
          have hj8 : j < 8 := by omega
          refine goh ht ?_
          refine W_cnd ?_ ?_ <;> intro hlit <;> try (cases hlit; done)
          rcases (show j = 0 ∨ j = 1 ∨ j = 2 ∨ j = 3 ∨ j = 4 ∨ j = 5 ∨ j = 6 ∨ j = 7 by omega) with hc8 | hc8 | hc8 | hc8 | hc8 | hc8 | hc8 | hc8
          all_goals
            subst hc8
            simp only [Eight.get, Int.cast_ofNat_Int] at hd
            refine goh trivial ?_
            refine W_cnd ?_ ?_ <;> (try simp only [cnd_r]) <;> intro hbad
            · rw [if_pos hbad] at hd
              refine goh trivial ?_
              exact finh [] hd
            · simp only [beq_eq_false_iff_ne, ne_eq] at hbad
              rw [if_neg hbad] at hd
              refine goh trivial ?_
              exact finh [] hd
  · simp [no, ifp] at hp
end Go.Proofs.YtjedcphhajlnoaaGreatDoor
/- The exact law of PoolOk. -/
namespace Go.Proofs.YtjedcphhajlnoaaGreatDoor
open Go.RowKit

theorem Pl.inn.fit {a b : List ByteArray} {l : List Late} {x : Int} {cs : List CSet} {es : List Ent} {ps : List Ptr} {y : Bool} {zs : List Int} {u : Int} {o : Bool} (h : (Pl.mk ⟨a, b, l⟩ ⟨x, cs, es, ps, y, zs, u⟩ o).inn) {n : Int} (hn : n ≤ 1048576) (hs : 0 ≤ szW (Pl.mk ⟨a, b, l⟩ ⟨x, cs, es, ps, y, zs, u⟩ o).wt n) :
    (a.length ≤ 1048576 ∧ b.length ≤ 1048576 ∧ l.length ≤ 1048576) ∧ (cs.length ≤ 1048576 ∧ es.length ≤ 1048576 ∧ ps.length ≤ 1048576 ∧ zs.length ≤ 1048576) ∧ (Co.mk x cs es ps y zs u).fit := by
  have h1 := pool_small hs
  simp only at h1
  refine ⟨by omega, by omega, ⟨⟨by simp only; omega, by simp only; omega, by simp only; omega, by simp only; omega⟩, fun i => ?_⟩⟩
  obtain ⟨-, h2⟩ := h.core.sets
  exact ⟨(h2 i).1, (h2 i).2⟩
@[go_sem] def ctXPool : Ct := ⟨false, [[some .str, some .str, some .late, none, some .cset, some .ent, some .ptr, none, some .int, none, none]], fun args os => match args, os with
  | [.agg [.isl .str a, .isl .str b, .isl .late l, .val (.int .i64 x), .isl .cset cs, .isl .ent es, .isl .ptr ps, .val (.bool y), .isl .int zs, .val (.int .i64 u), .val (.bool o)]], [] =>
    ifp (Pl.mk ⟨a, b, l⟩ ⟨x, cs, es, ps, y, zs, u⟩ o).inn (vb true)
  | _, _ => no⟩
theorem s_xPoolOk_e : EnterOk Tryz.prog 3 := ⟨_, Tryz.func3, rfl, by decide⟩
@[go_sem] def s_xPoolOk_lv : List (List Nat) := [[1], [1, 3], [1, 3], [1, 11], [2], [1, 4], [1, 4, 5], [1, 4, 5, 6], [1, 5, 21], [2], [26], [2], [2]]
@[go_sem] noncomputable def s_xPoolOk_K : Known := (((((Known.nil).cons 13 ctSzPool s_szPool s_szPool_e).cons 15 ctToPool s_toPool s_toPool_e).cons 14 ctPoolOk s_specPoolOk s_specPoolOk_e).cons 16 ctPoolOk s_poolOk s_poolOk_e).cons 17 ctEqPool s_eqPool s_eqPool_e
set_option maxHeartbeats 8000000 in
theorem s_xPoolOk : Sound Tryz.prog 3 ctXPool := by
  have ke := s_xPoolOk_K.env []
  have kl : Lives s_xPoolOk_lv := trivial
  refine sound_intro (E := ⟨ti, s_xPoolOk_K.Γ, []⟩) ke Tryz.func3 Tryz.ntmps3 rfl (rs := [.tmp 2]) rfl ?_
  intro args os hp
  unfold ctXPool at hp ⊢
  dsimp only at hp ⊢
  split at hp
  · rename_i a b l x cs es ps y zs u o
    refine ⟨by simp, fun φ0 w0 => ?_⟩
    have hin : (Pl.mk ⟨a, b, l⟩ ⟨x, cs, es, ps, y, zs, u⟩ o).inn := hp
    have i1 := szW_in (Pl.mk ⟨a, b, l⟩ ⟨x, cs, es, ps, y, zs, u⟩ o).wt 1048576 (by decide)
    refine goh trivial ?_
    refine W_cnd ?_ ?_ <;> (try simp only [cnd_r]) <;> intro hc
    · refine goh trivial ?_
      exact finh [] trivial
    · obtain ⟨⟨q1, q2, q3⟩, ⟨q4, q5, q6, q7⟩, hfit⟩ := hin.fit (n := 1048576) (by decide) (by omega)
      obtain ⟨r, hr⟩ : ∃ r, poolB ⟨⟨a, b, l⟩, ⟨x, cs, es, ps, y, zs, u⟩, o⟩ = r := ⟨_, rfl⟩
      repeat' first
        | with_reducible refine red ?_
        | refine W_seq ?_
        | (refine W_reg (s_xPoolOk_K.env []) s_xPoolOk_lv fun K' hK' => ?_
           simp only [go_sem, Pl.small, hr, ↓reduceIte, ↓reduceDIte, reduceCtorEq, Nat.reduceAdd, Nat.reduceMul, Nat.reduceSub, Nat.reduceDiv, Nat.reduceMod, Nat.reduceLT, Nat.reduceLeDiff, Nat.reduceEqDiff, Nat.reduceBEq, Int.reduceToNat, Int.reduceLE, Int.reduceLT, Int.reduceEq, Int.reduceNe, Int.reduceNeg]
           (repeat' refine And.intro ?_ ?_) <;> try first | with_reducible refine hK' ?_ | exact shut6)
        | with_reducible refine blockG_o (by decide) ?_
      refine W_cnd ?_ ?_ <;> intro hlit <;> try (cases hlit; done)
      repeat' first
        | with_reducible refine red ?_
        | refine W_seq ?_
        | (refine W_reg (s_xPoolOk_K.env []) s_xPoolOk_lv fun K' hK' => ?_
           simp only [go_sem, Pl.small, ↓reduceIte, ↓reduceDIte, reduceCtorEq, Nat.reduceAdd, Nat.reduceMul, Nat.reduceSub, Nat.reduceDiv, Nat.reduceMod, Nat.reduceLT, Nat.reduceLeDiff, Nat.reduceEqDiff, Nat.reduceBEq, Int.reduceToNat, Int.reduceLE, Int.reduceLT, Int.reduceEq, Int.reduceNe, Int.reduceNeg]
           (repeat' refine And.intro ?_ ?_) <;> try first | with_reducible refine hK' ?_ | exact shut6)
        | with_reducible refine blockG_o (by decide) ?_
      refine W_cnd ?_ ?_ <;> intro hlit <;> try (cases hlit; done)
      refine goh trivial ?_
      exact finh [] trivial
  · simp [no, ifp] at hp
end Go.Proofs.YtjedcphhajlnoaaGreatDoor
