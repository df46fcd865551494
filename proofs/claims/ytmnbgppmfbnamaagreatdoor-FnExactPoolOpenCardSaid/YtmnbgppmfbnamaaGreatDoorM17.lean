import Derived.Test.YtmnbgppmfbnamaaGreatDoorM10
import Derived.Test.YtmnbgppmfbnamaaGreatDoorM11
import Derived.Test.YtmnbgppmfbnamaaGreatDoorM14
import Derived.Test.YtmnbgppmfbnamaaGreatDoorM15
import Derived.Test.YtmnbgppmfbnamaaGreatDoorM16
set_option linter.unusedSimpArgs false
set_option linter.unusedVariables false
set_option linter.unusedSectionVars false
/- Functions: free sectors, what a commit needs. -/
namespace Go.Proofs.YtmnbgppmfbnamaaGreatDoor
open Go.RowKit

@[go_sem] def ctNan : Ct := ⟨false, [], fun args os => match args, os with
  | [.one (.val (.int .i64 x))], [] => is (vb false)
  | _, _ => no⟩
theorem s_nanS_e : EnterOk Tryz.prog 310 := ⟨_, Tryz.func310, rfl, by decide⟩
@[go_sem] def s_nanS_lv : List (List Nat) := [[0], [2]]
@[go_sem] noncomputable def s_nanS_K : Known := Known.nil
set_option maxHeartbeats 8000000 in
theorem s_nanS : Sound Tryz.prog 310 ctNan := by
  have ke := s_nanS_K.env []
  have kl : Lives s_nanS_lv := trivial
  refine sound_intro (E := ⟨ti, s_nanS_K.Γ, []⟩) ke Tryz.func310 Tryz.ntmps310 rfl (rs := [.tmp 2]) rfl ?_
  intro args os hp
  unfold ctNan at hp ⊢
  dsimp only at hp ⊢
  split at hp
  · rename_i x
    clear hp
    refine ⟨by simp, fun φ0 w0 => ?_⟩
    refine goh trivial ?_
    exact finh [] trivial
  · simp [no] at hp
theorem s_nanC_e : EnterOk Tryz.prog 320 := ⟨_, Tryz.func320, rfl, by decide⟩
@[go_sem] def s_nanC_lv : List (List Nat) := [[0], [2]]
@[go_sem] noncomputable def s_nanC_K : Known := Known.nil
set_option maxHeartbeats 8000000 in
theorem s_nanC : Sound Tryz.prog 320 ctNan := by
  have ke := s_nanC_K.env []
  have kl : Lives s_nanC_lv := trivial
  refine sound_intro (E := ⟨ti, s_nanC_K.Γ, []⟩) ke Tryz.func320 Tryz.ntmps320 rfl (rs := [.tmp 2]) rfl ?_
  intro args os hp
  unfold ctNan at hp ⊢
  dsimp only at hp ⊢
  split at hp
  · rename_i x
    clear hp
    refine ⟨by simp, fun φ0 w0 => ?_⟩
    refine goh trivial ?_
    exact finh [] trivial
  · simp [no] at hp
@[go_sem] def ctLessI : Ct := ⟨false, [], fun args os => match args, os with
  | [.one (.val (.int .i64 x)), .one (.val (.int .i64 y))], [] => is (vb (decide (x < y)))
  | _, _ => no⟩
theorem s_lessI_e : EnterOk Tryz.prog 309 := ⟨_, Tryz.func309, rfl, by decide⟩
@[go_sem] def s_lessI_lv : List (List Nat) := [[0, 1], [4]]
@[go_sem] noncomputable def s_lessI_K : Known := (Known.nil).cons 320 ctNan s_nanC s_nanC_e
set_option maxHeartbeats 8000000 in
theorem s_lessI : Sound Tryz.prog 309 ctLessI := by
  have ke := s_lessI_K.env []
  have kl : Lives s_lessI_lv := trivial
  refine sound_intro (E := ⟨ti, s_lessI_K.Γ, []⟩) ke Tryz.func309 Tryz.ntmps309 rfl (rs := [.tmp 4]) rfl ?_
  intro args os hp
  unfold ctLessI at hp ⊢
  dsimp only at hp ⊢
  split at hp
  · rename_i x y
    clear hp
    refine ⟨by simp, fun φ0 w0 => ?_⟩
    refine goh trivial ?_
    exact finh [] trivial
  · simp [no] at hp
/-- Ascending, as an index is looked for. -/
def UpI (zs : List Int) : Prop := ∀ i j, i ≤ j → j < zs.length → zs.getD i ET.int.dflt ≤ zs.getD j ET.int.dflt
theorem safe_up {zs : List Int} (h : ∀ i, i < zs.length → Safe zs i) : UpI zs := by
  intro i j hij
  induction j with
  | zero => intro _; obtain rfl : i = 0 := by omega
            exact Int.le_refl _
  | succ j ih =>
    intro hj
    rcases Nat.lt_or_ge i (j + 1) with h1 | h1
    · have h2 := ih (by omega) (by omega)
      have h3 : zs.getD (j + 1 - 1) ET.int.dflt < zs.getD (j + 1) ET.int.dflt := (h (j + 1) hj).2 (by omega)
      rw [Nat.add_sub_cancel] at h3
      exact Int.le_of_lt (Int.lt_of_le_of_lt h2 h3)
    · obtain rfl : i = j + 1 := by omega
      exact Int.le_refl _
theorem has_low {zs : List Int} {a : Int} {i : Nat} (hu : UpI zs) (hlo : ∀ k, k < i → zs.getD k ET.int.dflt < a) (hhi : i < zs.length → ¬ zs.getD i ET.int.dflt < a) :
    hasI zs a = (decide (i < zs.length) && (zs.getD i ET.int.dflt == a)) := by
  unfold hasI
  rw [Bool.eq_iff_iff, decide_eq_true_iff, Bool.and_eq_true, decide_eq_true_iff, beq_iff_eq]
  constructor
  · intro hm
    obtain ⟨k, hk, rfl⟩ := List.getElem_of_mem hm
    have hki : i ≤ k := by
      rcases Nat.lt_or_ge k i with h | h
      · have := hlo k h; rw [getI hk] at this; omega
      · exact h
    have h1 := hu i k hki hk
    have h2 := hhi (by omega)
    rw [getI hk] at h1
    exact ⟨by omega, by omega⟩
  · rintro ⟨hi, he⟩
    rw [getI hi] at he
    exact he ▸ List.getElem_mem hi
@[go_sem] def ctSearchI : Ct := ⟨false, [[some .int]], fun args os => match args, os with
  | [.one (.isl .int zs), .one (.val (.int .i64 a))], [] => ifp (zs.length ≤ 4000000 ∧ UpI zs) (.tup [.one .any, vb (hasI zs a)])
  | _, _ => no⟩
@[go_sem] def sgSearchI (zs : List Int) (a : Int) (i j : Nat) : Sg := ⟨[(0, .one (.isl .int zs)), (1, vi a), (6, vi zs.length), (7, vi i), (8, vi j)], [], []⟩
theorem s_searchI_e : EnterOk Tryz.prog 300 := ⟨_, Tryz.func300, rfl, by decide⟩
@[go_sem] def s_searchI_lv : List (List Nat) := [[0, 1], [0, 1, 6], [0, 1, 6, 7, 8], [0, 1, 6, 7, 8, 15], [0, 1, 6, 7, 8, 9], [0, 1, 6, 7, 8, 9, 27], [0, 1, 6, 7, 8], [0, 1, 6, 7, 8], [4, 5]]
@[go_sem] noncomputable def s_searchI_K : Known := ((Known.nil).cons 309 ctLessI s_lessI s_lessI_e).cons 310 ctNan s_nanS s_nanS_e
set_option maxHeartbeats 8000000 in
theorem s_searchI : Sound Tryz.prog 300 ctSearchI := by
  have ke := s_searchI_K.env []
  have kl : Lives s_searchI_lv := trivial
  refine sound_intro (E := ⟨ti, s_searchI_K.Γ, []⟩) ke Tryz.func300 Tryz.ntmps300 rfl (rs := [.tmp 4, .tmp 5]) rfl ?_
  intro args os hp
  unfold ctSearchI at hp ⊢
  dsimp only at hp ⊢
  split at hp
  · rename_i zs a
    refine ⟨by simp, fun φ0 w0 => ?_⟩
    obtain ⟨hlen, hu⟩ : zs.length ≤ 4000000 ∧ UpI zs := hp
    refine goh trivial ?_
    refine W_le (σ' := sgSearchI zs a 0 zs.length) [] (leh trivial) ?_
    refine W_loop (fun q σ => ∃ i j : Nat, i ≤ j ∧ j ≤ zs.length ∧ q = j - i ∧ (∀ k, k < i → zs.getD k ET.int.dflt < a) ∧ (j < zs.length → ¬ zs.getD j ET.int.dflt < a) ∧ σ = sgSearchI zs a i j) zs.length ⟨0, zs.length, by omega, by omega, by omega, by omega, by omega, rfl⟩ ?_
    rintro q σ ⟨i, j, hij, hj, rfl, hlo, hhi, rfl⟩
    unfold sgSearchI
    refine goh trivial ?_
    refine W_cnd ?_ ?_ <;> (try simp only [cnd_r]) <;> intro hlt
    · have hH := half i j (by omega) (by omega)
      obtain ⟨h, hh⟩ : ∃ h, (i + j) / 2 = h := ⟨_, rfl⟩
      rw [hh] at hH
      refine goh hH ?_
      refine W_cnd ?_ ?_ <;> (try simp only [cnd_r]) <;> intro hc
      · refine goh trivial ?_
        refine ⟨j - (h + 1), [], sgSearchI zs a (h + 1) j, by omega, leh trivial, h + 1, j, by omega, hj, rfl, fun k hk => ?_, hhi, rfl⟩
        exact Int.lt_of_le_of_lt (hu k h (by omega) (by omega)) hc
      · refine goh trivial ?_
        exact ⟨h - i, [], sgSearchI zs a i h, by omega, leh trivial, i, h, by omega, by omega, rfl, hlo, fun _ => by omega, rfl⟩
    · obtain rfl : i = j := by omega
      have e := has_low hu hlo hhi
      by_cases hi : i < zs.length
      · have hi3 : ((i : Int) < zs.length) = True := by simp; omega
        rw [decide_eq_true hi, Bool.true_and] at e
        cases hq : (zs.getD i ET.int.dflt == a) with
        | true =>
          rw [hq] at e
          refine goh (And.intro hq hi3) ?_
          exact finh [] e
        | false =>
          rw [hq] at e
          refine goh (And.intro hq hi3) ?_
          exact finh [] e
      · have hi3 : ((i : Int) < zs.length) = False := by simp; omega
        rw [decide_eq_false hi, Bool.false_and] at e
        refine goh hi3 ?_
        exact finh [] e
  · simp [no, ifp] at hp
/-- Whether a sector is free. -/
noncomputable def freeB (es : List Ent) (zs : List Int) (a : Int) : Bool := !thereE es a && !hasI zs a
@[go_sem] noncomputable def ctIsFree : Ct := ⟨false, [[none, some .cset, some .ent, some .ptr, none, some .int, none]], fun args os => match args, os with
  | [.agg [.val (.int .i64 x), .isl .cset cs, .isl .ent es, .isl .ptr ps, .val (.bool y), .isl .int zs, .val (.int .i64 u)], .one (.val (.int .i64 a))], [] => ifp ((es.length ≤ 4000000 ∧ Asc es ∧ (-1000000 ≤ a ∧ a ≤ 1000000)) ∧ zs.length ≤ 4000000 ∧ UpI zs) (vb (freeB es zs a))
  | _, _ => no⟩
theorem s_isFree_e : EnterOk Tryz.prog 274 := ⟨_, Tryz.func274, rfl, by decide⟩
@[go_sem] def s_isFree_lv : List (List Nat) := [[1, 2], [1, 2, 6], [6, 8], [4]]
@[go_sem] noncomputable def s_isFree_K : Known := ((Known.nil).cons 230 ctPlaceE s_ddtPlace s_ddtPlace_e).cons 300 ctSearchI s_searchI s_searchI_e
set_option maxHeartbeats 8000000 in
theorem s_isFree : Sound Tryz.prog 274 ctIsFree := by
  have ke := s_isFree_K.env []
  have kl : Lives s_isFree_lv := trivial
  refine sound_intro (E := ⟨ti, s_isFree_K.Γ, []⟩) ke Tryz.func274 Tryz.ntmps274 rfl (rs := [.tmp 4]) rfl ?_
  intro args os hp
  unfold ctIsFree at hp ⊢
  dsimp only at hp ⊢
  split at hp
  · rename_i x cs es ps y zs u a
    refine ⟨by simp, fun φ0 w0 => ?_⟩
    obtain ⟨⟨h1, h2, h3⟩, h4, h5⟩ : (es.length ≤ 4000000 ∧ Asc es ∧ (-1000000 ≤ a ∧ a ≤ 1000000)) ∧ zs.length ≤ 4000000 ∧ UpI zs := hp
    have nt : (!true) = false := rfl
    have nf : (!false) = true := rfl
    cases ht : thereE es a with
    | true =>
      have e : freeB es zs a = false := by unfold freeB; rw [ht]; rfl
      refine goh (And.intro ht nt) ?_
      exact finh [] e
    | false =>
      have e : freeB es zs a = !hasI zs a := by unfold freeB; rw [ht]; rfl
      refine goh (And.intro ht nf) ?_
      exact finh [] e
  · simp [no, ifp] at hp
noncomputable def freeN (es : List Ent) (zs : List Int) (n : Nat) : List Int := ((List.range n).map fun j : Nat => (13 + j : Int)).filter (freeB es zs)
/-- The free sectors among so many. -/
noncomputable def freeL (es : List Ent) (zs : List Int) (n : Int) : List Int := freeN es zs (n - 13).toNat
theorem freeN_succ (es : List Ent) (zs : List Int) (n : Nat) : freeN es zs (n + 1) = freeN es zs n ++ (if freeB es zs (13 + n) = true then [13 + (n : Int)] else []) := by
  unfold freeN
  rw [List.range_succ, List.map_append, List.filter_append]
  congr 1
  simp only [List.map_cons, List.map_nil, List.filter_cons, List.filter_nil]
theorem freeN_len (es : List Ent) (zs : List Int) (n : Nat) : (freeN es zs n).length ≤ n := by
  unfold freeN
  refine Nat.le_trans (List.length_filter_le _ _) ?_
  simp
theorem freeL_mem {es : List Ent} {zs : List Int} {n a : Int} (h : a ∈ freeL es zs n) : 13 ≤ a ∧ a < n := by
  unfold freeL freeN at h
  rw [List.mem_filter] at h
  obtain ⟨j, hj, rfl⟩ := List.mem_map.1 h.1
  rw [List.mem_range] at hj
  omega
@[go_sem] noncomputable def ctFree : Ct := ⟨false, [[none, some .cset, some .ent, some .ptr, none, some .int, none]], fun args os => match args, os with
  | [.agg [.val (.int .i64 x), .isl .cset cs, .isl .ent es, .isl .ptr ps, .val (.bool y), .isl .int zs, .val (.int .i64 u)], .one (.val (.int .i64 n))], [] => ⟨((es.length ≤ 4000000 ∧ Asc es) ∧ zs.length ≤ 4000000 ∧ UpI zs) ∧ n ≤ 1000, .one (.osl .int 0 0 (freeL es zs n).length), [], [.arr .int (freeL es zs n)]⟩
  | _, _ => no⟩
theorem s_free_e : EnterOk Tryz.prog 238 := ⟨_, Tryz.func238, rfl, by decide⟩
@[go_sem] def s_free_lv : List (List Nat) := [[1, 2], [1, 2, 5], [1, 2, 5, 6], [1, 2, 5, 6, 9], [1, 2, 5, 6], [1, 2, 5, 6, 14], [1, 2, 5, 6], [4]]
@[go_sem] noncomputable def s_free_K : Known := (Known.nil).cons 274 ctIsFree s_isFree s_isFree_e
set_option maxHeartbeats 8000000 in
theorem s_free : Sound Tryz.prog 238 ctFree := by
  have ke := s_free_K.env []
  have kl : Lives s_free_lv := trivial
  refine sound_intro (E := ⟨ti, s_free_K.Γ, []⟩) ke Tryz.func238 Tryz.ntmps238 rfl (rs := [.tmp 4]) rfl ?_
  intro args os hp
  unfold ctFree at hp ⊢
  dsimp only at hp ⊢
  split at hp
  · rename_i x cs es ps y zs u n
    refine ⟨by simp, fun φ0 w0 => ?_⟩
    obtain ⟨⟨⟨h1, h2⟩, h3, h4⟩, hn⟩ : ((es.length ≤ 4000000 ∧ Asc es) ∧ zs.length ≤ 4000000 ∧ UpI zs) ∧ n ≤ 1000 := hp
    obtain ⟨F, hF⟩ : ∃ F, freeN es zs = F := ⟨_, rfl⟩
    have f0 : F 0 = [] := by rw [← hF]; rfl
    have nt : (!true) = false := rfl
    refine goh trivial ?_
    refine W_for (n - 13).toNat (fun i => True) (fun i => ⟨[(1, vi n), (2, .one (.ptr 0 0)), (5, .one (.osl .int 1 0 (F i).length)), (6, vi (13 + (i : Int)))], [some (obCo x cs es ps y zs u), some (.arr .int (F i))], []⟩) [some 0, none] (leh f0) trivial fun i hi _ => ?_
    have hl : (F i).length ≤ i := by rw [← hF]; exact freeN_len es zs i
    have ht : (F i).take (F i).length = F i := List.take_length ..
    refine goh trivial ?_
    refine W_cnd ?_ ?_ <;> (try simp only [cnd_r]) <;> intro hlt
    · have hs := freeN_succ es zs i
      rw [hF] at hs
      have wi : (13 : Int) + i + 1 = 13 + ((i + 1 : Nat) : Int) := by omega
      cases hb : freeB es zs (13 + i) with
      | true =>
        rw [hb, if_pos rfl] at hs
        have hsl : (F (i + 1)).length = (F i).length + 1 := by rw [hs, List.length_append]; rfl
        refine goh hb ?_
        refine W_cnd ?_ ?_ <;> intro hlit <;> try (cases hlit; done)
        refine goh ht ?_
        exact ⟨[some 0, some 3], by omega, leh (And.intro hs (And.intro hsl wi)), trivial⟩
      | false =>
        rw [hb, if_neg (by decide), List.append_nil] at hs
        refine goh hb ?_
        refine W_cnd ?_ ?_ <;> intro hlit <;> try (cases hlit; done)
        refine goh trivial ?_
        exact ⟨[some 0, some 1], by omega, leh (And.intro hs wi), trivial⟩
    · obtain rfl : i = (n - 13).toNat := by omega
      have e : freeL es zs n = F (n - 13).toNat := by rw [← hF]; rfl
      refine goh trivial ?_
      exact finh [some 1] e
  · simp [no] at hp
@[go_sem] noncomputable def ctFreeS : Ct := ⟨false, [[none, some .cset, some .ent, some .ptr, none, some .int, none]], fun args os => match args, os with
  | [.agg [.val (.int .i64 x), .isl .cset cs, .isl .ent es, .isl .ptr ps, .val (.bool y), .isl .int zs, .val (.int .i64 u)], .one (.val (.int .i64 n))], [] => ⟨es.length ≤ 4000000 ∧ zs.length ≤ 4000000 ∧ n ≤ 1000, .one (.osl .int 0 0 (freeL es zs n).length), [], [.arr .int (freeL es zs n)]⟩
  | _, _ => no⟩
theorem s_l7Free_e : EnterOk Tryz.prog 232 := ⟨_, Tryz.func232, rfl, by decide⟩
@[go_sem] def s_l7Free_lv : List (List Nat) := [[1, 2], [1, 2, 5], [1, 2, 5, 6], [1, 2, 5, 6, 12], [1, 2, 5, 6], [1, 2, 5, 6, 8], [1, 2, 5, 6, 30], [1, 2, 5, 6], [4]]
@[go_sem] noncomputable def s_l7Free_K : Known := ((Known.nil).cons 218 ctAtE s_l5At s_l5At_e).cons 267 ctHasI s_l7Has s_l7Has_e
set_option maxHeartbeats 8000000 in
theorem s_l7Free : Sound Tryz.prog 232 ctFreeS := by
  have ke := s_l7Free_K.env []
  have kl : Lives s_l7Free_lv := trivial
  refine sound_intro (E := ⟨ti, s_l7Free_K.Γ, []⟩) ke Tryz.func232 Tryz.ntmps232 rfl (rs := [.tmp 4]) rfl ?_
  intro args os hp
  unfold ctFreeS at hp ⊢
  dsimp only at hp ⊢
  split at hp
  · rename_i x cs es ps y zs u n
    refine ⟨by simp, fun φ0 w0 => ?_⟩
    obtain ⟨h1, h3, hn⟩ : es.length ≤ 4000000 ∧ zs.length ≤ 4000000 ∧ n ≤ 1000 := hp
    obtain ⟨F, hF⟩ : ∃ F, freeN es zs = F := ⟨_, rfl⟩
    have f0 : F 0 = [] := by rw [← hF]; rfl
    have nt : (!true) = false := rfl
    have nf : (!false) = true := rfl
    refine goh trivial ?_
    refine W_for (n - 13).toNat (fun i => True) (fun i => ⟨[(1, vi n), (2, .one (.ptr 0 0)), (5, .one (.osl .int 1 0 (F i).length)), (6, vi (13 + (i : Int)))], [some (obCo x cs es ps y zs u), some (.arr .int (F i))], []⟩) [some 0, some 1] (leh f0) trivial fun i hi _ => ?_
    have hl : (F i).length ≤ i := by rw [← hF]; exact freeN_len es zs i
    have ht : (F i).take (F i).length = F i := List.take_length ..
    refine goh trivial ?_
    refine W_cnd ?_ ?_ <;> (try simp only [cnd_r]) <;> intro hlt
    · have hs := freeN_succ es zs i
      rw [hF] at hs
      have wi : (13 : Int) + i + 1 = 13 + ((i + 1 : Nat) : Int) := by omega
      have hfb : freeB es zs (13 + i) = (!thereE es (13 + i) && !hasI zs (13 + i)) := rfl
      cases hb : thereE es (13 + i) with
      | true =>
        rw [hfb, hb, if_neg (by simp), List.append_nil] at hs
        refine goh (And.intro hb nt) ?_
        refine W_cnd ?_ ?_ <;> intro hlit <;> try (cases hlit; done)
        refine goh trivial ?_
        exact ⟨[some 0, some 1], by omega, leh (And.intro hs wi), trivial⟩
      | false =>
        cases hb2 : hasI zs (13 + i) with
        | true =>
          rw [hfb, hb, hb2, if_neg (by simp), List.append_nil] at hs
          refine goh (And.intro hb (And.intro hb2 (And.intro nt nf))) ?_
          refine W_cnd ?_ ?_ <;> intro hlit <;> try (cases hlit; done)
          refine goh trivial ?_
          exact ⟨[some 0, some 1], by omega, leh (And.intro hs wi), trivial⟩
        | false =>
          rw [hfb, hb, hb2, if_pos (by simp)] at hs
          have hsl : (F (i + 1)).length = (F i).length + 1 := by rw [hs, List.length_append]; rfl
          refine goh (And.intro hb (And.intro hb2 (And.intro nt nf))) ?_
          refine W_cnd ?_ ?_ <;> intro hlit <;> try (cases hlit; done)
          refine goh ht ?_
          exact ⟨[some 0, some 3], by omega, leh (And.intro hs (And.intro hsl wi)), trivial⟩
    · obtain rfl : i = (n - 13).toNat := by omega
      have e : freeL es zs n = F (n - 13).toNat := by rw [← hF]; rfl
      refine goh trivial ?_
      exact finh [some 1] e
  · simp [no] at hp
end Go.Proofs.YtmnbgppmfbnamaaGreatDoor
/- Functions: the writes of a commit. -/
namespace Go.Proofs.YtmnbgppmfbnamaaGreatDoor
open Go.RowKit

@[go_sem] def ctWriteC : Ct := ⟨true, [], fun args os => match args, os with
  | [.one (.ptr 0 0), .one (.val (.int .i64 s)), .one (.val (.int .i64 k)), .one (.val (.string t))], [.cells [.osl .str 1 0 na, .osl .str 2 0 nb, .osl .late 3 0 nl, .val (.int .i64 x), .osl .cset 4 0 n1, .osl .ent 5 0 n2, .osl .ptr 6 0 n3, .val (.bool y), .osl .int 7 0 n4, .val (.int .i64 u), .osl .int 8 fo nf, .any, .any, .any, .any, .any, .any], .arr .str a, .arr .str b, .arr .late l, .arr .cset cs, .arr .ent es, .arr .ptr ps, .arr .int zs, .arr .int fr] =>
    if (Dk.mk a b l).may s k t then ⟨(Dk.mk a b l).small ∧ na = a.length ∧ nb = b.length ∧ nl = l.length, vb true, [(0, some (.cells [.osl .str 1 0 na, .osl .str 2 0 nb, .osl .late 9 0 (nl + 1), .val (.int .i64 x), .osl .cset 4 0 n1, .osl .ent 5 0 n2, .osl .ptr 6 0 n3, .val (.bool y), .osl .int 7 0 n4, .val (.int .i64 u), .osl .int 8 fo nf, .any, .any, .any, .any, .any, .any])), (3, none)], [.arr .late (l ++ [⟨s, k, t⟩])]⟩
    else ⟨(Dk.mk a b l).small ∧ na = a.length ∧ nb = b.length ∧ nl = l.length, vb false, [], []⟩
  | _, _ => no⟩
theorem s_writeC_e : EnterOk Tryz.prog 70 := ⟨_, Tryz.func70, rfl, by decide⟩
@[go_sem] def s_writeC_lv : List (List Nat) := [[0, 1, 2, 3], [0, 1, 2, 3, 27], [8], [], [8]]
@[go_sem] noncomputable def s_writeC_K : Known := ((Known.nil).cons 141 ctIsSector s_isSector s_isSector_e).cons 138 ctIsLong s_isLong s_isLong_e
set_option maxHeartbeats 8000000 in
theorem s_writeC : Sound Tryz.prog 70 ctWriteC := by
  have ke := s_writeC_K.env []
  have kl : Lives s_writeC_lv := trivial
  refine sound_intro (E := ⟨ti, s_writeC_K.Γ, []⟩) ke Tryz.func70 Tryz.ntmps70 rfl (rs := [.tmp 8]) rfl ?_
  intro args os hp
  unfold ctWriteC at hp ⊢
  dsimp only at hp ⊢
  split at hp
  · rename_i s k t na nb nl x n1 n2 n3 y n4 u fo nf a b l cs es ps zs fr
    refine ⟨by simp, fun φ0 w0 => ?_⟩
    have hp' : (Dk.mk a b l).small ∧ na = a.length ∧ nb = b.length ∧ nl = l.length := by
      by_cases h : (Dk.mk a b l).may s k t = true
      · rw [if_pos h] at hp; exact hp
      · rw [if_neg h] at hp; exact hp
    obtain ⟨⟨h1, h2, h3⟩, rfl, rfl, rfl⟩ := hp'
    simp only at h1 h2 h3
    have hm := may_eq ⟨a, b, l⟩ s k t
    simp only at hm
    clear hp
    refine goh trivial ?_
    refine W_cnd ?_ ?_ <;> (try simp only [cnd_r]) <;> intro hc
    · have hm0 : (Dk.mk a b l).may s k t = false := by
        rw [hm]
        cases hs : sector a.length s k <;> cases ht : long t <;> simp [hs, ht] at hc ⊢
        omega
      refine goh trivial ?_
      exact finh [some 0, some 1, some 2, some 3, some 4, some 5, some 6, some 7, some 8] hm0
    · have hm0 : (Dk.mk a b l).may s k t = true := by
        rw [hm]
        cases hs : sector a.length s k <;> cases ht : long t <;> simp [hs, ht] at hc ⊢
        omega
      refine goh trivial ?_
      exact finh [some 0, some 1, some 2, some 3, some 4, some 5, some 6, some 7, some 8, some 10] hm0
  · simp [no] at hp
@[go_sem] def ctWriteBothC : Ct := ⟨true, [], fun args os => match args, os with
  | [.one (.ptr 0 0), .one (.val (.int .i64 k)), .one (.val (.string t))], [.cells [.osl .str 1 0 na, .osl .str 2 0 nb, .osl .late 3 0 nl, .val (.int .i64 x), .osl .cset 4 0 n1, .osl .ent 5 0 n2, .osl .ptr 6 0 n3, .val (.bool y), .osl .int 7 0 n4, .val (.int .i64 u), .osl .int 8 fo nf, .any, .any, .any, .any, .any, .any], .arr .str a, .arr .str b, .arr .late l, .arr .cset cs, .arr .ent es, .arr .ptr ps, .arr .int zs, .arr .int fr] =>
    if (Dk.mk a b l).may2 k t then ⟨(Dk.mk a b l).small ∧ na = a.length ∧ nb = b.length ∧ nl = l.length, vb true, [(0, some (.cells [.osl .str 1 0 na, .osl .str 2 0 nb, .osl .late 9 0 (nl + 2), .val (.int .i64 x), .osl .cset 4 0 n1, .osl .ent 5 0 n2, .osl .ptr 6 0 n3, .val (.bool y), .osl .int 7 0 n4, .val (.int .i64 u), .osl .int 8 fo nf, .any, .any, .any, .any, .any, .any])), (3, none)], [.arr .late (l ++ [⟨0, k, t⟩] ++ [⟨1, k, t⟩])]⟩
    else ⟨(Dk.mk a b l).small ∧ na = a.length ∧ nb = b.length ∧ nl = l.length, vb false, [], []⟩
  | _, _ => no⟩
theorem s_writeBothC_e : EnterOk Tryz.prog 182 := ⟨_, Tryz.func182, rfl, by decide⟩
@[go_sem] def s_writeBothC_lv : List (List Nat) := [[0, 1, 2], [0, 1, 2, 12], [6], [6]]
@[go_sem] noncomputable def s_writeBothC_K : Known := (Known.nil).cons 70 ctWriteC s_writeC s_writeC_e
set_option maxHeartbeats 8000000 in
theorem s_writeBothC : Sound Tryz.prog 182 ctWriteBothC := by
  have ke := s_writeBothC_K.env []
  have kl : Lives s_writeBothC_lv := trivial
  refine sound_intro (E := ⟨ti, s_writeBothC_K.Γ, []⟩) ke Tryz.func182 Tryz.ntmps182 rfl (rs := [.tmp 6]) rfl ?_
  intro args os hp
  unfold ctWriteBothC at hp ⊢
  dsimp only at hp ⊢
  split at hp
  · rename_i k t na nb nl x n1 n2 n3 y n4 u fo nf a b l cs es ps zs fr
    refine ⟨by simp, fun φ0 w0 => ?_⟩
    have hp' : (Dk.mk a b l).small ∧ na = a.length ∧ nb = b.length ∧ nl = l.length := by
      by_cases h : (Dk.mk a b l).may2 k t = true
      · rw [if_pos h] at hp; exact hp
      · rw [if_neg h] at hp; exact hp
    obtain ⟨⟨h1, h2, h3⟩, rfl, rfl, rfl⟩ := hp'
    simp only at h1 h2 h3
    have hm : (Dk.mk a b l).may2 k t = (decide (l.length ≤ 598) && (Dk.mk a b l).may 0 k t) := rfl
    clear hp
    refine goh trivial ?_
    refine W_cnd ?_ ?_ <;> (try simp only [cnd_r]) <;> intro hc
    · have hm0 : (Dk.mk a b l).may2 k t = false := by
        rw [hm, Bool.and_eq_false_iff]; left; simp; omega
      refine goh trivial ?_
      exact finh [some 0, some 1, some 2, some 3, some 4, some 5, some 6, some 7, some 8] hm0
    · by_cases h0 : (Dk.mk a b l).may 0 k t = true
      · have hm0 : (Dk.mk a b l).may2 k t = true := by
          rw [hm, h0]; simp; omega
        have h00 : (Dk.mk a b (l ++ [⟨0, k, t⟩])).may 1 k t = true := by
          unfold Dk.may fits at h0 ⊢
          simp only [Bool.and_eq_true, decide_eq_true_eq, List.length_append, List.length_cons, List.length_nil] at h0 ⊢
          omega
        refine goh (And.intro h0 h00) ?_
        exact finh [some 0, some 1, some 2, some 3, some 4, some 5, some 6, some 7, some 8, some 10] hm0
      · have h0 : (Dk.mk a b l).may 0 k t = false := by simpa using h0
        have hm0 : (Dk.mk a b l).may2 k t = false := by rw [hm, h0, Bool.and_false]
        repeat' first
          | with_reducible refine red ?_
          | refine W_seq ?_
          | (refine W_reg (s_writeBothC_K.env [18, 19, 20, 21]) s_writeBothC_lv fun K' hK' => ?_
             simp only [go_sem, Dk.small, h0, ↓reduceIte, ↓reduceDIte, reduceCtorEq, Nat.reduceAdd, Nat.reduceMul, Nat.reduceSub, Nat.reduceDiv, Nat.reduceMod, Nat.reduceLT, Nat.reduceLeDiff, Nat.reduceEqDiff, Nat.reduceBEq, Int.reduceToNat, Int.reduceLE, Int.reduceLT, Int.reduceEq, Int.reduceNe, Int.reduceNeg]
             (repeat' refine And.intro ?_ ?_) <;> try first | with_reducible refine hK' ?_ | exact shut6)
          | with_reducible refine blockG_o (by decide) ?_
        exact finh [some 0, some 1, some 2, some 3, some 4, some 5, some 6, some 7, some 8] hm0
  · simp [no] at hp
@[go_sem] def ctFlushC : Ct := ⟨true, [], fun args os => match args, os with
  | [.one (.ptr 0 0)], [.cells [.osl .str 1 0 na, .osl .str 2 0 nb, .osl .late 3 0 nl, .val (.int .i64 x), .osl .cset 4 0 n1, .osl .ent 5 0 n2, .osl .ptr 6 0 n3, .val (.bool y), .osl .int 7 0 n4, .val (.int .i64 u), .osl .int 8 fo nf, .any, .any, .any, .any, .any, .any], .arr .str a, .arr .str b, .arr .late l, .arr .cset cs, .arr .ent es, .arr .ptr ps, .arr .int zs, .arr .int fr] =>
    ⟨(Dk.mk a b l).ok = true ∧ na = a.length ∧ nb = b.length ∧ nl = l.length, .tup [], [(0, some (.cells [.osl .str 1 0 na, .osl .str 2 0 nb, .val (.slice none 0 0), .val (.int .i64 x), .osl .cset 4 0 n1, .osl .ent 5 0 n2, .osl .ptr 6 0 n3, .val (.bool y), .osl .int 7 0 n4, .val (.int .i64 u), .osl .int 8 fo nf, .any, .any, .any, .any, .any, .any])), (1, some (.arr .str (Dk.mk a b l).flushed.a)), (2, some (.arr .str (Dk.mk a b l).flushed.b))], []⟩
  | _, _ => no⟩
theorem s_flushC_e : EnterOk Tryz.prog 71 := ⟨_, Tryz.func71, rfl, by decide⟩
@[go_sem] def s_flushC_lv : List (List Nat) := [[0, 7, 8, 9], [0, 7, 8, 9, 10], [0, 3, 7, 8, 9], [0, 7, 8, 9], [0, 7, 8, 9], []]
@[go_sem] noncomputable def s_flushC_K : Known := Known.nil
set_option maxHeartbeats 8000000 in
theorem s_flushC : Sound Tryz.prog 71 ctFlushC := by
  have ke := s_flushC_K.env []
  have kl : Lives s_flushC_lv := trivial
  refine sound_intro (E := ⟨ti, s_flushC_K.Γ, []⟩) ke Tryz.func71 Tryz.ntmps71 rfl (rs := []) rfl ?_
  intro args os hp
  unfold ctFlushC at hp ⊢
  dsimp only at hp ⊢
  split at hp
  · rename_i na nb nl x n1 n2 n3 y n4 u fo nf a b l cs es ps zs fr
    refine ⟨by simp, fun φ0 w0 => ?_⟩
    obtain ⟨hok, rfl, rfl, rfl⟩ : (Dk.mk a b l).ok = true ∧ na = a.length ∧ nb = b.length ∧ nl = l.length := hp
    have e3 : a.length ≤ 120 ∧ b.length ≤ 120 ∧ l.length ≤ 600 := Dk.ok_small hok
    have hz := Dk.done_zero (Dk.mk a b l)
    refine goh trivial ?_
    refine W_for l.length (fun i => True) (fun i => ⟨[(0, .one (.ptr 0 0)), (7, .one (.osl .late 3 0 l.length)), (8, vi l.length), (9, vi i)],
      [some (.cells [.osl .str 1 0 ((Dk.mk a b l).done i).1.length, .osl .str 2 0 ((Dk.mk a b l).done i).2.length, .osl .late 3 0 l.length, .val (.int .i64 x), .osl .cset 4 0 n1, .osl .ent 5 0 n2, .osl .ptr 6 0 n3, .val (.bool y), .osl .int 7 0 n4, .val (.int .i64 u), .osl .int 8 fo nf, .any, .any, .any, .any, .any, .any]), some (.arr .str ((Dk.mk a b l).done i).1), some (.arr .str ((Dk.mk a b l).done i).2), some (.arr .late l), some (.arr .cset cs), some (.arr .ent es), some (.arr .ptr ps), some (.arr .int zs), some (.arr .int fr)], [0, 1, 2]⟩) [some 0, some 1, some 2, some 3, some 4, some 5, some 6, some 7, some 8] (leh hz) trivial fun i hi _ => ?_
    obtain ⟨hl1, hl2⟩ := (Dk.mk a b l).done_len i
    simp only at hl1 hl2
    refine goh trivial ?_
    refine W_cnd ?_ ?_ <;> (try simp only [cnd_r]) <;> intro hlt
    · have hi' : i < l.length := by omega
      obtain ⟨ws, w1, w2, w3⟩ := Dk.ok_late hok i hi'
      have hd := (Dk.mk a b l).done_succ i hi'
      obtain ⟨-, -, hab, -⟩ := (Dk.ok_iff _).1 hok
      simp only at ws w1 w2 w3 hd hab
      generalize hx : (Dk.mk a b l).done i = xx at *
      generalize hw : l.getD i ET.late.dflt = w at *
      obtain ⟨s, k, t⟩ := w
      simp only at ws w1 w2 w3
      rcases ws with rfl | rfl
      all_goals
        refine goh hw ?_
        refine ⟨[some 0, some 1, some 2, some 3, some 4, some 5, some 6, some 7, some 8], by omega, ?_, trivial⟩
        rw [hd]
        simp only [go_sem, putW, List.length_set, inj_r, ↓reduceIte, reduceCtorEq, Nat.reduceAdd, Nat.reduceLT, Nat.reduceLeDiff, Nat.reduceEqDiff, Int.reduceEq]
        all_goals (repeat' refine And.intro ?_ ?_) <;> try exact shut7
    · have : i = l.length := by omega
      subst this
      have e4 : (Dk.mk a b l).flushed = ⟨((Dk.mk a b l).done l.length).1, ((Dk.mk a b l).done l.length).2, []⟩ := rfl
      refine goh trivial ?_
      exact finh [some 0, some 1, some 2, some 3, some 4, some 5, some 6, some 7, some 8] e4
  · simp [no] at hp
@[go_sem] def ctPutC : Ct := ⟨true, [], fun args os => match args, os with
  | [.one (.ptr 0 0), .one (.val (.string t))], [.cells [.osl .str 1 0 na, .osl .str 2 0 nb, .osl .late 3 0 nl, .val (.int .i64 x), .osl .cset 4 0 n1, .osl .ent 5 0 n2, .osl .ptr 6 0 n3, .val (.bool y), .osl .int 7 0 n4, .val (.int .i64 u), .osl .int 8 fo nf, .any, .any, .any, .any, .any, .any], .arr .str a, .arr .str b, .arr .late l, .arr .cset cs, .arr .ent es, .arr .ptr ps, .arr .int zs, .arr .int fr] =>
    if (Dk.mk a b l).may2 (fr.getD fo ET.int.dflt) t then ⟨((Dk.mk a b l).small ∧ na = a.length ∧ nb = b.length ∧ nl = l.length) ∧ (fo + nf ≤ fr.length ∧ 0 < nf ∧ fr.length ≤ 4000000) ∧ t.size ≤ 1000000 ∧ 0 ≤ x ∧ x ≤ 1000000, .tup [(blkTo (fr.getD fo ET.int.dflt) t (x + 1)).tv, vb true], [(0, some (.cells [.osl .str 1 0 na, .osl .str 2 0 nb, .osl .late 9 0 (nl + 2), .val (.int .i64 x), .osl .cset 4 0 n1, .osl .ent 5 0 n2, .osl .ptr 6 0 n3, .val (.bool y), .osl .int 7 0 n4, .val (.int .i64 u), .osl .int 8 (fo + 1) (nf - 1), .any, .any, .any, .any, .any, .any])), (3, none)], [.arr .late (l ++ [⟨0, (fr.getD fo ET.int.dflt), t⟩] ++ [⟨1, (fr.getD fo ET.int.dflt), t⟩])]⟩
    else ⟨((Dk.mk a b l).small ∧ na = a.length ∧ nb = b.length ∧ nl = l.length) ∧ (fo + nf ≤ fr.length ∧ 0 < nf ∧ fr.length ≤ 4000000) ∧ t.size ≤ 1000000 ∧ 0 ≤ x ∧ x ≤ 1000000, .tup [ptr0.tv, vb false], [], []⟩
  | _, _ => no⟩
theorem s_putC_e : EnterOk Tryz.prog 275 := ⟨_, Tryz.func275, rfl, by decide⟩
@[go_sem] def s_putC_lv : List (List Nat) := [[0, 1, 4], [0, 1, 4, 6], [0, 1, 4, 6, 19], [4, 5], [0, 1, 4, 6], [4, 5]]
@[go_sem] noncomputable def s_putC_K : Known := ((Known.nil).cons 182 ctWriteBothC s_writeBothC s_writeBothC_e).cons 301 ctBlkTo s_blkTo s_blkTo_e
set_option maxHeartbeats 8000000 in
theorem s_putC : Sound Tryz.prog 275 ctPutC := by
  have ke := s_putC_K.env []
  have kl : Lives s_putC_lv := trivial
  refine sound_intro (E := ⟨ti, s_putC_K.Γ, []⟩) ke Tryz.func275 Tryz.ntmps275 rfl (rs := [.cell 4 187, .tmp 5]) rfl ?_
  intro args os hp
  unfold ctPutC at hp ⊢
  dsimp only at hp ⊢
  split at hp
  · rename_i t na nb nl x n1 n2 n3 y n4 u fo nf a b l cs es ps zs fr
    refine ⟨by simp, fun φ0 w0 => ?_⟩
    obtain ⟨at_, hat⟩ : ∃ q, fr.getD fo ET.int.dflt = q := ⟨_, rfl⟩
    rw [hat] at hp
    have hp' : ((Dk.mk a b l).small ∧ na = a.length ∧ nb = b.length ∧ nl = l.length) ∧ (fo + nf ≤ fr.length ∧ 0 < nf ∧ fr.length ≤ 4000000) ∧ t.size ≤ 1000000 ∧ 0 ≤ x ∧ x ≤ 1000000 := by
      by_cases h : (Dk.mk a b l).may2 at_ t = true
      · rw [if_pos h] at hp; exact hp
      · rw [if_neg h] at hp; exact hp
    clear hp
    obtain ⟨⟨⟨h1, h2, h3⟩, rfl, rfl, rfl⟩, ⟨g1, g2, g3⟩, hts, hx0, hx1⟩ := hp'
    simp only at h1 h2 h3
    have w1 : IntKind.i64.wrap (x + 1) = x + 1 := wrap_id _ (by omega) (by omega)
    have d1 : fo + 0 = fo := rfl
    have nt : (!true) = false := rfl
    have nf' : (!false) = true := rfl
    cases hm : (Dk.mk a b l).may2 at_ t with
    | false =>
      refine goh (And.intro hat (And.intro hm (And.intro d1 nf'))) ?_
      refine W_cnd ?_ ?_ <;> intro hlit <;> try (cases hlit; done)
      refine goh trivial ?_
      refine ⟨by (simp only [go_sem, hat, hm, ptr0, ↓reduceIte, reduceCtorEq, Nat.reduceAdd, Nat.reduceLT, Nat.reduceLeDiff, Nat.reduceEqDiff]) <;> trivial, [some 0, some 1, some 2, some 3, some 4, some 5, some 6, some 7, some 8], ?_⟩
      all_goals try simp only [go_sem, hat, hm, ptr0, inj_r, ↓reduceIte, reduceCtorEq, Nat.reduceAdd, Nat.reduceLT, Nat.reduceLeDiff, Nat.reduceEqDiff, Int.reduceEq]
      all_goals (repeat' refine And.intro ?_ ?_) <;> try exact shut7
    | true =>
      refine goh (And.intro hat (And.intro hm (And.intro d1 nt))) ?_
      refine W_cnd ?_ ?_ <;> intro hlit <;> try (cases hlit; done)
      refine goh w1 ?_
      exact finh [some 0, some 1, some 2, some 3, some 4, some 5, some 6, some 7, some 8, some 10] (And.intro hat hm)
  · simp [no] at hp
end Go.Proofs.YtmnbgppmfbnamaaGreatDoor
/- Functions: the digits of bytes, sealed texts. -/
namespace Go.Proofs.YtmnbgppmfbnamaaGreatDoor
open Go.RowKit

def hexs : ByteArray := ⟨#[48, 49, 50, 51, 52, 53, 54, 55, 56, 57, 97, 98, 99, 100, 101, 102]⟩
def hexd (k : Nat) : UInt8 := hexs.data.getD k 0
def hexN (s : ByteArray) : Nat → List UInt8
  | 0 => []
  | i + 1 => hexN s i ++ [hexd ((s.data.getD i 0).toNat / 16), hexd ((s.data.getD i 0).toNat % 16)]
theorem hexN_len (s : ByteArray) : ∀ i, (hexN s i).length = 2 * i
  | 0 => rfl
  | i + 1 => by unfold hexN; rw [List.length_append, hexN_len s i]; simp only [List.length_cons, List.length_nil]; omega
def hexV (s : ByteArray) : ByteArray := ⟨(hexN s s.size).toArray⟩
theorem nib_hi (b : UInt8) : ((b.toNat : Int)).fdiv (2 ^ min 4 8) = ((b.toNat / 16 : Nat) : Int) := by
  rw [Int.fdiv_eq_ediv_of_nonneg _ (by decide)]
  show (b.toNat : Int) / 16 = _
  omega
theorem nib_lo (b : UInt8) : IntKind.u8.wrap (andZ .u8 b.toNat 15) = ((b.toNat % 16 : Nat) : Int) := by
  have h : ∀ k : Fin 256, IntKind.u8.wrap (andZ .u8 ((k.val : Nat) : Int) 15) = ((k.val % 16 : Nat) : Int) := by decide +kernel
  exact h ⟨b.toNat, b.toNat_lt⟩
theorem hexd_at (k : Nat) : (#[48, 49, 50, 51, 52, 53, 54, 55, 56, 57, 97, 98, 99, 100, 101, 102] : Array UInt8).getD k 0 = hexd k := rfl
@[go_sem] def ctHex : Ct := ⟨false, [], fun args os => match args, os with
  | [.one (.val (.string s))], [] => ifp (s.size ≤ 1000000000) (vs (hexV s))
  | _, _ => no⟩
theorem s_hex_e : EnterOk Tryz.prog 50 := ⟨_, Tryz.func50, rfl, by decide⟩
@[go_sem] def s_hex_lv : List (List Nat) := [[0], [0, 3], [0, 3, 6, 7], [0, 3, 6, 7, 8], [0, 3, 4, 6, 7], [0, 3, 6, 7], [0, 3, 6, 7], [2]]
@[go_sem] noncomputable def s_hex_K : Known := Known.nil
set_option maxHeartbeats 8000000 in
theorem s_hex : Sound Tryz.prog 50 ctHex := by
  have ke := s_hex_K.env []
  have kl : Lives s_hex_lv := trivial
  refine sound_intro (E := ⟨ti, s_hex_K.Γ, []⟩) ke Tryz.func50 Tryz.ntmps50 rfl (rs := [.tmp 2]) rfl ?_
  intro args os hp
  unfold ctHex at hp ⊢
  dsimp only at hp ⊢
  split at hp
  · rename_i s
    have hlen : s.size ≤ 1000000000 := hp
    refine ⟨by simp, fun φ0 w0 => ?_⟩
    refine goh trivial ?_
    refine W_for s.size (fun i => True) (fun i => ⟨[(0, vs s), (3, .one (.osl .byte 0 0 (hexN s i).length)), (6, vi s.size), (7, vi i)], [some (.arr .byte (hexN s i))], []⟩) [none] (leh trivial) trivial fun i hi _ => ?_
    have hl := hexN_len s i
    refine goh trivial ?_
    refine W_cnd ?_ ?_ <;> (try simp only [cnd_r]) <;> intro hlt
    · have h1 := nib_hi (s.data.getD i 0)
      have h2 := nib_lo (s.data.getD i 0)
      have hb := (s.data.getD i 0).toNat_lt
      have hs : hexN s (i + 1) = hexN s i ++ [hexd ((s.data.getD i 0).toNat / 16), hexd ((s.data.getD i 0).toNat % 16)] := rfl
      have hda : ∀ k : Nat, (#[48, 49, 50, 51, 52, 53, 54, 55, 56, 57, 97, 98, 99, 100, 101, 102] : Array UInt8).getD k 0 = hexd k := hexd_at
      have hof : ∀ x : UInt8, UInt8.ofNat x.toNat = x := fun x => UInt8.ofNat_toNat
      refine goh (And.intro h1 (And.intro h2 (And.intro hda hof))) ?_
      exact ⟨[some 2], by omega, leh hs, trivial⟩
    · obtain rfl : i = s.size := by omega
      have e : hexV s = ⟨(hexN s s.size).toArray⟩ := rfl
      refine goh trivial ?_
      exact finh [] e
  · simp [no, ifp] at hp
@[go_sem] def ctDigit : Ct := ⟨false, [], fun args os => match args, os with
  | [.one (.val (.int .i64 n))], [] => ifp (0 ≤ n ∧ n < 16) (.one (.val (.int .u8 (hexd n.toNat).toNat)))
  | _, _ => no⟩
theorem s_digit_e : EnterOk Tryz.prog 134 := ⟨_, Tryz.func134, rfl, by decide⟩
@[go_sem] def s_digit_lv : List (List Nat) := [[0], [2]]
@[go_sem] noncomputable def s_digit_K : Known := Known.nil
set_option maxHeartbeats 8000000 in
theorem s_digit : Sound Tryz.prog 134 ctDigit := by
  have ke := s_digit_K.env []
  have kl : Lives s_digit_lv := trivial
  refine sound_intro (E := ⟨ti, s_digit_K.Γ, []⟩) ke Tryz.func134 Tryz.ntmps134 rfl (rs := [.tmp 2]) rfl ?_
  intro args os hp
  unfold ctDigit at hp ⊢
  dsimp only at hp ⊢
  split at hp
  · rename_i n
    obtain ⟨h1, h2⟩ : 0 ≤ n ∧ n < 16 := hp
    refine ⟨by simp, fun φ0 w0 => ?_⟩
    have hda : ∀ k : Nat, (#[48, 49, 50, 51, 52, 53, 54, 55, 56, 57, 97, 98, 99, 100, 101, 102] : Array UInt8).getD k 0 = hexd k := hexd_at
    refine goh hda ?_
    exact finh [] trivial
  · simp [no, ifp] at hp
theorem s_specHex_e : EnterOk Tryz.prog 60 := ⟨_, Tryz.func60, rfl, by decide⟩
@[go_sem] def s_specHex_lv : List (List Nat) := [[0], [0, 3], [0, 3, 4], [0, 3, 4, 9], [0, 3, 4], [0, 3, 4], [2]]
@[go_sem] noncomputable def s_specHex_K : Known := (Known.nil).cons 134 ctDigit s_digit s_digit_e
set_option maxHeartbeats 8000000 in
theorem s_specHex : Sound Tryz.prog 60 ctHex := by
  have ke := s_specHex_K.env []
  have kl : Lives s_specHex_lv := trivial
  refine sound_intro (E := ⟨ti, s_specHex_K.Γ, []⟩) ke Tryz.func60 Tryz.ntmps60 rfl (rs := [.tmp 2]) rfl ?_
  intro args os hp
  unfold ctHex at hp ⊢
  dsimp only at hp ⊢
  split at hp
  · rename_i s
    have hlen : s.size ≤ 1000000000 := hp
    refine ⟨by simp, fun φ0 w0 => ?_⟩
    refine goh trivial ?_
    refine W_for s.size (fun i => True) (fun i => ⟨[(0, vs s), (3, .one (.osl .byte 0 0 (hexN s i).length)), (4, vi i)], [some (.arr .byte (hexN s i))], []⟩) [some 0] (leh trivial) trivial fun i hi _ => ?_
    have hl := hexN_len s i
    refine goh trivial ?_
    refine W_cnd ?_ ?_ <;> (try simp only [cnd_r]) <;> intro hlt
    · have h1 : ((s.data.getD i 0).toNat : Int).tdiv 16 = (((s.data.getD i 0).toNat / 16 : Nat) : Int) := (Int.ofNat_tdiv _ 16).symm
      have h2 : ((s.data.getD i 0).toNat : Int).tmod 16 = (((s.data.getD i 0).toNat % 16 : Nat) : Int) := (Int.ofNat_tmod _ 16).symm
      have hb := (s.data.getD i 0).toNat_lt
      have w2 : IntKind.i64.wrap ((s.data.getD i 0).toNat : Int) = ((s.data.getD i 0).toNat : Int) := wrap_id _ (by omega) (by omega)
      have w1 : IntKind.i64.wrap (((s.data.getD i 0).toNat / 16 : Nat) : Int) = (((s.data.getD i 0).toNat / 16 : Nat) : Int) := wrap_id _ (by omega) (by omega)
      have hs : hexN s (i + 1) = hexN s i ++ [hexd ((s.data.getD i 0).toNat / 16), hexd ((s.data.getD i 0).toNat % 16)] := rfl
      have hof : ∀ x : UInt8, UInt8.ofNat x.toNat = x := fun x => UInt8.ofNat_toNat
      refine goh (And.intro w2 (And.intro h1 (And.intro h2 (And.intro w1 hof)))) ?_
      exact ⟨[some 2], by omega, leh hs, trivial⟩
    · obtain rfl : i = s.size := by omega
      have e : hexV s = ⟨(hexN s s.size).toArray⟩ := rfl
      refine goh trivial ?_
      exact finh [] e
  · simp [no, ifp] at hp
theorem hexV_size (s : ByteArray) : (hexV s).size = 2 * s.size := by
  show (hexN s s.size).toArray.size = _
  rw [List.size_toArray, hexN_len]
noncomputable def sealV (s : ByteArray) : ByteArray := if 400 < s.size then ⟨#[]⟩ else decS (sumOf s) ++ ⟨#[58]⟩ ++ s
@[go_sem] noncomputable def ctSeal : Ct := ⟨false, [], fun args os => match args, os with
  | [.one (.val (.string s))], [] => is (vs (sealV s))
  | _, _ => no⟩
theorem s_seal_e : EnterOk Tryz.prog 51 := ⟨_, Tryz.func51, rfl, by decide⟩
@[go_sem] def s_seal_lv : List (List Nat) := [[0], [0, 5], [2], [2]]
@[go_sem] noncomputable def s_seal_K : Known := ((Known.nil).cons 124 ctSumOf s_sumOf s_sumOf_e).cons 53 ctItoa s_itoa s_itoa_e
set_option maxHeartbeats 8000000 in
theorem s_seal : Sound Tryz.prog 51 ctSeal := by
  have ke := s_seal_K.env []
  have kl : Lives s_seal_lv := trivial
  refine sound_intro (E := ⟨ti, s_seal_K.Γ, []⟩) ke Tryz.func51 Tryz.ntmps51 rfl (rs := [.tmp 2]) rfl ?_
  intro args os hp
  unfold ctSeal at hp ⊢
  dsimp only at hp ⊢
  split at hp
  · rename_i s
    refine ⟨by simp, fun φ0 w0 => ?_⟩
    refine goh trivial ?_
    refine W_cnd ?_ ?_ <;> (try simp only [cnd_r]) <;> intro hc
    · have e : sealV s = ⟨#[]⟩ := by unfold sealV; rw [if_pos (by omega)]
      refine goh trivial ?_
      exact finh [] e
    · have e : sealV s = decS (sumOf s) ++ ⟨#[58]⟩ ++ s := by unfold sealV; rw [if_neg (by omega)]
      have h1 := sumAt_lt s s.size
      have h2 : sumAt s s.size = sumOf s := rfl
      have h3 := decS_size (n := sumOf s) (by omega) (by omega)
      have h4 : (⟨#[58]⟩ : ByteArray).size = 1 := rfl
      refine goh trivial ?_
      exact finh [] e
  · simp [no, is, ifp] at hp
theorem s_specSeal_e : EnterOk Tryz.prog 62 := ⟨_, Tryz.func62, rfl, by decide⟩
@[go_sem] def s_specSeal_lv : List (List Nat) := [[0], [0, 5], [2], [2]]
@[go_sem] noncomputable def s_specSeal_K : Known := ((Known.nil).cons 135 ctSumOf s_specSum s_specSum_e).cons 61 ctDecV s_dec2 s_dec2_e
set_option maxHeartbeats 8000000 in
theorem s_specSeal : Sound Tryz.prog 62 ctSeal := by
  have ke := s_specSeal_K.env []
  have kl : Lives s_specSeal_lv := trivial
  refine sound_intro (E := ⟨ti, s_specSeal_K.Γ, []⟩) ke Tryz.func62 Tryz.ntmps62 rfl (rs := [.tmp 2]) rfl ?_
  intro args os hp
  unfold ctSeal at hp ⊢
  dsimp only at hp ⊢
  split at hp
  · rename_i s
    refine ⟨by simp, fun φ0 w0 => ?_⟩
    refine goh trivial ?_
    refine W_cnd ?_ ?_ <;> (try simp only [cnd_r]) <;> intro hc
    · have e : sealV s = ⟨#[]⟩ := by unfold sealV; rw [if_pos (by omega)]
      refine goh trivial ?_
      exact finh [] e
    · have e : sealV s = decS (sumOf s) ++ ⟨#[58]⟩ ++ s := by unfold sealV; rw [if_neg (by omega)]
      have h1 := sumAt_lt s s.size
      have h2 : sumAt s s.size = sumOf s := rfl
      have h3 := decS_size (n := sumOf s) (by omega) (by omega)
      have h4 : (⟨#[58]⟩ : ByteArray).size = 1 := rfl
      refine goh trivial ?_
      exact finh [] e
  · simp [no, is, ifp] at hp
end Go.Proofs.YtmnbgppmfbnamaaGreatDoor
/- Functions: pointers are read. -/
namespace Go.Proofs.YtmnbgppmfbnamaaGreatDoor
open Go.RowKit

theorem cut_size (c : UInt8) : ∀ (l : Bs), ∀ w ∈ cutL c l, w.length ≤ l.length
  | [], w, hw => by simp [cutL] at hw; subst hw; exact Nat.le_refl _
  | b :: r, w, hw => by
    have ih := cut_size c r
    unfold cutL at hw
    split at hw
    · rcases List.mem_cons.1 hw with rfl | hw
      · exact Nat.zero_le _
      · exact Nat.le_trans (ih w hw) (by simp)
    · cases hc : cutL c r with
      | nil => exact absurd hc (cutL_ne c r)
      | cons v vs =>
        rw [hc] at hw ih
        rcases List.mem_cons.1 hw with rfl | hw
        · have := ih v (by simp); simp; omega
        · exact Nat.le_trans (ih w (by simp [hw])) (by simp)
theorem splitV_size {c : UInt8} {s w : ByteArray} (h : w ∈ splitV c s) : w.size ≤ s.size := by
  unfold splitV at h
  obtain ⟨l, hl, rfl⟩ := List.mem_map.1 h
  exact cut_size c _ l hl
@[go_sem] noncomputable def ctThree : Ct := ⟨false, [], fun args os => match args, os with
  | [.one (.val (.string t))], [] => ifp (t.size ≤ 1000000) (match thr t with | some (a, b, c) => .tup [vi a, vi b, vi c, vb (same (pointsV [a, b, c]) t)] | none => .tup [vi 0, vi 0, vi 0, vb false])
  | _, _ => no⟩
@[go_sem] noncomputable def ctPtrRead : Ct := ⟨false, [], fun args os => match args, os with
  | [.one (.val (.string t))], [] => ifp (t.size ≤ 1000000) (match ptrReadV t with | some p => .tup [.agg [.val (.int .i64 p.at_), .val (.int .i64 p.sum), .val (.int .i64 p.birth)], vb true] | none => .tup [.agg [.val (.int .i64 0), .val (.int .i64 0), .val (.int .i64 0)], vb false])
  | _, _ => no⟩
/-- A sealed text, opened. -/
noncomputable def openV (s : ByteArray) : ByteArray × Bool := if (cutV 58 s).2.2 = true ∧ same (sealV (cutV 58 s).2.1) s = true then ((cutV 58 s).2.1, true) else (⟨#[]⟩, false)
@[go_sem] noncomputable def ctSumOpen : Ct := ⟨false, [], fun args os => match args, os with
  | [.one (.val (.string s))], [] => ifp (s.size ≤ 1000000) (.tup [vs (openV s).1, vb (openV s).2])
  | _, _ => no⟩
end Go.Proofs.YtmnbgppmfbnamaaGreatDoor
/- Plain facts: a block that is healed. -/
namespace Go.Proofs.YtmnbgppmfbnamaaGreatDoor
open Go.RowKit

theorem heal_stays {d : Dk} (p : Ptr) (h : d.ok = true) : blkRead (blkHeal d p).1 p = blkRead d p ∧ (blkHeal (blkHeal d p).1 p).1 = (blkHeal d p).1 ∧ (∀ s k, k ≠ p.at_ → dkRead (blkHeal d p).1 s k = dkRead d s k) ∧ (blkHeal d p).1.a.length = d.a.length := by
  have same_ : (blkHeal d p).1 = d → blkRead (blkHeal d p).1 p = blkRead d p ∧ (blkHeal (blkHeal d p).1 p).1 = (blkHeal d p).1 ∧ (∀ s k, k ≠ p.at_ → dkRead (blkHeal d p).1 s k = dkRead d s k) ∧ (blkHeal d p).1.a.length = d.a.length := fun e => by
    rw [e]; exact ⟨rfl, e, fun _ _ _ => rfl, rfl⟩
  by_cases c1 : (blkRead d p).2 ≠ 0 ∨ d.has p 0 = d.has p 1
  · exact same_ (by unfold blkHeal; rw [if_pos h, if_pos c1])
  · by_cases c2 : d.may (badSide d p) p.at_ (blkRead d p).1 = true
    · have e : (blkHeal d p).1 = d.add (badSide d p) p.at_ (blkRead d p).1 := by unfold blkHeal; rw [if_pos h, if_neg c1, if_pos c2]
      have hx := Dk.add_ok h c2
      obtain ⟨m1, m2, m3, m4, m5⟩ := (may_iff _ _ _ _).1 c2
      have z0 : (blkRead d p).2 = 0 := by
        by_cases z : (blkRead d p).2 = 0
        · exact z
        · exact absurd (.inl z) c1
      have hne : ¬ d.has p 0 = d.has p 1 := fun z => c1 (.inr z)
      have hr : realB p = true := by
        unfold blkRead at z0
        split at z0
        · simp at z0
        · split at z0
          · rename_i hh; rw [Bool.and_eq_true] at hh; exact hh.2
          · simp at z0
      have s0 : ∀ s, s = 0 ∨ s = 1 → sector d.a.length s p.at_ = true := fun s hs => (sector_iff _ _ _).2 ⟨hs, m2, m3⟩
      obtain ⟨t, b, et, eb, ex, hb1, hsum⟩ : ∃ t b, (blkRead d p).1 = t ∧ badSide d p = b ∧ blkRead d p = (t, 0) ∧ ((b = 1 ∧ d.text 0 p.at_ = t) ∨ (b = 0)) ∧ (sumOf t : Int) = p.sum := by
        cases h0 : d.has p 0 with
        | true =>
          have hf := blk_fine h hr (t := d.text 0 p.at_) (.inl ⟨h0, rfl⟩)
          exact ⟨d.text 0 p.at_, 1, by rw [hf], by unfold badSide; rw [h0]; rfl, hf, .inl ⟨rfl, rfl⟩, ((has_iff _ _ _).1 h0).2⟩
        | false =>
          have h1 : d.has p 1 = true := by
            cases h1 : d.has p 1 with
            | true => rfl
            | false => exact absurd (h0.trans h1.symm) hne
          have hf := blk_fine h hr (t := d.text 1 p.at_) (.inr ⟨h0, h1, rfl⟩)
          exact ⟨d.text 1 p.at_, 0, by rw [hf], by unfold badSide; rw [h0]; rfl, hf, .inr rfl, ((has_iff _ _ _).1 h1).2⟩
      rw [et, eb] at e hx
      have hlen : (d.add b p.at_ t).a.length = d.a.length := rfl
      have htext : ∀ s, s = 0 ∨ s = 1 → (s = 0 ∨ b = s) → (d.add b p.at_ t).text s p.at_ = t := by
        intro s hs hbs
        rw [Dk.add_text]
        rcases hb1 with ⟨rfl, h2⟩ | rfl
        · rcases hbs with rfl | rfl
          · rw [if_neg (fun h => absurd h.1 (by decide)), h2]
          · rw [if_pos ⟨rfl, rfl⟩]
        · rcases hbs with rfl | rfl <;> rw [if_pos ⟨rfl, rfl⟩]
      have t0 := htext 0 (.inl rfl) (.inl rfl)
      have x0 : (d.add b p.at_ t).has p 0 = true := (has_iff _ _ _).2 ⟨by rw [hlen]; exact s0 0 (.inl rfl), by rw [t0]; exact hsum⟩
      have x1 : (d.add b p.at_ t).has p 1 = true := by
        rcases hb1 with ⟨rfl, h2⟩ | rfl
        · have t1 := htext 1 (.inr rfl) (.inr rfl)
          exact (has_iff _ _ _).2 ⟨by rw [hlen]; exact s0 1 (.inr rfl), by rw [t1]; exact hsum⟩
        · have h0 : d.has p 0 = false := by
            unfold badSide at eb
            cases h0 : d.has p 0 with
            | false => rfl
            | true => rw [h0] at eb; simp at eb
          have h1 : d.has p 1 = true := by
            cases h1 : d.has p 1 with
            | true => rfl
            | false => exact absurd (h0.trans h1.symm) hne
          have := (has_iff _ _ _).1 h1
          refine (has_iff _ _ _).2 ⟨by rw [hlen]; exact s0 1 (.inr rfl), ?_⟩
          rw [Dk.add_text, if_neg (fun h => absurd h.1 (by decide))]
          exact this.2
      have rd : blkRead (d.add b p.at_ t) p = (t, 0) := blk_fine hx hr (.inl ⟨x0, t0⟩)
      rw [e]
      refine ⟨rd.trans ex.symm, ?_, fun s k hk => ?_, rfl⟩
      · have : blkHeal (d.add b p.at_ t) p = (d.add b p.at_ t, (blkRead (d.add b p.at_ t) p).2) := by
          conv => lhs; unfold blkHeal
          rw [if_pos hx, if_pos (.inr (x0.trans x1.symm))]
        rw [this]
      · have e1 : (d.add b p.at_ t).text s k = d.text s k := by rw [Dk.add_text, if_neg (fun hh => hk hh.2.symm)]
        unfold dkRead dkReads
        rw [hx, h, hlen, e1]
    · exact same_ (by unfold blkHeal; rw [if_pos h, if_neg c1, if_neg c2])
theorem heal_bad {d : Dk} (p : Ptr) (h : d.ok = false) : blkHeal d p = (.nil, 2) := by unfold blkHeal; rw [h]; rfl
theorem ptr_back (p : Ptr) : ptrReadV (ptrT p) = if ptrOkB p = true then some p else none := by
  by_cases h : ptrOkB p = true
  · rw [if_pos h]; exact ptrRead_some.2 ⟨h, rfl⟩
  · rw [if_neg h]
    refine ptrRead_none fun q h1 h2 => ?_
    have e : ptrT p = ⟨#[]⟩ := by unfold ptrT; rw [if_neg h]
    rw [e] at h2
    unfold ptrT at h2
    rw [if_pos h1] at h2
    split at h2
    · exact absurd h2 (by decide)
    · have h3 := pointsV_split (zs := [q.at_, q.sum, q.birth]) (by simp)
      rw [h2] at h3
      have h4 : splitV 46 ⟨#[]⟩ = [⟨#[]⟩] := by decide
      rw [h4] at h3
      simp at h3
end Go.Proofs.YtmnbgppmfbnamaaGreatDoor
/- Plain facts: texts of commits, and torn ones. -/
namespace Go.Proofs.YtmnbgppmfbnamaaGreatDoor
open Go.RowKit

theorem cut_append (c : UInt8) : ∀ (u v : Bs), ∃ us x y vs, cutL c u = us ++ [x] ∧ cutL c v = y :: vs ∧ cutL c (u ++ v) = us ++ (x ++ y) :: vs
  | [], v => by
    cases h : cutL c v with
    | nil => exact absurd h (cutL_ne c v)
    | cons y vs => exact ⟨[], [], y, vs, rfl, rfl, h⟩
  | b :: u, v => by
    obtain ⟨us, x, y, vs, h1, h2, h3⟩ := cut_append c u v
    by_cases hb : b = c
    · subst hb
      refine ⟨[] :: us, x, y, vs, ?_, h2, ?_⟩
      · rw [cut_hit, h1]; rfl
      · show cutL b (b :: (u ++ v)) = _
        rw [cut_hit, h3]; rfl
    · cases us with
      | nil => exact ⟨[], b :: x, y, vs, cut_miss hb h1, h2, cut_miss hb h3⟩
      | cons w us => exact ⟨(b :: w) :: us, x, y, vs, cut_miss hb h1, h2, cut_miss hb h3⟩
def uberOk (k : Int) (r : Ptr) : Prop := 1 ≤ k ∧ k ≤ 1000000 ∧ realB r = true
instance (k : Int) (r : Ptr) : Decidable (uberOk k r) := inferInstanceAs (Decidable (_ ∧ _ ∧ _))
def uberI (k : Int) (r : Ptr) : ByteArray := decS k ++ ⟨#[32]⟩ ++ ptrT r ++ ⟨#[32]⟩ ++ decS k
/-- A commit's text. -/
noncomputable def uberT (k : Int) (r : Ptr) : ByteArray := if uberOk k r then sealV (uberI k r) else ⟨#[]⟩
theorem ptr_plain {c : UInt8} (h0 : c ≠ 46) (h1 : c.toNat ≠ 45) (h2 : c.toNat < 48 ∨ 57 < c.toNat) (r : Ptr) : c ∉ (ptrT r).data.toList := by
  unfold ptrT
  split
  · split
    · intro h
      have : c = 45 := by simpa using h
      subst this; exact h1 rfl
    · rw [pointsV_three]
      simp only [ByteArray.data_append, Array.toList_append, List.mem_append, not_or]
      have h46 : ¬ c ∈ (⟨#[46]⟩ : ByteArray).data.toList := by simpa using h0
      exact ⟨⟨⟨⟨itoa_not h1 h2 _, h46⟩, itoa_not h1 h2 _⟩, h46⟩, itoa_not h1 h2 _⟩
  · simp
theorem uberI_size {k : Int} {r : Ptr} (h : uberOk k r) : (uberI k r).size ≤ 105 := by
  have h1 := decS_size (n := k) (by have := h.1; omega) (by have := h.2.1; omega)
  have h2 := ptrT_size r
  have h3 : (⟨#[32]⟩ : ByteArray).size = 1 := rfl
  unfold uberI
  simp only [ByteArray.size_append]
  omega
theorem uber_seal {k : Int} {r : Ptr} (h : uberOk k r) : uberT k r = decS (sumOf (uberI k r)) ++ ⟨#[58]⟩ ++ uberI k r := by
  have := uberI_size h
  unfold uberT sealV
  rw [if_pos h, if_neg (by omega)]
theorem uberT_size (k : Int) (r : Ptr) : (uberT k r).size ≤ 126 := by
  by_cases h : uberOk k r
  · rw [uber_seal h]
    have h1 := uberI_size h
    have h2 := sumAt_lt (uberI k r) (uberI k r).size
    have h4 : sumAt (uberI k r) (uberI k r).size = sumOf (uberI k r) := rfl
    have h3 := decS_size (n := sumOf (uberI k r)) (by omega) (by omega)
    have h5 : (⟨#[58]⟩ : ByteArray).size = 1 := rfl
    simp only [ByteArray.size_append]
    omega
  · unfold uberT; rw [if_neg h]; exact Nat.zero_le _
/-- The first word of a commit's text. -/
def uberF (k : Int) (r : Ptr) : Bs := (decS (sumOf (uberI k r))).data.toList ++ 58 :: (decS k).data.toList
theorem uberI_words (k : Int) (r : Ptr) : cutL 32 (uberI k r).data.toList = [(decS k).data.toList, (ptrT r).data.toList, (decS k).data.toList] := by
  have e : (uberI k r).data.toList = (decS k).data.toList ++ 32 :: ((ptrT r).data.toList ++ 32 :: (decS k).data.toList) := by
    unfold uberI
    simp [ByteArray.data_append]
  rw [e, cut_app _ _ _ (no_blank k), cut_app _ _ _ (ptr_plain (by decide) (by decide) (by decide) r), cut_none _ _ (no_blank k)]
theorem uber_words {k : Int} {r : Ptr} (h : uberOk k r) : cutL 32 (uberT k r).data.toList = [uberF k r, (ptrT r).data.toList, (decS k).data.toList] := by
  have e : (uberT k r).data.toList = uberF k r ++ 32 :: ((ptrT r).data.toList ++ 32 :: (decS k).data.toList) := by
    rw [uber_seal h]
    unfold uberF uberI
    simp [ByteArray.data_append]
  have hF : (32 : UInt8) ∉ uberF k r := by
    unfold uberF
    rw [List.mem_append, List.mem_cons]
    rintro (h | h | h)
    · exact no_blank _ h
    · exact absurd h (by decide)
    · exact no_blank _ h
  rw [e, cut_app _ _ _ hF, cut_app _ _ _ (ptr_plain (by decide) (by decide) (by decide) r), cut_none _ _ (no_blank k)]
theorem data_inj {a b : ByteArray} (h : a.data.toList = b.data.toList) : a = b := by
  rw [← bytesL_data a, h, bytesL_data]
theorem uberF_inj {k n : Int} {r p : Ptr} (h : uberF k r = uberF n p) : k = n := by
  have e : ∀ (k : Int) (r : Ptr), cutL 58 (uberF k r) = [(decS (sumOf (uberI k r))).data.toList, (decS k).data.toList] := fun k r => by
    unfold uberF
    rw [cut_app _ _ _ (no_colon _), cut_none _ _ (no_colon k)]
  have h1 := e k r
  rw [h, e n p] at h1
  simp only [List.cons.injEq, and_true] at h1
  exact (decS_inj (data_inj h1.2)).symm
/-- A torn text of a commit is never mistaken: what is read is one of the two. -/
theorem torn_uber {k n m : Int} {r p q : Ptr} (hk : uberOk k r) (hn : uberOk n p) (hm : uberOk m q ∨ uberT m q = ⟨#[]⟩) (hnm : n ≠ m) (i : Nat) {z : Bs} (hz : z = (uberT m q).data.toList.drop i ∨ z = [])
    (h : (uberT k r).data.toList = (uberT n p).data.toList.take i ++ z) : (k = n ∧ r = p) ∨ (k = m ∧ r = q) := by
  have hr : ∀ {r p : Ptr} (k n : Int), uberOk k r → uberOk n p → (ptrT r).data.toList = (ptrT p).data.toList → r = p := fun k n h1 h2 h3 =>
    ptrT_inj (ptrOk_real h1.2.2).1 (ptrOk_real h2.2.2).1 (data_inj h3)
  have w1 := uber_words hk
  have w2 := uber_words hn
  obtain ⟨us, x, y, vs, a1, a2, a3⟩ := cut_append 32 ((uberT n p).data.toList.take i) z
  obtain ⟨us', x', y', vs', b1, b2, b3⟩ := cut_append 32 ((uberT n p).data.toList.take i) ((uberT n p).data.toList.drop i)
  rw [List.take_append_drop] at b3
  rw [h, a3] at w1
  rw [b3] at w2
  obtain ⟨rfl, hxx⟩ := List.append_inj' (a1.symm.trans b1) rfl
  have hxx : x = x' := by simpa using hxx
  subst hxx
  -- what stands behind: words of the old text's end
  have hv : (vs = [] ∨ vs = [(decS m).data.toList] ∧ uberOk m q) ∨ (vs = [(ptrT q).data.toList, (decS m).data.toList] ∧ uberOk m q) := by
    rcases hz with hz | hz
    · rcases hm with hm | hm
      · have w3 := uber_words hm
        obtain ⟨us3, x3, y3, vs3, c1, c2, c3⟩ := cut_append 32 ((uberT m q).data.toList.take i) ((uberT m q).data.toList.drop i)
        rw [List.take_append_drop, w3] at c3
        rw [← hz, a2] at c2
        obtain ⟨rfl, rfl⟩ := List.cons.inj c2
        match us3, c3 with
        | [], c3 => simp at c3; exact .inr ⟨c3.2.symm, hm⟩
        | [_], c3 => simp at c3; exact .inl (.inr ⟨c3.2.2.symm, hm⟩)
        | [_, _], c3 => simp at c3; exact .inl (.inl c3.2.2.2)
        | _ :: _ :: _ :: _, c3 => simp at c3
      · rw [hm] at hz
        have : z = [] := by rw [hz]; simp
        rw [this] at a2
        simp [cutL] at a2
        exact .inl (.inl a2.2)
    · rw [hz] at a2
      simp [cutL] at a2
      exact .inl (.inl a2.2)
  match us, w1, w2 with
  | [], w1, w2 =>
    simp only [List.nil_append, List.cons.injEq] at w1
    rcases hv with (hv | ⟨hv, hq⟩) | ⟨hv, hq⟩
    · rw [hv] at w1; simp at w1
    · rw [hv] at w1; simp at w1
    · rw [hv] at w1
      simp only [List.cons.injEq, and_true] at w1
      right
      have hkm := decS_inj (data_inj w1.2.2)
      exact ⟨hkm.symm, (hr m k hq hk w1.2.1).symm⟩
  | [F], w1, w2 =>
    simp only [List.cons_append, List.nil_append, List.cons.injEq] at w1 w2
    have hkn := uberF_inj (w1.1.symm.trans w2.1)
    rcases hv with (hv | ⟨hv, hq⟩) | ⟨hv, hq⟩
    · rw [hv] at w1; simp at w1
    · rw [hv] at w1
      simp only [List.cons.injEq, and_true] at w1
      have hkm := decS_inj (data_inj w1.2.2)
      exact absurd (hkn.symm.trans hkm.symm) hnm
    · rw [hv] at w1; simp at w1
  | [F, P], w1, w2 =>
    simp only [List.cons_append, List.nil_append, List.cons.injEq] at w1 w2
    left
    exact ⟨uberF_inj (w1.1.symm.trans w2.1), hr k n hk hn (w1.2.1.symm.trans w2.2.1)⟩
  | _ :: _ :: _ :: _, w1, w2 => simp at w1
/-- A commit that is read. -/
noncomputable def uberP (t : ByteArray) : Option (Int × Ptr) := match splitV 32 (openV t).1 with
  | [x, y, z] => (match atoiV x, ptrReadV y with
    | some k, some r => if uberT k r = t then some (k, r) else none
    | _, _ => none)
  | _ => none
theorem open_uber {k : Int} {r : Ptr} (h : uberOk k r) : openV (uberT k r) = (uberI k r, true) := by
  have e : (uberT k r).data.toList = (decS (sumOf (uberI k r))).data.toList ++ 58 :: (uberI k r).data.toList := by
    rw [uber_seal h]; simp [ByteArray.data_append]
  have hc := cutV_at e (no_colon _)
  have hs : sealV (uberI k r) = uberT k r := by unfold uberT; rw [if_pos h]
  unfold openV
  rw [hc]
  simp only [bytesL_data]
  rw [hs, if_pos ⟨trivial, same_true.2 rfl⟩]
theorem splitV_nil (c : UInt8) : splitV c ⟨#[]⟩ = [⟨#[]⟩] := rfl
theorem open_nil : openV ⟨#[]⟩ = (⟨#[]⟩, false) := by
  unfold openV
  rw [cutV_not (by simp), if_neg (by rintro ⟨h, -⟩; cases h)]
theorem uberP_iff {t : ByteArray} {k : Int} {r : Ptr} : uberP t = some (k, r) ↔ uberOk k r ∧ uberT k r = t := by
  constructor
  · intro h
    unfold uberP at h
    split at h
    · rename_i x y z hw
      split at h
      · rename_i k' r' hk hr
        split at h
        · rename_i ht
          cases h
          refine ⟨?_, ht⟩
          by_cases hok : uberOk k r
          · exact hok
          · exfalso
            have : t = ⟨#[]⟩ := by rw [← ht]; unfold uberT; rw [if_neg hok]
            rw [this, open_nil, splitV_nil] at hw
            simp at hw
        · cases h
      · cases h
    · cases h
  · rintro ⟨h, rfl⟩
    unfold uberP
    rw [open_uber h]
    have hw : splitV 32 (uberI k r) = [decS k, ptrT r, decS k] := by
      unfold splitV
      rw [uberI_words]
      simp only [List.map_cons, List.map_nil, bytesL_data]
    rw [hw]
    simp only
    rw [(atoi_dec (n := k) (by have := h.1; omega) (by have := h.2.1; omega)).1, ptr_back, if_pos (ptrOk_real h.2.2).1]
    simp only
    rw [if_pos trivial]
end Go.Proofs.YtmnbgppmfbnamaaGreatDoor
/- Plain facts: the first commit of a new disk. -/
namespace Go.Proofs.YtmnbgppmfbnamaaGreatDoor
open Go.RowKit

theorem core0_ok {u : Int} (h0 : 0 ≤ u) (h1 : u ≤ 8) : (Co.mk 0 [] [] [] false [] u).ok = true :=
  Co.ok_true.2 ⟨⟨by simp, by simp⟩, ⟨by simp, fun i hi => by simp at hi⟩, ⟨by simp, rfl⟩, ⟨h0, h1⟩, fun i hi => by simp at hi, rfl,
    bookB_true.2 ⟨by simp [frameOf], fun i hi => by simp [frameOf] at hi, rfl⟩, ⟨⟨fun p hp => by cases hp⟩, fun k hk => by cases hk⟩⟩
theorem core_fit0 (x u : Int) : (Co.mk x [] [] [] false [] u).fit := ⟨⟨by simp, by simp, by simp, by simp⟩, fun i => by simp [ET.dflt]; exact ⟨Nat.zero_le _, Nat.zero_le _⟩⟩
theorem root_none : rootT [] [] = root0 := rfl
theorem room_none {u : Int} (h0 : 0 ≤ u) (h1 : u ≤ 8) : roomR ⟨0, [], [], [], false, [], u⟩ 13 = [13] := by
  unfold roomR
  rw [if_pos (core0_ok h0 h1)]
  simp [reachV, reachL, addP, insP]
theorem reach_none (u : Int) : reachV ⟨1, [], [], [], false, [], u⟩ 13 = [13] := by simp [reachV, reachL, addP, insP]
theorem roomZ_none {u : Int} (h0 : 0 ≤ u) (h1 : u ≤ 8) : roomZ ⟨0, [], [], [], false, [], u⟩ 13 = 0 := by
  unfold roomZ
  rw [if_pos (core0_ok h0 h1)]
  simp [reachV, reachL, addP, insP]
def root1 : Ptr := blkTo 13 root0 1
theorem root1_eq : root1 = ⟨13, (sumOf root0 : Nat), 1⟩ := by
  have := sumOf_lt root0
  unfold root1 blkTo
  rw [if_pos]
  simp [realB, ptrOkB]
  omega
def com1 (a b : List ByteArray) : Dk := ⟨a, b, [⟨0, 13, root0⟩, ⟨1, 13, root0⟩]⟩
noncomputable def com2 (a b : List ByteArray) : Dk := ⟨(com1 a b).flushed.a, (com1 a b).flushed.b, [⟨0, 2, uberT 1 root1⟩, ⟨1, 2, uberT 1 root1⟩]⟩
noncomputable def comD (a b : List ByteArray) : Dk := (com2 a b).flushed
theorem root0_size : root0.size = 4 := rfl
theorem Dk.flushed_ok {d : Dk} (h : d.ok = true) : d.flushed.ok = true := by
  have := dkFlush_ok h
  unfold dkFlush at this
  rwa [if_pos h] at this
theorem add2_ok {a b : List ByteArray} (h : (Dk.mk a b []).ok = true) {k : Int} {t : ByteArray} (h0 : 0 ≤ k) (h1 : k < a.length) (ht : t.size ≤ 420) :
    (Dk.mk a b []).may2 k t = true ∧ (Dk.mk a b [⟨0, k, t⟩, ⟨1, k, t⟩]).ok = true := by
  have m0 : (Dk.mk a b []).may 0 k t = true := (may_iff _ _ _ _).2 ⟨.inl rfl, h0, h1, ht, by simp⟩
  have o1 := Dk.add_ok h m0
  have m1 : ((Dk.mk a b []).add 0 k t).may 1 k t = true := (may_iff _ _ _ _).2 ⟨.inr rfl, h0, h1, ht, by show 0 + 1 < 600; omega⟩
  refine ⟨?_, Dk.add_ok o1 m1⟩
  unfold Dk.may2
  rw [m0]; rfl
theorem com_facts {a b : List ByteArray} (h : (Dk.mk a b []).ok = true) (hn : 13 < a.length) :
    (Dk.mk a b []).may2 13 root0 = true ∧ (com1 a b).ok = true ∧ (Dk.mk (com1 a b).flushed.a (com1 a b).flushed.b []).ok = true ∧ ((com1 a b).flushed.a.length = a.length ∧ (com1 a b).flushed.b.length = b.length) ∧
      (Dk.mk (com1 a b).flushed.a (com1 a b).flushed.b []).may2 2 (uberT 1 root1) = true ∧ (com2 a b).ok = true ∧ ((comD a b).a.length = a.length ∧ (comD a b).b.length = b.length) ∧ (comD a b).l = [] := by
  obtain ⟨m1, o1⟩ := add2_ok h (k := 13) (t := root0) (by decide) (by omega) (by rw [root0_size]; decide)
  have o2 : (Dk.mk (com1 a b).flushed.a (com1 a b).flushed.b []).ok = true := Dk.flushed_ok o1
  have l2 := (com1 a b).done_len (com1 a b).l.length
  have hz := uberT_size 1 root1
  obtain ⟨m3, o3⟩ := add2_ok o2 (k := 2) (t := uberT 1 root1) (by decide) (by
    have : (com1 a b).flushed.a.length = a.length := l2.1
    omega) (by omega)
  have l4 := (com2 a b).done_len (com2 a b).l.length
  exact ⟨m1, o1, o2, l2, m3, o3, ⟨l4.1.trans l2.1, l4.2.trans l2.2⟩, rfl⟩
end Go.Proofs.YtmnbgppmfbnamaaGreatDoor
