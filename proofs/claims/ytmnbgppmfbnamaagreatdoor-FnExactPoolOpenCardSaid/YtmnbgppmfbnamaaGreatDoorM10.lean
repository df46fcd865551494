import Derived.Test.YtmnbgppmfbnamaaGreatDoorM8
import Derived.Test.YtmnbgppmfbnamaaGreatDoorM9
set_option linter.unusedSimpArgs false
set_option linter.unusedVariables false
set_option linter.unusedSectionVars false
/- Functions: valid books, the reference's. -/
namespace Go.Proofs.YtmnbgppmfbnamaaGreatDoor
open Go.RowKit

@[go_sem] noncomputable def ctAt : Ct := ⟨false, [[some .bset]], fun args os => match args, os with
  | [.agg [.isl .bset xs], .one (.val (.string name))], [] => ifp (xs.length ≤ 4000000) (.tup [vi (lowN xs name), vb (thereB xs name)])
  | _, _ => no⟩
@[go_sem] def sgAt (xs : List BSet) (name : ByteArray) (k : Nat) : Sg := ⟨[(1, vs name), (2, .one (.ptr 0 0)), (6, vi k)], [some (.cells [.isl .bset xs])], []⟩
theorem s_l4At_e : EnterOk Tryz.prog 262 := ⟨_, Tryz.func262, rfl, by decide⟩
@[go_sem] def s_l4At_lv : List (List Nat) := [[1, 2], [1, 2, 6], [1, 2, 6, 21], [1, 2, 6], [4, 5]]
@[go_sem] noncomputable def s_l4At_K : Known := Known.nil
set_option maxHeartbeats 8000000 in
theorem s_l4At : Sound Tryz.prog 262 ctAt := by
  have ke := s_l4At_K.env []
  have kl : Lives s_l4At_lv := trivial
  refine sound_intro (E := ⟨ti, s_l4At_K.Γ, []⟩) ke Tryz.func262 Tryz.ntmps262 rfl (rs := [.tmp 4, .tmp 5]) rfl ?_
  intro args os hp
  unfold ctAt at hp ⊢
  dsimp only at hp ⊢
  split at hp
  · rename_i xs name
    refine ⟨by simp, fun φ0 w0 => ?_⟩
    have hlen : xs.length ≤ 4000000 := hp
    refine goh trivial ?_
    refine W_le (σ' := sgAt xs name 0) [some 0] (by
      simp only [go_sem, inj_r, ↓reduceIte, reduceCtorEq, Nat.reduceAdd, Nat.reduceLT, Nat.reduceLeDiff, Nat.reduceEqDiff, Int.reduceEq]
      all_goals (repeat' refine And.intro ?_ ?_) <;> try exact shut7
      ) ?_
    refine W_loop (fun q σ => ∃ k : Nat, k ≤ xs.length ∧ q = xs.length - k ∧ (∀ j, j < k → lessB (xs.getD j ET.bset.dflt).name name = true) ∧ σ = sgAt xs name k) xs.length ⟨0, by omega, by omega, by omega, rfl⟩ ?_
    rintro q σ ⟨k, hk, rfl, hbef, rfl⟩
    unfold sgAt
    refine goh trivial ?_
    refine W_cond _ (by exact rfl) (by exact trivial) ?_ ?_ <;> intro hc
    · have hc2 : k < xs.length ∧ lessB (xs.getD k ET.bset.dflt).name name = true := by
        unfold lessB
        simpa using hc
      refine goh trivial ?_
      refine ⟨xs.length - (k + 1), [some 0], sgAt xs name (k + 1), by omega, ?_, k + 1, by omega, rfl, fun j hj => ?_, rfl⟩
      · exact leh trivial
      · rcases Nat.lt_succ_iff_lt_or_eq.1 hj with h | rfl
        · exact hbef j h
        · exact hc2.2
    · have hs : k = xs.length ∨ lessB (xs.getD k ET.bset.dflt).name name = false := by
        by_cases h : k < xs.length
        · right
          unfold lessB
          have h2 : (k : Int) < xs.length := by omega
          simpa [h2] using hc
        · left; omega
      have e := lowN_eq hk hbef hs
      refine goh trivial ?_
      refine ⟨by (simp only [go_sem, e, ↓reduceIte, reduceCtorEq, Nat.reduceAdd, Nat.reduceLT, Nat.reduceLeDiff, Nat.reduceEqDiff]) <;> trivial, [], ?_⟩
      all_goals try simp only [go_sem, e, inj_r, ↓reduceIte, reduceCtorEq, Nat.reduceAdd, Nat.reduceLT, Nat.reduceLeDiff, Nat.reduceEqDiff, Int.reduceEq]
      all_goals (repeat' refine And.intro ?_ ?_) <;> try exact shut7
      unfold thereB
      rw [e]
      by_cases h : (k : Int) < xs.length
      · rw [if_pos h, decide_eq_true (show k < xs.length by omega), Bool.true_and]
      · rw [if_neg h, decide_eq_false (show ¬ k < xs.length by omega), Bool.false_and]
  · simp [no, ifp] at hp
@[go_sem] noncomputable def ctRoots : Ct := ⟨false, [[some .bset], []], fun args os => match args, os with
  | [.agg [.isl .bset xs], .agg cs], [] => (match bsetOf cs with | some s => ifp (xs.length ≤ 4000000 ∧ Sorted xs) (vb (leadsN xs (xs.length + 1) s)) | none => no)
  | _, _ => no⟩
@[go_sem] def sgRoots (xs : List BSet) (s : BSet) (i : Nat) : Sg := ⟨[(2, .one (.ptr 0 0)), (3, .one (.ptr 1 0)), (5, vi i)], [some (.cells [.isl .bset xs]), some (.cells ((ET.bset.cells s).map .val))], []⟩
theorem s_roots_e : EnterOk Tryz.prog 216 := ⟨_, Tryz.func216, rfl, by decide⟩
@[go_sem] def s_roots_lv : List (List Nat) := [[2, 3], [2, 3, 5], [2, 3, 5, 12], [2, 3, 5], [2, 3, 5, 17], [4], [2, 3, 5, 6, 7], [2, 3, 5, 6, 40], [4], [2, 3, 5], [4]]
@[go_sem] noncomputable def s_roots_K : Known := (Known.nil).cons 262 ctAt s_l4At s_l4At_e
set_option maxHeartbeats 8000000 in
theorem s_roots : Sound Tryz.prog 216 ctRoots := by
  have ke := s_roots_K.env []
  have kl : Lives s_roots_lv := trivial
  refine sound_intro (E := ⟨ti, s_roots_K.Γ, []⟩) ke Tryz.func216 Tryz.ntmps216 rfl (rs := [.tmp 4]) rfl ?_
  intro args os hp
  unfold ctRoots at hp ⊢
  dsimp only at hp ⊢
  split at hp
  · rename_i xs cs
    split at hp
    · rename_i s0 hs0
      obtain rfl := bsetOf_some hs0
      obtain ⟨hlen, hso⟩ : xs.length ≤ 4000000 ∧ Sorted xs := hp
      clear hs0
      refine ⟨by simp, fun φ0 w0 => ?_⟩
      obtain ⟨R, hR⟩ : ∃ R, leadsN xs (xs.length + 1) s0 = R := ⟨_, rfl⟩
      refine goh trivial ?_
      refine W_le (σ' := sgRoots xs s0 0) [some 0, some 1] (by
        simp only [go_sem, inj_r, ↓reduceIte, reduceCtorEq, Nat.reduceAdd, Nat.reduceLT, Nat.reduceLeDiff, Nat.reduceEqDiff, Int.reduceEq]
        all_goals (repeat' refine And.intro ?_ ?_) <;> try exact shut7
        ) ?_
      refine W_loop (fun q σ => ∃ (i : Nat) (s : BSet), i ≤ xs.length + 1 ∧ q = xs.length + 1 - i ∧ leadsN xs (xs.length + 1 - i) s = R ∧ σ = sgRoots xs s i) (xs.length + 1) ⟨0, s0, by omega, by omega, hR, rfl⟩ ?_
      rintro q σ ⟨i, s, hi, rfl, hs, rfl⟩
      unfold sgRoots
      refine goh trivial ?_
      refine W_cnd ?_ ?_ <;> (try simp only [cnd_r]) <;> intro hlt
      · obtain ⟨m, hm⟩ : ∃ m, xs.length + 1 - i = m + 1 := ⟨xs.length - i, by omega⟩
        rw [hm] at hs
        unfold leadsN at hs
        refine goh trivial ?_
        refine W_cond _ (by exact rfl) (by exact trivial) ?_ ?_ <;> intro hf
        · rw [if_pos hf] at hs
          have e : leadsN xs (xs.length + 1) s0 = (s.kind == 1) := by rw [hR, ← hs]
          refine goh trivial ?_
          exact finh [] e
        · rw [if_neg (by rw [hf]; decide)] at hs
          obtain ⟨a1, a2⟩ := at_low hso s.from_
          cases ht : thereB xs s.from_ with
          | false =>
            have e : leadsN xs (xs.length + 1) s0 = false := by rw [hR, ← hs, if_pos (.inl (a2 ht))]
            repeat' first
              | with_reducible refine red ?_
              | refine W_seq ?_
              | (refine W_reg (s_roots_K.env []) s_roots_lv fun K' hK' => ?_
                 simp only [go_sem, ht, Bool.not_false, Bool.not_true, Bool.false_eq_true, ↓reduceIte, ↓reduceDIte, reduceCtorEq, Nat.reduceAdd, Nat.reduceMul, Nat.reduceSub, Nat.reduceDiv, Nat.reduceMod, Nat.reduceLT, Nat.reduceLeDiff, Nat.reduceEqDiff, Nat.reduceBEq, Int.reduceToNat, Int.reduceLE, Int.reduceLT, Int.reduceEq, Int.reduceNe, Int.reduceNeg]
                 (repeat' refine And.intro ?_ ?_) <;> try first | with_reducible refine hK' ?_ | exact shut6)
              | with_reducible refine blockG_o (by decide) ?_
            all_goals try (intro hgd; cases hgd; done)
            refine W_cnd ?_ ?_ <;> intro hlit <;> try (cases hlit; done)
            refine goh trivial ?_
            exact finh [] e
          | true =>
            have hat := a1 ht
            have hlow : lowN xs s.from_ < xs.length := by
              unfold thereB at ht
              rw [Bool.and_eq_true, decide_eq_true_eq] at ht
              exact ht.1
            have hset : setOf xs s.from_ = xs.getD (lowN xs s.from_) ET.bset.dflt := by unfold setOf; rw [hat]; rfl
            rw [hat, hset] at hs
            refine goh ht ?_
            refine W_cnd ?_ ?_ <;> (try simp only [cnd_r]) <;> intro hc
            · have e : leadsN xs (xs.length + 1) s0 = false := by rw [hR, ← hs, if_pos (.inr hc)]
              refine goh trivial ?_
              exact finh [] e
            · have hc2 : ¬ (xs.getD (lowN xs s.from_) ET.bset.dflt).kind = s.kind := by
                first | exact hc | (rw [beq_eq_false_iff_ne] at hc; exact hc)
              rw [if_neg (fun h => h.elim (by omega) hc2)] at hs
              refine goh trivial ?_
              refine ⟨xs.length + 1 - (i + 1), [some 0, some 1], sgRoots xs (xs.getD (lowN xs s.from_) ET.bset.dflt) (i + 1), by omega, ?_, i + 1, _, by omega, rfl, ?_, rfl⟩
              · exact leh trivial
              · rw [show xs.length + 1 - (i + 1) = m by omega]; exact hs
      · have h0 : xs.length + 1 - i = 0 := by omega
        rw [h0] at hs
        have e : leadsN xs (xs.length + 1) s0 = false := by rw [hR, ← hs]; rfl
        refine goh trivial ?_
        exact finh [] e
    · simp [no] at hp
  · simp [no] at hp
end Go.Proofs.YtmnbgppmfbnamaaGreatDoor
/- Functions: valid books, the reference's, on. -/
namespace Go.Proofs.YtmnbgppmfbnamaaGreatDoor
open Go.RowKit

def blk8 (x : BSet) : List ByteArray := [x.blocks.x0, x.blocks.x1, x.blocks.x2, x.blocks.x3, x.blocks.x4, x.blocks.x5, x.blocks.x6, x.blocks.x7]
@[go_sem] def sgSb (xs : List BSet) (i : Nat) : Sg := ⟨[(1, .one (.ptr 0 0)), (3, vi i)], [some (.cells [.isl .bset xs])], []⟩
@[go_sem] def sgSj (xs : List BSet) (s : BSet) (i j : Nat) : Sg := ⟨[(1, .one (.ptr 0 0)), (3, vi i), (4, .one (.ptr 1 0)), (5, vi j)], [some (.cells [.isl .bset xs]), some (.cells ((ET.bset.cells s).map .val))], []⟩
@[go_sem] def sgSr2 (xs : List BSet) (i : Nat) : Sg := ⟨[(1, .one (.ptr 0 0)), (6, vi i)], [some (.cells [.isl .bset xs])], []⟩
theorem bad2 (A B G1 G2 : Bool) (P : Prop) [Decidable P] : (if (if (if (!A) = true then true else if P then B else false) = true then true else G1) = true then true else G2) = false ↔ A = true ∧ (P → B = false) ∧ G1 = false ∧ G2 = false := by
  by_cases h : P <;> cases A <;> cases B <;> cases G1 <;> cases G2 <;> simp [h]
theorem less_or (s p : ByteArray) : (Op.bytesLess s.toList p.toList || same s p) = false ↔ lessB p s = true := by
  rw [Bool.or_eq_false_iff, same_false]
  constructor
  · rintro ⟨h1, h2⟩
    rcases less_total s p with h | h | h
    · unfold lessB at h; rw [h] at h1; cases h1
    · exact absurd h h2
    · exact h
  · intro h
    refine ⟨?_, fun he => ?_⟩
    · rw [← Bool.not_eq_true]
      intro h2
      have := less_trans h h2
      rw [less_irrefl] at this; cases this
    · rw [he, less_irrefl] at h; cases h
theorem sorted_of {xs : List BSet} (h : ∀ j, j < xs.length → SetOk xs j) : Sorted xs := ⟨fun i h0 hi => (h i hi).less h0⟩
theorem s_specBookOk_e : EnterOk Tryz.prog 159 := ⟨_, Tryz.func159, rfl, by decide⟩
@[go_sem] def s_specBookOk_lv : List (List Nat) := [[1], [1, 10], [2], [1, 3], [1, 3, 15], [1, 3], [1, 3, 4], [1, 3, 4, 52], [2], [1, 3, 4, 5], [1, 3, 4, 5, 54], [1, 3, 4, 5], [1, 3, 4, 5, 62], [2], [1, 6], [1, 6, 67], [1, 6], [1, 6, 77], [2], [2]]
@[go_sem] noncomputable def s_specBookOk_K : Known := ((Known.nil).cons 59 ctName s_specName s_specName_e).cons 216 ctRoots s_roots s_roots_e
set_option maxHeartbeats 8000000 in
theorem s_specBookOk : Sound Tryz.prog 159 ctBookOk := by
  have ke := s_specBookOk_K.env []
  have kl : Lives s_specBookOk_lv := trivial
  refine sound_intro (E := ⟨ti, s_specBookOk_K.Γ, []⟩) ke Tryz.func159 Tryz.ntmps159 rfl (rs := [.tmp 2]) rfl ?_
  intro args os hp
  unfold ctBookOk at hp ⊢
  dsimp only at hp ⊢
  split at hp
  · rename_i xs
    refine ⟨by simp, fun φ0 w0 => ?_⟩
    obtain ⟨hlen, hsz⟩ : xs.length ≤ 4000000 ∧ ∀ i : Nat, (xs.getD i ET.bset.dflt).name.size ≤ 9223372036854775807 := hp
    refine goh trivial ?_
    refine W_cnd ?_ ?_ <;> (try simp only [cnd_r]) <;> intro hc
    · have e : bookB xs = false := bookB_false.2 fun h => by have := h.few; omega
      refine goh trivial ?_
      exact finh [] e
    · refine goh trivial ?_
      refine W_le (σ' := sgSb xs 0) [some 0] (by
        simp only [go_sem, inj_r, ↓reduceIte, reduceCtorEq, Nat.reduceAdd, Nat.reduceLT, Nat.reduceLeDiff, Nat.reduceEqDiff, Int.reduceEq]
        all_goals (repeat' refine And.intro ?_ ?_) <;> try exact shut7
        ) ?_
      refine W_loop (fun q σ => ∃ i : Nat, i ≤ xs.length ∧ q = xs.length - i ∧ (∀ j, j < i → SetOk xs j) ∧ σ = sgSb xs i) xs.length ⟨0, by omega, by omega, by omega, rfl⟩ ?_
      rintro q σ ⟨i, hi, rfl, hbef, rfl⟩
      unfold sgSb
      refine goh trivial ?_
      refine W_cnd ?_ ?_ <;> (try simp only [cnd_r]) <;> intro hlt
      · have hsz1 := hsz i
        have w1 : IntKind.i64.wrap ((i : Int) - 1) = (i : Int) - 1 := wrap_id _ (by omega) (by omega)
        have ht : ((i : Int) - 1).toNat = i - 1 := by omega
        refine goh (And.intro w1 ht) ?_
        refine W_cond _ (by exact rfl) (by exact trivial) ?_ ?_ <;> intro hb
        · have e : bookB xs = false := bookB_false.2 fun h => by
            obtain ⟨h1, h2, h3, -⟩ := h.each i (by omega)
            have hx := (bad2 _ _ _ _ _).2 ⟨h1, fun hp : (i : Int) > 0 => (less_or _ _).2 (h2 (by omega)), (show decide ((xs.getD i ET.bset.dflt).kind < 1) = false by rw [decide_eq_false_iff_not]; omega), (show decide ((xs.getD i ET.bset.dflt).kind > 2) = false by rw [decide_eq_false_iff_not]; omega)⟩
            rw [hx] at hb
            cases hb
          refine goh trivial ?_
          exact finh [] e
        · obtain ⟨h1, h2, h3, h4⟩ := (bad2 _ _ _ _ _).1 hb
          rw [decide_eq_false_iff_not] at h3 h4
          obtain ⟨s, hs⟩ : ∃ s, xs.getD i ET.bset.dflt = s := ⟨_, rfl⟩
          refine goh trivial ?_
          refine W_le (σ' := sgSj xs (xs.getD i ET.bset.dflt) i 0) [some 0, some 1] (by
            simp only [go_sem, inj_r, ↓reduceIte, reduceCtorEq, Nat.reduceAdd, Nat.reduceLT, Nat.reduceLeDiff, Nat.reduceEqDiff, Int.reduceEq]
            all_goals (repeat' refine And.intro ?_ ?_) <;> try exact shut7
            ) ?_
          rw [hs] at h1 h2 h3 h4 ⊢
          refine W_loop (fun q σ => ∃ j : Nat, j ≤ 8 ∧ q = 8 - j ∧ ((blk8 s).take j).any long24 = false ∧ σ = sgSj xs s i j) 8 ⟨0, by omega, by omega, rfl, rfl⟩ ?_
          rintro q σ ⟨j, hj, rfl, hbl, rfl⟩
          unfold sgSj
          rcases (show j < 8 ∨ j = 8 by omega) with hj8 | hc8
          · rcases (show j = 0 ∨ j = 1 ∨ j = 2 ∨ j = 3 ∨ j = 4 ∨ j = 5 ∨ j = 6 ∨ j = 7 by omega) with hc8 | hc8 | hc8 | hc8 | hc8 | hc8 | hc8 | hc8
            all_goals
              refine goh hc8 ?_
              refine W_cnd ?_ ?_ <;> intro hlit <;> try (cases hlit; done)
              refine goh hc8 ?_
              refine W_cnd ?_ ?_ <;> (try simp only [cnd_r]) <;> intro hl
              · have hbig : big8 s = true := by
                  unfold big8
                  simp only [List.any_cons, List.any_nil, Bool.or_false, Bool.or_eq_true, long24, decide_eq_true_eq]
                  omega
                have e : bookB xs = false := bookB_false.2 fun h => by
                  have h5 := (h.each i (by omega)).small
                  rw [hs, hbig] at h5; cases h5
                refine goh trivial ?_
                exact finh [] e
              · refine goh hc8 ?_
                refine ⟨8 - (j + 1), [some 0, some 1], sgSj xs s i (j + 1), by omega, ?_, j + 1, by omega, rfl, ?_, rfl⟩
                · exact leh hc8
                · rw [hc8] at hbl ⊢
                  simp only [blk8, List.take_succ_cons, List.take_zero, List.any_cons, List.any_nil, Bool.or_false, Bool.or_eq_false_iff, long24, decide_eq_false_iff_not] at hbl ⊢
                  omega
          · rw [hc8] at hbl
            have hsm : big8 s = false := hbl
            have hset : SetOk xs i := ⟨by rw [hs]; exact h1, fun hp => by rw [hs]; exact (less_or _ _).1 (h2 (by omega)), by rw [hs]; omega, by rw [hs]; exact hsm⟩
            refine goh hc8 ?_
            refine W_cnd ?_ ?_ <;> intro hlit <;> try (cases hlit; done)
            refine goh trivial ?_
            refine ⟨xs.length - (i + 1), [some 0], sgSb xs (i + 1), by omega, ?_, i + 1, by omega, rfl, fun j hj => ?_, rfl⟩
            · exact leh trivial
            · rcases Nat.lt_succ_iff_lt_or_eq.1 hj with h | rfl
              · exact hbef j h
              · exact hset
      · refine goh trivial ?_
        refine W_le (σ' := sgSr2 xs 0) [some 0] (by
          simp only [go_sem, inj_r, ↓reduceIte, reduceCtorEq, Nat.reduceAdd, Nat.reduceLT, Nat.reduceLeDiff, Nat.reduceEqDiff, Int.reduceEq]
          all_goals (repeat' refine And.intro ?_ ?_) <;> try exact shut7
          ) ?_
        have hall : ∀ j, j < xs.length → SetOk xs j := fun j hj => hbef j (by omega)
        have hso := sorted_of hall
        refine W_loop (fun q σ => ∃ i : Nat, i ≤ xs.length ∧ q = xs.length - i ∧ (∀ j, j < i → leadsN xs xs.length (xs.getD j ET.bset.dflt) = true) ∧ σ = sgSr2 xs i) xs.length ⟨0, by omega, by omega, by omega, rfl⟩ ?_
        clear hbef hlt hi
        clear i
        rintro q σ ⟨i, hi, rfl, hbef, rfl⟩
        unfold sgSr2
        refine goh trivial ?_
        refine W_cnd ?_ ?_ <;> (try simp only [cnd_r]) <;> intro hlt
        · have hm := leads_more xs i (by omega)
          refine goh hm ?_
          refine W_cond _ (by exact rfl) (by exact trivial) ?_ ?_ <;> intro hl
          · have e : bookB xs = false := bookB_false.2 fun h => by
              have h1 := h.leads
              rw [List.any_eq_false] at h1
              have h2 := h1 (xs.getD i ET.bset.dflt) (by simp [show i < xs.length by omega])
              simp only [Bool.not_eq_true', Bool.not_eq_false] at h2 hl
              rw [hl] at h2
              simp at h2
            refine goh trivial ?_
            exact finh [] e
          · have hl2 : leadsN xs xs.length (xs.getD i ET.bset.dflt) = true := by simpa only [Bool.not_eq_false'] using hl
            refine goh trivial ?_
            refine ⟨xs.length - (i + 1), [some 0], sgSr2 xs (i + 1), by omega, ?_, i + 1, by omega, rfl, fun j hj => ?_, rfl⟩
            · exact leh trivial
            · rcases Nat.lt_succ_iff_lt_or_eq.1 hj with h | rfl
              · exact hbef j h
              · exact hl2
        · have e : bookB xs = true := bookB_true.2 ⟨by omega, hall, by
            rw [List.any_eq_false]
            intro s hs
            obtain ⟨j, hj, rfl⟩ := List.getElem_of_mem hs
            have h1 := hbef j (by omega)
            rw [show xs.getD j ET.bset.dflt = xs[j] by simp [hj]] at h1
            rw [h1]; decide⟩
          refine goh trivial ?_
          exact finh [] e
  · simp [no, ifp] at hp
end Go.Proofs.YtmnbgppmfbnamaaGreatDoor
/- Plain facts: what a fall leaves. -/
namespace Go.Proofs.YtmnbgppmfbnamaaGreatDoor
open Go.RowKit

/-- Is one of the first n late writes one of this sector? -/
def lateB (l : List Late) (s a : Int) : Nat → Bool
  | 0 => false
  | n + 1 => lateB l s a n || (((ET.late.at l n).side == s) && ((ET.late.at l n).at_ == a))
theorem putW_at (x : Two) (w : Late) (hs : w.side = 0 ∨ w.side = 1) (ha : 0 ≤ w.at_) (a : Nat) :
    (¬ (w.side = 0 ∧ w.at_ = a) → (putW x w).1.getD a ET.str.dflt = x.1.getD a ET.str.dflt) ∧ (¬ (w.side = 1 ∧ w.at_ = a) → (putW x w).2.getD a ET.str.dflt = x.2.getD a ET.str.dflt) := by
  unfold putW
  constructor
  · intro h
    split
    · rename_i h0
      simp only [at_set]
      rw [if_neg]
      rintro ⟨h1, -⟩
      exact h ⟨h0, by omega⟩
    · rfl
  · intro h
    split
    · rfl
    · rename_i h0
      simp only [at_set]
      rw [if_neg]
      rintro ⟨h1, -⟩
      exact h ⟨by omega, by omega⟩
theorem fell_at (f : Int) (x : Two) (w : Late) (hs : w.side = 0 ∨ w.side = 1) (ha : 0 ≤ w.at_) (a : Nat) :
    (¬ (w.side = 0 ∧ w.at_ = a) → (fell f x w).1.getD a ET.str.dflt = x.1.getD a ET.str.dflt) ∧ (¬ (w.side = 1 ∧ w.at_ = a) → (fell f x w).2.getD a ET.str.dflt = x.2.getD a ET.str.dflt) := by
  unfold fell
  split
  · exact putW_at x w hs ha a
  · split
    · exact putW_at x ⟨w.side, w.at_, torn (sec x w.side w.at_) w.text⟩ hs ha a
    · exact ⟨fun _ => rfl, fun _ => rfl⟩
theorem fallN_keep {d : Dk} (h : d.ok = true) (fate : List Int) (a : Nat) : ∀ n, n ≤ d.l.length →
    (lateB d.l 0 a n = false → (d.fallN fate n).1.getD a ET.str.dflt = d.a.getD a ET.str.dflt) ∧ (lateB d.l 1 a n = false → (d.fallN fate n).2.getD a ET.str.dflt = d.b.getD a ET.str.dflt)
  | 0, _ => ⟨fun _ => rfl, fun _ => rfl⟩
  | n + 1, hn => by
    obtain ⟨i1, i2⟩ := fallN_keep h fate a n (by omega)
    obtain ⟨ws, w1, -⟩ := Dk.ok_late h n (by omega)
    obtain ⟨f1, f2⟩ := fell_at (ET.int.at fate n) (d.fallN fate n) (ET.late.at d.l n) ws w1 a
    constructor
    · intro hl
      unfold lateB at hl
      simp only [Bool.or_eq_false_iff, Bool.and_eq_false_iff, beq_eq_false_iff_ne] at hl
      show (fell _ _ _).1.getD a ET.str.dflt = _
      rw [f1 (fun hh => hl.2.elim (fun h => h hh.1) (fun h => h hh.2)), i1 hl.1]
    · intro hl
      unfold lateB at hl
      simp only [Bool.or_eq_false_iff, Bool.and_eq_false_iff, beq_eq_false_iff_ne] at hl
      show (fell _ _ _).2.getD a ET.str.dflt = _
      rw [f2 (fun hh => hl.2.elim (fun h => h hh.1) (fun h => h hh.2)), i2 hl.1]
theorem lateB_mono (l : List Late) (s a : Int) : ∀ m n, m ≤ n → lateB l s a n = false → lateB l s a m = false
  | m, 0, h, _ => by obtain rfl : m = 0 := by omega
                     rfl
  | m, n + 1, h, hl => by
    rcases Nat.lt_succ_iff_lt_or_eq.1 (Nat.lt_succ_of_le h) with h' | rfl
    · refine lateB_mono l s a m n (by omega) ?_
      unfold lateB at hl
      simp only [Bool.or_eq_false_iff] at hl
      exact hl.1
    · exact hl
theorem dkFall_keep {d : Dk} (h : d.ok = true) (fate : List Int) (a : Nat) :
    (lateB d.l 0 a d.l.length = false → (dkFall d fate).a.getD a ET.str.dflt = d.a.getD a ET.str.dflt) ∧ (lateB d.l 1 a d.l.length = false → (dkFall d fate).b.getD a ET.str.dflt = d.b.getD a ET.str.dflt) := by
  have e : dkFall d fate = d.fallen fate := by unfold dkFall; rw [if_pos h]
  rw [e]
  obtain ⟨i1, i2⟩ := fallN_keep h fate a (min d.l.length fate.length) (by omega)
  exact ⟨fun hl => i1 (lateB_mono _ _ _ _ _ (by omega) hl), fun hl => i2 (lateB_mono _ _ _ _ _ (by omega) hl)⟩
theorem dkFall_nil {d : Dk} (h : d.ok = true) : dkFall d [] = ⟨d.a, d.b, []⟩ := by
  unfold dkFall Dk.fallen
  rw [if_pos h]
  simp only [List.length_nil, Nat.min_zero]
  rfl
theorem fallN_all (d : Dk) (m : Nat) : ∀ n, n ≤ d.l.length → n ≤ m → d.fallN (List.replicate m 1) n = d.done n
  | 0, _, _ => by rw [Dk.done_zero]; rfl
  | n + 1, h, hm => by
    rw [Dk.done_succ d n h]
    unfold Dk.fallN
    rw [fallN_all d m n (by omega) (by omega)]
    have : ET.int.at (List.replicate m 1) n = 1 := by
      unfold ET.at
      rw [List.getD_eq_getElem?_getD, List.getElem?_replicate, if_pos (by omega)]; rfl
    rw [this]
    rfl
theorem dkFall_all (d : Dk) : dkFall d (List.replicate d.l.length 1) = dkFlush d := by
  unfold dkFall dkFlush Dk.fallen Dk.flushed
  rw [List.length_replicate, Nat.min_self, fallN_all d d.l.length d.l.length (Nat.le_refl _) (Nat.le_refl _)]
theorem dkFall_small (d : Dk) (fate : List Int) : (dkFall d fate).a.length ≤ d.a.length ∧ (dkFall d fate).b.length ≤ d.b.length ∧ (dkFall d fate).l = [] := by
  unfold dkFall
  split
  · have := d.fallN_len fate (min d.l.length fate.length)
    exact ⟨by show (d.fallN _ _).1.length ≤ _; omega, by show (d.fallN _ _).2.length ≤ _; omega, rfl⟩
  · exact ⟨Nat.zero_le _, Nat.zero_le _, rfl⟩
theorem dkFall_len {d : Dk} (h : d.ok = true) (fate : List Int) : (dkFall d fate).a.length = d.a.length ∧ (dkFall d fate).b.length = d.b.length := by
  have e : dkFall d fate = d.fallen fate := by unfold dkFall; rw [if_pos h]
  rw [e]; exact d.fallN_len fate _
end Go.Proofs.YtmnbgppmfbnamaaGreatDoor
/- Plain facts: the last write wins. -/
namespace Go.Proofs.YtmnbgppmfbnamaaGreatDoor
open Go.RowKit

theorem may_iff (d : Dk) (s k : Int) (t : ByteArray) : d.may s k t = true ↔ (s = 0 ∨ s = 1) ∧ 0 ≤ k ∧ k < d.a.length ∧ t.size ≤ 420 ∧ d.l.length < 600 := by
  unfold Dk.may fits
  simp only [Bool.and_eq_true, decide_eq_true_eq]
  omega
theorem snoc_getD {α : Type} (l : List α) (x d : α) (i : Nat) : (l ++ [x]).getD i d = if i = l.length then x else l.getD i d := by
  simp only [List.getD_eq_getElem?_getD]
  by_cases h : i = l.length
  · subst h; simp
  · rw [if_neg h]
    rcases Nat.lt_or_ge i l.length with h' | h'
    · rw [List.getElem?_append_left h']
    · rw [List.getElem?_eq_none (by simp; omega), List.getElem?_eq_none (by omega)]
theorem Dk.add_ok {d : Dk} (h : d.ok = true) {s k : Int} {t : ByteArray} (hm : d.may s k t = true) : (d.add s k t).ok = true := by
  obtain ⟨m1, m2, m3, m4, m5⟩ := (may_iff d s k t).1 hm
  rw [Dk.ok_iff] at h ⊢
  obtain ⟨h1, h2, h3, h4, h5, h6, h7⟩ := h
  refine ⟨h1, h2, h3, ?_, h5, h6, fun j hj => ?_⟩
  · show (d.l ++ [_]).length ≤ 600
    rw [List.length_append]; simp only [List.length_cons, List.length_nil]; omega
  · show badLate d.a.length ((d.l ++ [(⟨s, k, t⟩ : Late)]).getD j ET.late.dflt) = false
    rw [snoc_getD]
    split
    · unfold badLate sector long
      simp only [Bool.or_eq_false_iff, Bool.not_eq_false', Bool.and_eq_true, decide_eq_true_eq, decide_eq_false_iff_not]
      omega
    · rename_i hne
      refine h7 j ?_
      have : (d.l ++ [(⟨s, k, t⟩ : Late)]).length = d.l.length + 1 := by simp
      have hj' : j < (d.l ++ [(⟨s, k, t⟩ : Late)]).length := hj
      omega
theorem lateText_snoc (l : List Late) (w : Late) (s k : Int) (z : ByteArray) : ∀ n, n ≤ l.length → lateText (l ++ [w]) s k z n = lateText l s k z n
  | 0, _ => rfl
  | n + 1, h => by
    unfold lateText
    have e : ET.late.at (l ++ [w]) n = ET.late.at l n := by
      show (l ++ [w]).getD n ET.late.dflt = _
      rw [snoc_getD, if_neg (by omega)]; rfl
    rw [e, lateText_snoc l w s k z n (by omega)]
theorem Dk.add_text (d : Dk) (s k : Int) (t : ByteArray) (s' k' : Int) : (d.add s k t).text s' k' = if s = s' ∧ k = k' then t else d.text s' k' := by
  unfold Dk.text
  show lateText (d.l ++ [(⟨s, k, t⟩ : Late)]) s' k' (sec (d.a, d.b) s' k') (d.l ++ [(⟨s, k, t⟩ : Late)]).length = _
  have e : (d.l ++ [(⟨s, k, t⟩ : Late)]).length = d.l.length + 1 := by simp
  rw [e]
  have e2 : ET.late.at (d.l ++ [(⟨s, k, t⟩ : Late)]) d.l.length = ⟨s, k, t⟩ := by
    show (d.l ++ [(⟨s, k, t⟩ : Late)]).getD d.l.length ET.late.dflt = _
    rw [snoc_getD, if_pos rfl]
  have e3 : ∀ (l : List Late) (z : ByteArray) (n : Nat), lateText l s' k' z (n + 1) = if (ET.late.at l n).side = s' ∧ (ET.late.at l n).at_ = k' then (ET.late.at l n).text else lateText l s' k' z n := fun _ _ _ => rfl
  rw [e3, e2, lateText_snoc _ _ _ _ _ _ (Nat.le_refl _)]
theorem sec_put (x : Two) (w : Late) (hs : w.side = 0 ∨ w.side = 1) (ha : 0 ≤ w.at_) (h1 : w.at_ < x.1.length) (h2 : w.at_ < x.2.length) (s k : Int) (hs' : s = 0 ∨ s = 1) (hk : 0 ≤ k) :
    sec (putW x w) s k = if w.side = s ∧ w.at_ = k then w.text else sec x s k := by
  unfold sec putW
  by_cases h0 : w.side = 0
  · rw [if_pos h0]
    by_cases hs0 : s = 0
    · rw [if_pos hs0, if_pos hs0]
      show (x.1.set w.at_.toNat w.text).getD k.toNat ET.str.dflt = _
      rw [at_set]
      by_cases hk' : w.at_ = k
      · rw [if_pos ⟨by omega, by omega⟩, if_pos ⟨by omega, hk'⟩]
      · rw [if_neg (by omega), if_neg (by omega)]; rfl
    · rw [if_neg hs0, if_neg (by omega), if_neg hs0]
  · rw [if_neg h0]
    by_cases hs0 : s = 0
    · rw [if_pos hs0, if_neg (by omega), if_pos hs0]
    · rw [if_neg hs0, if_neg hs0]
      show (x.2.set w.at_.toNat w.text).getD k.toNat ET.str.dflt = _
      rw [at_set]
      by_cases hk' : w.at_ = k
      · rw [if_pos ⟨by omega, by omega⟩, if_pos ⟨by omega, hk'⟩]
      · rw [if_neg (by omega), if_neg (by omega)]; rfl
/-- What is performed is what was read. -/
theorem done_text {d : Dk} (h : d.ok = true) (s k : Int) (hs : s = 0 ∨ s = 1) (hk : 0 ≤ k) : ∀ n, n ≤ d.l.length → sec (d.done n) s k = lateText d.l s k (sec (d.a, d.b) s k) n
  | 0, _ => by rw [Dk.done_zero]; rfl
  | n + 1, hn => by
    obtain ⟨ws, w1, w2, -⟩ := Dk.ok_late h n (by omega)
    obtain ⟨-, -, hab, -⟩ := (Dk.ok_iff _).1 h
    obtain ⟨l1, l2⟩ := d.done_len n
    rw [Dk.done_succ d n (by omega), sec_put _ _ ws w1 (by omega) (by omega) s k hs hk, done_text h s k hs hk n (by omega)]
    rfl
theorem sm_ok {a b : List ByteArray} (h1 : 1 ≤ a.length) (h2 : a.length ≤ 120) (h3 : b.length = a.length) (h : Sm (a, b)) : (Dk.mk a b []).ok = true := by
  rw [Dk.ok_iff]
  refine ⟨h1, h2, h3, Nat.zero_le _, fun j _ => ?_, fun j _ => ?_, fun j hj => absurd hj (Nat.not_lt_zero j)⟩
  · have := (h j).1; unfold long; simp only [decide_eq_false_iff_not]; simp only at this; omega
  · have := (h j).2; unfold long; simp only [decide_eq_false_iff_not]; simp only at this; omega
theorem dkFall_ok {d : Dk} (h : d.ok = true) (fate : List Int) : (dkFall d fate).ok = true := by
  have e : dkFall d fate = d.fallen fate := by unfold dkFall; rw [if_pos h]
  obtain ⟨h1, h2, h3, -⟩ := (Dk.ok_iff _).1 h
  obtain ⟨l1, l2⟩ := d.fallN_len fate (min d.l.length fate.length)
  rw [e]
  exact sm_ok (by omega) (by omega) (by omega) (Dk.fallN_sm h fate _ (by omega))
theorem dkFlush_ok {d : Dk} (h : d.ok = true) : (dkFlush d).ok = true := by rw [← dkFall_all]; exact dkFall_ok h _
/-- What is read where only the first n late writes have been kept. -/
theorem fall_read {d : Dk} (h : d.ok = true) (n : Nat) (hn : n ≤ d.l.length) (s k : Int) (hs : sector d.a.length s k = true) :
    dkRead (dkFall d (List.replicate n 1)) s k = lateText d.l s k (sec (d.a, d.b) s k) n := by
  obtain ⟨ws, w1, w2⟩ := (sector_iff _ _ _).1 hs
  have hok := dkFall_ok h (List.replicate n 1)
  have e : dkFall d (List.replicate n 1) = ⟨(d.done n).1, (d.done n).2, []⟩ := by
    unfold dkFall Dk.fallen
    rw [if_pos h, List.length_replicate, Nat.min_eq_right hn, fallN_all d n n hn (Nat.le_refl _)]
  rw [e] at hok ⊢
  have hl := (d.done_len n).1
  unfold dkRead dkReads
  rw [hok]
  simp only [hl, hs, Bool.and_self, if_true]
  show lateText [] s k (sec ((d.done n).1, (d.done n).2) s k) 0 = _
  exact done_text h s k ws w1 n hn
theorem dkRead_ok {d : Dk} (h : d.ok = true) (s k : Int) (hs : sector d.a.length s k = true) : dkRead d s k = d.text s k := by
  unfold dkRead dkReads; rw [h, hs]; rfl
theorem last_all {d : Dk} {s k : Int} {t o : ByteArray} (h1 : dkWrites d s k t = true) (h2 : dkWrites (dkWrite d s k t) s k o = true) :
    (dkWrite (dkWrite d s k t) s k o).ok = true ∧ 1 ≤ (dkWrite (dkWrite d s k t) s k o).l.length ∧ dkRead (dkWrite (dkWrite d s k t) s k o) s k = o ∧
    dkRead (dkFall (dkWrite (dkWrite d s k t) s k o) (List.replicate (dkWrite (dkWrite d s k t) s k o).l.length 1)) s k = o ∧
    dkRead (dkFall (dkWrite (dkWrite d s k t) s k o) (List.replicate ((dkWrite (dkWrite d s k t) s k o).l.length - 1) 1)) s k = t := by
  have hd : d.ok = true ∧ d.may s k t = true := by unfold dkWrites at h1; simpa using h1
  have e1 : dkWrite d s k t = d.add s k t := by unfold dkWrite; rw [if_pos hd.1, if_pos hd.2]
  rw [e1] at h2 ⊢
  have hx : (d.add s k t).ok = true ∧ (d.add s k t).may s k o = true := by unfold dkWrites at h2; simpa using h2
  have e2 : dkWrite (d.add s k t) s k o = (d.add s k t).add s k o := by unfold dkWrite; rw [if_pos hx.1, if_pos hx.2]
  rw [e2]
  have hy := Dk.add_ok hx.1 hx.2
  obtain ⟨m1, m2, m3, -, -⟩ := (may_iff _ _ _ _).1 hx.2
  have hs : sector (((d.add s k t).add s k o)).a.length s k = true := (sector_iff _ _ _).2 ⟨m1, m2, m3⟩
  have hl : ((d.add s k t).add s k o).l.length = (d.add s k t).l.length + 1 := by show ((d.add s k t).l ++ [_]).length = _; simp
  have r1 := dkRead_ok hy s k hs
  have r2 := fall_read hy ((d.add s k t).add s k o).l.length (Nat.le_refl _) s k hs
  have r3 := fall_read hy (((d.add s k t).add s k o).l.length - 1) (by omega) s k hs
  have t1 : ((d.add s k t).add s k o).text s k = o := by rw [Dk.add_text, if_pos ⟨rfl, rfl⟩]
  refine ⟨hy, by omega, by rw [r1, t1], by rw [r2]; exact t1, ?_⟩
  rw [r3, hl, Nat.add_sub_cancel]
  show lateText ((d.add s k t).l ++ [_]) s k _ (d.add s k t).l.length = t
  rw [lateText_snoc _ _ _ _ _ _ (Nat.le_refl _)]
  have t2 : (d.add s k t).text s k = t := by rw [Dk.add_text, if_pos ⟨rfl, rfl⟩]
  exact t2
end Go.Proofs.YtmnbgppmfbnamaaGreatDoor
/- Plain facts: what a decayed byte does to a sector, and to its sum. -/
namespace Go.Proofs.YtmnbgppmfbnamaaGreatDoor
open Go.RowKit

theorem turn_turn (x : UInt8) (mask : Int) (h1 : 1 ≤ mask) (h2 : mask ≤ 255) : turn (turn x mask) mask = x ∧ turn x mask ≠ x := by
  obtain ⟨m, rfl⟩ := Int.eq_ofNat_of_zero_le (show 0 ≤ mask by omega)
  have hm : m < 256 := by omega
  have hm1 : 1 ≤ m := by omega
  have hx : x.toNat < 256 := UInt8.toNat_lt x
  have key : ∀ a : Nat, a < 256 → IntKind.u8.wrap (((BitVec.ofInt 8 ((a : Nat) : Int) ^^^ BitVec.ofInt 8 (IntKind.u8.wrap (m : Int))).toNat : Nat) : Int) = ((a ^^^ m : Nat) : Int) := by
    intro a ha
    have e1 : IntKind.u8.wrap (m : Int) = m := IntWalk.u8_in _ (by omega)
    have hlt : a ^^^ m < 2 ^ 8 := Nat.xor_lt_two_pow (by omega) (by omega)
    have e2 : (BitVec.ofInt 8 ((a : Nat) : Int) ^^^ BitVec.ofInt 8 (m : Int)).toNat = a ^^^ m := by
      rw [BitVec.toNat_xor, BitVec.toNat_ofInt, BitVec.toNat_ofInt]
      congr 1 <;> omega
    rw [e1, e2]
    exact IntWalk.u8_in _ (by omega)
  have tn : ∀ y : UInt8, (turn y m).toNat = y.toNat ^^^ m := by
    intro y
    have hy : y.toNat < 256 := UInt8.toNat_lt y
    have hlt : y.toNat ^^^ m < 2 ^ 8 := Nat.xor_lt_two_pow (by omega) (by omega)
    unfold turn
    rw [key _ hy, Int.toNat_natCast, UInt8.toNat_ofNat']
    omega
  have t1 := tn x
  have t2 : (turn (turn x m) m).toNat = x.toNat := by rw [tn, t1, Nat.xor_assoc, Nat.xor_self, Nat.xor_zero]
  refine ⟨UInt8.toNat_inj.1 t2, fun h => ?_⟩
  have h3 : x.toNat ^^^ m = x.toNat := by rw [← t1, h]
  have h4 : x.toNat ^^^ (x.toNat ^^^ m) = x.toNat ^^^ x.toNat := by rw [h3]
  rw [← Nat.xor_assoc, Nat.xor_self, Nat.zero_xor] at h4
  omega
theorem rotB_size (s : ByteArray) (k mask : Int) : (rotB s k mask).size = s.size := by
  unfold rotB
  show (List.toArray _).size = _
  rw [List.size_toArray, List.length_set, Array.length_toList]; rfl
theorem rotB_rotB (s : ByteArray) (k mask : Int) (hk : 0 ≤ k) (hk2 : k < s.size) (h1 : 1 ≤ mask) (h2 : mask ≤ 255) : rotB (rotB s k mask) k mask = s := by
  obtain ⟨⟨xs⟩⟩ := s
  have hl : k.toNat < xs.length := by
    have : ((⟨⟨xs⟩⟩ : ByteArray).size : Int) = xs.length := rfl
    omega
  unfold rotB
  simp only [List.set_set]
  congr 2
  have e : (xs.set k.toNat (turn (xs.getD k.toNat ET.byte.dflt) mask)).getD k.toNat ET.byte.dflt = turn (xs.getD k.toNat ET.byte.dflt) mask := by
    rw [at_set]; rw [if_pos ⟨rfl, hl⟩]
  show xs.set k.toNat (turn ((xs.set k.toNat (turn (xs.getD k.toNat ET.byte.dflt) mask)).getD k.toNat ET.byte.dflt) mask) = xs
  rw [e, (turn_turn _ mask h1 h2).1]
  apply List.ext_getElem
  · simp
  · intro i hi1 hi2
    rw [List.getElem_set]
    split
    · rename_i h; subst h
      rw [List.getD_eq_getElem?_getD, List.getElem?_eq_getElem hl]; rfl
    · rfl

theorem sumAt_same (s t : ByteArray) (hs : s.size = t.size) : ∀ (i : Nat), (∀ j, j < i → s.data.getD j 0 = t.data.getD j 0) → sumAt s i = sumAt t i
  | 0, _ => by unfold sumAt; rw [hs]
  | i + 1, h => by
    unfold sumAt
    rw [sumAt_same s t hs i fun j hj => h j (by omega), h i (by omega)]
theorem sum_inj {a b c : Nat} (ha : a < 65521) (hb : b < 65521) (h : (257 * a + c + 1) % 65521 = (257 * b + c + 1) % 65521) : a = b := by omega
theorem sumAt_apart (s t : ByteArray) (k : Nat) (hk : sumAt s (k + 1) ≠ sumAt t (k + 1)) : ∀ (i : Nat), k < i → (∀ j, k < j → j < i → s.data.getD j 0 = t.data.getD j 0) → sumAt s i ≠ sumAt t i
  | 0, h, _ => by omega
  | i + 1, h, hj => by
    rcases Nat.lt_succ_iff_lt_or_eq.1 h with h' | rfl
    · intro he
      refine sumAt_apart s t k hk i h' (fun j h1 h2 => hj j h1 (by omega)) ?_
      unfold sumAt at he
      rw [hj i h' (by omega)] at he
      exact sum_inj (sumAt_lt s i) (sumAt_lt t i) he
    · exact hk
/-- A turned byte turns the sum. -/
theorem rotB_sum (s : ByteArray) (k mask : Int) (hk : 0 ≤ k) (hk2 : k < s.size) (h1 : 1 ≤ mask) (h2 : mask ≤ 255) : sumOf (rotB s k mask) ≠ sumOf s := by
  have hsz := rotB_size s k mask
  have hat : ∀ j, j < s.size → (rotB s k mask).data.getD j 0 = if j = k.toNat then turn (s.data.getD j 0) mask else s.data.getD j 0 := by
    intro j hj
    obtain ⟨⟨xs⟩⟩ := s
    have hj : j < xs.length := hj
    have e : ∀ (ys : List UInt8) (i : Nat), (⟨ys⟩ : Array UInt8).getD i 0 = ys.getD i 0 := by
      intro ys i
      rw [Array.getD_eq_getD_getElem?, List.getD_eq_getElem?_getD]; simp
    unfold rotB
    simp only
    show (⟨xs.set k.toNat _⟩ : Array UInt8).getD j 0 = _
    rw [e, e, at_set]
    by_cases hjk : j = k.toNat
    · subst hjk; rw [if_pos ⟨rfl, hj⟩, if_pos rfl]; rfl
    · rw [if_neg (fun h => hjk h.1.symm), if_neg hjk]
  unfold sumOf
  rw [hsz]
  refine sumAt_apart _ _ k.toNat ?_ s.size (by omega) fun j hj1 hj2 => ?_
  · have hs0 : sumAt (rotB s k mask) k.toNat = sumAt s k.toNat := sumAt_same _ _ hsz _ fun j hj => by rw [hat j (by omega), if_neg (by omega)]
    unfold sumAt
    rw [hs0, hat k.toNat (by omega), if_pos rfl]
    have hne := (turn_turn (s.data.getD k.toNat 0) mask h1 h2).2
    have l1 : (s.data.getD k.toNat 0).toNat < 256 := UInt8.toNat_lt _
    have l2 : (turn (s.data.getD k.toNat 0) mask).toNat < 256 := UInt8.toNat_lt _
    have hne' : (turn (s.data.getD k.toNat 0) mask).toNat ≠ (s.data.getD k.toNat 0).toNat := fun h => hne (UInt8.toNat_inj.1 h)
    omega
  · rw [hat j hj2, if_neg (by omega)]
end Go.Proofs.YtmnbgppmfbnamaaGreatDoor
/- Plain facts: a decayed disk. -/
namespace Go.Proofs.YtmnbgppmfbnamaaGreatDoor
open Go.RowKit

theorem Dk.eqv_self (d : Dk) : d.eqv d = true := by simp [Dk.eqv, same]
theorem Dk.rot_at {d : Dk} {s i k m : Int} (hm : d.mayRot s i k m = true) (j : Nat) :
    (d.rot s i k m).a.getD j ET.str.dflt = (if s = 0 ∧ i = j then rotB (d.a.getD j ET.str.dflt) k m else d.a.getD j ET.str.dflt) ∧
    (d.rot s i k m).b.getD j ET.str.dflt = (if s = 1 ∧ i = j ∧ j < d.b.length then rotB (d.b.getD j ET.str.dflt) k m else d.b.getD j ET.str.dflt) := by
  unfold Dk.mayRot at hm
  simp only [Bool.and_eq_true, decide_eq_true_eq] at hm
  obtain ⟨ws, w1, w2⟩ := (sector_iff _ _ _).1 hm.1.1.1.1
  obtain ⟨i, rfl⟩ := Int.eq_ofNat_of_zero_le w1
  unfold Dk.rot putW sec
  rcases ws with rfl | rfl
  · simp only [↓reduceIte, Int.toNat_natCast, at_set, Int.reduceEq, false_and, if_false, and_true, true_and]
    by_cases h : i = j
    · subst h
      rw [if_pos ⟨rfl, by omega⟩, if_pos rfl]; rfl
    · rw [if_neg (fun hh => h hh.1), if_neg (by omega)]
  · simp only [↓reduceIte, Int.toNat_natCast, at_set, Int.reduceEq, false_and, if_false, and_true, true_and]
    by_cases h : i = j
    · subst h
      by_cases h2 : i < d.b.length
      · rw [if_pos ⟨rfl, h2⟩, if_pos ⟨rfl, h2⟩]; rfl
      · rw [if_neg (fun hh => h2 hh.2), if_neg (fun hh => h2 hh.2)]
    · rw [if_neg (fun hh => h hh.1), if_neg (fun hh => h (by omega))]
theorem Dk.rot_len (d : Dk) (s i k m : Int) : (d.rot s i k m).a.length = d.a.length ∧ (d.rot s i k m).b.length = d.b.length ∧ (d.rot s i k m).l = d.l :=
  ⟨(putW_len (d.a, d.b) _).1, (putW_len (d.a, d.b) _).2, rfl⟩
theorem Dk.rot_ok {d : Dk} (h : d.ok = true) {s i k m : Int} (hm : d.mayRot s i k m = true) : (d.rot s i k m).ok = true := by
  obtain ⟨l1, l2, l3⟩ := d.rot_len s i k m
  rw [Dk.ok_iff] at h ⊢
  obtain ⟨h1, h2, h3, h4, h5, h6, h7⟩ := h
  rw [l1, l2, l3]
  have hl : ∀ s : ByteArray, long (rotB s k m) = long s := fun s => by unfold long; rw [rotB_size]
  refine ⟨h1, h2, h3, h4, fun j hj => ?_, fun j hj => ?_, h7⟩
  · rw [(Dk.rot_at hm j).1]
    split
    · rw [hl]; exact h5 j hj
    · exact h5 j hj
  · rw [(Dk.rot_at hm j).2]
    split
    · rw [hl]; exact h6 j hj
    · exact h6 j hj
theorem dkRot_ok {d : Dk} (h : d.ok = true) (s i k m : Int) : (dkRot d s i k m).ok = true := by
  unfold dkRot
  rw [if_pos h]
  split
  · rename_i hm; exact Dk.rot_ok h hm
  · exact h
theorem dkRot_len {d : Dk} (h : d.ok = true) (s i k m : Int) : (dkRot d s i k m).a.length = d.a.length ∧ (dkRot d s i k m).b.length = d.b.length ∧ (dkRot d s i k m).l = d.l := by
  unfold dkRot
  rw [if_pos h]
  split
  · exact d.rot_len s i k m
  · exact ⟨rfl, rfl, rfl⟩
theorem Dk.ext' {d e : Dk} (h1 : d.a = e.a) (h2 : d.b = e.b) (h3 : d.l = e.l) : d = e := by
  cases d; cases e; simp_all
/-- Turned once more a disk is as it was. -/
theorem dkRot_dkRot {d : Dk} (h : d.ok = true) (s i k m : Int) : dkRot (dkRot d s i k m) s i k m = d := by
  have hok := dkRot_ok h s i k m
  by_cases hm : d.mayRot s i k m = true
  · have e : dkRot d s i k m = d.rot s i k m := by unfold dkRot; rw [if_pos h, if_pos hm]
    rw [e] at hok ⊢
    obtain ⟨l1, l2, l3⟩ := d.rot_len s i k m
    obtain ⟨-, -, hab, -⟩ := (Dk.ok_iff _).1 h
    have hm0 := hm
    unfold Dk.mayRot at hm
    simp only [Bool.and_eq_true, decide_eq_true_eq] at hm
    obtain ⟨⟨⟨⟨q1, q2⟩, q3⟩, q4⟩, q5⟩ := hm
    obtain ⟨ws, w1, w2⟩ := (sector_iff _ _ _).1 q1
    have hsec : (sec ((d.rot s i k m).a, (d.rot s i k m).b) s i).size = (sec (d.a, d.b) s i).size := by
      unfold sec
      rcases ws with rfl | rfl
      · rw [if_pos rfl, if_pos rfl]
        show ((d.rot 0 i k m).a.getD i.toNat ET.str.dflt).size = _
        rw [(Dk.rot_at hm0 _).1]
        split
        · rw [rotB_size]; rfl
        · rfl
      · rw [if_neg (by decide), if_neg (by decide)]
        show ((d.rot 1 i k m).b.getD i.toNat ET.str.dflt).size = _
        rw [(Dk.rot_at hm0 _).2]
        split
        · rw [rotB_size]; rfl
        · rfl
    have hm2 : (d.rot s i k m).mayRot s i k m = true := by
      unfold Dk.mayRot
      rw [l1, hsec]
      simp only [Bool.and_eq_true, decide_eq_true_eq]
      exact ⟨⟨⟨⟨q1, q2⟩, q3⟩, q4⟩, q5⟩
    unfold dkRot
    rw [if_pos hok, if_pos hm2]
    obtain ⟨r1, r2, r3⟩ := (d.rot s i k m).rot_len s i k m
    refine Dk.ext' (list_same (d := ET.str.dflt) (by rw [r1, l1]) fun j hj => ?_) (list_same (d := ET.str.dflt) (by rw [r2, l2]) fun j hj => ?_) (by rw [r3, l3])
    · rw [(Dk.rot_at hm2 j).1, (Dk.rot_at hm0 j).1]
      by_cases hc : s = 0 ∧ i = j
      · rw [if_pos hc, if_pos hc]
        refine rotB_rotB _ k m q2 ?_ q4 q5
        obtain ⟨rfl, rfl⟩ := hc
        unfold sec at q3; rw [if_pos rfl, Int.toNat_natCast] at q3; exact q3
      · rw [if_neg hc, if_neg hc]
    · rw [(Dk.rot_at hm2 j).2, (Dk.rot_at hm0 j).2, l2]
      by_cases hc : s = 1 ∧ i = j ∧ j < d.b.length
      · rw [if_pos hc, if_pos hc]
        refine rotB_rotB _ k m q2 ?_ q4 q5
        obtain ⟨rfl, rfl, -⟩ := hc
        unfold sec at q3; rw [if_neg (by decide), Int.toNat_natCast] at q3; exact q3
      · rw [if_neg hc, if_neg hc]
  · have e : dkRot d s i k m = d := by unfold dkRot; rw [if_pos h, if_neg hm]
    rw [e, e]
/-- A sector that is not as it was is the one that is named, and its sum is another one. -/
theorem dkRot_at {d : Dk} (h : d.ok = true) (s i k m : Int) (j : Nat) (hj : j < d.a.length) :
    ((dkRot d s i k m).a.getD j ET.str.dflt ≠ d.a.getD j ET.str.dflt → d.mayRot s i k m = true ∧ s = 0 ∧ i = j ∧ sumOf ((dkRot d s i k m).a.getD j ET.str.dflt) ≠ sumOf (d.a.getD j ET.str.dflt)) ∧
    ((dkRot d s i k m).b.getD j ET.str.dflt ≠ d.b.getD j ET.str.dflt → d.mayRot s i k m = true ∧ s = 1 ∧ i = j ∧ sumOf ((dkRot d s i k m).b.getD j ET.str.dflt) ≠ sumOf (d.b.getD j ET.str.dflt)) := by
  by_cases hm : d.mayRot s i k m = true
  · have e : dkRot d s i k m = d.rot s i k m := by unfold dkRot; rw [if_pos h, if_pos hm]
    rw [e]
    have hm0 := hm
    unfold Dk.mayRot at hm
    simp only [Bool.and_eq_true, decide_eq_true_eq] at hm
    obtain ⟨⟨⟨⟨q1, q2⟩, q3⟩, q4⟩, q5⟩ := hm
    rw [(Dk.rot_at hm0 j).1, (Dk.rot_at hm0 j).2]
    constructor
    · by_cases hc : s = 0 ∧ i = j
      · rw [if_pos hc]
        intro _
        obtain ⟨rfl, rfl⟩ := hc
        unfold sec at q3; rw [if_pos rfl, Int.toNat_natCast] at q3
        exact ⟨hm0, rfl, rfl, rotB_sum _ k m q2 q3 q4 q5⟩
      · rw [if_neg hc]; exact fun hh => absurd rfl hh
    · by_cases hc : s = 1 ∧ i = j ∧ j < d.b.length
      · rw [if_pos hc]
        intro _
        obtain ⟨rfl, rfl, -⟩ := hc
        unfold sec at q3; rw [if_neg (by decide), Int.toNat_natCast] at q3
        exact ⟨hm0, rfl, rfl, rotB_sum _ k m q2 q3 q4 q5⟩
      · rw [if_neg hc]; exact fun hh => absurd rfl hh
  · have e : dkRot d s i k m = d := by unfold dkRot; rw [if_pos h, if_neg hm]
    rw [e]
    exact ⟨fun hh => absurd rfl hh, fun hh => absurd rfl hh⟩
end Go.Proofs.YtmnbgppmfbnamaaGreatDoor
/- Functions: writes and flushes, the program's. -/
namespace Go.Proofs.YtmnbgppmfbnamaaGreatDoor
open Go.RowKit

/-- A disk behind a pointer, its slices own: objects n, n + 1, n + 2. -/
@[go_sem] def Dk.cs (d : Dk) (n : Nat) : List TC := [.osl .str n 0 d.a.length, .osl .str (n + 1) 0 d.b.length, .osl .late (n + 2) 0 d.l.length]
theorem may_eq (d : Dk) (s k : Int) (t : ByteArray) : d.may s k t = (sector d.a.length s k && !(long t) && decide (d.l.length < 600)) := by
  unfold Dk.may fits sector long
  rw [Bool.eq_iff_iff]
  simp only [Bool.and_eq_true, decide_eq_true_eq, Bool.not_eq_true', decide_eq_false_iff_not]
  omega
/-- (*Disk).write: the disk's slices are the call's; its late writes become a new object, if it can be written. -/
@[go_sem] def ctWrite : Ct := ⟨true, [], fun args os => match args, os with
  | [.one (.ptr 0 0), .one (.val (.int .i64 s)), .one (.val (.int .i64 k)), .one (.val (.string t))], [.cells [.osl .str 1 0 na, .osl .str 2 0 nb, .osl .late 3 0 nl], .arr .str a, .arr .str b, .arr .late l] =>
    if (Dk.mk a b l).may s k t then ⟨(Dk.mk a b l).small ∧ na = a.length ∧ nb = b.length ∧ nl = l.length, vb true, [(0, some (.cells [.osl .str 1 0 na, .osl .str 2 0 nb, .osl .late 4 0 (nl + 1)])), (3, none)], [.arr .late (l ++ [⟨s, k, t⟩])]⟩
    else ⟨(Dk.mk a b l).small ∧ na = a.length ∧ nb = b.length ∧ nl = l.length, vb false, [], []⟩
  | _, _ => no⟩
theorem s_write_e : EnterOk Tryz.prog 70 := ⟨_, Tryz.func70, rfl, by decide⟩
@[go_sem] def s_write_lv : List (List Nat) := [[0, 1, 2, 3], [0, 1, 2, 3, 27], [8], [], [8]]
@[go_sem] noncomputable def s_write_K : Known := ((Known.nil).cons 141 ctIsSector s_isSector s_isSector_e).cons 138 ctIsLong s_isLong s_isLong_e
set_option maxHeartbeats 8000000 in
theorem s_write : Sound Tryz.prog 70 ctWrite := by
  have ke := s_write_K.env []
  have kl : Lives s_write_lv := trivial
  refine sound_intro (E := ⟨ti, s_write_K.Γ, []⟩) ke Tryz.func70 Tryz.ntmps70 rfl (rs := [.tmp 8]) rfl ?_
  intro args os hp
  unfold ctWrite at hp ⊢
  dsimp only at hp ⊢
  split at hp
  · rename_i s k t na nb nl a b l
    refine ⟨by simp, fun φ0 w0 => ?_⟩
    have hp' : (Dk.mk a b l).small ∧ na = a.length ∧ nb = b.length ∧ nl = l.length := by
      by_cases h : (Dk.mk a b l).may s k t = true
      · rw [if_pos h] at hp; exact hp
      · rw [if_neg h] at hp; exact hp
    obtain ⟨⟨h1, h2, h3⟩, rfl, rfl, rfl⟩ := hp'
    simp only at h1 h2 h3
    have hm := may_eq ⟨a, b, l⟩ s k t
    simp only at hm
    clear hp
    refine goh trivial ?_
    refine W_cnd ?_ ?_ <;> (try simp only [cnd_r]) <;> intro hc
    · have hm0 : (Dk.mk a b l).may s k t = false := by
        rw [hm]
        cases hs : sector a.length s k <;> cases ht : long t <;> simp [hs, ht] at hc ⊢
        omega
      refine goh trivial ?_
      exact finh [some 0, some 1, some 2, some 3] hm0
    · have hm0 : (Dk.mk a b l).may s k t = true := by
        rw [hm]
        cases hs : sector a.length s k <;> cases ht : long t <;> simp [hs, ht] at hc ⊢
        omega
      refine goh trivial ?_
      exact finh [some 0, some 1, some 2, some 3, some 5] hm0
  · simp [no] at hp

theorem s_diskWrite_e : EnterOk Tryz.prog 15 := ⟨_, Tryz.func15, rfl, by decide⟩
@[go_sem] def s_diskWrite_lv : List (List Nat) := [[1, 2, 3, 4, 8], [1, 2, 3, 4, 8, 14], [8, 9], [1, 2, 3, 8, 10], [8, 10, 11], [8, 9]]
@[go_sem] noncomputable def s_diskWrite_K : Known := (((Known.nil).cons 68 ctDiskOk s_diskOk s_diskOk_e).cons 69 ctOwn s_own s_own_e).cons 70 ctWrite s_write s_write_e
set_option maxHeartbeats 8000000 in
theorem s_diskWrite : Sound Tryz.prog 15 ctDiskWrite := by
  have ke := s_diskWrite_K.env []
  have kl : Lives s_diskWrite_lv := trivial
  refine sound_intro (E := ⟨ti, s_diskWrite_K.Γ, []⟩) ke Tryz.func15 Tryz.ntmps15 rfl (rs := [.cell 8 36, .tmp 9]) rfl ?_
  intro args os hp
  unfold ctDiskWrite at hp ⊢
  dsimp only at hp ⊢
  split at hp
  · rename_i a b l s k t
    refine ⟨by simp, fun φ0 w0 => ?_⟩
    obtain ⟨h1, h2, h3⟩ : a.length ≤ 4000000 ∧ b.length ≤ 4000000 ∧ l.length ≤ 4000000 := hp
    refine goh trivial ?_
    refine W_cnd ?_ ?_ <;> (try simp only [cnd_r]) <;> intro hok
    · have e1 : dkWrite ⟨a, b, l⟩ s k t = .nil := by unfold dkWrite; rw [hok]; rfl
      have e2 : dkWrites ⟨a, b, l⟩ s k t = false := by unfold dkWrites; rw [hok]; rfl
      refine goh trivial ?_
      refine ⟨by (simp only [go_sem, e1, e2, Dk.nil, ↓reduceIte, reduceCtorEq, Nat.reduceAdd, Nat.reduceLT, Nat.reduceLeDiff, Nat.reduceEqDiff]) <;> trivial, [none, none, none], ?_⟩
      all_goals try simp only [go_sem, e1, e2, Dk.nil, inj_r, ↓reduceIte, reduceCtorEq, Nat.reduceAdd, Nat.reduceLT, Nat.reduceLeDiff, Nat.reduceEqDiff, Int.reduceEq]
      all_goals (repeat' refine And.intro ?_ ?_) <;> try exact shut7
    · have e3 : a.length ≤ 120 ∧ b.length ≤ 120 ∧ l.length ≤ 600 := Dk.ok_small hok
      have e1 : dkWrite ⟨a, b, l⟩ s k t = if (Dk.mk a b l).may s k t then (Dk.mk a b l).add s k t else ⟨a, b, l⟩ := by unfold dkWrite; rw [hok]; rfl
      have e2 : dkWrites ⟨a, b, l⟩ s k t = (Dk.mk a b l).may s k t := by unfold dkWrites; rw [hok]; rfl
      by_cases hm : (Dk.mk a b l).may s k t = true
      · refine goh hm ?_
        refine ⟨by (simp only [go_sem, e1, e2, hm, Dk.add, ↓reduceIte, reduceCtorEq, Nat.reduceAdd, Nat.reduceLT, Nat.reduceLeDiff, Nat.reduceEqDiff]) <;> trivial, [some 7, some 8, some 9], ?_⟩
        all_goals try simp only [go_sem, e1, e2, hm, Dk.add, inj_r, ↓reduceIte, reduceCtorEq, Nat.reduceAdd, Nat.reduceLT, Nat.reduceLeDiff, Nat.reduceEqDiff, Int.reduceEq]
        all_goals (repeat' refine And.intro ?_ ?_) <;> try exact shut7
      · refine goh hm ?_
        exact finh [some 6, some 7, some 8] (And.intro e1 (And.intro e2 hm))
  · simp [no] at hp

@[go_sem] def ctFlush : Ct := ⟨true, [], fun args os => match args, os with
  | [.one (.ptr 0 0)], [.cells [.osl .str 1 0 na, .osl .str 2 0 nb, .osl .late 3 0 nl], .arr .str a, .arr .str b, .arr .late l] =>
    ⟨(Dk.mk a b l).ok = true ∧ na = a.length ∧ nb = b.length ∧ nl = l.length, .tup [], [(0, some (.cells [.osl .str 1 0 na, .osl .str 2 0 nb, .val (.slice none 0 0)])), (1, some (.arr .str (Dk.mk a b l).flushed.a)), (2, some (.arr .str (Dk.mk a b l).flushed.b))], []⟩
  | _, _ => no⟩
@[go_sem] def sgFl (l : List Late) (x : List ByteArray × List ByteArray) (i : Nat) : Sg := ⟨[(0, .one (.ptr 0 0)), (7, .one (.osl .late 3 0 l.length)), (8, vi l.length), (9, vi i)],
  [some (.cells [.osl .str 1 0 x.1.length, .osl .str 2 0 x.2.length, .osl .late 3 0 l.length]), some (.arr .str x.1), some (.arr .str x.2), some (.arr .late l)], [0, 1, 2]⟩
theorem s_flush_e : EnterOk Tryz.prog 71 := ⟨_, Tryz.func71, rfl, by decide⟩
@[go_sem] def s_flush_lv : List (List Nat) := [[0, 7, 8, 9], [0, 7, 8, 9, 10], [0, 3, 7, 8, 9], [0, 7, 8, 9], [0, 7, 8, 9], []]
@[go_sem] noncomputable def s_flush_K : Known := Known.nil
set_option maxHeartbeats 8000000 in
theorem s_flush : Sound Tryz.prog 71 ctFlush := by
  have ke := s_flush_K.env []
  have kl : Lives s_flush_lv := trivial
  refine sound_intro (E := ⟨ti, s_flush_K.Γ, []⟩) ke Tryz.func71 Tryz.ntmps71 rfl (rs := []) rfl ?_
  intro args os hp
  unfold ctFlush at hp ⊢
  dsimp only at hp ⊢
  split at hp
  · rename_i na nb nl a b l
    refine ⟨by simp, fun φ0 w0 => ?_⟩
    obtain ⟨hok, rfl, rfl, rfl⟩ : (Dk.mk a b l).ok = true ∧ na = a.length ∧ nb = b.length ∧ nl = l.length := hp
    have e3 : a.length ≤ 120 ∧ b.length ≤ 120 ∧ l.length ≤ 600 := Dk.ok_small hok
    refine goh trivial ?_
    refine W_le (σ' := sgFl l ((Dk.mk a b l).done 0) 0) [some 0, some 1, some 2, some 3] (by
      simp only [go_sem, Dk.done_zero, inj_r, ↓reduceIte, reduceCtorEq, Nat.reduceAdd, Nat.reduceLT, Nat.reduceLeDiff, Nat.reduceEqDiff, Int.reduceEq]
      all_goals (repeat' refine And.intro ?_ ?_) <;> try exact shut7
      ) ?_
    refine W_loop (fun n σ => ∃ i : Nat, i ≤ l.length ∧ n = l.length - i ∧ σ = sgFl l ((Dk.mk a b l).done i) i) l.length ⟨0, by omega, by omega, rfl⟩ ?_
    rintro n σ ⟨i, hi, rfl, rfl⟩
    obtain ⟨hl1, hl2⟩ := (Dk.mk a b l).done_len i
    simp only at hl1 hl2
    unfold sgFl
    refine goh trivial ?_
    refine W_cnd ?_ ?_ <;> (try simp only [cnd_r]) <;> intro hlt
    · have hi' : i < l.length := by omega
      obtain ⟨ws, w1, w2, w3⟩ := Dk.ok_late hok i hi'
      have hd := (Dk.mk a b l).done_succ i hi'
      obtain ⟨-, -, hab, -⟩ := (Dk.ok_iff _).1 hok
      simp only at ws w1 w2 w3 hd hab
      generalize hx : (Dk.mk a b l).done i = x at *
      generalize hw : l.getD i ET.late.dflt = w at *
      obtain ⟨s, k, t⟩ := w
      simp only at ws w1 w2 w3
      rcases ws with rfl | rfl
      all_goals
        refine goh hw ?_
        refine ⟨l.length - (i + 1), [some 0, some 1, some 2, some 3], sgFl l ((Dk.mk a b l).done (i + 1)) (i + 1), by omega, ?_, i + 1, by omega, rfl, rfl⟩
        rw [hd]
        simp only [go_sem, putW, List.length_set, inj_r, ↓reduceIte, reduceCtorEq, Nat.reduceAdd, Nat.reduceLT, Nat.reduceLeDiff, Nat.reduceEqDiff, Int.reduceEq]
        all_goals (repeat' refine And.intro ?_ ?_) <;> try exact shut7
    · have : i = l.length := by omega
      subst this
      have e4 : (Dk.mk a b l).flushed = ⟨((Dk.mk a b l).done l.length).1, ((Dk.mk a b l).done l.length).2, []⟩ := rfl
      refine goh trivial ?_
      exact finh [some 0, some 1, some 2, some 3] e4
  · simp [no] at hp
end Go.Proofs.YtmnbgppmfbnamaaGreatDoor
/- Functions: blocks. -/
namespace Go.Proofs.YtmnbgppmfbnamaaGreatDoor
open Go.RowKit

def ptr0 : Ptr := ⟨0, 0, 0⟩
def blkTo (a : Int) (t : ByteArray) (b : Int) : Ptr := if realB ⟨a, (sumOf t : Nat), b⟩ then ⟨a, (sumOf t : Nat), b⟩ else ptr0
@[go_sem] def Ptr.tv (p : Ptr) : TV := .agg [.val (.int .i64 p.at_), .val (.int .i64 p.sum), .val (.int .i64 p.birth)]
@[go_sem] def ctBlkTo : Ct := ⟨false, [], fun args os => match args, os with
  | [.one (.val (.int .i64 a)), .one (.val (.string t)), .one (.val (.int .i64 b))], [] => ifp (t.size ≤ 1000000000) (blkTo a t b).tv
  | _, _ => no⟩
theorem s_blkTo_e : EnterOk Tryz.prog 301 := ⟨_, Tryz.func301, rfl, by decide⟩
@[go_sem] def s_blkTo_lv : List (List Nat) := [[0, 1, 2, 6], [6, 7], [6, 7, 15], [6], [6]]
@[go_sem] noncomputable def s_blkTo_K : Known := ((Known.nil).cons 124 ctSumOf s_sumOf s_sumOf_e).cons 171 ctReal s_isReal s_isReal_e
set_option maxHeartbeats 8000000 in
theorem s_blkTo : Sound Tryz.prog 301 ctBlkTo := by
  have ke := s_blkTo_K.env []
  have kl : Lives s_blkTo_lv := trivial
  refine sound_intro (E := ⟨ti, s_blkTo_K.Γ, []⟩) ke Tryz.func301 Tryz.ntmps301 rfl (rs := [.cell 6 187]) rfl ?_
  intro args os hp
  unfold ctBlkTo at hp ⊢
  dsimp only at hp ⊢
  split at hp
  · rename_i a t b
    refine ⟨by simp, fun φ0 w0 => ?_⟩
    have hlen : t.size ≤ 1000000000 := hp
    clear hp
    refine goh trivial ?_
    refine W_cond _ (by exact rfl) (by exact trivial) ?_ ?_ <;> intro hc
    · have e : blkTo a t b = ptr0 := by
        unfold blkTo
        rw [if_neg (by simpa using hc)]
      refine goh trivial ?_
      refine ⟨by (simp only [go_sem, e, ptr0, ↓reduceIte, reduceCtorEq, Nat.reduceAdd, Nat.reduceLT, Nat.reduceLeDiff, Nat.reduceEqDiff]) <;> trivial, [], ?_⟩
      all_goals try simp only [go_sem, e, ptr0, inj_r, ↓reduceIte, reduceCtorEq, Nat.reduceAdd, Nat.reduceLT, Nat.reduceLeDiff, Nat.reduceEqDiff, Int.reduceEq]
      all_goals (repeat' refine And.intro ?_ ?_) <;> try exact shut7
    · have e : blkTo a t b = ⟨a, (sumOf t : Nat), b⟩ := by
        unfold blkTo
        rw [if_pos (by simpa using hc)]
      refine goh trivial ?_
      exact finh [] e
  · simp [no, ifp] at hp

def blkSide (d : Dk) (p : Ptr) (s : Int) : Bool := d.ok && realB p && d.has p s
@[go_sem] def ctBlkSide : Ct := ⟨false, [[some .str, some .str, some .late]], fun args os => match args, os with
  | [.agg [.isl .str a, .isl .str b, .isl .late l], .agg [.val (.int .i64 pa), .val (.int .i64 ps), .val (.int .i64 pb)], .one (.val (.int .i64 s))], [] => ifp (Dk.mk a b l).small (vb (blkSide ⟨a, b, l⟩ ⟨pa, ps, pb⟩ s))
  | _, _ => no⟩
/-- A block, and what it is found to be. -/
def blkRead (d : Dk) (p : Ptr) : ByteArray × Int :=
  if p.at_ = 0 ∧ p.sum = 0 ∧ p.birth = 0 then (⟨#[]⟩, 1) else if d.ok && realB p then (if d.has p 0 then (d.text 0 p.at_, 0) else if d.has p 1 then (d.text 1 p.at_, 0) else (⟨#[]⟩, 2)) else (⟨#[]⟩, 2)
@[go_sem] def ctBlkRead : Ct := ⟨false, [[some .str, some .str, some .late]], fun args os => match args, os with
  | [.agg [.isl .str a, .isl .str b, .isl .late l], .agg [.val (.int .i64 pa), .val (.int .i64 ps), .val (.int .i64 pb)]], [] => ifp (Dk.mk a b l).small (.tup [vs (blkRead ⟨a, b, l⟩ ⟨pa, ps, pb⟩).1, vi (blkRead ⟨a, b, l⟩ ⟨pa, ps, pb⟩).2])
  | _, _ => no⟩
@[go_sem] def sgBr (a b : List ByteArray) (l : List Late) (pa ps pb : Int) (s : Nat) : Sg := ⟨[(2, .one (.ptr 0 0)), (3, .one (.ptr 1 0)), (16, vi s)], [some (.cells [.isl .str a, .isl .str b, .isl .late l]), some (.cells [.val (.int .i64 pa), .val (.int .i64 ps), .val (.int .i64 pb)])], []⟩
theorem same_ptr0 (pa ps pb : Int) : same (Ptr.mk pa ps pb) (Ptr.mk 0 0 0) = decide (pa = 0 ∧ ps = 0 ∧ pb = 0) := by
  rw [Bool.eq_iff_iff, same_true, decide_eq_true_eq, Ptr.mk.injEq]
/-- (*Disk).writeBoth: both sides, or none. -/
def Dk.may2 (d : Dk) (k : Int) (t : ByteArray) : Bool := decide (d.l.length ≤ 598) && d.may 0 k t
@[go_sem] def ctWriteBoth : Ct := ⟨true, [], fun args os => match args, os with
  | [.one (.ptr 0 0), .one (.val (.int .i64 k)), .one (.val (.string t))], [.cells [.osl .str 1 0 na, .osl .str 2 0 nb, .osl .late 3 0 nl], .arr .str a, .arr .str b, .arr .late l] =>
    if (Dk.mk a b l).may2 k t then ⟨(Dk.mk a b l).small ∧ na = a.length ∧ nb = b.length ∧ nl = l.length, vb true, [(0, some (.cells [.osl .str 1 0 na, .osl .str 2 0 nb, .osl .late 4 0 (nl + 2)])), (3, none)], [.arr .late (l ++ [⟨0, k, t⟩] ++ [⟨1, k, t⟩])]⟩
    else ⟨(Dk.mk a b l).small ∧ na = a.length ∧ nb = b.length ∧ nl = l.length, vb false, [], []⟩
  | _, _ => no⟩
theorem s_writeBoth_e : EnterOk Tryz.prog 182 := ⟨_, Tryz.func182, rfl, by decide⟩
@[go_sem] def s_writeBoth_lv : List (List Nat) := [[0, 1, 2], [0, 1, 2, 12], [6], [6]]
@[go_sem] noncomputable def s_writeBoth_K : Known := (Known.nil).cons 70 ctWrite s_write s_write_e
set_option maxHeartbeats 8000000 in
theorem s_writeBoth : Sound Tryz.prog 182 ctWriteBoth := by
  have ke := s_writeBoth_K.env []
  have kl : Lives s_writeBoth_lv := trivial
  refine sound_intro (E := ⟨ti, s_writeBoth_K.Γ, []⟩) ke Tryz.func182 Tryz.ntmps182 rfl (rs := [.tmp 6]) rfl ?_
  intro args os hp
  unfold ctWriteBoth at hp ⊢
  dsimp only at hp ⊢
  split at hp
  · rename_i k t na nb nl a b l
    refine ⟨by simp, fun φ0 w0 => ?_⟩
    have hp' : (Dk.mk a b l).small ∧ na = a.length ∧ nb = b.length ∧ nl = l.length := by
      by_cases h : (Dk.mk a b l).may2 k t = true
      · rw [if_pos h] at hp; exact hp
      · rw [if_neg h] at hp; exact hp
    obtain ⟨⟨h1, h2, h3⟩, rfl, rfl, rfl⟩ := hp'
    simp only at h1 h2 h3
    have hm : (Dk.mk a b l).may2 k t = (decide (l.length ≤ 598) && (Dk.mk a b l).may 0 k t) := rfl
    clear hp
    refine goh trivial ?_
    refine W_cnd ?_ ?_ <;> (try simp only [cnd_r]) <;> intro hc
    · have hm0 : (Dk.mk a b l).may2 k t = false := by
        rw [hm, Bool.and_eq_false_iff]; left; simp; omega
      refine goh trivial ?_
      exact finh [some 0, some 1, some 2, some 3] hm0
    · by_cases h0 : (Dk.mk a b l).may 0 k t = true
      · have hm0 : (Dk.mk a b l).may2 k t = true := by
          rw [hm, h0]; simp; omega
        have h00 : (Dk.mk a b (l ++ [⟨0, k, t⟩])).may 1 k t = true := by
          unfold Dk.may fits at h0 ⊢
          simp only [Bool.and_eq_true, decide_eq_true_eq, List.length_append, List.length_cons, List.length_nil] at h0 ⊢
          omega
        refine goh (And.intro h0 h00) ?_
        exact finh [some 0, some 1, some 2, some 3, some 5] hm0
      · have h0 : (Dk.mk a b l).may 0 k t = false := by simpa using h0
        have hm0 : (Dk.mk a b l).may2 k t = false := by rw [hm, h0, Bool.and_false]
        repeat' first
          | with_reducible refine red ?_
          | refine W_seq ?_
          | (refine W_reg (s_writeBoth_K.env [18, 19, 20, 21]) s_writeBoth_lv fun K' hK' => ?_
             simp only [go_sem, Dk.small, h0, ↓reduceIte, ↓reduceDIte, reduceCtorEq, Nat.reduceAdd, Nat.reduceMul, Nat.reduceSub, Nat.reduceDiv, Nat.reduceMod, Nat.reduceLT, Nat.reduceLeDiff, Nat.reduceEqDiff, Nat.reduceBEq, Int.reduceToNat, Int.reduceLE, Int.reduceLT, Int.reduceEq, Int.reduceNe, Int.reduceNeg]
             (repeat' refine And.intro ?_ ?_) <;> try first | with_reducible refine hK' ?_ | exact shut6)
          | with_reducible refine blockG_o (by decide) ?_
        exact finh [some 0, some 1, some 2, some 3] hm0
  · simp [no] at hp
end Go.Proofs.YtmnbgppmfbnamaaGreatDoor
/- Functions: blocks, written to both sides. -/
namespace Go.Proofs.YtmnbgppmfbnamaaGreatDoor
open Go.RowKit

def Dk.add2 (d : Dk) (k : Int) (t : ByteArray) : Dk := ⟨d.a, d.b, d.l ++ [⟨0, k, t⟩] ++ [⟨1, k, t⟩]⟩
def blkWrite (d : Dk) (k : Int) (t : ByteArray) : Dk := if d.ok then if d.may2 k t then d.add2 k t else d else .nil
def blkWrites (d : Dk) (k : Int) (t : ByteArray) : Bool := d.ok && d.may2 k t
@[go_sem] def ctBlkWrite : Ct := ⟨false, [[some .str, some .str, some .late]], fun args os => match args, os with
  | [.agg [.isl .str a, .isl .str b, .isl .late l], .one (.val (.int .i64 k)), .one (.val (.string t))], [] => ⟨(Dk.mk a b l).small, .tup [(blkWrite ⟨a, b, l⟩ k t).v 0, vb (blkWrites ⟨a, b, l⟩ k t)], [], (blkWrite ⟨a, b, l⟩ k t).objs⟩
  | _, _ => no⟩
theorem write_small (d : Dk) (s k : Int) (t : ByteArray) : (dkWrite d s k t).a.length ≤ d.a.length ∧ (dkWrite d s k t).b.length ≤ d.b.length ∧ (dkWrite d s k t).l.length ≤ d.l.length + 1 := by
  unfold dkWrite
  split
  · split
    · refine ⟨Nat.le_refl _, Nat.le_refl _, ?_⟩
      show (d.l ++ [_]).length ≤ _
      simp
    · exact ⟨Nat.le_refl _, Nat.le_refl _, by omega⟩
  · exact ⟨Nat.zero_le _, Nat.zero_le _, Nat.zero_le _⟩
theorem may2_one {d : Dk} (k : Int) (t : ByteArray) (h : d.may 0 k t = true) (hl : d.l.length ≤ 598) : (d.add 0 k t).may 1 k t = true := by
  rw [may_iff] at h ⊢
  have : (d.add 0 k t).l.length = d.l.length + 1 := by show (d.l ++ [_]).length = _; simp
  have h2 : (d.add 0 k t).a.length = d.a.length := rfl
  omega
theorem blkWrite_two {d : Dk} (h : d.ok = true) (k : Int) (t : ByteArray) (hl : d.l.length ≤ 598) :
    (dkWrites d 0 k t = true → dkWrite (dkWrite d 0 k t) 1 k t = blkWrite d k t ∧ dkWrites (dkWrite d 0 k t) 1 k t = true ∧ blkWrites d k t = true) ∧
    (dkWrites d 0 k t = false → dkWrite d 0 k t = blkWrite d k t ∧ blkWrites d k t = false) := by
  have e1 : dkWrites d 0 k t = d.may 0 k t := by unfold dkWrites; rw [h]; rfl
  have e2 : d.may2 k t = d.may 0 k t := by unfold Dk.may2; rw [decide_eq_true hl, Bool.true_and]
  have e3 : blkWrites d k t = d.may 0 k t := by unfold blkWrites; rw [h, e2]; rfl
  rw [e1, e3]
  constructor
  · intro hm
    have hx : dkWrite d 0 k t = d.add 0 k t := by unfold dkWrite; rw [if_pos h, if_pos hm]
    have hxo := Dk.add_ok h hm
    have hm1 := may2_one k t hm hl
    rw [hx]
    refine ⟨?_, by unfold dkWrites; rw [hxo, hm1]; rfl, hm⟩
    unfold dkWrite blkWrite
    rw [if_pos hxo, if_pos hm1, if_pos h, if_pos (e2.trans hm)]
    rfl
  · intro hm
    refine ⟨?_, hm⟩
    unfold dkWrite blkWrite
    rw [if_pos h, if_pos h, if_neg (by rw [hm]; simp), if_neg (by rw [e2, hm]; simp)]
theorem s_specBlkWrite_e : EnterOk Tryz.prog 163 := ⟨_, Tryz.func163, rfl, by decide⟩
@[go_sem] def s_specBlkWrite_lv : List (List Nat) := [[1, 2, 3, 6], [1, 2, 3, 6, 12], [6, 7], [1, 2, 3, 6, 17], [6, 7], [1, 2, 6, 8, 9], [1, 2, 6, 8, 28], [6, 7], [6, 7]]
@[go_sem] noncomputable def s_specBlkWrite_K : Known := (((Known.nil).cons 88 ctDiskOk s_specDiskOk s_specDiskOk_e).cons 91 ctOwn s_copy s_copy_e).cons 219 ctDiskWrite s_specWrite s_specWrite_e
set_option maxHeartbeats 8000000 in
theorem s_specBlkWrite : Sound Tryz.prog 163 ctBlkWrite := by
  have ke := s_specBlkWrite_K.env []
  have kl : Lives s_specBlkWrite_lv := trivial
  refine sound_intro (E := ⟨ti, s_specBlkWrite_K.Γ, []⟩) ke Tryz.func163 Tryz.ntmps163 rfl (rs := [.cell 6 36, .tmp 7]) rfl ?_
  intro args os hp
  unfold ctBlkWrite at hp ⊢
  dsimp only at hp ⊢
  split at hp
  · rename_i a b l k t
    refine ⟨by simp, fun φ0 w0 => ?_⟩
    obtain ⟨h1, h2, h3⟩ : a.length ≤ 4000000 ∧ b.length ≤ 4000000 ∧ l.length ≤ 4000000 := hp
    refine goh trivial ?_
    refine W_cnd ?_ ?_ <;> (try simp only [cnd_r]) <;> intro hok
    · have e1 : blkWrite ⟨a, b, l⟩ k t = .nil := by unfold blkWrite; rw [hok]; rfl
      have e2 : blkWrites ⟨a, b, l⟩ k t = false := by unfold blkWrites; rw [hok]; rfl
      refine goh trivial ?_
      refine ⟨by (simp only [go_sem, e1, e2, Dk.nil, ↓reduceIte, reduceCtorEq, Nat.reduceAdd, Nat.reduceLT, Nat.reduceLeDiff, Nat.reduceEqDiff]) <;> trivial, [none, none, none], ?_⟩
      all_goals try simp only [go_sem, e1, e2, Dk.nil, inj_r, ↓reduceIte, reduceCtorEq, Nat.reduceAdd, Nat.reduceLT, Nat.reduceLeDiff, Nat.reduceEqDiff, Int.reduceEq]
      all_goals (repeat' refine And.intro ?_ ?_) <;> try exact shut7
    · have e3 : a.length ≤ 120 ∧ b.length ≤ 120 ∧ l.length ≤ 600 := Dk.ok_small hok
      refine goh trivial ?_
      refine W_cnd ?_ ?_ <;> (try simp only [cnd_r]) <;> intro hl
      · have hm : (Dk.mk a b l).may2 k t = false := by
          unfold Dk.may2; rw [Bool.and_eq_false_iff]; left; simp; omega
        have e1 : blkWrite ⟨a, b, l⟩ k t = ⟨a, b, l⟩ := by unfold blkWrite; rw [if_pos hok, if_neg (by rw [hm]; simp)]
        have e2 : blkWrites ⟨a, b, l⟩ k t = false := by unfold blkWrites; rw [hm, Bool.and_false]
        refine goh trivial ?_
        exact finh [some 2, some 3, some 4] (And.intro e1 e2)
      · obtain ⟨q1, q2⟩ := blkWrite_two hok k t (show l.length ≤ 598 by omega)
        refine goh trivial ?_
        refine W_cnd ?_ ?_ <;> (try simp only [cnd_r]) <;> intro hw
        · obtain ⟨e1, e2⟩ := q2 hw
          refine goh trivial ?_
          exact finh [some 2, some 3, some 4] (And.intro e1 e2)
        · have hw : dkWrites ⟨a, b, l⟩ 0 k t = true := by simpa using hw
          obtain ⟨e1, e2, e4⟩ := q1 hw
          obtain ⟨x1, x2, x3⟩ : (dkWrite ⟨a, b, l⟩ 0 k t).a.length ≤ a.length ∧ (dkWrite ⟨a, b, l⟩ 0 k t).b.length ≤ b.length ∧ (dkWrite ⟨a, b, l⟩ 0 k t).l.length ≤ l.length + 1 := write_small ⟨a, b, l⟩ 0 k t
          refine goh trivial ?_
          exact finh [some 6, some 7, some 8] (And.intro e1 (And.intro e2 e4))
  · simp [no] at hp
end Go.Proofs.YtmnbgppmfbnamaaGreatDoor
