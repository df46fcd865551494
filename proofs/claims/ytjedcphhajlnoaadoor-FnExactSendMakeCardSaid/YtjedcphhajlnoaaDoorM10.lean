import Derived.Test.YtjedcphhajlnoaaDoorM7
import Derived.Test.YtjedcphhajlnoaaDoorM8
import Derived.Test.YtjedcphhajlnoaaDoorM9
set_option linter.unusedSimpArgs false
set_option linter.unusedVariables false
set_option linter.unusedSectionVars false
/- Functions: the blocks that differ. -/
namespace Go.Proofs.YtjedcphhajlnoaaDoor
open Go.RowKit

noncomputable def blkOf (xs : List BSet) (name : ByteArray) : Eight ByteArray := if same name ⟨#[]⟩ = true then Eight.rep ⟨#[]⟩ else if thereB xs name = true then (xs.getD (lowN xs name) ET.bset.dflt).blocks else Eight.rep ⟨#[]⟩
noncomputable def hasBlk (xs : List BSet) (name : ByteArray) : Bool := same name ⟨#[]⟩ || thereB xs name
@[go_sem] noncomputable def ctBlkOf : Ct := ⟨false, [[some .bset]], fun args os => match args, os with
  | [.agg [.isl .bset xs], .one (.val (.string name))], [] => ifp (xs.length ≤ 4000000 ∧ Sorted xs) (.tup [.agg ((S8.cells (blkOf xs name)).map .val), vb (hasBlk xs name)])
  | _, _ => no⟩
@[go_sem] noncomputable def ctBlks : Ct := ⟨false, [[some .bset]], fun args os => match args, os with
  | [.agg [.isl .bset xs], .one (.val (.string name))], [] => ifp (xs.length ≤ 4000000) (.tup [.agg ((S8.cells (blkOf xs name)).map .val), vb (hasBlk xs name)])
  | _, _ => no⟩
theorem s_blocksOf_e : EnterOk Tryd.prog 34 := ⟨_, Tryd.func34, rfl, by decide⟩
@[go_sem] def s_blocksOf_lv : List (List Nat) := [[1, 2, 4], [1, 2, 4, 9], [4, 5], [2, 4, 6, 7], [2, 4, 6, 18], [4, 5], [4, 5]]
@[go_sem] noncomputable def s_blocksOf_K : Known := (Known.nil).cons 20 ctPlace s_place s_place_e
set_option maxHeartbeats 8000000 in
theorem s_blocksOf : Sound Tryd.prog 34 ctBlkOf := by
  have ke := s_blocksOf_K.env []
  have kl : Lives s_blocksOf_lv := trivial
  refine sound_intro (E := ⟨ti, s_blocksOf_K.Γ, []⟩) ke Tryd.func34 Tryd.ntmps34 rfl (rs := [.cell 4 32, .tmp 5]) rfl ?_
  intro args os hp
  unfold ctBlkOf at hp ⊢
  dsimp only at hp ⊢
  split at hp
  · rename_i xs name
    refine ⟨by simp, fun φ0 w0 => ?_⟩
    obtain ⟨hlen, hso⟩ : xs.length ≤ 4000000 ∧ Sorted xs := hp
    refine goh trivial ?_
    refine W_cond _ (by exact rfl) (by exact trivial) ?_ ?_ <;> intro hn
    · have e1 : blkOf xs name = Eight.rep ⟨#[]⟩ := by unfold blkOf; rw [if_pos hn]
      have e2 : hasBlk xs name = true := by unfold hasBlk; rw [hn]; rfl
      refine goh trivial ?_
      exact finh [] (And.intro e1 e2)
    · have hn2 : ¬ same name ⟨#[]⟩ = true := by rw [hn]; decide
      have e2 : hasBlk xs name = thereB xs name := by unfold hasBlk; rw [hn]; rfl
      refine goh trivial ?_
      refine W_cond _ (by exact rfl) (by exact trivial) ?_ ?_ <;> intro ht
      · have ht2 : thereB xs name = false := by simpa using ht
        have e1 : blkOf xs name = Eight.rep ⟨#[]⟩ := by unfold blkOf; rw [if_neg hn2, if_neg (by rw [ht2]; decide)]
        refine goh trivial ?_
        exact finh [] (And.intro e1 (And.intro e2 ht2))
      · have ht2 : thereB xs name = true := by simpa using ht
        have hlow := (there_lt ht2).1
        have e1 : blkOf xs name = (xs.getD (lowN xs name) ET.bset.dflt).blocks := by unfold blkOf; rw [if_neg hn2, if_pos ht2]
        refine goh trivial ?_
        exact finh [] (And.intro e1 (And.intro e2 ht2))
  · simp [no, ifp] at hp
theorem s_l16Blocks_e : EnterOk Tryd.prog 28 := ⟨_, Tryd.func28, rfl, by decide⟩
@[go_sem] def s_l16Blocks_lv : List (List Nat) := [[1, 2, 4], [1, 2, 4, 6, 7], [2, 4, 6, 7, 15], [4, 5], [2, 4, 6, 18], [4, 5], [4, 5]]
@[go_sem] noncomputable def s_l16Blocks_K : Known := (Known.nil).cons 22 ctAt s_l4At s_l4At_e
set_option maxHeartbeats 8000000 in
theorem s_l16Blocks : Sound Tryd.prog 28 ctBlks := by
  have ke := s_l16Blocks_K.env []
  have kl : Lives s_l16Blocks_lv := trivial
  refine sound_intro (E := ⟨ti, s_l16Blocks_K.Γ, []⟩) ke Tryd.func28 Tryd.ntmps28 rfl (rs := [.cell 4 32, .tmp 5]) rfl ?_
  intro args os hp
  unfold ctBlks at hp ⊢
  dsimp only at hp ⊢
  split at hp
  · rename_i xs name
    refine ⟨by simp, fun φ0 w0 => ?_⟩
    have hlen : xs.length ≤ 4000000 := hp
    refine goh trivial ?_
    refine W_cond _ (by exact rfl) (by exact trivial) ?_ ?_ <;> intro hn
    · have e1 : blkOf xs name = Eight.rep ⟨#[]⟩ := by unfold blkOf; rw [if_pos hn]
      have e2 : hasBlk xs name = true := by unfold hasBlk; rw [hn]; rfl
      refine goh trivial ?_
      exact finh [] (And.intro e1 e2)
    · have hn2 : ¬ same name ⟨#[]⟩ = true := by rw [hn]; decide
      have e2 : hasBlk xs name = thereB xs name := by unfold hasBlk; rw [hn]; rfl
      refine goh trivial ?_
      refine W_cond _ (by exact rfl) (by exact trivial) ?_ ?_ <;> intro ht
      · have ht2 : thereB xs name = false := by simpa using ht
        have e1 : blkOf xs name = Eight.rep ⟨#[]⟩ := by unfold blkOf; rw [if_neg hn2, if_neg (by rw [ht2]; decide)]
        refine goh trivial ?_
        exact finh [] (And.intro e1 (And.intro e2 ht2))
      · have ht2 : thereB xs name = true := by simpa using ht
        have hlow := (there_lt ht2).1
        have e1 : blkOf xs name = (xs.getD (lowN xs name) ET.bset.dflt).blocks := by unfold blkOf; rw [if_neg hn2, if_pos ht2]
        refine goh trivial ?_
        exact finh [] (And.intro e1 (And.intro e2 ht2))
  · simp [no, ifp] at hp
def at8 (x : Eight ByteArray) : Nat → ByteArray
  | 0 => x.x0
  | 1 => x.x1
  | 2 => x.x2
  | 3 => x.x3
  | 4 => x.x4
  | 5 => x.x5
  | 6 => x.x6
  | _ => x.x7
/-- Which of the first n differ. -/
noncomputable def difN (x y : Eight ByteArray) : Nat → List Int
  | 0 => []
  | n + 1 => difN x y n ++ (if same (at8 x n) (at8 y n) = true then [] else [(n : Int)])
theorem dif_len (x y : Eight ByteArray) : ∀ n, (difN x y n).length ≤ n
  | 0 => Nat.le_refl _
  | n + 1 => by
    unfold difN
    have := dif_len x y n
    split <;> simp only [List.length_append, List.length_nil, List.length_singleton] <;> omega
noncomputable def sendDiff (xs : List BSet) (a b : ByteArray) : List Int := if bookB xs = true ∧ hasBlk xs a = true ∧ hasBlk xs b = true then difN (blkOf xs a) (blkOf xs b) 8 else []
theorem sendDiff_len (xs : List BSet) (a b : ByteArray) : (sendDiff xs a b).length ≤ 8 := by
  unfold sendDiff
  split
  · exact dif_len _ _ 8
  · exact Nat.zero_le _
@[go_sem] noncomputable def ctSendDiff : Ct := ⟨false, [[some .bset]], fun args os => match args, os with
  | [.agg [.isl .bset xs], .one (.val (.string a)), .one (.val (.string b))], [] => ⟨xs.length ≤ 4000000 ∧ ∀ i : Nat, (xs.getD i ET.bset.dflt).name.size ≤ 9223372036854775807, .one (.osl .int 0 0 (sendDiff xs a b).length), [], [.arr .int (sendDiff xs a b)]⟩
  | _, _ => no⟩
@[go_sem] noncomputable def sgSd (x y : Eight ByteArray) (zs : List Int) (i : Nat) : Sg := ⟨[(7, .one (.ptr 0 0)), (9, .one (.ptr 1 0)), (11, .one (.osl .int 2 0 zs.length)), (34, vi i)], [some (.cells ((S8.cells x).map .val)), some (.cells ((S8.cells y).map .val)), some (.arr .int zs)], []⟩
theorem s_sendDiff_e : EnterOk Tryd.prog 35 := ⟨_, Tryd.func35, rfl, by decide⟩
@[go_sem] def s_sendDiff_lv : List (List Nat) := [[1, 2, 3], [1, 2, 3, 15], [6], [2, 3, 7, 8], [7, 8, 9, 10], [7, 9, 33], [6], [7, 9, 11], [7, 9, 11, 34], [7, 9, 11, 34, 35], [7, 9, 11, 12, 34], [7, 9, 11, 12, 34, 43], [7, 9, 11, 34], [7, 9, 11, 34], [6]]
@[go_sem] noncomputable def s_sendDiff_K : Known := ((Known.nil).cons 19 ctBookOk s_bookOk s_bookOk_e).cons 34 ctBlkOf s_blocksOf s_blocksOf_e
set_option maxHeartbeats 8000000 in
theorem s_sendDiff : Sound Tryd.prog 35 ctSendDiff := by
  have ke := s_sendDiff_K.env []
  have kl : Lives s_sendDiff_lv := trivial
  refine sound_intro (E := ⟨ti, s_sendDiff_K.Γ, []⟩) ke Tryd.func35 Tryd.ntmps35 rfl (rs := [.tmp 6]) rfl ?_
  intro args os hp
  unfold ctSendDiff at hp ⊢
  dsimp only at hp ⊢
  split at hp
  · rename_i xs a b
    refine ⟨by simp, fun φ0 w0 => ?_⟩
    obtain ⟨hlen, hsz⟩ : xs.length ≤ 4000000 ∧ ∀ i : Nat, (xs.getD i ET.bset.dflt).name.size ≤ 9223372036854775807 := hp
    refine goh trivial ?_
    refine W_cond _ (by exact rfl) (by exact trivial) ?_ ?_ <;> intro hc
    · have e : sendDiff xs a b = [] := by
        unfold sendDiff
        rw [if_neg]
        rintro ⟨h1, -⟩
        rw [h1] at hc; cases hc
      refine goh trivial ?_
      exact finh [none] e
    · have hb : bookB xs = true := by simpa using hc
      have hso := book_sorted (bookB_true.1 hb)
      refine goh trivial ?_
      refine W_cond _ (by exact rfl) (by exact trivial) ?_ ?_ <;> intro hh
      · have e : sendDiff xs a b = [] := by
          unfold sendDiff
          rw [if_neg]
          rintro ⟨-, h1, h2⟩
          rw [h1, h2] at hh; simp at hh
        refine goh trivial ?_
        exact finh [none] e
      · have e : sendDiff xs a b = difN (blkOf xs a) (blkOf xs b) 8 := by
          unfold sendDiff
          rw [if_pos]
          refine ⟨hb, ?_⟩
          cases h1 : hasBlk xs a <;> cases h2 : hasBlk xs b <;> rw [h1, h2] at hh <;> simp at hh ⊢
        obtain ⟨x, hx⟩ : ∃ x, blkOf xs a = x := ⟨_, rfl⟩
        obtain ⟨y, hy⟩ : ∃ y, blkOf xs b = y := ⟨_, rfl⟩
        rw [hx, hy] at e
        rw [hx, hy]
        refine goh trivial ?_
        refine W_le (σ' := sgSd x y [] 0) [some 1, some 2, none] (by
          simp only [go_sem, inj_r, ↓reduceIte, reduceCtorEq, Nat.reduceAdd, Nat.reduceLT, Nat.reduceLeDiff, Nat.reduceEqDiff, Int.reduceEq]
          all_goals (repeat' refine And.intro ?_ ?_) <;> try exact shut7
          ) ?_
        refine W_loop (fun q σ => ∃ (i : Nat) (zs : List Int), i ≤ 8 ∧ q = 8 - i ∧ zs = difN x y i ∧ σ = sgSd x y zs i) 8 ⟨0, [], by omega, by omega, rfl, rfl⟩ ?_
        rintro q σ ⟨i, zs, hi, rfl, hz, rfl⟩
        have hzl : zs.length ≤ 8 := by have := dif_len x y i; rw [← hz] at this; omega
        unfold sgSd
        rcases (show i < 8 ∨ i = 8 by omega) with hi8 | hc8
        · rcases (show i = 0 ∨ i = 1 ∨ i = 2 ∨ i = 3 ∨ i = 4 ∨ i = 5 ∨ i = 6 ∨ i = 7 by omega) with hc8 | hc8 | hc8 | hc8 | hc8 | hc8 | hc8 | hc8
          all_goals
            refine goh hc8 ?_
            refine W_cnd ?_ ?_ <;> intro hlit <;> try (cases hlit; done)
            refine goh hc8 ?_
            refine W_cond _ (by exact rfl) (by exact trivial) ?_ ?_ <;> intro hs
            · have hs2 : same (at8 x i) (at8 y i) = false := by
                rw [hc8]
                simpa only [Bool.not_eq_true', at8] using hs
              have hd : difN x y (i + 1) = zs ++ [(i : Int)] := by
                unfold difN
                rw [← hz, if_neg (by rw [hs2]; decide)]
              refine goh hc8 ?_
              refine ⟨8 - (i + 1), [some 0, some 1, some 4], sgSd x y (zs ++ [(i : Int)]) (i + 1), by omega, ?_, i + 1, _, by omega, rfl, hd.symm, rfl⟩
              exact leh hc8
            · have hs2 : same (at8 x i) (at8 y i) = true := by
                rw [hc8]
                simpa only [Bool.not_eq_false', at8] using hs
              have hd : difN x y (i + 1) = zs := by
                unfold difN
                rw [← hz, if_pos hs2, List.append_nil]
              refine goh hc8 ?_
              refine ⟨8 - (i + 1), [some 0, some 1, some 2], sgSd x y zs (i + 1), by omega, ?_, i + 1, zs, by omega, rfl, hd.symm, rfl⟩
              exact leh hc8
        · have e3 : sendDiff xs a b = zs := by rw [e, hz, hc8]
          refine goh hc8 ?_
          refine W_cnd ?_ ?_ <;> intro hlit <;> try (cases hlit; done)
          refine goh trivial ?_
          exact finh [some 2] e3
  · simp [no] at hp
@[go_sem] noncomputable def sgSp (xs : List BSet) (x y : Eight ByteArray) (zs : List Int) (ok fine : Bool) (i : Nat) : Sg := ⟨[(3, .one (.ptr 0 0)), (7, .one (.osl .int 3 0 zs.length)), (8, .one (.ptr 1 0)), (9, vb ok), (10, .one (.ptr 2 0)), (11, vb fine), (12, vi i)],
  [some (.cells [.isl .bset xs]), some (.cells ((S8.cells x).map .val)), some (.cells ((S8.cells y).map .val)), some (.arr .int zs)], []⟩
theorem s_specSendDiff_e : EnterOk Tryd.prog 29 := ⟨_, Tryd.func29, rfl, by decide⟩
@[go_sem] def s_specSendDiff_lv : List (List Nat) := [[1, 2, 3], [1, 2, 3, 7], [2, 3, 7, 8, 9], [3, 7, 8, 9, 10, 11], [3, 7, 8, 9, 10, 11, 12], [3, 7, 8, 9, 10, 11, 12, 37], [3, 7, 8, 9, 10, 11, 12], [3, 7, 8, 9, 10, 11, 12, 46], [3, 7, 8, 9, 10, 11, 12], [6]]
@[go_sem] noncomputable def s_specSendDiff_K : Known := ((Known.nil).cons 28 ctBlks s_l16Blocks s_l16Blocks_e).cons 12 ctBookOk s_specBookOk s_specBookOk_e
set_option maxHeartbeats 8000000 in
theorem s_specSendDiff : Sound Tryd.prog 29 ctSendDiff := by
  have ke := s_specSendDiff_K.env []
  have kl : Lives s_specSendDiff_lv := trivial
  refine sound_intro (E := ⟨ti, s_specSendDiff_K.Γ, []⟩) ke Tryd.func29 Tryd.ntmps29 rfl (rs := [.tmp 6]) rfl ?_
  intro args os hp
  unfold ctSendDiff at hp ⊢
  dsimp only at hp ⊢
  split at hp
  · rename_i xs a b
    refine ⟨by simp, fun φ0 w0 => ?_⟩
    obtain ⟨hlen, hsz⟩ : xs.length ≤ 4000000 ∧ ∀ i : Nat, (xs.getD i ET.bset.dflt).name.size ≤ 9223372036854775807 := hp
    obtain ⟨x, hx⟩ : ∃ x, blkOf xs a = x := ⟨_, rfl⟩
    obtain ⟨y, hy⟩ : ∃ y, blkOf xs b = y := ⟨_, rfl⟩
    obtain ⟨ok, hok⟩ : ∃ o, hasBlk xs a = o := ⟨_, rfl⟩
    obtain ⟨fine, hfi⟩ : ∃ o, hasBlk xs b = o := ⟨_, rfl⟩
    obtain ⟨bk, hbk⟩ : ∃ o, bookB xs = o := ⟨_, rfl⟩
    refine goh (And.intro hx (And.intro hy (And.intro hok hfi))) ?_
    refine W_le (σ' := sgSp xs x y [] ok fine 0) [some 0, some 2, some 3, some 1] (by
      simp only [go_sem, inj_r, ↓reduceIte, reduceCtorEq, Nat.reduceAdd, Nat.reduceLT, Nat.reduceLeDiff, Nat.reduceEqDiff, Int.reduceEq]
      all_goals (repeat' refine And.intro ?_ ?_) <;> try exact shut7
      ) ?_
    by_cases hg : bk = true ∧ ok = true ∧ fine = true
    · obtain ⟨rfl, rfl, rfl⟩ := hg
      have e : sendDiff xs a b = difN x y 8 := by
        unfold sendDiff
        rw [if_pos ⟨hbk, hok, hfi⟩, hx, hy]
      refine W_loop (fun q σ => ∃ (i : Nat) (zs : List Int), i ≤ 8 ∧ q = 8 - i ∧ zs = difN x y i ∧ σ = sgSp xs x y zs true true i) 8 ⟨0, [], by omega, by omega, rfl, rfl⟩ ?_
      rintro q σ ⟨i, zs, hi, rfl, hz, rfl⟩
      have hzl : zs.length ≤ 8 := by have := dif_len x y i; rw [← hz] at this; omega
      unfold sgSp
      rcases (show i < 8 ∨ i = 8 by omega) with hi8 | hc8
      · rcases (show i = 0 ∨ i = 1 ∨ i = 2 ∨ i = 3 ∨ i = 4 ∨ i = 5 ∨ i = 6 ∨ i = 7 by omega) with hc8 | hc8 | hc8 | hc8 | hc8 | hc8 | hc8 | hc8
        all_goals
          refine goh (And.intro hc8 hbk) ?_
          refine W_cnd ?_ ?_ <;> intro hlit <;> try (cases hlit; done)
          refine goh hc8 ?_
          refine W_cond _ (by exact rfl) (by exact trivial) ?_ ?_ <;> intro hs
          · have hs2 : same (at8 x i) (at8 y i) = false := by
              rw [hc8]
              simpa only [Bool.not_eq_true', at8] using hs
            have hd : difN x y (i + 1) = zs ++ [(i : Int)] := by
              unfold difN
              rw [← hz, if_neg (by rw [hs2]; decide)]
            refine goh hc8 ?_
            refine ⟨8 - (i + 1), [some 0, some 1, some 2, some 5], sgSp xs x y (zs ++ [(i : Int)]) true true (i + 1), by omega, ?_, i + 1, _, by omega, rfl, hd.symm, rfl⟩
            exact leh hc8
          · have hs2 : same (at8 x i) (at8 y i) = true := by
              rw [hc8]
              simpa only [Bool.not_eq_false', at8] using hs
            have hd : difN x y (i + 1) = zs := by
              unfold difN
              rw [← hz, if_pos hs2, List.append_nil]
            refine goh hc8 ?_
            refine ⟨8 - (i + 1), [some 0, some 1, some 2, some 3], sgSp xs x y zs true true (i + 1), by omega, ?_, i + 1, zs, by omega, rfl, hd.symm, rfl⟩
            exact leh hc8
      · have e3 : sendDiff xs a b = zs := by rw [e, hz, hc8]
        refine goh (And.intro hc8 hbk) ?_
        refine W_cnd ?_ ?_ <;> intro hlit <;> try (cases hlit; done)
        refine goh trivial ?_
        exact finh [some 3] e3
    · have e : sendDiff xs a b = [] := by
        unfold sendDiff
        rw [if_neg]
        rw [hbk, hok, hfi]; exact hg
      refine W_loop (fun q σ => q = 0 ∧ σ = sgSp xs x y [] ok fine 0) 0 ⟨rfl, rfl⟩ ?_
      rintro q σ ⟨rfl, rfl⟩
      unfold sgSp
      cases bk <;> cases ok <;> cases fine <;> first | (exfalso; exact hg ⟨rfl, rfl, rfl⟩) | skip
      all_goals
        refine goh hbk ?_
        refine W_cnd ?_ ?_ <;> intro hlit <;> try (cases hlit; done)
        refine goh trivial ?_
        exact finh [some 3] e
  · simp [no] at hp
end Go.Proofs.YtjedcphhajlnoaaDoor
/- Functions: what is sent. -/
namespace Go.Proofs.YtjedcphhajlnoaaDoor
open Go.RowKit

/-- The blocks of a well formed book are short. -/
theorem blk_small {xs : List BSet} (h : bookB xs = true) (name : ByteArray) (k : Nat) : (at8 (blkOf xs name) k).size ≤ 24 := by
  have h0 : (at8 (Eight.rep (⟨#[]⟩ : ByteArray)) k).size ≤ 24 := by
    unfold at8 Eight.rep
    split <;> exact Nat.zero_le _
  unfold blkOf
  split
  · exact h0
  · split
    · rename_i ht
      have h1 := ((bookB_true.1 h).each _ (there_lt ht).1).small
      unfold big8 at h1
      simp only [List.any_cons, List.any_nil, Bool.or_false, Bool.or_eq_false_iff, long24, decide_eq_false_iff_not] at h1
      unfold at8
      split <;> omega
    · exact h0
theorem dif_in (x y : Eight ByteArray) : ∀ n, ∀ z ∈ difN x y n, 0 ≤ z ∧ z < (n : Int)
  | 0, z, h => by cases h
  | n + 1, z, h => by
    unfold difN at h
    rcases List.mem_append.1 h with h | h
    · have := dif_in x y n z h; omega
    · split at h
      · cases h
      · rw [List.mem_singleton] at h; omega
theorem sendDiff_in (xs : List BSet) (a b : ByteArray) {i : Nat} (hi : i < (sendDiff xs a b).length) : 0 ≤ (sendDiff xs a b).getD i ET.int.dflt ∧ (sendDiff xs a b).getD i ET.int.dflt < 8 := by
  have hm : (sendDiff xs a b).getD i ET.int.dflt ∈ sendDiff xs a b := by
    rw [List.getD_eq_getElem?_getD, List.getElem?_eq_getElem hi]; exact List.getElem_mem hi
  generalize (sendDiff xs a b).getD i ET.int.dflt = z at hm ⊢
  unfold sendDiff at hm
  split at hm
  · exact dif_in _ _ 8 z hm
  · cases hm
/-- The word of a block. -/
def wordV (y : Eight ByteArray) (z : Int) : ByteArray := ⟨#[32]⟩ ++ decS z ++ ⟨#[61]⟩ ++ hexV (at8 y z.toNat)
def sendN (y : Eight ByteArray) (zs : List Int) : Nat → ByteArray
  | 0 => ⟨#[115, 101, 110, 100]⟩
  | i + 1 => sendN y zs i ++ wordV y (zs.getD i ET.int.dflt)
theorem wordV_size {y : Eight ByteArray} (hy : ∀ k, (at8 y k).size ≤ 24) {z : Int} (h0 : 0 ≤ z) (h1 : z < 8) : (wordV y z).size ≤ 70 := by
  unfold wordV
  rw [ByteArray.size_append, ByteArray.size_append, ByteArray.size_append, hexV_size]
  have := hy z.toNat
  have := decS_size (n := z) (by omega) (by omega)
  have h1 : (⟨#[32]⟩ : ByteArray).size = 1 := rfl
  have h2 : (⟨#[61]⟩ : ByteArray).size = 1 := rfl
  omega
theorem sendN_size {y : Eight ByteArray} (hy : ∀ k, (at8 y k).size ≤ 24) {zs : List Int} (hz : ∀ i, i < zs.length → 0 ≤ zs.getD i ET.int.dflt ∧ zs.getD i ET.int.dflt < 8) : ∀ i, i ≤ zs.length → (sendN y zs i).size ≤ 4 + 70 * i
  | 0, _ => Nat.le_refl _
  | i + 1, h => by
    have h1 := sendN_size hy hz i (by omega)
    have h2 := wordV_size hy (hz i (by omega)).1 (hz i (by omega)).2
    unfold sendN; rw [ByteArray.size_append]; omega
noncomputable def sendV (xs : List BSet) (a b : ByteArray) : ByteArray :=
  if bookB xs = true ∧ hasBlk xs a = true ∧ hasBlk xs b = true then sealV (sendN (blkOf xs b) (sendDiff xs a b) (sendDiff xs a b).length) else ⟨#[]⟩
@[go_sem] noncomputable def ctSendMake : Ct := ⟨false, [[some .bset]], fun args os => match args, os with
  | [.agg [.isl .bset xs], .one (.val (.string a)), .one (.val (.string b))], [] => ifp (xs.length ≤ 4000000 ∧ ∀ i : Nat, (xs.getD i ET.bset.dflt).name.size ≤ 9223372036854775807) (vs (sendV xs a b))
  | _, _ => no⟩
theorem s_sendMake_e : EnterOk Tryd.prog 16 := ⟨_, Tryd.func16, rfl, by decide⟩
@[go_sem] def s_sendMake_lv : List (List Nat) := [[1, 2, 3], [1, 2, 3, 16], [6], [1, 2, 3, 8], [1, 2, 3, 8, 9, 10], [1, 2, 3, 9, 34], [6], [1, 2, 3, 9, 11], [9, 11, 38, 39, 40], [9, 11, 38, 39, 40, 41], [9, 11, 13, 38, 39, 40], [9, 11, 38, 39, 40], [9, 11, 38, 39, 40], [6]]
@[go_sem] noncomputable def s_sendMake_K : Known := ((((((Known.nil).cons 19 ctBookOk s_bookOk s_bookOk_e).cons 34 ctBlkOf s_blocksOf s_blocksOf_e).cons 35 ctSendDiff s_sendDiff s_sendDiff_e).cons 36 ctItoa s_itoa s_itoa_e).cons 37 ctHex s_hex s_hex_e).cons 38 ctSeal s_seal s_seal_e
set_option maxHeartbeats 8000000 in
theorem s_sendMake : Sound Tryd.prog 16 ctSendMake := by
  have ke := s_sendMake_K.env []
  have kl : Lives s_sendMake_lv := trivial
  refine sound_intro (E := ⟨ti, s_sendMake_K.Γ, []⟩) ke Tryd.func16 Tryd.ntmps16 rfl (rs := [.tmp 6]) rfl ?_
  intro args os hp
  unfold ctSendMake at hp ⊢
  dsimp only at hp ⊢
  split at hp
  · rename_i xs a b
    refine ⟨by simp, fun φ0 w0 => ?_⟩
    obtain ⟨hlen, hsz⟩ : xs.length ≤ 4000000 ∧ ∀ i : Nat, (xs.getD i ET.bset.dflt).name.size ≤ 9223372036854775807 := hp
    have hsm : xs.length ≤ 4000000 ∧ ∀ i : Nat, (xs.getD i ET.bset.dflt).name.size ≤ 9223372036854775807 := ⟨hlen, hsz⟩
    have nt : (!true) = false := rfl
    have nf : (!false) = true := rfl
    cases hb : bookB xs with
    | false =>
      have e : sendV xs a b = ⟨#[]⟩ := by unfold sendV; rw [if_neg (fun h => by rw [hb] at h; cases h.1)]
      refine goh (And.intro hsm (And.intro hb nf)) ?_
      refine W_cnd ?_ ?_ <;> intro hlit <;> try (cases hlit; done)
      refine goh trivial ?_
      exact finh [] e
    | true =>
      have hso := book_sorted (bookB_true.1 hb)
      obtain ⟨x, hx⟩ : ∃ x, blkOf xs a = x := ⟨_, rfl⟩
      obtain ⟨y, hy⟩ : ∃ y, blkOf xs b = y := ⟨_, rfl⟩
      obtain ⟨zs, hzs⟩ : ∃ z, sendDiff xs a b = z := ⟨_, rfl⟩
      have hys : ∀ k, (at8 y k).size ≤ 24 := fun k => by rw [← hy]; exact blk_small hb b k
      have hzi : ∀ i, i < zs.length → 0 ≤ zs.getD i ET.int.dflt ∧ zs.getD i ET.int.dflt < 8 := fun i hi => by rw [← hzs] at hi ⊢; exact sendDiff_in xs a b hi
      have hzl := sendDiff_len xs a b
      rw [hzs] at hzl
      have hns := sendN_size hys hzi
      have e : sendV xs a b = if hasBlk xs a = true ∧ hasBlk xs b = true then sealV (sendN y zs zs.length) else ⟨#[]⟩ := by unfold sendV; simp only [hb, true_and, hy, hzs]
      refine goh (And.intro hsm (And.intro hb nt)) ?_
      refine W_cnd ?_ ?_ <;> intro hlit <;> try (cases hlit; done)
      cases ha : hasBlk xs a <;> cases hc : hasBlk xs b
      case true.true =>
        rw [if_pos ⟨ha, hc⟩] at e
        refine goh (And.intro hsm (And.intro ha (And.intro hc (And.intro hso (And.intro hx (And.intro hy (And.intro hzs nt))))))) ?_
        refine W_cnd ?_ ?_ <;> intro hlit <;> try (cases hlit; done)
        refine goh (And.intro hsm hzs) ?_
        have e0 : sendN y zs 0 = ⟨#[115, 101, 110, 100]⟩ := rfl
        refine W_for zs.length (fun i => True) (fun i => ⟨[(9, .one (.ptr 1 0)), (11, vs (sendN y zs i)), (38, .one (.osl .int 2 0 zs.length)), (39, vi zs.length), (40, vi i)], [none, some (.cells ((S8.cells y).map .val)), some (.arr .int zs)], []⟩) [none, some 2, some 3] (leh e0) trivial fun i hi _ => ?_
        refine goh trivial ?_
        refine W_cnd ?_ ?_ <;> (try simp only [cnd_r]) <;> intro hlt
        · obtain ⟨z, hz⟩ : ∃ z, zs.getD i ET.int.dflt = z := ⟨_, rfl⟩
          have hz2 := hzi i (by omega)
          rw [hz] at hz2
          have hs : sendN y zs (i + 1) = sendN y zs i ++ wordV y z := by rw [← hz]; rfl
          have hso2 := hns i (by omega)
          have hd := decS_size (n := z) (by omega) (by omega)
          have h8 := hys z.toNat
          have h9 := hexV_size (at8 y z.toNat)
          have hc1 : (⟨#[32]⟩ : ByteArray).size = 1 := rfl
          have hc2 : (⟨#[61]⟩ : ByteArray).size = 1 := rfl
          unfold wordV at hs
          obtain ⟨hz0, hz7⟩ := hz2
          rcases (show z = 0 ∨ z = 1 ∨ z = 2 ∨ z = 3 ∨ z = 4 ∨ z = 5 ∨ z = 6 ∨ z = 7 by omega) with rfl | rfl | rfl | rfl | rfl | rfl | rfl | rfl
          all_goals
            simp only [Int.reduceToNat, at8] at h8 h9 hs
            refine goh hz ?_
            exact ⟨[none, some 1, some 2], by omega, leh hs, trivial⟩
        · obtain rfl : i = zs.length := by omega
          refine goh trivial ?_
          exact finh [] e
      all_goals
        rw [if_neg (fun h => by rw [ha, hc] at h; cases h.1 <;> cases h.2)] at e
        refine goh (And.intro hsm (And.intro ha (And.intro hc (And.intro hso (And.intro hx (And.intro hy (And.intro hzs (And.intro nt nf)))))))) ?_
        refine W_cnd ?_ ?_ <;> intro hlit <;> try (cases hlit; done)
        refine goh trivial ?_
        exact finh [] e
  · simp [no, ifp] at hp
theorem s_specSendMake_e : EnterOk Tryd.prog 14 := ⟨_, Tryd.func14, rfl, by decide⟩
@[go_sem] def s_specSendMake_lv : List (List Nat) := [[1, 2, 3], [1, 2, 3, 8], [1, 2, 3, 8, 9, 10], [1, 2, 3, 9, 36], [6], [9, 11], [9, 11, 12], [9, 11, 12, 13], [9, 11, 12, 13, 44], [9, 11, 12, 13], [9, 11, 12, 13], [6]]
@[go_sem] noncomputable def s_specSendMake_K : Known := ((((((Known.nil).cons 28 ctBlks s_l16Blocks s_l16Blocks_e).cons 12 ctBookOk s_specBookOk s_specBookOk_e).cons 29 ctSendDiff s_specSendDiff s_specSendDiff_e).cons 30 (ctDec 2) s_dec2 s_dec2_e).cons 31 ctHex s_specHex s_specHex_e).cons 32 ctSeal s_specSeal s_specSeal_e
set_option maxHeartbeats 8000000 in
theorem s_specSendMake : Sound Tryd.prog 14 ctSendMake := by
  have ke := s_specSendMake_K.env []
  have kl : Lives s_specSendMake_lv := trivial
  refine sound_intro (E := ⟨ti, s_specSendMake_K.Γ, []⟩) ke Tryd.func14 Tryd.ntmps14 rfl (rs := [.tmp 6]) rfl ?_
  intro args os hp
  unfold ctSendMake at hp ⊢
  dsimp only at hp ⊢
  split at hp
  · rename_i xs a b
    refine ⟨by simp, fun φ0 w0 => ?_⟩
    obtain ⟨hlen, hsz⟩ : xs.length ≤ 4000000 ∧ ∀ i : Nat, (xs.getD i ET.bset.dflt).name.size ≤ 9223372036854775807 := hp
    have hsm : xs.length ≤ 4000000 ∧ ∀ i : Nat, (xs.getD i ET.bset.dflt).name.size ≤ 9223372036854775807 := ⟨hlen, hsz⟩
    have nt : (!true) = false := rfl
    have htt : (True ∨ True) = True := or_self _
    have nf : (!false) = true := rfl
    obtain ⟨x, hx⟩ : ∃ x, blkOf xs a = x := ⟨_, rfl⟩
    obtain ⟨y, hy⟩ : ∃ y, blkOf xs b = y := ⟨_, rfl⟩
    obtain ⟨zs, hzs⟩ : ∃ z, sendDiff xs a b = z := ⟨_, rfl⟩
    have hzl := sendDiff_len xs a b
    rw [hzs] at hzl
    by_cases hg : bookB xs = true ∧ hasBlk xs a = true ∧ hasBlk xs b = true
    · obtain ⟨hb, ha, hc⟩ := hg
      have hys : ∀ k, (at8 y k).size ≤ 24 := fun k => by rw [← hy]; exact blk_small hb b k
      have hzi : ∀ i, i < zs.length → 0 ≤ zs.getD i ET.int.dflt ∧ zs.getD i ET.int.dflt < 8 := fun i hi => by rw [← hzs] at hi ⊢; exact sendDiff_in xs a b hi
      have hns := sendN_size hys hzi
      have e : sendV xs a b = sealV (sendN y zs zs.length) := by unfold sendV; rw [if_pos ⟨hb, ha, hc⟩, hy, hzs]
      refine goh (And.intro hsm (And.intro hb (And.intro ha (And.intro hc (And.intro hx (And.intro hy nt)))))) ?_
      refine W_cnd ?_ ?_ <;> intro hlit <;> try (cases hlit; done)
      refine goh (And.intro hsm hzs) ?_
      have e0 : sendN y zs 0 = ⟨#[115, 101, 110, 100]⟩ := rfl
      refine W_for zs.length (fun i => True) (fun i => ⟨[(9, .one (.ptr 0 0)), (11, .one (.osl .int 1 0 zs.length)), (12, vs (sendN y zs i)), (13, vi i)], [some (.cells ((S8.cells y).map .val)), some (.arr .int zs)], []⟩) [some 2, some 3] (leh e0) trivial fun i hi _ => ?_
      refine goh trivial ?_
      refine W_cnd ?_ ?_ <;> (try simp only [cnd_r]) <;> intro hlt
      · obtain ⟨z, hz⟩ : ∃ z, zs.getD i ET.int.dflt = z := ⟨_, rfl⟩
        have hz2 := hzi i (by omega)
        rw [hz] at hz2
        have hs : sendN y zs (i + 1) = sendN y zs i ++ wordV y z := by rw [← hz]; rfl
        have hso2 := hns i (by omega)
        have hd := decS_size (n := z) (by omega) (by omega)
        have h8 := hys z.toNat
        have h9 := hexV_size (at8 y z.toNat)
        have hc1 : (⟨#[32]⟩ : ByteArray).size = 1 := rfl
        have hc2 : (⟨#[61]⟩ : ByteArray).size = 1 := rfl
        unfold wordV at hs
        rw [← ByteArray.append_assoc, ← ByteArray.append_assoc, ← ByteArray.append_assoc] at hs
        obtain ⟨hz0, hz7⟩ := hz2
        rcases (show z = 0 ∨ z = 1 ∨ z = 2 ∨ z = 3 ∨ z = 4 ∨ z = 5 ∨ z = 6 ∨ z = 7 by omega) with rfl | rfl | rfl | rfl | rfl | rfl | rfl | rfl
        all_goals
          simp only [Int.reduceToNat, at8] at h8 h9 hs
          refine goh (And.intro hz htt) ?_
          exact ⟨[some 0, some 1], by omega, leh hs, trivial⟩
      · obtain rfl : i = zs.length := by omega
        refine goh trivial ?_
        exact finh [] e
    · have e : sendV xs a b = ⟨#[]⟩ := by unfold sendV; rw [if_neg hg]
      cases hb : bookB xs <;> cases ha : hasBlk xs a <;> cases hc : hasBlk xs b
      case true.true.true => exact absurd ⟨hb, ha, hc⟩ hg
      all_goals
        refine goh (And.intro hsm (And.intro hb (And.intro ha (And.intro hc (And.intro hx (And.intro hy (And.intro nt nf))))))) ?_
        refine W_cnd ?_ ?_ <;> intro hlit <;> try (cases hlit; done)
        refine goh trivial ?_
        exact finh [] e
  · simp [no, ifp] at hp
end Go.Proofs.YtjedcphhajlnoaaDoor
/- The exact law of SendMake. -/
namespace Go.Proofs.YtjedcphhajlnoaaDoor
open Go.RowKit

@[go_sem] def ctXMake : Ct := ⟨false, [[some .bset]], fun args os => match args, os with
  | [.agg [.isl .bset xs], .one (.val (.string a)), .one (.val (.string b))], [] => ifp (inB xs ∧ a.size ≤ 9223372036854775807 ∧ b.size ≤ 9223372036854775807) (vb true)
  | _, _ => no⟩
theorem s_xMake_e : EnterOk Tryd.prog 4 := ⟨_, Tryd.func4, rfl, by decide⟩
@[go_sem] def s_xMake_lv : List (List Nat) := [[1, 2, 3], [1, 2, 3, 13], [6], [1, 2, 3, 16], [6], [1, 2, 3, 7], [1, 2, 3, 7], [1, 2, 3, 21], [6], [1, 2, 3, 8], [1, 2, 3, 8, 9], [3, 8, 9, 10], [3, 9, 35], [6], [40], [6], [6]]
@[go_sem] noncomputable def s_xMake_K : Known := (((((Known.nil).cons 13 ctSzBook s_szBook s_szBook_e).cons 15 ctToBook s_toBook s_toBook_e).cons 14 ctSendMake s_specSendMake s_specSendMake_e).cons 16 ctSendMake s_sendMake s_sendMake_e).cons 17 ctEqBook s_eqBook s_eqBook_e
set_option maxHeartbeats 8000000 in
theorem s_xMake : Sound Tryd.prog 4 ctXMake := by
  have ke := s_xMake_K.env []
  have kl : Lives s_xMake_lv := trivial
  refine sound_intro (E := ⟨ti, s_xMake_K.Γ, []⟩) ke Tryd.func4 Tryd.ntmps4 rfl (rs := [.tmp 6]) rfl ?_
  intro args os hp
  unfold ctXMake at hp ⊢
  dsimp only at hp ⊢
  split at hp
  · rename_i xs a b
    refine ⟨by simp, fun φ0 w0 => ?_⟩
    obtain ⟨hin, hna, hnb⟩ : inB xs ∧ a.size ≤ 9223372036854775807 ∧ b.size ≤ 9223372036854775807 := hp
    have hsz : ∀ i : Nat, (xs.getD i ET.bset.dflt).name.size ≤ 9223372036854775807 := fun i => (hin.all i).name
    refine goh trivial ?_
    refine W_cnd ?_ ?_ <;> (try simp only [cnd_r]) <;> intro hg
    · refine goh trivial ?_
      exact finh [] trivial
    · refine goh trivial ?_
      refine W_cnd ?_ ?_ <;> (try simp only [cnd_r]) <;> intro hg2
      · refine goh trivial ?_
        exact finh [] trivial
      · refine goh trivial ?_
        refine W_cnd ?_ ?_ <;> (try simp only [cnd_r]) <;> intro hc
        · refine goh trivial ?_
          exact finh [] trivial
        · have hz := book_small (xs := xs) (n := 1048576) (by omega)
          have hsm : xs.length ≤ 4000000 ∧ ∀ i : Nat, (xs.getD i ET.bset.dflt).name.size ≤ 9223372036854775807 := ⟨by omega, hsz⟩
          obtain ⟨s, hs⟩ : ∃ s, sendV xs a b = s := ⟨_, rfl⟩
          have hself : same s s = true := same_true.2 rfl
          clear hc
          refine goh (And.intro hs (And.intro hsm hself)) ?_
          refine W_cnd ?_ ?_ <;> intro hlit <;> try (cases hlit; done)
          refine goh hs ?_
          refine W_cnd ?_ ?_ <;> intro hlit <;> try (cases hlit; done)
          refine goh trivial ?_
          exact finh [] trivial
  · simp [no, ifp] at hp
end Go.Proofs.YtjedcphhajlnoaaDoor
