import Derived.Test.YtjedcphhajlnoaaGreatDoorRows
import Derived.ProofKit
import Derived.OpenShut
import Derived.ShutString
import Derived.ChangeOld
import Derived.Below
import Derived.Test.YtjedcphhajlnoaaGreatDoorM4
import Derived.Test.YtjedcphhajlnoaaGreatDoorM5
import Derived.Test.YtjedcphhajlnoaaGreatDoorM6
import Derived.Test.YtjedcphhajlnoaaGreatDoorM8
import Derived.Test.YtjedcphhajlnoaaGreatDoorM9
import Derived.Test.YtjedcphhajlnoaaGreatDoorM10
import Derived.Test.YtjedcphhajlnoaaGreatDoorM11
import Derived.Test.YtjedcphhajlnoaaGreatDoorM13
import Derived.Test.YtjedcphhajlnoaaGreatDoorM14
set_option linter.unusedSimpArgs false
set_option linter.unusedVariables false
set_option linter.unusedSectionVars false
/- The exact law of PoolOk. -/
namespace Go.Proofs.YtjedcphhajlnoaaGreatDoor
open Go.RowKit

theorem Pl.inn.fit {a b : List ByteArray} {l : List Late} {x : Int} {cs : List CSet} {es : List Ent} {ps : List Ptr} {y : Bool} {zs : List Int} {u : Int} {o : Bool} (h : (Pl.mk ⟨a, b, l⟩ ⟨x, cs, es, ps, y, zs, u⟩ o).inn) {n : Int} (hn : n ≤ 1048576) (hs : 0 ≤ szW (Pl.mk ⟨a, b, l⟩ ⟨x, cs, es, ps, y, zs, u⟩ o).wt n) :
    (a.length ≤ 1048576 ∧ b.length ≤ 1048576 ∧ l.length ≤ 1048576) ∧ (cs.length ≤ 1048576 ∧ es.length ≤ 1048576 ∧ ps.length ≤ 1048576 ∧ zs.length ≤ 1048576) ∧ (Co.mk x cs es ps y zs u).fit := by
  have h1 := pool_small hs
  simp only at h1
  refine ⟨by omega, by omega, ⟨⟨by simp only; omega, by simp only; omega, by simp only; omega, by simp only; omega⟩, fun i => ?_⟩⟩
  obtain ⟨-, h2⟩ := h.core.sets
  exact ⟨(h2 i).1, (h2 i).2⟩
@[go_sem] def ctXPool : Ct := ⟨false, [[some .str, some .str, some .late, none, some .cset, some .ent, some .ptr, none, some .int, none, none]], fun args os => match args, os with
  | [.agg [.isl .str a, .isl .str b, .isl .late l, .val (.int .i64 x), .isl .cset cs, .isl .ent es, .isl .ptr ps, .val (.bool y), .isl .int zs, .val (.int .i64 u), .val (.bool o)]], [] =>
    ifp (Pl.mk ⟨a, b, l⟩ ⟨x, cs, es, ps, y, zs, u⟩ o).inn (vb true)
  | _, _ => no⟩
theorem s_xPoolOk_e : EnterOk Tryz.prog 3 := ⟨_, Tryz.func3, rfl, by decide⟩
@[go_sem] def s_xPoolOk_lv : List (List Nat) := [[1], [1, 3], [1, 3], [1, 11], [2], [1, 4], [1, 4, 5], [1, 4, 5, 6], [1, 5, 21], [2], [26], [2], [2]]
@[go_sem] noncomputable def s_xPoolOk_K : Known := (((((Known.nil).cons 13 ctSzPool s_szPool s_szPool_e).cons 15 ctToPool s_toPool s_toPool_e).cons 14 ctPoolOk s_specPoolOk s_specPoolOk_e).cons 16 ctPoolOk s_poolOk s_poolOk_e).cons 17 ctEqPool s_eqPool s_eqPool_e
set_option maxHeartbeats 8000000 in
theorem s_xPoolOk : Sound Tryz.prog 3 ctXPool := by
  have ke := s_xPoolOk_K.env []
  have kl : Lives s_xPoolOk_lv := trivial
  refine sound_intro (E := ⟨ti, s_xPoolOk_K.Γ, []⟩) ke Tryz.func3 Tryz.ntmps3 rfl (rs := [.tmp 2]) rfl ?_
  intro args os hp
  unfold ctXPool at hp ⊢
  dsimp only at hp ⊢
  split at hp
  · rename_i a b l x cs es ps y zs u o
    refine ⟨by simp, fun φ0 w0 => ?_⟩
    have hin : (Pl.mk ⟨a, b, l⟩ ⟨x, cs, es, ps, y, zs, u⟩ o).inn := hp
    have i1 := szW_in (Pl.mk ⟨a, b, l⟩ ⟨x, cs, es, ps, y, zs, u⟩ o).wt 1048576 (by decide)
    refine goh trivial ?_
    refine W_cnd ?_ ?_ <;> (try simp only [cnd_r]) <;> intro hc
    · refine goh trivial ?_
      exact finh [] trivial
    · obtain ⟨⟨q1, q2, q3⟩, ⟨q4, q5, q6, q7⟩, hfit⟩ := hin.fit (n := 1048576) (by decide) (by omega)
      obtain ⟨r, hr⟩ : ∃ r, poolB ⟨⟨a, b, l⟩, ⟨x, cs, es, ps, y, zs, u⟩, o⟩ = r := ⟨_, rfl⟩
      repeat' first
        | with_reducible refine red ?_
        | refine W_seq ?_
        | (refine W_reg (s_xPoolOk_K.env []) s_xPoolOk_lv fun K' hK' => ?_
           simp only [go_sem, Pl.small, hr, ↓reduceIte, ↓reduceDIte, reduceCtorEq, Nat.reduceAdd, Nat.reduceMul, Nat.reduceSub, Nat.reduceDiv, Nat.reduceMod, Nat.reduceLT, Nat.reduceLeDiff, Nat.reduceEqDiff, Nat.reduceBEq, Int.reduceToNat, Int.reduceLE, Int.reduceLT, Int.reduceEq, Int.reduceNe, Int.reduceNeg]
           (repeat' refine And.intro ?_ ?_) <;> try first | with_reducible refine hK' ?_ | exact shut6)
        | with_reducible refine blockG_o (by decide) ?_
      refine W_cnd ?_ ?_ <;> intro hlit <;> try (cases hlit; done)
      repeat' first
        | with_reducible refine red ?_
        | refine W_seq ?_
        | (refine W_reg (s_xPoolOk_K.env []) s_xPoolOk_lv fun K' hK' => ?_
           simp only [go_sem, Pl.small, ↓reduceIte, ↓reduceDIte, reduceCtorEq, Nat.reduceAdd, Nat.reduceMul, Nat.reduceSub, Nat.reduceDiv, Nat.reduceMod, Nat.reduceLT, Nat.reduceLeDiff, Nat.reduceEqDiff, Nat.reduceBEq, Int.reduceToNat, Int.reduceLE, Int.reduceLT, Int.reduceEq, Int.reduceNe, Int.reduceNeg]
           (repeat' refine And.intro ?_ ?_) <;> try first | with_reducible refine hK' ?_ | exact shut6)
        | with_reducible refine blockG_o (by decide) ?_
      refine W_cnd ?_ ?_ <;> intro hlit <;> try (cases hlit; done)
      refine goh trivial ?_
      exact finh [] trivial
  · simp [no, ifp] at hp
end Go.Proofs.YtjedcphhajlnoaaGreatDoor
/- Plain facts: the lists of the exact laws' answers are not long. -/
namespace Go.Proofs.YtjedcphhajlnoaaGreatDoor
open Go.RowKit

attribute [go_sem] markC_idem
def Pl.mid (p : Pl) : Prop := (p.disk.a.length ≤ 1100000 ∧ p.disk.b.length ≤ 1100000 ∧ p.disk.l.length ≤ 1100000) ∧ p.core.sets.length ≤ 1100000 ∧ p.core.ddt.length ≤ 1100000 ∧ p.core.parts.length ≤ 1100000 ∧ p.core.safe.length ≤ 1100000
theorem mid_nil : Pl.nil.mid := by simp [Pl.mid, Pl.nil, Dk.nil, Co.nil]
theorem mid_poolFall {p : Pl} (h : p.disk.a.length ≤ 1048576 ∧ p.disk.b.length ≤ 1048576 ∧ p.disk.l.length ≤ 1048576) (f : List Int) : (poolFall p f).mid := by
  unfold poolFall
  split
  · obtain ⟨h1, h2, h3⟩ := mid_fall h f
    exact ⟨⟨h1, h2, h3⟩, Nat.zero_le _, Nat.zero_le _, Nat.zero_le _, Nat.zero_le _⟩
  · exact mid_nil
theorem mid_poolRot {p : Pl} (h : p.core.sets.length ≤ 1048576 ∧ p.core.ddt.length ≤ 1048576 ∧ p.core.parts.length ≤ 1048576 ∧ p.core.safe.length ≤ 1048576) (s i k m : Int) : (poolRot p s i k m).mid := by
  unfold poolRot
  split
  · obtain ⟨h1, h2, h3⟩ := mid_rot (d := p.disk) s i k m
    exact ⟨⟨h1, h2, h3⟩, Nat.le_trans h.1 (by decide), Nat.le_trans h.2.1 (by decide), Nat.le_trans h.2.2.1 (by decide), Nat.le_trans h.2.2.2 (by decide)⟩
  · exact mid_nil
end Go.Proofs.YtjedcphhajlnoaaGreatDoor
/- Functions: a block of a store. -/
namespace Go.Proofs.YtjedcphhajlnoaaGreatDoor
open Go.RowKit

@[go_sem] def ctIsBlock : Ct := ⟨false, [], fun args os => match args, os with
  | [.one (.val (.int .i64 i))], [] => is (vb (decide (0 ≤ i) && decide (i ≤ 7)))
  | _, _ => no⟩
theorem s_isBlock_e : EnterOk Tryz.prog 76 := ⟨_, Tryz.func76, rfl, by decide⟩
@[go_sem] def s_isBlock_lv : List (List Nat) := [[0], [2]]
@[go_sem] noncomputable def s_isBlock_K : Known := (Known.nil).cons 89 ctWithin s_within s_within_e
set_option maxHeartbeats 8000000 in
theorem s_isBlock : Sound Tryz.prog 76 ctIsBlock := by
  have ke := s_isBlock_K.env []
  have kl : Lives s_isBlock_lv := trivial
  refine sound_intro (E := ⟨ti, s_isBlock_K.Γ, []⟩) ke Tryz.func76 Tryz.ntmps76 rfl (rs := [.tmp 2]) rfl ?_
  intro args os hp
  unfold ctIsBlock at hp ⊢
  dsimp only at hp ⊢
  split at hp
  · rename_i i
    refine ⟨by simp, fun φ0 w0 => ?_⟩
    refine goh trivial ?_
    exact finh [] trivial
  · simp [no, is] at hp
@[go_sem] noncomputable def ctGetName : Ct := ⟨true, [], fun args os => match args, os with
  | [.agg cs, .one (.ptr 0 0)], [.cells [.val (.string name)]] => (match csetOf cs with | some s => is (vb (same s.name name)) | none => no)
  | _, _ => no⟩
theorem s_getName_e : EnterOk Tryz.prog 78 := ⟨_, Tryz.func78, rfl, by decide⟩
@[go_sem] def s_getName_lv : List (List Nat) := [[1, 2], [3]]
@[go_sem] noncomputable def s_getName_K : Known := Known.nil
set_option maxHeartbeats 8000000 in
theorem s_getName : Sound Tryz.prog 78 ctGetName := by
  have ke := s_getName_K.env []
  have kl : Lives s_getName_lv := trivial
  refine sound_intro (E := ⟨ti, s_getName_K.Γ, []⟩) ke Tryz.func78 Tryz.ntmps78 rfl (rs := [.tmp 3]) rfl ?_
  intro args os hp
  unfold ctGetName at hp ⊢
  dsimp only at hp ⊢
  split at hp
  · rename_i cs name
    split at hp
    · rename_i s hs
      obtain rfl := csetOf_some hs
      clear hs
      refine ⟨by simp, fun φ0 w0 => ?_⟩
      refine goh trivial ?_
      exact finh [some 0] trivial
    · simp [no] at hp
  · simp [no] at hp
noncomputable def atC (cs : List CSet) (name : ByteArray) : Int := firstAt (fun s => same s.name name) cs
@[go_sem] noncomputable def ctIxName : Ct := ⟨true, [[some .cset]], fun args os => match args, os with
  | [.one (.isl .cset xs), .one (.fn 78 [(0, 0)])], [.cells [.val (.string name)]] => ifp (xs.length ≤ 4000000) (vi (atC xs name))
  | _, _ => no⟩
theorem s_ixName_e : EnterOk Tryz.prog 77 := ⟨_, Tryz.func77, rfl, by decide⟩
@[go_sem] def s_ixName_lv : List (List Nat) := [[0, 1], [0, 1, 7, 8], [0, 1, 7, 8, 9], [0, 1, 5, 7, 8], [0, 1, 5, 7, 8, 16], [4], [0, 1, 7, 8], [4]]
@[go_sem] noncomputable def s_ixName_K : Known := (Known.nil).cons 78 ctGetName s_getName s_getName_e
set_option maxHeartbeats 8000000 in
theorem s_ixName : Sound Tryz.prog 77 ctIxName := by
  have ke := s_ixName_K.env []
  have kl : Lives s_ixName_lv := trivial
  refine sound_intro (E := ⟨ti, s_ixName_K.Γ, []⟩) ke Tryz.func77 Tryz.ntmps77 rfl (rs := [.tmp 4]) rfl ?_
  intro args os hp
  unfold ctIxName at hp ⊢
  dsimp only at hp ⊢
  split at hp
  · rename_i xs name
    refine ⟨by simp, fun φ0 w0 => ?_⟩
    have hlen : xs.length ≤ 4000000 := hp
    refine goh trivial ?_
    refine W_for xs.length (fun i => ∀ j, j < i → same (xs.getD j ET.cset.dflt).name name = false) (fun i => ⟨[(8, vi i), (7, vi xs.length), (0, .one (.isl .cset xs)), (1, .one (.fn 78 [(0, 0)]))], [some (.cells [.val (.string name)])], []⟩) [some 0] (leh trivial) (by omega) fun i hi hb => ?_
    refine goh trivial ?_
    refine W_cnd ?_ ?_ <;> (try simp only [cnd_r]) <;> intro hlt
    · refine goh trivial ?_
      refine W_cond _ (by exact rfl) (by exact trivial) ?_ ?_ <;> intro hl
      · have e : atC xs name = i := firstAt_some (d := ET.cset.dflt) (by omega) hb hl
        refine goh trivial ?_
        exact finh [some 0] e
      · refine goh trivial ?_
        exact ⟨[some 0], by omega, leh trivial, fun j hj => by
          rcases Nat.lt_succ_iff_lt_or_eq.1 hj with h | rfl
          · first | exact hb j h | exact same_false.1 (hb j h)
          · first | exact hl | exact same_false.1 hl⟩
    · have e : atC xs name = -1 := firstAt_none (d := ET.cset.dflt) fun j hj => hb j (by omega)
      refine goh trivial ?_
      exact finh [some 0] e
  · simp [no, ifp] at hp
theorem atC_frame (cs : List CSet) (name : ByteArray) : atB (frameOf cs) name = atC cs name := by
  unfold atB atC firstAt frameOf
  rw [List.findIdx?_map]
  rfl
theorem atC_lt (xs : List CSet) (name : ByteArray) : atC xs name < xs.length := by
  have h := atB_lt (frameOf xs) name
  rw [atC_frame, frame_len] at h
  exact h
/-- What is read of a store. -/
noncomputable def poolGet (p : Pl) (name : ByteArray) (i : Int) : ByteArray × Int :=
  if poolB p = true ∧ 0 ≤ i ∧ i ≤ 7 then
    if p.up = true then
      if thereB (frameOf p.core.sets) name = true then
        if (blkRead p.disk ((p.core.sets.getD (lowN (frameOf p.core.sets) name) ET.cset.dflt).map.get i.toNat)).2 = 2 then (⟨#[]⟩, 8)
        else ((blkRead p.disk ((p.core.sets.getD (lowN (frameOf p.core.sets) name) ET.cset.dflt).map.get i.toNat)).1, 0)
      else (⟨#[]⟩, 1)
    else (⟨#[]⟩, 9)
  else (⟨#[]⟩, 5)
@[go_sem] noncomputable def ctPoolGet : Ct := ⟨false, [[some .str, some .str, some .late, none, some .cset, some .ent, some .ptr, none, some .int, none, none]], fun args os => match args, os with
  | [.agg [.isl .str a, .isl .str b, .isl .late l, .val (.int .i64 txg), .isl .cset cs, .isl .ent es, .isl .ptr ps, .val (.bool dirty), .isl .int zs, .val (.int .i64 logn), .val (.bool up)], .one (.val (.string name)), .one (.val (.int .i64 i))], [] => ifp ((Dk.mk a b l).small ∧ (Co.mk txg cs es ps dirty zs logn).fit) (.tup [vs (poolGet ⟨⟨a, b, l⟩, ⟨txg, cs, es, ps, dirty, zs, logn⟩, up⟩ name i).1, vi (poolGet ⟨⟨a, b, l⟩, ⟨txg, cs, es, ps, dirty, zs, logn⟩, up⟩ name i).2])
  | _, _ => no⟩
theorem poolB_parts {p : Pl} (h : poolB p = true) : p.disk.ok = true ∧ 13 < p.disk.a.length ∧ CoreP p.core := by
  unfold poolB at h
  simp only [Bool.and_eq_true, decide_eq_true_eq] at h
  exact ⟨h.1, h.2.1, Co.ok_true.1 h.2.2⟩
theorem s_poolGet_e : EnterOk Tryz.prog 19 := ⟨_, Tryz.func19, rfl, by decide⟩
@[go_sem] def s_poolGet_lv : List (List Nat) := [[2, 3, 4], [2, 3, 4, 11], [6, 7], [2, 3, 4, 20], [6, 7], [2, 3, 8], [2, 3, 8, 30], [6, 7], [9, 10], [9, 47], [6, 7], [6, 7]]
@[go_sem] noncomputable def s_poolGet_K : Known := (((((Known.nil).cons 16 ctPoolOk s_poolOk s_poolOk_e).cons 76 ctIsBlock s_isBlock s_isBlock_e).cons 77 ctIxName s_ixName s_ixName_e).cons 29 ctBlkRead s_blkRead s_blkRead_e).cons 78 ctGetName s_getName s_getName_e
set_option maxHeartbeats 8000000 in
theorem s_poolGet : Sound Tryz.prog 19 ctPoolGet := by
  have ke := s_poolGet_K.env []
  have kl : Lives s_poolGet_lv := trivial
  refine sound_intro (E := ⟨ti, s_poolGet_K.Γ, []⟩) ke Tryz.func19 Tryz.ntmps19 rfl (rs := [.tmp 6, .tmp 7]) rfl ?_
  intro args os hp
  unfold ctPoolGet at hp ⊢
  dsimp only at hp ⊢
  split at hp
  · rename_i a b l txg cs es ps dirty zs logn up name i
    refine ⟨by simp, fun φ0 w0 => ?_⟩
    obtain ⟨⟨h1, h2, h3⟩, hf⟩ : (Dk.mk a b l).small ∧ (Co.mk txg cs es ps dirty zs logn).fit := hp
    have hlen := hf.small.1
    simp only at hlen
    have hd := poolGet.eq_1 ⟨⟨a, b, l⟩, ⟨txg, cs, es, ps, dirty, zs, logn⟩, up⟩ name i
    simp only at hd
    refine goh trivial ?_
    refine W_cnd ?_ ?_ <;> (try simp only [cnd_r]) <;> intro hc
    · rw [if_neg (by rintro ⟨g1, g2, g3⟩; rcases hc with hc | hc | hc; (rw [g1] at hc; cases hc); exact hc g2; exact hc g3)] at hd
      refine goh trivial ?_
      exact finh [] hd
    · have hok : poolB ⟨⟨a, b, l⟩, ⟨txg, cs, es, ps, dirty, zs, logn⟩, up⟩ = true := by simpa using hc.1
      rw [if_pos ⟨hok, hc.2.1, hc.2.2⟩] at hd
      obtain ⟨hdk, -, hC⟩ := poolB_parts hok
      have hso := book_sorted (bookB_true.1 hC.book)
      simp only at hso
      refine goh trivial ?_
      refine W_cnd ?_ ?_ <;> (try simp only [cnd_r]) <;> intro hu
      · rw [if_neg (by rw [hu]; decide)] at hd
        refine goh trivial ?_
        exact finh [] hd
      · rw [if_pos hu] at hd
        obtain ⟨l1, l2⟩ := at_low hso name
        rw [atC_frame] at l1 l2
        have hcl := atC_lt cs name
        have hfl := frame_len cs
        cases ht : thereB (frameOf cs) name with
        | false =>
          have h0 := l2 ht
          rw [ht, if_neg (by decide)] at hd
          refine goh trivial ?_
          refine W_cnd ?_ ?_ <;> (try simp only [cnd_r]) <;> intro hk
          · refine goh trivial ?_
            exact finh [] hd
          · omega
        | true =>
          have h0 := l1 ht
          rw [ht, if_pos rfl] at hd
          have hlow := (there_lt ht).1
          rw [hfl] at hlow
          obtain ⟨k, hk⟩ : ∃ k, lowN (frameOf cs) name = k := ⟨_, rfl⟩
          rw [hk] at h0 hd hlow
          obtain ⟨j, rfl⟩ : ∃ j : Nat, i = j := ⟨i.toNat, by omega⟩
          rw [Int.toNat_natCast] at hd
          have hj8 : j < 8 := by omega
          refine goh h0 ?_
          refine W_cnd ?_ ?_ <;> (try simp only [cnd_r]) <;> intro hneg
          · omega
          · rcases (show j = 0 ∨ j = 1 ∨ j = 2 ∨ j = 3 ∨ j = 4 ∨ j = 5 ∨ j = 6 ∨ j = 7 by omega) with hc8 | hc8 | hc8 | hc8 | hc8 | hc8 | hc8 | hc8
            all_goals
              subst hc8
              simp only [Eight.get, Int.cast_ofNat_Int] at hd
              refine goh h0 ?_
              refine W_cnd ?_ ?_ <;> (try simp only [cnd_r]) <;> intro hbad
              · rw [if_pos hbad] at hd
                refine goh trivial ?_
                exact finh [] hd
              · simp only [beq_eq_false_iff_ne, ne_eq] at hbad
                rw [if_neg hbad] at hd
                refine goh trivial ?_
                exact finh [] hd
  · simp [no, ifp] at hp
theorem s_specPoolGet_e : EnterOk Tryz.prog 18 := ⟨_, Tryz.func18, rfl, by decide⟩
@[go_sem] def s_specPoolGet_lv : List (List Nat) := [[1, 2, 3], [1, 2, 3, 12], [6, 7], [1, 2, 3, 24], [6, 7], [2, 3, 8, 9], [2, 3, 8, 37], [6, 7], [10, 11], [10, 54], [6, 7], [6, 7]]
@[go_sem] noncomputable def s_specPoolGet_K : Known := ((((Known.nil).cons 14 ctPoolOk s_specPoolOk s_specPoolOk_e).cons 74 ctFrame s_l6Names s_l6Names_e).cons 73 ctAt s_l4At s_l4At_e).cons 75 ctBlkRead s_specBlkRead s_specBlkRead_e
set_option maxHeartbeats 8000000 in
theorem s_specPoolGet : Sound Tryz.prog 18 ctPoolGet := by
  have ke := s_specPoolGet_K.env []
  have kl : Lives s_specPoolGet_lv := trivial
  refine sound_intro (E := ⟨ti, s_specPoolGet_K.Γ, []⟩) ke Tryz.func18 Tryz.ntmps18 rfl (rs := [.tmp 6, .tmp 7]) rfl ?_
  intro args os hp
  unfold ctPoolGet at hp ⊢
  dsimp only at hp ⊢
  split at hp
  · rename_i a b l txg cs es ps dirty zs logn up name i
    refine ⟨by simp, fun φ0 w0 => ?_⟩
    obtain ⟨⟨h1, h2, h3⟩, hf⟩ : (Dk.mk a b l).small ∧ (Co.mk txg cs es ps dirty zs logn).fit := hp
    have hlen := hf.small.1
    simp only at hlen
    have hfl := frame_len cs
    have hd := poolGet.eq_1 ⟨⟨a, b, l⟩, ⟨txg, cs, es, ps, dirty, zs, logn⟩, up⟩ name i
    simp only at hd
    refine goh trivial ?_
    refine W_cnd ?_ ?_ <;> (try simp only [cnd_r]) <;> intro hc
    · rw [if_neg (by rintro ⟨g1, g2, g3⟩; rcases hc with (hc | hc) | hc; (rw [g1] at hc; cases hc); omega; omega)] at hd
      refine goh trivial ?_
      exact finh [] hd
    · have hok : poolB ⟨⟨a, b, l⟩, ⟨txg, cs, es, ps, dirty, zs, logn⟩, up⟩ = true := by simpa using hc.1.1
      rw [if_pos ⟨hok, by omega, by omega⟩] at hd
      refine goh trivial ?_
      refine W_cnd ?_ ?_ <;> (try simp only [cnd_r]) <;> intro hu
      · rw [if_neg (by rw [hu]; decide)] at hd
        refine goh trivial ?_
        exact finh [] hd
      · rw [if_pos hu] at hd
        cases ht : thereB (frameOf cs) name with
        | false =>
          rw [ht, if_neg (by decide)] at hd
          refine goh ht ?_
          refine W_cnd ?_ ?_ <;> intro hlit <;> try (cases hlit; done)
          refine goh trivial ?_
          exact finh [] hd
        | true =>
          rw [ht, if_pos rfl] at hd
          have hlow := (there_lt ht).1
          rw [hfl] at hlow
          obtain ⟨j, rfl⟩ : ∃ j : Nat, i = j := ⟨i.toNat, by omega⟩
          rw [Int.toNat_natCast] at hd
          have hj8 : j < 8 := by omega
          refine goh ht ?_
          refine W_cnd ?_ ?_ <;> intro hlit <;> try (cases hlit; done)
          rcases (show j = 0 ∨ j = 1 ∨ j = 2 ∨ j = 3 ∨ j = 4 ∨ j = 5 ∨ j = 6 ∨ j = 7 by omega) with hc8 | hc8 | hc8 | hc8 | hc8 | hc8 | hc8 | hc8
          all_goals
            subst hc8
            simp only [Eight.get, Int.cast_ofNat_Int] at hd
            refine goh trivial ?_
            refine W_cnd ?_ ?_ <;> (try simp only [cnd_r]) <;> intro hbad
            · rw [if_pos hbad] at hd
              refine goh trivial ?_
              exact finh [] hd
            · simp only [beq_eq_false_iff_ne, ne_eq] at hbad
              rw [if_neg hbad] at hd
              refine goh trivial ?_
              exact finh [] hd
  · simp [no, ifp] at hp
end Go.Proofs.YtjedcphhajlnoaaGreatDoor
/- Functions: a store's writes performed. -/
namespace Go.Proofs.YtjedcphhajlnoaaGreatDoor
open Go.RowKit

/-- The writes of a store's own disk are performed. -/
@[go_sem] def ctFlushP : Ct := ⟨true, [], fun args os => match args, os with
  | [.one (.ptr 0 0)], [.cells [.osl .str 1 0 na, .osl .str 2 0 nb, .osl .late 3 0 nl, .val (.int .i64 x), .osl .cset 4 0 n1, .osl .ent 5 0 n2, .osl .ptr 6 0 n3, .val (.bool y), .osl .int 7 0 n4, .val (.int .i64 u), .val (.bool o)], .arr .str a, .arr .str b, .arr .late l, .arr .cset cs, .arr .ent es, .arr .ptr ps, .arr .int zs] =>
    ⟨(Dk.mk a b l).ok = true ∧ na = a.length ∧ nb = b.length ∧ nl = l.length, .tup [], [(0, some (.cells [.osl .str 1 0 na, .osl .str 2 0 nb, .val (.slice none 0 0), .val (.int .i64 x), .osl .cset 4 0 n1, .osl .ent 5 0 n2, .osl .ptr 6 0 n3, .val (.bool y), .osl .int 7 0 n4, .val (.int .i64 u), .val (.bool o)])), (1, some (.arr .str (Dk.mk a b l).flushed.a)), (2, some (.arr .str (Dk.mk a b l).flushed.b))], []⟩
  | _, _ => no⟩
theorem s_flushP_e : EnterOk Tryz.prog 105 := ⟨_, Tryz.func105, rfl, by decide⟩
@[go_sem] def s_flushP_lv : List (List Nat) := [[0, 7, 8, 9], [0, 7, 8, 9, 10], [0, 3, 7, 8, 9], [0, 7, 8, 9], [0, 7, 8, 9], []]
@[go_sem] noncomputable def s_flushP_K : Known := Known.nil
set_option maxHeartbeats 8000000 in
theorem s_flushP : Sound Tryz.prog 105 ctFlushP := by
  have ke := s_flushP_K.env []
  have kl : Lives s_flushP_lv := trivial
  refine sound_intro (E := ⟨ti, s_flushP_K.Γ, []⟩) ke Tryz.func105 Tryz.ntmps105 rfl (rs := []) rfl ?_
  intro args os hp
  unfold ctFlushP at hp ⊢
  dsimp only at hp ⊢
  split at hp
  · rename_i na nb nl x n1 n2 n3 y n4 u o a b l cs es ps zs
    refine ⟨by simp, fun φ0 w0 => ?_⟩
    obtain ⟨hok, rfl, rfl, rfl⟩ : (Dk.mk a b l).ok = true ∧ na = a.length ∧ nb = b.length ∧ nl = l.length := hp
    have e3 : a.length ≤ 120 ∧ b.length ≤ 120 ∧ l.length ≤ 600 := Dk.ok_small hok
    have hz := Dk.done_zero (Dk.mk a b l)
    refine goh trivial ?_
    refine W_for l.length (fun i => True) (fun i => ⟨[(0, .one (.ptr 0 0)), (7, .one (.osl .late 3 0 l.length)), (8, vi l.length), (9, vi i)],
      [some (.cells [.osl .str 1 0 ((Dk.mk a b l).done i).1.length, .osl .str 2 0 ((Dk.mk a b l).done i).2.length, .osl .late 3 0 l.length, .val (.int .i64 x), .osl .cset 4 0 n1, .osl .ent 5 0 n2, .osl .ptr 6 0 n3, .val (.bool y), .osl .int 7 0 n4, .val (.int .i64 u), .val (.bool o)]), some (.arr .str ((Dk.mk a b l).done i).1), some (.arr .str ((Dk.mk a b l).done i).2), some (.arr .late l), some (.arr .cset cs), some (.arr .ent es), some (.arr .ptr ps), some (.arr .int zs)], [0, 1, 2]⟩) [some 0, some 1, some 2, some 3, some 4, some 5, some 6, some 7] (leh hz) trivial fun i hi _ => ?_
    obtain ⟨hl1, hl2⟩ := (Dk.mk a b l).done_len i
    simp only at hl1 hl2
    refine goh trivial ?_
    refine W_cnd ?_ ?_ <;> (try simp only [cnd_r]) <;> intro hlt
    · have hi' : i < l.length := by omega
      obtain ⟨ws, w1, w2, w3⟩ := Dk.ok_late hok i hi'
      have hd := (Dk.mk a b l).done_succ i hi'
      obtain ⟨-, -, hab, -⟩ := (Dk.ok_iff _).1 hok
      simp only at ws w1 w2 w3 hd hab
      generalize hx : (Dk.mk a b l).done i = x at *
      generalize hw : l.getD i ET.late.dflt = w at *
      obtain ⟨s, k, t⟩ := w
      simp only at ws w1 w2 w3
      rcases ws with rfl | rfl
      all_goals
        refine goh hw ?_
        refine ⟨[some 0, some 1, some 2, some 3, some 4, some 5, some 6, some 7], by omega, ?_, trivial⟩
        rw [hd]
        simp only [go_sem, putW, List.length_set, inj_r, ↓reduceIte, reduceCtorEq, Nat.reduceAdd, Nat.reduceLT, Nat.reduceLeDiff, Nat.reduceEqDiff, Int.reduceEq]
        all_goals (repeat' refine And.intro ?_ ?_) <;> try exact shut7
    · have : i = l.length := by omega
      subst this
      have e4 : (Dk.mk a b l).flushed = ⟨((Dk.mk a b l).done l.length).1, ((Dk.mk a b l).done l.length).2, []⟩ := rfl
      refine goh trivial ?_
      exact finh [some 0, some 1, some 2, some 3, some 4, some 5, some 6, some 7] e4
  · simp [no] at hp
theorem poolB_disk {p : Pl} (h : poolB p = true) : p.disk.ok = true := (poolB_parts h).1
theorem Dk.flushed_len (d : Dk) : d.flushed.a.length = d.a.length ∧ d.flushed.b.length = d.b.length ∧ d.flushed.l = [] := ⟨(d.done_len d.l.length).1, (d.done_len d.l.length).2, rfl⟩
noncomputable def poolSync (p : Pl) : Pl := if poolB p = true then if p.up = true then ⟨p.disk.flushed, p.core, p.up⟩ else p else .nil
@[go_sem] noncomputable def ctPoolSync : Ct := ⟨false, [[some .str, some .str, some .late, none, some .cset, some .ent, some .ptr, none, some .int, none, none]], fun args os => match args, os with
  | [.agg [.isl .str a, .isl .str b, .isl .late l, .val (.int .i64 x), .isl .cset cs, .isl .ent es, .isl .ptr ps, .val (.bool y), .isl .int zs, .val (.int .i64 u), .val (.bool o)]], [] => ⟨(Pl.mk ⟨a, b, l⟩ ⟨x, cs, es, ps, y, zs, u⟩ o).fit, (poolSync ⟨⟨a, b, l⟩, ⟨x, cs, es, ps, y, zs, u⟩, o⟩).v, [], (poolSync ⟨⟨a, b, l⟩, ⟨x, cs, es, ps, y, zs, u⟩, o⟩).objs⟩
  | _, _ => no⟩
theorem s_poolSync_e : EnterOk Tryz.prog 46 := ⟨_, Tryz.func46, rfl, by decide⟩
@[go_sem] def s_poolSync_lv : List (List Nat) := [[1, 2], [1, 2, 6], [2], [1, 2, 3], [2, 3, 11], [2, 3], [2]]
@[go_sem] noncomputable def s_poolSync_K : Known := (((Known.nil).cons 16 ctPoolOk s_poolOk s_poolOk_e).cons 119 ctToPool s_ownPool s_ownPool_e).cons 105 ctFlushP s_flushP s_flushP_e
set_option maxHeartbeats 8000000 in
theorem s_poolSync : Sound Tryz.prog 46 ctPoolSync := by
  have ke := s_poolSync_K.env []
  have kl : Lives s_poolSync_lv := trivial
  refine sound_intro (E := ⟨ti, s_poolSync_K.Γ, []⟩) ke Tryz.func46 Tryz.ntmps46 rfl (rs := [.cell 2 46]) rfl ?_
  intro args os hp
  unfold ctPoolSync at hp ⊢
  dsimp only at hp ⊢
  split at hp
  · rename_i a b l x cs es ps y zs u o
    refine ⟨by simp, fun φ0 w0 => ?_⟩
    obtain ⟨⟨g1, g2, g3⟩, hf⟩ : (Pl.mk ⟨a, b, l⟩ ⟨x, cs, es, ps, y, zs, u⟩ o).fit := hp
    obtain ⟨f1, f2, f3, f4⟩ := hf.small
    simp only at g1 g2 g3 hf f1 f2 f3 f4
    refine goh trivial ?_
    refine W_cnd ?_ ?_ <;> (try simp only [cnd_r]) <;> intro hc
    · have e : poolSync ⟨⟨a, b, l⟩, ⟨x, cs, es, ps, y, zs, u⟩, o⟩ = .nil := by unfold poolSync; rw [if_neg (by rw [hc]; decide)]
      refine goh trivial ?_
      refine ⟨by (simp only [go_sem, e, Pl.nil, Dk.nil, Co.nil, ↓reduceIte, reduceCtorEq, Nat.reduceAdd, Nat.reduceLT, Nat.reduceLeDiff, Nat.reduceEqDiff]) <;> trivial, [none, none, none, none, none, none, none], ?_⟩
      all_goals try simp only [go_sem, e, Pl.nil, Dk.nil, Co.nil, inj_r, ↓reduceIte, reduceCtorEq, Nat.reduceAdd, Nat.reduceLT, Nat.reduceLeDiff, Nat.reduceEqDiff, Int.reduceEq]
      all_goals (repeat' refine And.intro ?_ ?_) <;> try exact shut7
    · have hdk := (poolB_disk hc)
      repeat' first
        | with_reducible refine red ?_
        | refine W_seq ?_
        | (refine W_reg (s_poolSync_K.env []) s_poolSync_lv fun K' hK' => ?_
           simp only [go_sem, Pl.small, ↓reduceIte, ↓reduceDIte, reduceCtorEq, Nat.reduceAdd, Nat.reduceMul, Nat.reduceSub, Nat.reduceDiv, Nat.reduceMod, Nat.reduceLT, Nat.reduceLeDiff, Nat.reduceEqDiff, Nat.reduceBEq, Int.reduceToNat, Int.reduceLE, Int.reduceLT, Int.reduceEq, Int.reduceNe, Int.reduceNeg]
           (repeat' refine And.intro ?_ ?_) <;> try first | with_reducible refine hK' ?_ | exact shut6)
        | with_reducible refine blockG_o (by decide) ?_
      refine W_cnd ?_ ?_ <;> (try simp only [cnd_r]) <;> intro hu
      · have e : poolSync ⟨⟨a, b, l⟩, ⟨x, cs, es, ps, y, zs, u⟩, o⟩ = ⟨(Dk.mk a b l).flushed, ⟨x, cs, es, ps, y, zs, u⟩, o⟩ := by unfold poolSync; rw [if_pos hc, if_pos hu]
        obtain ⟨k1, k2, k3⟩ := Dk.flushed_len (Dk.mk a b l)
        simp only at k1 k2 k3
        refine goh trivial ?_
        exact finh [some 2, some 3, none, some 5, some 6, some 7, some 8] (And.intro e (And.intro k1 (And.intro k2 k3)))
      · have e : poolSync ⟨⟨a, b, l⟩, ⟨x, cs, es, ps, y, zs, u⟩, o⟩ = ⟨⟨a, b, l⟩, ⟨x, cs, es, ps, y, zs, u⟩, o⟩ := by unfold poolSync; rw [if_pos hc, if_neg (by rw [hu]; exact Bool.false_ne_true)]
        refine goh trivial ?_
        exact finh [some 2, some 3, some 4, some 5, some 6, some 7, some 8] e
  · simp [no] at hp
theorem s_specPoolSync_e : EnterOk Tryz.prog 45 := ⟨_, Tryz.func45, rfl, by decide⟩
@[go_sem] def s_specPoolSync_lv : List (List Nat) := [[1, 2], [1, 2, 6], [2], [2, 3], [2, 3, 11], [2, 3], [2]]
@[go_sem] noncomputable def s_specPoolSync_K : Known := (((Known.nil).cons 14 ctPoolOk s_specPoolOk s_specPoolOk_e).cons 117 ctToPool s_l10Copy s_l10Copy_e).cons 118 ctDiskFlush s_specFlush s_specFlush_e
set_option maxHeartbeats 8000000 in
theorem s_specPoolSync : Sound Tryz.prog 45 ctPoolSync := by
  have ke := s_specPoolSync_K.env []
  have kl : Lives s_specPoolSync_lv := trivial
  refine sound_intro (E := ⟨ti, s_specPoolSync_K.Γ, []⟩) ke Tryz.func45 Tryz.ntmps45 rfl (rs := [.cell 2 46]) rfl ?_
  intro args os hp
  unfold ctPoolSync at hp ⊢
  dsimp only at hp ⊢
  split at hp
  · rename_i a b l x cs es ps y zs u o
    refine ⟨by simp, fun φ0 w0 => ?_⟩
    obtain ⟨⟨g1, g2, g3⟩, hf⟩ : (Pl.mk ⟨a, b, l⟩ ⟨x, cs, es, ps, y, zs, u⟩ o).fit := hp
    obtain ⟨f1, f2, f3, f4⟩ := hf.small
    simp only at g1 g2 g3 hf f1 f2 f3 f4
    refine goh trivial ?_
    refine W_cnd ?_ ?_ <;> (try simp only [cnd_r]) <;> intro hc
    · have e : poolSync ⟨⟨a, b, l⟩, ⟨x, cs, es, ps, y, zs, u⟩, o⟩ = .nil := by unfold poolSync; rw [if_neg (by rw [hc]; decide)]
      refine goh trivial ?_
      refine ⟨by (simp only [go_sem, e, Pl.nil, Dk.nil, Co.nil, ↓reduceIte, reduceCtorEq, Nat.reduceAdd, Nat.reduceLT, Nat.reduceLeDiff, Nat.reduceEqDiff]) <;> trivial, [none, none, none, none, none, none, none], ?_⟩
      all_goals try simp only [go_sem, e, Pl.nil, Dk.nil, Co.nil, inj_r, ↓reduceIte, reduceCtorEq, Nat.reduceAdd, Nat.reduceLT, Nat.reduceLeDiff, Nat.reduceEqDiff, Int.reduceEq]
      all_goals (repeat' refine And.intro ?_ ?_) <;> try exact shut7
    · have hdk := (poolB_disk hc)
      have hfl : dkFlush ⟨a, b, l⟩ = (Dk.mk a b l).flushed := by unfold dkFlush; rw [hdk]; rfl
      repeat' first
        | with_reducible refine red ?_
        | refine W_seq ?_
        | (refine W_reg (s_specPoolSync_K.env []) s_specPoolSync_lv fun K' hK' => ?_
           simp only [go_sem, Pl.small, ↓reduceIte, ↓reduceDIte, reduceCtorEq, Nat.reduceAdd, Nat.reduceMul, Nat.reduceSub, Nat.reduceDiv, Nat.reduceMod, Nat.reduceLT, Nat.reduceLeDiff, Nat.reduceEqDiff, Nat.reduceBEq, Int.reduceToNat, Int.reduceLE, Int.reduceLT, Int.reduceEq, Int.reduceNe, Int.reduceNeg]
           (repeat' refine And.intro ?_ ?_) <;> try first | with_reducible refine hK' ?_ | exact shut6)
        | with_reducible refine blockG_o (by decide) ?_
      refine W_cnd ?_ ?_ <;> (try simp only [cnd_r]) <;> intro hu
      · have e : poolSync ⟨⟨a, b, l⟩, ⟨x, cs, es, ps, y, zs, u⟩, o⟩ = ⟨(Dk.mk a b l).flushed, ⟨x, cs, es, ps, y, zs, u⟩, o⟩ := by unfold poolSync; rw [if_pos hc, if_pos hu]
        refine goh hfl ?_
        exact finh [some 10, some 11, some 12, some 5, some 6, some 7, some 8] e
      · have e : poolSync ⟨⟨a, b, l⟩, ⟨x, cs, es, ps, y, zs, u⟩, o⟩ = ⟨⟨a, b, l⟩, ⟨x, cs, es, ps, y, zs, u⟩, o⟩ := by unfold poolSync; rw [if_pos hc, if_neg (by rw [hu]; exact Bool.false_ne_true)]
        refine goh trivial ?_
        exact finh [some 2, some 3, some 4, some 5, some 6, some 7, some 8] e
  · simp [no] at hp
end Go.Proofs.YtjedcphhajlnoaaGreatDoor
/- Plain facts: the lists of a store whose writes are performed are not long. -/
namespace Go.Proofs.YtjedcphhajlnoaaGreatDoor
open Go.RowKit

theorem mid_poolSync {p : Pl} (h : p.disk.a.length ≤ 1048576 ∧ p.disk.b.length ≤ 1048576 ∧ p.disk.l.length ≤ 1048576) (h2 : p.core.sets.length ≤ 1048576 ∧ p.core.ddt.length ≤ 1048576 ∧ p.core.parts.length ≤ 1048576 ∧ p.core.safe.length ≤ 1048576) : (poolSync p).mid := by
  unfold poolSync
  split
  · split
    · obtain ⟨k1, k2, k3⟩ := p.disk.flushed_len
      refine ⟨⟨?_, ?_, ?_⟩, Nat.le_trans h2.1 (by decide), Nat.le_trans h2.2.1 (by decide), Nat.le_trans h2.2.2.1 (by decide), Nat.le_trans h2.2.2.2 (by decide)⟩
      · show p.disk.flushed.a.length ≤ _; omega
      · show p.disk.flushed.b.length ≤ _; omega
      · show p.disk.flushed.l.length ≤ _; rw [k3]; exact Nat.zero_le _
    · exact ⟨⟨Nat.le_trans h.1 (by decide), Nat.le_trans h.2.1 (by decide), Nat.le_trans h.2.2 (by decide)⟩, Nat.le_trans h2.1 (by decide), Nat.le_trans h2.2.1 (by decide), Nat.le_trans h2.2.2.1 (by decide), Nat.le_trans h2.2.2.2 (by decide)⟩
  · exact mid_nil
end Go.Proofs.YtjedcphhajlnoaaGreatDoor
/- The exact law of PoolSync. -/
namespace Go.Proofs.YtjedcphhajlnoaaGreatDoor
open Go.RowKit

@[go_sem] def ct_s_xPoolSync : Ct := ⟨false, [[some .str, some .str, some .late, none, some .cset, some .ent, some .ptr, none, some .int, none, none]], fun args os => match args, os with
  | [.agg [.isl .str a, .isl .str b, .isl .late l, .val (.int .i64 x), .isl .cset cs, .isl .ent es, .isl .ptr ps, .val (.bool y), .isl .int zs, .val (.int .i64 u), .val (.bool o)]], [] => ifp ((Pl.mk ⟨a, b, l⟩ ⟨x, cs, es, ps, y, zs, u⟩ o).inn) (vb true)
  | _, _ => no⟩
theorem s_xPoolSync_e : EnterOk Tryz.prog 8 := ⟨_, Tryz.func8, rfl, by decide⟩
@[go_sem] def s_xPoolSync_lv : List (List Nat) := [[1], [1, 3], [1, 3], [1, 15], [2], [1, 4], [1, 4, 5], [1, 4, 5, 6], [1, 4, 5, 6, 26], [2], [1, 4, 5, 6, 31], [2], [1, 4, 5, 6, 7], [1, 4, 6, 7], [1, 4, 6, 42], [2], [1, 4, 6, 8], [1, 4, 6, 8], [1, 4, 6, 8, 9], [1, 4, 6, 8, 9], [1, 4, 6, 8, 9, 50], [2], [1, 4, 6, 8, 53], [2], [4, 6, 8, 10], [6, 8, 60], [2], [6, 8, 9], [8, 9], [8, 9, 65], [2], [68], [2], [2]]
@[go_sem] noncomputable def s_xPoolSync_K : Known := (((((((Known.nil).cons 13 ctSzPool s_szPool s_szPool_e).cons 15 ctToPool s_toPool s_toPool_e).cons 45 ctPoolSync s_specPoolSync s_specPoolSync_e).cons 46 ctPoolSync s_poolSync s_poolSync_e).cons 17 ctEqPool s_eqPool s_eqPool_e).cons 47 ctMarkPool s_markPool s_markPool_e).cons 48 ctHeldPool s_heldPool s_heldPool_e
set_option maxHeartbeats 8000000 in
theorem s_xPoolSync : Sound Tryz.prog 8 ct_s_xPoolSync := by
  have ke := s_xPoolSync_K.env []
  have kl : Lives s_xPoolSync_lv := trivial
  refine sound_intro (E := ⟨ti, s_xPoolSync_K.Γ, []⟩) ke Tryz.func8 Tryz.ntmps8 rfl (rs := [.tmp 2]) rfl ?_
  intro args os hp
  unfold ct_s_xPoolSync at hp ⊢
  dsimp only at hp ⊢
  split at hp
  · rename_i a b l x cs es ps y zs u o 
    refine ⟨by simp, fun φ0 w0 => ?_⟩
    have hin : (Pl.mk ⟨a, b, l⟩ ⟨x, cs, es, ps, y, zs, u⟩ o).inn := hp
    have i1 := szW_in (Pl.mk ⟨a, b, l⟩ ⟨x, cs, es, ps, y, zs, u⟩ o).wt 1048576 (by decide)
    refine goh trivial ?_
    refine W_cnd ?_ ?_ <;> (try simp only [cnd_r]) <;> intro hc
    · refine goh trivial ?_
      exact finh [] trivial
    · skip
      obtain ⟨⟨q1, q2, q3⟩, ⟨q4, q5, q6, q7⟩, hfit⟩ := hin.fit (n := 1048576) (by decide) (by omega)
      have hpf : (Pl.mk ⟨a, b, l⟩ ⟨x, cs, es, ps, y, zs, u⟩ o).fit := ⟨⟨by simp only; omega, by simp only; omega, by simp only; omega⟩, hfit⟩
      have hmid := mid_poolSync (p := ⟨⟨a, b, l⟩, ⟨x, cs, es, ps, y, zs, u⟩, o⟩) ⟨q1, q2, q3⟩ ⟨q4, q5, q6, q7⟩
      obtain ⟨r, hx⟩ : ∃ r, poolSync ⟨⟨a, b, l⟩, ⟨x, cs, es, ps, y, zs, u⟩, o⟩ = r := ⟨_, rfl⟩
      rw [hx] at hmid
      obtain ⟨⟨y1, y2, y3⟩, y4, y5, y6, y7⟩ := hmid
      clear hc i1
      have c0 : decide (1 + (a.length : Int) + b.length + 3 * l.length + 7 * cs.length + 3 * es.length + 3 * ps.length + zs.length < 0) = false := by simp; omega
      have c1 : decide (1 + (r.disk.a.length : Int) + r.disk.b.length + 3 * r.disk.l.length + 7 * r.core.sets.length + 3 * r.core.ddt.length + 3 * r.core.parts.length + r.core.safe.length < 0) = false := by simp; omega
      refine goh (And.intro hx (And.intro c0 c1)) ?_
      refine W_cnd ?_ ?_ <;> intro hlit <;> try (cases hlit; done)
      refine goh (And.intro hx (And.intro c0 c1)) ?_
      refine W_cnd ?_ ?_ <;> intro hlit <;> try (cases hlit; done)
      refine goh (And.intro hx (And.intro c0 c1)) ?_
      refine W_cnd ?_ ?_ <;> intro hlit <;> try (cases hlit; done)
      refine goh (And.intro hx (And.intro c0 c1)) ?_
      refine W_cnd ?_ ?_ <;> intro hlit <;> try (cases hlit; done)
      refine goh (And.intro hx (And.intro c0 c1)) ?_
      refine W_cnd ?_ ?_ <;> intro hlit <;> try (cases hlit; done)
      refine goh (And.intro hx (And.intro c0 c1)) ?_
      refine W_cnd ?_ ?_ <;> intro hlit <;> try (cases hlit; done)
      refine goh (And.intro hx (And.intro c0 c1)) ?_
      refine W_cnd ?_ ?_ <;> intro hlit <;> try (cases hlit; done)
      refine goh (And.intro hx (And.intro c0 c1)) ?_
      refine W_cnd ?_ ?_ <;> intro hlit <;> try (cases hlit; done)
      refine goh trivial ?_
      exact finh [] trivial
  · simp [no, ifp] at hp
end Go.Proofs.YtjedcphhajlnoaaGreatDoor
/- From a contract to the given statement: laws of one text of bytes. -/
namespace Go.Proofs.YtjedcphhajlnoaaGreatDoor
open Go.ChangeShapes Go.WideShapes Go.ChangeAt Go.RowKit

theorem own : ownKnob Tryz.prog.godebug = none := by kernel_rfl
theorem laidOut : laidOutB Tryz.prog = true := by kernel_rfl

def bytesOf (zs : List Int) : List UInt8 := zs.map fun n => UInt8.ofNat n.toNat
/-- What is known of a slice of bytes that came in. -/
def IsBytes (w : World) (v : Value) (bs : List UInt8) : Prop :=
  ∃ a cap, v = .slice a bs.length cap ∧ bs.length ≤ cap ∧ (a = none → cap = 0) ∧ (∀ ad, a = some ad → ad.spot = none) ∧ (bs ≠ [] → ∃ b o, a = some ⟨b, o, none⟩ ∧ b < w.heap.size ∧ CellsAt w b o (bs.flatMap (ET.cells .byte)))
theorem bytes_open {H : Type} {enc : TypeId × Value → H} {P : Program} {w : World} {base : Nat} {spare : Nat → Bool} {held : Bool} {t e : TypeId} {v : Value} {x : DataW H × List MemPlace} (ht : P.underlying t = some (.slice e)) (he : P.underlying e = some (.int .u8)) (hc : P.cellsOf e = 1)
    (hv : Value.okWide P w .any base t v) {fuel : Nat} (h : DataW.trod enc P w 0 spare held fuel t v.cells.toList = some x) : ∃ bs, IsBytes w v bs := by
  obtain ⟨a, len, cap, rfl⟩ := okWide_slice ht hv
  rcases open_ints ht he hc h with ⟨hcs, _⟩ | ⟨x, l, c, zs, hcs, _, hl, hm, hz, _, hcell, hwz⟩
  · simp [Value.cells] at hcs
    obtain ⟨rfl, rfl, rfl⟩ := hcs
    exact ⟨[], none, 0, rfl, Nat.le_refl _, fun _ => rfl, fun _ h => by simp at h, fun h => absurd rfl h⟩
  · simp [Value.cells] at hcs
    obtain ⟨rfl, rfl, rfl⟩ := hcs
    have hsp : x.spot = none := by
      simp only [Value.okWide, ht, Cell.okWide, Cell.ok] at hv
      exact hv.2.2.2.1
    obtain ⟨b, o, sp⟩ := x
    simp only at hsp
    subst hsp
    have hlz : len ≤ zs.length := by
      rw [hz]; split
      · exact hl
      · exact Nat.le_refl _
    have hlen : (bytesOf (zs.take len)).length = len := by
      unfold bytesOf; rw [List.length_map, List.length_take]; omega
    have hval : ∀ i, i < len → w.cell? ⟨b, o + i, none⟩ = some (.int .u8 ((bytesOf (zs.take len)).getD i 0).toNat) := by
      intro i hi
      have h1 := hcell i (by omega)
      have h2 := hwz (zs.getD i 0) (by
        rw [List.getD_eq_getElem?_getD, List.getElem?_eq_getElem (show i < zs.length by omega)]
        exact List.getElem_mem _)
      have h3 : 0 ≤ zs.getD i 0 ∧ zs.getD i 0 ≤ 255 := by
        have : ∀ n : Int, (Lit.int .u8 n).wf = true → 0 ≤ n ∧ n ≤ 255 := by
          intro n hn
          simp [Lit.wf, show IntKind.u8.min = 0 from rfl, show IntKind.u8.max = 255 from rfl] at hn
          omega
        exact this _ h2
      have h4 : ((bytesOf (zs.take len)).getD i 0) = UInt8.ofNat (zs.getD i 0).toNat := by
        unfold bytesOf
        rw [List.getD_eq_getElem?_getD, List.getElem?_map, List.getElem?_take, if_pos hi, List.getD_eq_getElem?_getD, List.getElem?_eq_getElem (show i < zs.length by omega)]
        rfl
      rw [h4, UInt8.toNat_ofNat']
      have h6 : (Addr.mk b o none).add i = Addr.mk b (o + i) none := by
        unfold Addr.add; split
        · rename_i h; subst h; rfl
        · rfl
      rw [h6] at h1
      rw [h1]
      congr 2
      omega
    refine ⟨bytesOf (zs.take len), some ⟨b, o, none⟩, cap, by rw [hlen], by rw [hlen]; exact hl, (fun h => by cases h), (fun ad h => by cases h; rfl), fun hne => ⟨b, o, rfl, ?_, ?_⟩⟩
    · have : 0 < len := by
        rw [← hlen]; exact List.length_pos_iff.2 hne
      have h0 := hval 0 this
      unfold World.cell? at h0
      rcases Nat.lt_or_ge b w.heap.size with hb | hb
      · exact hb
      · rw [Array.getElem?_eq_none hb] at h0; cases h0
    · intro i v hv
      have hi : i < len := by
        have := (List.getElem?_eq_some_iff.1 hv).1
        rw [flat_len, hlen] at this
        simpa [ET.sz] using this
      rw [hval i hi]
      have h5 := flat_get .byte (bytesOf (zs.take len)) i 0 (by rw [hlen]; exact hi) (by decide)
      have h6 : i * ET.byte.sz + 0 = i := by simp [ET.sz]
      rw [h6, hv] at h5
      simp only [ET.cells, List.getElem?_cons_zero, Option.some.injEq] at h5
      rw [h5, List.getD_eq_getElem?_getD, List.getElem?_eq_getElem (by rw [hlen]; exact hi)]
      rfl
def phi0 : Phi := ⟨fun _ => none, fun _ => False⟩
theorem not_own0 {b : Nat} : ¬ Own phi0 (tabOf []) b := fun ⟨k, base, h, _⟩ => by simp [tabOf] at h
theorem isBytes_R {w : World} {v : Value} {bs : List UInt8} (h : IsBytes w v bs) : VR phi0 (tabOf []) w (.one (.isl .byte bs)) v := by
  obtain ⟨a, cap, h1, h2, h3, h4, h5⟩ := h
  simp only [VR, CR]
  exact ⟨a, cap, h1, h2, h3, h4, fun hne => by
    obtain ⟨b, o, h6, h7, h8⟩ := h5 hne
    exact ⟨b, o, h6, ⟨h7, not_own0, fun hf => hf⟩, h8⟩⟩
theorem glo_none (h : gloL = []) (w : World) : GloOk0 w := fun q hq => by rw [h] at hq; cases hq
theorem rel0 (w : World) (hg : GloOk0 w) : Rel phi0 (tabOf []) w := ⟨fun k o h => by simp [tabOf] at h, fun k _ _ _ _ h _ _ _ => by simp [tabOf] at h, fun b h => h.elim, fun q hq => ⟨fun ⟨k, _, h, _⟩ => h (by simp [tabOf]), hg q hq⟩⟩
/-- A contract that hands over nothing and gets nothing new back: what was there is as it was. -/
theorem post_below {w w' : World} {n : Nat} {s : St} {e : Ending} (h : Post phi0 (tabOf []) w n s e w') : ∃ r φ', e = .returned r ∧ VR φ' (newT (tabOf []) n s) w' s.v r ∧ Below w.heap.size w w' := by
  obtain ⟨r, φ', h1, h2, -, hg, -⟩ := h
  exact ⟨r, φ', h1, h2, hg.os, hg.tape, hg.output, hg.size, fun b hb => hg.block b hb not_own0⟩
@[go_sem] def ctLaw1 : Ct := ⟨false, [[some .byte]], fun args os => match args, os with
  | [.one (.isl .byte code)], [] => ⟨True, vb true, [], []⟩
  | _, _ => no⟩
@[go_sem] def ctLaw2 : Ct := ⟨false, [[some .byte], [some .byte]], fun args os => match args, os with
  | [.one (.isl .byte code), .one (.isl .byte more)], [] => ⟨True, vb true, [], []⟩
  | _, _ => no⟩
theorem law1 {f : FuncId} (h : Sound Tryz.prog f ctLaw1) {w : World} {v : Value} {bs : List UInt8} (hb : IsBytes w v bs) (hg : GloOk0 w) :
    Calls Tryz.prog f #[v] w fun e w' => e = .returned (.bool true) ∧ Below w.heap.size w w' := by
  refine (h [.one (.isl .byte bs)] [] trivial phi0 w [v] (rel0 w hg) (by simp only [VRs]; exact ⟨isBytes_R hb, trivial⟩) fun _ _ => rfl).mono ?_
  rintro e w' hp
  obtain ⟨r, φ', rfl, hv, hbl⟩ := post_below hp
  simp only [ctLaw1, vb, VR, CR] at hv
  subst hv
  exact ⟨rfl, hbl⟩
theorem law2 {f : FuncId} (h : Sound Tryz.prog f ctLaw2) {w : World} {v u : Value} {bs cs : List UInt8} (hb : IsBytes w v bs) (hc : IsBytes w u cs) (hg : GloOk0 w) :
    Calls Tryz.prog f #[v, u] w fun e w' => e = .returned (.bool true) ∧ Below w.heap.size w w' := by
  refine (h [.one (.isl .byte bs), .one (.isl .byte cs)] [] trivial phi0 w [v, u] (rel0 w hg) (by simp only [VRs]; exact ⟨isBytes_R hb, isBytes_R hc, trivial⟩) fun _ _ => rfl).mono ?_
  rintro e w' hp
  obtain ⟨r, φ', rfl, hv, hbl⟩ := post_below hp
  simp only [ctLaw2, vb, VR, CR] at hv
  subst hv
  exact ⟨rfl, hbl⟩
end Go.Proofs.YtjedcphhajlnoaaGreatDoor
/- What is handed in to an exact law, as the walks see it. -/
namespace Go.Proofs.YtjedcphhajlnoaaGreatDoor
open Go.ChangeShapes Go.WideShapes Go.ChangeAt Go.RowKit

abbrev VR0 (w : World) (x : TV) (v : Value) : Prop := VR phi0 (tabOf []) w x v
theorem isSl_R {w : World} {t : ET} {v : Value} {xs : List t.α} (h : IsSl w t v xs) : CR phi0 (tabOf []) w (.isl t xs) v := by
  obtain ⟨a, cap, h1, h2, h3, h4, h5⟩ := h
  simp only [CR]
  exact ⟨a, cap, h1, h2, h3, h4, fun hne => by
    obtain ⟨b, o, h6, h7, h8⟩ := h5 hne
    exact ⟨b, o, h6, ⟨h7, not_own0, fun hf => hf⟩, h8⟩⟩
theorem str_all {xs : List ByteArray} (h : ∀ i, i < xs.length → EksOk ET.str.eks (ET.str.cells (xs.getD i ET.str.dflt))) (i : Nat) : (xs.getD i ET.str.dflt).size ≤ 9223372036854775807 := by
  rcases Nat.lt_or_ge i xs.length with hi | hi
  · obtain ⟨⟨s, hs, h2⟩, -⟩ := h i hi
    have : xs.getD i ET.str.dflt = s := by injection hs
    rw [this]; exact h2
  · rw [List.getD_eq_getElem?_getD, List.getElem?_eq_none hi]; exact Nat.zero_le _
theorem late_all {xs : List Late} (h : ∀ i, i < xs.length → EksOk ET.late.eks (ET.late.cells (xs.getD i ET.late.dflt))) (i : Nat) : (xs.getD i ET.late.dflt).text.size ≤ 9223372036854775807 := by
  rcases Nat.lt_or_ge i xs.length with hi | hi
  · obtain ⟨-, -, ⟨s, hs, h2⟩, -⟩ := h i hi
    have : (xs.getD i ET.late.dflt).text = s := by injection hs
    rw [this]; exact h2
  · rw [List.getD_eq_getElem?_getD, List.getElem?_eq_none hi]; exact Nat.zero_le _
section
variable {H : Type} {enc : TypeId × Value → H} {P : Program} {w : World} {base : Nat} {sp : Nat → Bool} {held : Bool} {t : TypeId} {v : Value} {d : DataW H} {ps : List MemPlace}
theorem lks_one {k : LK} {cs : List Value} (h : LksOk w [k] cs) : ∃ x, cs = [x] ∧ LkOk w k x := by
  cases cs with
  | nil => exact h.elim
  | cons x r => cases r with
    | nil => exact ⟨x, rfl, h.1⟩
    | cons y r => exact h.2.elim
theorem lks_cons {k : LK} {ks : List LK} {cs : List Value} (h : LksOk w (k :: ks) cs) : ∃ x r, cs = x :: r ∧ LkOk w k x ∧ LksOk w ks r := by
  cases cs with
  | nil => exact h.elim
  | cons x r => exact ⟨x, r, rfl, h.1, h.2⟩
theorem lks_nil {cs : List Value} (h : LksOk w [] cs) : cs = [] := by
  cases cs with
  | nil => rfl
  | cons x r => exact h.elim
theorem okWide_agg (n : Nat) (hu : (match P.underlying t with | some (.struct _) => true | some (.array _ _) => true | _ => false) = true) (h : Value.okWide P w .any n t v) : ∃ cs, v = .agg cs := by
  unfold Value.okWide at h
  split at h
  · obtain ⟨cs, h1, -⟩ := h; exact ⟨cs, h1⟩
  · obtain ⟨cs, h1, -⟩ := h; exact ⟨cs, h1⟩
  · rename_i h1 h2
    split at hu
    · rename_i fs e; exact (h1 fs e).elim
    · rename_i a b e; exact (h2 a b e).elim
    · cases hu
theorem arg_int (ht : P.underlying t = some (.int .i64)) (hv : Value.okWide P w .any base t v) : ∃ n, VR0 w (.one (.val (.int .i64 n))) v := by
  obtain ⟨n, rfl⟩ := okWide_int ht hv
  exact ⟨n, by simp only [VR, CR]⟩
theorem arg_str (ht : P.underlying t = some .string) (hv : Value.okWide P w .any base t v) (h : DataW.Trod enc P w 0 sp held t v d ps) : ∃ s, s.size ≤ 9223372036854775807 ∧ VR0 w (.one (.val (.string s))) v := by
  obtain ⟨fuel, hf⟩ := h
  obtain ⟨s, hc, -, hs⟩ := DataW.trod_string ht hf
  obtain ⟨u, rfl⟩ := okWide_string ht hv
  simp [Value.cells] at hc
  subst hc
  exact ⟨u, hs, by simp only [VR, CR]⟩
theorem arg_ints (n : Nat) (hsh : shapeL P n t = some [.sl ET.int.eks]) {e : TypeId} (ht : P.underlying t = some (.slice e)) (hv : Value.okWide P w .any base t v) (h : DataW.Trod enc P w 0 sp held t v d ps) : ∃ xs : List Int, xs.length ≤ 9223372036854775807 ∧ VR0 w (.one (.isl .int xs)) v := by
  obtain ⟨fuel, hf⟩ := h
  obtain ⟨a, len, cap, rfl⟩ := okWide_slice ht hv
  obtain ⟨x, hx, h1⟩ := lks_one (open_l n t _ hsh _ _ _ hf)
  have hns := value_noSpot hv
  simp [Value.cells] at hx hns
  subst hx
  obtain ⟨xs, h2, h3, -⟩ := sl_open h1 hns rfl (by decide) fun vs h => eks_int h
  exact ⟨xs, h3, isSl_R h2⟩
theorem arg_disk (n : Nat) (hsh : shapeL P n t = some [.sl ET.str.eks, .sl ET.str.eks, .sl ET.late.eks]) (hu : (match P.underlying t with | some (.struct _) => true | some (.array _ _) => true | _ => false) = true) (hv : Value.okWide P w .any base t v) (h : DataW.Trod enc P w 0 sp held t v d ps) :
    ∃ a b l, (Dk.mk a b l).inn ∧ VR0 w (.agg [.isl .str a, .isl .str b, .isl .late l]) v := by
  obtain ⟨fuel, hf⟩ := h
  obtain ⟨cs, rfl⟩ := okWide_agg base hu hv
  have hns := value_noSpot hv
  have h0 := open_l n t _ hsh _ _ _ hf
  obtain ⟨x, _, e1, h1, h0⟩ := lks_cons h0
  obtain ⟨y, _, rfl, h2, h0⟩ := lks_cons h0
  obtain ⟨z, _, rfl, h3, h0⟩ := lks_cons h0
  obtain rfl := lks_nil h0
  rw [e1] at hns
  have hcs : cs.toList = [x, y, z] := by simpa [Value.cells] using e1
  obtain ⟨a, a1, a2, a3⟩ := sl_open h1 (hns x (by simp)) rfl (by decide) fun vs h => eks_str h
  obtain ⟨b, b1, b2, b3⟩ := sl_open h2 (hns y (by simp)) rfl (by decide) fun vs h => eks_str h
  obtain ⟨l, l1, l2, l3⟩ := sl_open h3 (hns z (by simp)) rfl (by decide) fun vs h => eks_late h
  refine ⟨a, b, l, ⟨⟨a2, str_all a3⟩, ⟨b2, str_all b3⟩, ⟨l2, late_all l3⟩⟩, ?_⟩
  simp only [VR]
  exact ⟨cs, rfl, by rw [hcs]; exact ⟨isSl_R a1, isSl_R b1, isSl_R l1, trivial⟩⟩
theorem arg_ptr (n : Nat) (hsh : shapeL P n t = some [.e (.int .i64), .e (.int .i64), .e (.int .i64)]) (hu : (match P.underlying t with | some (.struct _) => true | some (.array _ _) => true | _ => false) = true) (hv : Value.okWide P w .any base t v) (h : DataW.Trod enc P w 0 sp held t v d ps) :
    ∃ a b c, VR0 w (.agg [.val (.int .i64 a), .val (.int .i64 b), .val (.int .i64 c)]) v := by
  obtain ⟨fuel, hf⟩ := h
  obtain ⟨cs, rfl⟩ := okWide_agg base hu hv
  have h0 := open_l n t _ hsh _ _ _ hf
  obtain ⟨_, _, e1, ⟨a, rfl, -⟩, h1⟩ := lks_cons h0
  obtain ⟨_, _, rfl, ⟨b, rfl, -⟩, h2⟩ := lks_cons h1
  obtain ⟨_, _, rfl, ⟨c, rfl, -⟩, h3⟩ := lks_cons h2
  obtain rfl := lks_nil h3
  have hcs : cs.toList = [.int .i64 a, .int .i64 b, .int .i64 c] := by simpa [Value.cells] using e1
  refine ⟨a, b, c, ?_⟩
  simp only [VR]
  exact ⟨cs, rfl, by rw [hcs]; exact ⟨rfl, rfl, rfl, trivial⟩⟩
end
/-- What a contract says that hands over nothing: the answer, and that all is as it was. -/
theorem lawN {f : FuncId} {ct : Ct} (h : Sound Tryz.prog f ct) {w : World} {vs : List Value} {args : List TV} (hs : ct.spec args [] = ifp True (vb true) ∨ ∃ p, p ∧ ct.spec args [] = ifp p (vb true)) (hr : VRs phi0 (tabOf []) w args vs) (hg : GloOk0 w) :
    Calls Tryz.prog f vs.toArray w fun e w' => e = .returned (.bool true) ∧ Below w.heap.size w w' := by
  have hpre : (ct.spec args []).pre ∧ (ct.spec args []).v = vb true := by
    rcases hs with hs | ⟨p, hp, hs⟩
    · rw [hs]; exact ⟨trivial, rfl⟩
    · rw [hs]; exact ⟨hp, rfl⟩
  refine (h args [] hpre.1 phi0 w vs (rel0 w hg) hr fun _ _ => rfl).mono ?_
  rintro e w' hp
  obtain ⟨r, φ', rfl, hv, hbl⟩ := post_below hp
  rw [hpre.2] at hv
  simp only [vb, VR, CR] at hv
  subst hv
  exact ⟨rfl, hbl⟩
end Go.Proofs.YtjedcphhajlnoaaGreatDoor
