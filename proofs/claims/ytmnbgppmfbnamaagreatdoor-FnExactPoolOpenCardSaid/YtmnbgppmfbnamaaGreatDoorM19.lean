import Derived.Test.YtmnbgppmfbnamaaGreatDoorM10
import Derived.Test.YtmnbgppmfbnamaaGreatDoorM13
import Derived.Test.YtmnbgppmfbnamaaGreatDoorM14
import Derived.Test.YtmnbgppmfbnamaaGreatDoorM17
import Derived.Test.YtmnbgppmfbnamaaGreatDoorM18
set_option linter.unusedSimpArgs false
set_option linter.unusedVariables false
set_option linter.unusedSectionVars false
/- Functions: texts of commits. -/
namespace Go.Proofs.YtmnbgppmfbnamaaGreatDoor
open Go.RowKit

@[go_sem] noncomputable def ctUber : Ct := ⟨false, [], fun args os => match args, os with
  | [.one (.val (.int .i64 k)), .agg [.val (.int .i64 a), .val (.int .i64 s), .val (.int .i64 b)]], [] => is (vs (uberT k ⟨a, s, b⟩))
  | _, _ => no⟩
theorem uber_yes {k : Int} {r : Ptr} (h1 : 1 ≤ k) (h2 : k ≤ 1000000) (h3 : realB r = true) : uberOk k r := ⟨h1, h2, h3⟩
theorem uber_no {k : Int} {r : Ptr} (h : ¬ uberOk k r) : uberT k r = ⟨#[]⟩ := by unfold uberT; rw [if_neg h]
theorem s_uber_e : EnterOk Tryz.prog 241 := ⟨_, Tryz.func241, rfl, by decide⟩
@[go_sem] def s_uber_lv : List (List Nat) := [[0, 3], [0, 3, 13], [4], [3, 5], [4]]
@[go_sem] noncomputable def s_uber_K : Known := (((((Known.nil).cons 46 ctWithin s_within s_within_e).cons 171 ctReal s_isReal s_isReal_e).cons 53 ctItoa s_itoa s_itoa_e).cons 280 ctPtrText s_ptrText s_ptrText_e).cons 51 ctSeal s_seal s_seal_e
set_option maxHeartbeats 8000000 in
theorem s_uber : Sound Tryz.prog 241 ctUber := by
  have ke := s_uber_K.env []
  have kl : Lives s_uber_lv := trivial
  refine sound_intro (E := ⟨ti, s_uber_K.Γ, []⟩) ke Tryz.func241 Tryz.ntmps241 rfl (rs := [.tmp 4]) rfl ?_
  intro args os hp
  unfold ctUber at hp ⊢
  dsimp only at hp ⊢
  split at hp
  · rename_i k a s b
    refine ⟨by simp, fun φ0 w0 => ?_⟩
    clear hp
    have nt : (!true) = false := rfl
    have nf : (!false) = true := rfl
    by_cases hk : 1 ≤ k ∧ k ≤ 1000000
    · have c1 : decide (1 ≤ k) = true := by simp [hk.1]
      have c2 : decide (k ≤ 1000000) = true := by simp [hk.2]
      cases hr : realB ⟨a, s, b⟩ with
      | false =>
        have e := uber_no (k := k) (r := ⟨a, s, b⟩) (fun h => by have := h.2.2; rw [hr] at this; cases this)
        repeat' first
          | with_reducible refine red ?_
          | refine W_seq ?_
          | (refine W_reg (s_uber_K.env []) s_uber_lv fun K' hK' => ?_
             simp only [go_sem, c1, c2, hr, nt, nf, Bool.and_self, ↓reduceIte, ↓reduceDIte, reduceCtorEq, Nat.reduceAdd, Nat.reduceMul, Nat.reduceSub, Nat.reduceDiv, Nat.reduceMod, Nat.reduceLT, Nat.reduceLeDiff, Nat.reduceEqDiff, Nat.reduceBEq, Int.reduceToNat, Int.reduceLE, Int.reduceLT, Int.reduceEq, Int.reduceNe, Int.reduceNeg]
             (repeat' refine And.intro ?_ ?_) <;> try first | with_reducible refine hK' ?_ | exact shut6)
          | with_reducible refine blockG_o (by decide) ?_
        refine W_cnd ?_ ?_ <;> intro hlit <;> try (cases hlit; done)
        refine goh trivial ?_
        exact finh [] e
      | true =>
        have hok : uberOk k ⟨a, s, b⟩ := ⟨hk.1, hk.2, hr⟩
        have e : uberT k ⟨a, s, b⟩ = sealV (decS k ++ ⟨#[32]⟩ ++ ptrT ⟨a, s, b⟩ ++ ⟨#[32]⟩ ++ decS k) := by unfold uberT; rw [if_pos hok]; rfl
        have h1 := decS_size (n := k) (by omega) (by omega)
        have h2 := ptrT_size ⟨a, s, b⟩
        have h3 : (⟨#[32]⟩ : ByteArray).size = 1 := rfl
        obtain ⟨k1, k2⟩ := hk
        repeat' first
          | with_reducible refine red ?_
          | refine W_seq ?_
          | (refine W_reg (s_uber_K.env []) s_uber_lv fun K' hK' => ?_
             simp only [go_sem, c1, c2, hr, nt, nf, Bool.and_self, ↓reduceIte, ↓reduceDIte, reduceCtorEq, Nat.reduceAdd, Nat.reduceMul, Nat.reduceSub, Nat.reduceDiv, Nat.reduceMod, Nat.reduceLT, Nat.reduceLeDiff, Nat.reduceEqDiff, Nat.reduceBEq, Int.reduceToNat, Int.reduceLE, Int.reduceLT, Int.reduceEq, Int.reduceNe, Int.reduceNeg]
             (repeat' refine And.intro ?_ ?_) <;> try first | with_reducible refine hK' ?_ | exact shut6)
          | with_reducible refine blockG_o (by decide) ?_
        refine W_cnd ?_ ?_ <;> intro hlit <;> try (cases hlit; done)
        refine goh trivial ?_
        exact finh [] e
    · have e := uber_no (k := k) (r := ⟨a, s, b⟩) (fun h => hk ⟨h.1, h.2.1⟩)
      have c : (decide (1 ≤ k) && decide (k ≤ 1000000)) = false := by
        rw [Bool.and_eq_false_iff, decide_eq_false_iff_not, decide_eq_false_iff_not]; omega
      refine goh (And.intro c nf) ?_
      refine W_cnd ?_ ?_ <;> intro hlit <;> try (cases hlit; done)
      refine goh trivial ?_
      exact finh [] e
  · exact hp.elim
theorem s_specUber_e : EnterOk Tryz.prog 272 := ⟨_, Tryz.func272, rfl, by decide⟩
@[go_sem] def s_specUber_lv : List (List Nat) := [[0, 3], [0, 3, 20], [4], [4]]
@[go_sem] noncomputable def s_specUber_K : Known := ((((Known.nil).cons 158 ctPtrOk s_specPtrOk s_specPtrOk_e).cons 61 ctDecV s_dec2 s_dec2_e).cons 298 ctPtrText s_specPtrText s_specPtrText_e).cons 62 ctSeal s_specSeal s_specSeal_e
set_option maxHeartbeats 8000000 in
theorem s_specUber : Sound Tryz.prog 272 ctUber := by
  have ke := s_specUber_K.env []
  have kl : Lives s_specUber_lv := trivial
  refine sound_intro (E := ⟨ti, s_specUber_K.Γ, []⟩) ke Tryz.func272 Tryz.ntmps272 rfl (rs := [.tmp 4]) rfl ?_
  intro args os hp
  unfold ctUber at hp ⊢
  dsimp only at hp ⊢
  split at hp
  · rename_i k a s b
    refine ⟨by simp, fun φ0 w0 => ?_⟩
    clear hp
    have nt : (!true) = false := rfl
    have nf : (!false) = true := rfl
    by_cases hk : 1 ≤ k ∧ k ≤ 1000000
    · have c1 : decide (k < 1) = false := by simp; omega
      have c2 : decide (k > 1000000) = false := by simp; omega
      cases hr : ptrOkB ⟨a, s, b⟩ with
      | false =>
        have e := uber_no (k := k) (r := ⟨a, s, b⟩) (fun h => by have := (ptrOk_real h.2.2).1; rw [hr] at this; cases this)
        refine goh (And.intro c1 (And.intro c2 (And.intro hr (And.intro nt nf)))) ?_
        refine W_cnd ?_ ?_ <;> intro hlit <;> try (cases hlit; done)
        refine goh trivial ?_
        exact finh [] e
      | true =>
        by_cases ha : a = 0
        · have c3 : (a == 0) = true := by simp [ha]
          have e := uber_no (k := k) (r := ⟨a, s, b⟩) (fun h => (ptrOk_real h.2.2).2.1 ha)
          refine goh (And.intro c1 (And.intro c2 (And.intro hr (And.intro c3 (And.intro nt nf))))) ?_
          refine W_cnd ?_ ?_ <;> intro hlit <;> try (cases hlit; done)
          refine goh trivial ?_
          exact finh [] e
        · have c3 : (a == 0) = false := by simp [ha]
          have hok : uberOk k ⟨a, s, b⟩ := ⟨hk.1, hk.2, by unfold realB; rw [hr]; simpa using ha⟩
          have e : uberT k ⟨a, s, b⟩ = sealV (decS k ++ ⟨#[32]⟩ ++ ptrT ⟨a, s, b⟩ ++ ⟨#[32]⟩ ++ decS k) := by unfold uberT; rw [if_pos hok]; rfl
          have h1 := decS_size (n := k) (by omega) (by omega)
          have h2 := ptrT_size ⟨a, s, b⟩
          have h3 : (⟨#[32]⟩ : ByteArray).size = 1 := rfl
          obtain ⟨k1, k2⟩ := hk
          refine goh (And.intro c1 (And.intro c2 (And.intro hr (And.intro c3 (And.intro nt nf))))) ?_
          refine W_cnd ?_ ?_ <;> intro hlit <;> try (cases hlit; done)
          refine goh trivial ?_
          exact finh [] e
    · have e := uber_no (k := k) (r := ⟨a, s, b⟩) (fun h => hk ⟨h.1, h.2.1⟩)
      by_cases h1 : k < 1
      · have c1 : decide (k < 1) = true := by simp [h1]
        refine goh c1 ?_
        refine W_cnd ?_ ?_ <;> intro hlit <;> try (cases hlit; done)
        refine goh trivial ?_
        exact finh [] e
      · have c1 : decide (k < 1) = false := by simp; omega
        have c2 : decide (k > 1000000) = true := by simp; omega
        refine goh (And.intro c1 c2) ?_
        refine W_cnd ?_ ?_ <;> intro hlit <;> try (cases hlit; done)
        refine goh trivial ?_
        exact finh [] e
  · exact hp.elim
theorem cutV_size (c : UInt8) (s : ByteArray) : (cutV c s).2.1.size ≤ s.size := by
  unfold cutV Lib.cut bytesL
  split
  · show (List.drop _ s.data.toList).toArray.size ≤ s.data.size
    simp
  · exact Nat.zero_le _
theorem openV_size (s : ByteArray) : (openV s).1.size ≤ s.size := by
  unfold openV
  split
  · exact cutV_size 58 s
  · exact Nat.zero_le _
@[go_sem] noncomputable def ctUberRead : Ct := ⟨false, [], fun args os => match args, os with
  | [.one (.val (.string t))], [] => ifp (t.size ≤ 1000000) (match uberP t with | some (k, p) => .tup [vi k, .agg [.val (.int .i64 p.at_), .val (.int .i64 p.sum), .val (.int .i64 p.birth)], vb true] | none => .tup [vi 0, .agg [.val (.int .i64 0), .val (.int .i64 0), .val (.int .i64 0)], vb false])
  | _, _ => no⟩
end Go.Proofs.YtmnbgppmfbnamaaGreatDoor
/- Functions: what a commit needs, of both programs. -/
namespace Go.Proofs.YtmnbgppmfbnamaaGreatDoor
open Go.RowKit

def drtN (cs : List CSet) (i : Nat) : Nat := (cs.take i).countP (·.dirty)
theorem drtN_succ {cs : List CSet} {i : Nat} (h : i < cs.length) : drtN cs (i + 1) = drtN cs i + if (cs.getD i ET.cset.dflt).dirty = true then 1 else 0 := by
  unfold drtN
  rw [List.take_add_one, List.getElem?_eq_getElem h, show cs.getD i ET.cset.dflt = cs[i] by simp [h], List.countP_append]
  simp only [Option.toList_some, List.countP_cons, List.countP_nil, Nat.zero_add]
theorem drtN_le (cs : List CSet) (i : Nat) : drtN cs i ≤ i := by
  unfold drtN
  refine Nat.le_trans (List.countP_le_length) ?_
  rw [List.length_take]; omega
def partsN (es : List Ent) : Nat := (es.length + 5) / 6
def needsN (c : Co) : Nat := 1 + drtN c.sets c.sets.length + if c.dirty = true then partsN c.ddt else 0
@[go_sem] noncomputable def ctNeeds : Ct := ⟨false, [[none, some .cset, some .ent, some .ptr, none, some .int, none]], fun args os => match args, os with
  | [.agg [.val (.int .i64 x), .isl .cset cs, .isl .ent es, .isl .ptr ps, .val (.bool y), .isl .int zs, .val (.int .i64 u)]], [] => ifp (Co.mk x cs es ps y zs u).fit (vi (if (Co.mk x cs es ps y zs u).ok = true then (needsN ⟨x, cs, es, ps, y, zs, u⟩ : Int) else 0))
  | _, _ => no⟩
theorem quo6 (n : Nat) : ((n : Int) + 6 - 1).tdiv 6 = (((n + 5) / 6 : Nat) : Int) := by
  have h : ((n : Int) + 6 - 1) = ((n + 5 : Nat) : Int) := by omega
  rw [h]; rfl
theorem s_needs_e : EnterOk Tryz.prog 239 := ⟨_, Tryz.func239, rfl, by decide⟩
@[go_sem] def s_needs_lv : List (List Nat) := [[1], [1, 8], [2], [1, 3], [1, 3, 10, 11, 12], [1, 3, 10, 11, 12, 13], [1, 3, 5, 10, 11, 12], [1, 3, 10, 11, 12, 17], [1, 3, 10, 11, 12], [1, 3, 10, 11, 12], [1, 3, 22], [3], [2]]
@[go_sem] noncomputable def s_needs_K : Known := (Known.nil).cons 97 ctCoreOk s_coreOk s_coreOk_e
set_option maxHeartbeats 8000000 in
theorem s_needs : Sound Tryz.prog 239 ctNeeds := by
  have ke := s_needs_K.env []
  have kl : Lives s_needs_lv := trivial
  refine sound_intro (E := ⟨ti, s_needs_K.Γ, []⟩) ke Tryz.func239 Tryz.ntmps239 rfl (rs := [.tmp 2]) rfl ?_
  intro args os hp
  unfold ctNeeds at hp ⊢
  dsimp only at hp ⊢
  split at hp
  · rename_i x cs es ps y zs u
    refine ⟨by simp, fun φ0 w0 => ?_⟩
    have hf : (Co.mk x cs es ps y zs u).fit := hp
    have nt : (!true) = false := rfl
    have nf : (!false) = true := rfl
    cases hk : (Co.mk x cs es ps y zs u).ok with
    | false =>
      refine goh (And.intro hk nf) ?_
      refine W_cnd ?_ ?_ <;> intro hlit <;> try (cases hlit; done)
      refine goh trivial ?_
      exact finh [] hk
    | true =>
      obtain ⟨k1, k2, k3⟩ := core_few hk
      simp only at k1 k2 k3
      refine goh (And.intro hk nt) ?_
      refine W_cnd ?_ ?_ <;> intro hlit <;> try (cases hlit; done)
      refine goh trivial ?_
      have d0 : (1 : Int) + (drtN cs 0 : Nat) = 1 := rfl
      refine W_for cs.length (fun i => True) (fun i => ⟨[(1, .one (.ptr 0 0)), (3, vi (1 + (drtN cs i : Nat))), (10, .one (.isl .cset cs)), (11, vi cs.length), (12, vi i)], [some (obCo x cs es ps y zs u)], []⟩) [some 0] (leh d0) trivial fun i hi _ => ?_
      have hd := drtN_le cs i
      refine goh trivial ?_
      refine W_cnd ?_ ?_ <;> (try simp only [cnd_r]) <;> intro hlt
      · have hs := drtN_succ (cs := cs) (i := i) (by omega)
        repeat' first
          | with_reducible refine red ?_
          | refine W_seq ?_
          | (refine W_reg (s_needs_K.env []) s_needs_lv fun K' hK' => ?_
             simp only [go_sem, ↓reduceIte, ↓reduceDIte, reduceCtorEq, Nat.reduceAdd, Nat.reduceMul, Nat.reduceSub, Nat.reduceDiv, Nat.reduceMod, Nat.reduceLT, Nat.reduceLeDiff, Nat.reduceEqDiff, Nat.reduceBEq, Int.reduceToNat, Int.reduceLE, Int.reduceLT, Int.reduceEq, Int.reduceNe, Int.reduceNeg]
             (repeat' refine And.intro ?_ ?_) <;> try first | with_reducible refine hK' ?_ | exact shut6)
          | with_reducible refine blockG_o (by decide) ?_
        cases hb : (cs.getD i ET.cset.dflt).dirty with
        | true =>
          rw [hb, if_pos rfl] at hs
          have hs' : (1 : Int) + (drtN cs (i + 1) : Nat) = 1 + (drtN cs i : Nat) + 1 := by omega
          refine W_cnd ?_ ?_ <;> intro hlit <;> try (cases hlit; done)
          refine goh trivial ?_
          exact ⟨[some 0], by omega, leh hs', trivial⟩
        | false =>
          rw [hb, if_neg (by decide)] at hs
          have hs' : (1 : Int) + (drtN cs (i + 1) : Nat) = 1 + (drtN cs i : Nat) := by omega
          refine W_cnd ?_ ?_ <;> intro hlit <;> try (cases hlit; done)
          refine goh trivial ?_
          exact ⟨[some 0], by omega, leh hs', trivial⟩
      · obtain rfl : i = cs.length := by omega
        have hq := quo6 es.length
        have w1 : IntKind.i64.wrap ((es.length : Int) + 6) = es.length + 6 := wrap_id _ (by omega) (by omega)
        have w2 : IntKind.i64.wrap ((es.length : Int) + 6 - 1) = es.length + 6 - 1 := wrap_id _ (by omega) (by omega)
        have w3 : IntKind.i64.wrap (((es.length + 5) / 6 : Nat) : Int) = (((es.length + 5) / 6 : Nat) : Int) := wrap_id _ (by omega) (by omega)
        cases y with
        | true =>
          have e : (needsN ⟨x, cs, es, ps, true, zs, u⟩ : Int) = 1 + (drtN cs cs.length : Nat) + (((es.length + 5) / 6 : Nat) : Int) := by
            simp only [needsN, partsN, ↓reduceIte]; omega
          refine goh trivial ?_
          refine W_cnd ?_ ?_ <;> intro hlit <;> try (cases hlit; done)
          refine goh (And.intro w1 (And.intro w2 (And.intro hq w3))) ?_
          exact finh [] (And.intro hk e)
        | false =>
          have e : (needsN ⟨x, cs, es, ps, false, zs, u⟩ : Int) = 1 + (drtN cs cs.length : Nat) := by
            simp only [needsN, Bool.false_eq_true, ↓reduceIte]; omega
          refine goh trivial ?_
          refine W_cnd ?_ ?_ <;> intro hlit <;> try (cases hlit; done)
          refine goh trivial ?_
          exact finh [] (And.intro hk e)
  · simp [no, ifp] at hp
/-- The texts of a table's parts. -/
noncomputable def partsT (es : List Ent) : List ByteArray := (List.range (partsN es)).map fun j => ddtT ((es.drop (6 * j)).take 6)
theorem partsT_len (es : List Ent) : (partsT es).length = partsN es := by simp [partsT]
@[go_sem] noncomputable def ctParts : Ct := ⟨false, [[some .ent]], fun args os => match args, os with
  | [.one (.isl .ent es)], [] => ⟨es.length ≤ 4000000, .one (.osl .str 0 0 (partsN es)), [], [.arr .str (partsT es)]⟩
  | _, _ => no⟩
theorem s_l8Parts_e : EnterOk Tryz.prog 268 := ⟨_, Tryz.func268, rfl, by decide⟩
@[go_sem] def s_l8Parts_lv : List (List Nat) := [[0], [0, 3], [0, 3, 4], [0, 3, 4, 10], [0, 3, 4], [0, 3, 4, 5], [0, 3, 4, 5, 18], [0, 3, 4, 5], [0, 3, 4], [2]]
@[go_sem] noncomputable def s_l8Parts_K : Known := (Known.nil).cons 296 ctDdtT s_specDdtText s_specDdtText_e
set_option maxHeartbeats 8000000 in
theorem s_l8Parts : Sound Tryz.prog 268 ctParts := by
  have ke := s_l8Parts_K.env []
  have kl : Lives s_l8Parts_lv := trivial
  refine sound_intro (E := ⟨ti, s_l8Parts_K.Γ, []⟩) ke Tryz.func268 Tryz.ntmps268 rfl (rs := [.tmp 2]) rfl ?_
  intro args os hp
  unfold ctParts at hp ⊢
  dsimp only at hp ⊢
  split at hp
  · rename_i es
    refine ⟨by simp, fun φ0 w0 => ?_⟩
    have hlen : es.length ≤ 4000000 := hp
    obtain ⟨T, hT⟩ : ∃ T : Nat → List ByteArray, T = fun i => (List.range i).map fun j => ddtT ((es.drop (6 * j)).take 6) := ⟨_, rfl⟩
    have t0 : T 0 = [] := by rw [hT]; rfl
    have z6 : (6 : Int) * ((0 : Nat) : Int) = 0 := rfl
    refine goh trivial ?_
    refine W_for (partsN es) (fun i => True) (fun i => ⟨[(0, .one (.isl .ent es)), (3, .one (.osl .str 0 0 i)), (4, vi (6 * (i : Int)))], [some (.arr .str (T i))], []⟩) [some 0] (leh (And.intro t0 z6)) trivial fun i hi _ => ?_
    have hp6 : partsN es = (es.length + 5) / 6 := rfl
    have hTl : (T i).length = i := by rw [hT]; simp
    have hTt : (T i).take i = T i := List.take_of_length_le (by omega)
    have hs : T (i + 1) = T i ++ [ddtT ((es.drop (6 * i)).take 6)] := by rw [hT]; simp only [List.range_succ, List.map_append]; rfl
    have w1 : IntKind.i64.wrap (6 * (i : Int) + 6) = 6 * i + 6 := wrap_id _ (by omega) (by omega)
    have e6 : (6 : Int) * (i : Int) + 6 = 6 * ((i + 1 : Nat) : Int) := by omega
    have n6 : (6 * (i : Int)).toNat = 6 * i := by omega
    have hl6 : ((es.drop (6 * i)).take 6).length ≤ 6 := by rw [List.length_take]; exact Nat.min_le_left ..
    refine goh trivial ?_
    refine W_cnd ?_ ?_ <;> (try simp only [cnd_r]) <;> intro hlt
    · have hi' : i < partsN es := by omega
      by_cases hk : (6 : Int) * i + 6 > es.length
      · have hc : decide ((6 : Int) * i + 6 > es.length) = true := decide_eq_true hk
        have d1 : (es.drop (6 * i)).take (es.length - 6 * i) = (es.drop (6 * i)).take 6 := by
          rw [List.take_of_length_le (by rw [List.length_drop]; omega), List.take_of_length_le (by rw [List.length_drop]; omega)]
        refine goh (And.intro w1 hc) ?_
        refine W_cnd ?_ ?_ <;> intro hlit <;> try (cases hlit; done)
        refine goh (And.intro n6 (And.intro d1 (And.intro hTl hTt))) ?_
        exact ⟨[some 2], by omega, leh (And.intro hs (And.intro hTl e6)), trivial⟩
      · have hc : decide ((6 : Int) * i + 6 > es.length) = false := decide_eq_false hk
        have n7 : (6 * (i : Int) + 6).toNat = 6 * i + 6 := by omega
        have n8 : 6 * i + 6 - 6 * i = 6 := by omega
        refine goh (And.intro w1 hc) ?_
        refine W_cnd ?_ ?_ <;> intro hlit <;> try (cases hlit; done)
        refine goh (And.intro n6 (And.intro n7 (And.intro n8 (And.intro hTl hTt)))) ?_
        exact ⟨[some 2], by omega, leh (And.intro hs (And.intro hTl e6)), trivial⟩
    · obtain rfl : i = partsN es := by omega
      have e : partsT es = T (partsN es) := by rw [hT]; rfl
      refine goh trivial ?_
      exact finh [some 0] e
  · simp [no] at hp
@[go_sem] noncomputable def ctNeedsS : Ct := ⟨false, [[none, some .cset, some .ent, some .ptr, none, some .int, none]], fun args os => match args, os with
  | [.agg [.val (.int .i64 x), .isl .cset cs, .isl .ent es, .isl .ptr ps, .val (.bool y), .isl .int zs, .val (.int .i64 u)]], [] => ifp (cs.length ≤ 1000000 ∧ es.length ≤ 1000000) (vi (needsN ⟨x, cs, es, ps, y, zs, u⟩ : Int))
  | _, _ => no⟩
theorem s_l8Needs_e : EnterOk Tryz.prog 233 := ⟨_, Tryz.func233, rfl, by decide⟩
@[go_sem] def s_l8Needs_lv : List (List Nat) := [[1], [1, 3], [1, 3, 4], [1, 3, 4, 9], [1, 3, 4], [1, 3, 4, 17], [1, 3, 4], [1, 3, 21], [3], [2]]
@[go_sem] noncomputable def s_l8Needs_K : Known := (Known.nil).cons 268 ctParts s_l8Parts s_l8Parts_e
set_option maxHeartbeats 8000000 in
theorem s_l8Needs : Sound Tryz.prog 233 ctNeedsS := by
  have ke := s_l8Needs_K.env []
  have kl : Lives s_l8Needs_lv := trivial
  refine sound_intro (E := ⟨ti, s_l8Needs_K.Γ, []⟩) ke Tryz.func233 Tryz.ntmps233 rfl (rs := [.tmp 2]) rfl ?_
  intro args os hp
  unfold ctNeedsS at hp ⊢
  dsimp only at hp ⊢
  split at hp
  · rename_i x cs es ps y zs u
    refine ⟨by simp, fun φ0 w0 => ?_⟩
    obtain ⟨k1, k2⟩ : cs.length ≤ 1000000 ∧ es.length ≤ 1000000 := hp
    refine goh trivial ?_
    have d0 : (1 : Int) + (drtN cs 0 : Nat) = 1 := rfl
    refine W_for cs.length (fun i => True) (fun i => ⟨[(1, .one (.ptr 0 0)), (3, vi (1 + (drtN cs i : Nat))), (4, vi i)], [some (obCo x cs es ps y zs u)], []⟩) [some 0] (leh d0) trivial fun i hi _ => ?_
    have hd := drtN_le cs i
    refine goh trivial ?_
    refine W_cnd ?_ ?_ <;> (try simp only [cnd_r]) <;> intro hlt
    · have hs := drtN_succ (cs := cs) (i := i) (by omega)
      repeat' first
        | with_reducible refine red ?_
        | refine W_seq ?_
        | (refine W_reg (s_l8Needs_K.env []) s_l8Needs_lv fun K' hK' => ?_
           simp only [go_sem, ↓reduceIte, ↓reduceDIte, reduceCtorEq, Nat.reduceAdd, Nat.reduceMul, Nat.reduceSub, Nat.reduceDiv, Nat.reduceMod, Nat.reduceLT, Nat.reduceLeDiff, Nat.reduceEqDiff, Nat.reduceBEq, Int.reduceToNat, Int.reduceLE, Int.reduceLT, Int.reduceEq, Int.reduceNe, Int.reduceNeg]
           (repeat' refine And.intro ?_ ?_) <;> try first | with_reducible refine hK' ?_ | exact shut6)
        | with_reducible refine blockG_o (by decide) ?_
      cases hb : (cs.getD i ET.cset.dflt).dirty with
      | true =>
        rw [hb, if_pos rfl] at hs
        have hs' : (1 : Int) + (drtN cs (i + 1) : Nat) = 1 + (drtN cs i : Nat) + 1 := by omega
        refine W_cnd ?_ ?_ <;> intro hlit <;> try (cases hlit; done)
        refine goh trivial ?_
        exact ⟨[some 0], by omega, leh hs', trivial⟩
      | false =>
        rw [hb, if_neg (by decide)] at hs
        have hs' : (1 : Int) + (drtN cs (i + 1) : Nat) = 1 + (drtN cs i : Nat) := by omega
        refine W_cnd ?_ ?_ <;> intro hlit <;> try (cases hlit; done)
        refine goh trivial ?_
        exact ⟨[some 0], by omega, leh hs', trivial⟩
    · obtain rfl : i = cs.length := by omega
      cases y with
      | true =>
        have e : (needsN ⟨x, cs, es, ps, true, zs, u⟩ : Int) = 1 + (drtN cs cs.length : Nat) + (partsN es : Nat) := by
          simp only [needsN, ↓reduceIte]; omega
        have hpn : partsN es ≤ 1000000 := by unfold partsN; omega
        refine goh trivial ?_
        refine W_cnd ?_ ?_ <;> intro hlit <;> try (cases hlit; done)
        refine goh trivial ?_
        exact finh [] e
      | false =>
        have e : (needsN ⟨x, cs, es, ps, false, zs, u⟩ : Int) = 1 + (drtN cs cs.length : Nat) := by
          simp only [needsN, Bool.false_eq_true, ↓reduceIte]; omega
        refine goh trivial ?_
        refine W_cnd ?_ ?_ <;> intro hlit <;> try (cases hlit; done)
        refine goh trivial ?_
        exact finh [] e
  · simp [no, ifp] at hp
end Go.Proofs.YtmnbgppmfbnamaaGreatDoor
/- Functions: the first commit of a new disk. -/
namespace Go.Proofs.YtmnbgppmfbnamaaGreatDoor
open Go.RowKit

@[go_sem] def ctBlocksN : Ct := ⟨true, [], fun args os => match args, os with
  | [.one (.ptr 0 0)], [.cells [.osl .str 1 0 na, .osl .str 2 0 nb, .osl .late 3 0 nl, .val (.int .i64 x), .osl .cset 4 0 n1, .osl .ent 5 0 n2, .osl .ptr 6 0 n3, .val (.bool y), .osl .int 7 0 n4, .val (.int .i64 u), .osl .int 8 fo nf, .any, .any, .any, .any, .any, .any], .arr .str a, .arr .str b, .arr .late l, .arr .cset cs, .arr .ent es, .arr .ptr ps, .arr .int zs, .arr .int fr] =>
    ⟨((cs = [] ∧ es = [] ∧ ps = [] ∧ zs = []) ∧ (n1 = 0 ∧ n2 = 0 ∧ n3 = 0 ∧ n4 = 0) ∧ y = false) ∧ ((Dk.mk a b l).small ∧ na = a.length ∧ nb = b.length ∧ nl = l.length) ∧ (fo + nf ≤ fr.length ∧ 0 < nf ∧ fr.length ≤ 4000000) ∧ (0 ≤ x ∧ x ≤ 1000000) ∧ (Dk.mk a b l).may2 (fr.getD fo ET.int.dflt) root0 = true, .tup [(blkTo (fr.getD fo ET.int.dflt) root0 (x + 1)).tv, vb true], [(0, some (.cells [.osl .str 1 0 na, .osl .str 2 0 nb, .osl .late 9 0 (nl + 2), .val (.int .i64 x), .osl .cset 4 0 n1, .osl .ent 5 0 n2, .osl .ptr 6 0 n3, .val (.bool y), .osl .int 7 0 n4, .val (.int .i64 u), .osl .int 8 (fo + 1) (nf - 1), .any, .any, .any, .any, .any, .any])), (3, none)], [.arr .late (l ++ [⟨0, (fr.getD fo ET.int.dflt), root0⟩] ++ [⟨1, (fr.getD fo ET.int.dflt), root0⟩])]⟩
  | _, _ => no⟩
theorem s_blocksN_e : EnterOk Tryz.prog 240 := ⟨_, Tryz.func240, rfl, by decide⟩
@[go_sem] def s_blocksN_lv : List (List Nat) := [[1, 2, 3], [1, 2, 3, 16, 17], [1, 2, 3, 16, 17, 18], [1, 2, 3, 4, 16, 17], [1, 2, 3, 5, 16, 17], [1, 2, 3, 5, 16, 17, 31], [1, 2, 3, 5, 6, 7, 16, 17], [1, 2, 3, 5, 6, 16, 17, 43], [2, 3], [1, 2, 3, 16, 17], [1, 2, 3, 16, 17], [1, 2, 3, 57], [1, 2, 3], [1, 2, 3, 71], [1, 2, 3, 8], [1, 2, 3, 9, 10], [1, 2, 3, 9, 81], [2, 3], [], [2, 3]]
@[go_sem] noncomputable def s_blocksN_K : Known := ((((Known.nil).cons 276 ctMapT s_coreMap s_coreMap_e).cons 275 ctPutC s_putC s_putC_e).cons 278 ctDdtT s_ddtText s_ddtText_e).cons 279 ctRootT s_coreRoot s_coreRoot_e
set_option maxHeartbeats 8000000 in
theorem s_blocksN : Sound Tryz.prog 240 ctBlocksN := by
  have ke := s_blocksN_K.env []
  have kl : Lives s_blocksN_lv := trivial
  refine sound_intro (E := ⟨ti, s_blocksN_K.Γ, []⟩) ke Tryz.func240 Tryz.ntmps240 rfl (rs := [.cell 2 187, .cell 3 4]) rfl ?_
  intro args os hp
  unfold ctBlocksN at hp ⊢
  dsimp only at hp ⊢
  split at hp
  · rename_i na nb nl x n1 n2 n3 y n4 u fo nf a b l cs es ps zs fr
    refine ⟨by simp, fun φ0 w0 => ?_⟩
    obtain ⟨⟨⟨rfl, rfl, rfl, rfl⟩, ⟨rfl, rfl, rfl, rfl⟩, rfl⟩, ⟨⟨h1, h2, h3⟩, rfl, rfl, rfl⟩, ⟨g1, g2, g3⟩, ⟨hx0, hx1⟩, hm⟩ : ((cs = [] ∧ es = [] ∧ ps = [] ∧ zs = []) ∧ (n1 = 0 ∧ n2 = 0 ∧ n3 = 0 ∧ n4 = 0) ∧ y = false) ∧ ((Dk.mk a b l).small ∧ na = a.length ∧ nb = b.length ∧ nl = l.length) ∧ (fo + nf ≤ fr.length ∧ 0 < nf ∧ fr.length ≤ 4000000) ∧ (0 ≤ x ∧ x ≤ 1000000) ∧ (Dk.mk a b l).may2 (fr.getD fo ET.int.dflt) root0 = true := hp
    simp only at h1 h2 h3
    have hr := root_none
    have hz : root0.size ≤ 1000000 := by decide
    have hfit := core_fit0 x u
    refine goh trivial ?_
    refine W_for 0 (fun i => True) (fun i => ⟨[(1, .one (.ptr 9 0)), (2, .one (.ptr 10 0)), (3, .one (.ptr 11 0)), (16, vi 0), (17, vi i)], [some (.cells [.osl .str 1 0 a.length, .osl .str 2 0 b.length, .osl .late 3 0 l.length, .val (.int .i64 x), .osl .cset 4 0 0, .osl .ent 5 0 0, .osl .ptr 6 0 0, .val (.bool false), .osl .int 7 0 0, .val (.int .i64 u), .osl .int 8 fo nf, .any, .any, .any, .any, .any, .any]), some (.arr .str a), some (.arr .str b), some (.arr .late l), some (.arr .cset []), some (.arr .ent []), some (.arr .ptr []), some (.arr .int []), some (.arr .int fr), some (.cells [.ptr 0 0]), some (.cells [.val (.int .i64 0), .val (.int .i64 0), .val (.int .i64 0)]), some (.cells [.val (.bool false)])], []⟩) [some 0, some 1, some 2, some 3, some 4, some 5, some 6, some 7, some 8, some 9, some 10, some 11] (leh trivial) trivial fun i hi _ => ?_
    obtain rfl : i = 0 := by omega
    refine goh trivial ?_
    refine W_cnd ?_ ?_ <;> intro hlit <;> try (cases hlit; done)
    refine goh trivial ?_
    refine W_cnd ?_ ?_ <;> intro hlit <;> try (cases hlit; done)
    refine goh (And.intro hr (And.intro hm hfit)) ?_
    trace_state
    exact finh [some 0, some 1, some 2, some 3, some 4, some 5, some 6, some 7, some 8, some 12] trivial
  · simp [no] at hp
end Go.Proofs.YtmnbgppmfbnamaaGreatDoor
/- Functions: the reference's commits (the first commit of a new disk). -/
namespace Go.Proofs.YtmnbgppmfbnamaaGreatDoor
open Go.RowKit

@[go_sem] noncomputable def ctPutR : Ct := ⟨true, [], fun args os => match args, os with
  | [.one (.ptr 0 0), .one (.val (.string t))], [.cells [.osl .str 1 0 na, .osl .str 2 0 nb, .osl .late 3 0 nl, .osl .int 4 fo nf, .val (.int .i64 x), .val (.bool o)], .arr .str a, .arr .str b, .arr .late l, .arr .int fr] =>
    if (Dk.mk a b l).may2 (fr.getD fo ET.int.dflt) t = true then ⟨((Dk.mk a b l).ok = true ∧ na = a.length ∧ nb = b.length ∧ nl = l.length) ∧ (fo + nf ≤ fr.length ∧ 0 < nf ∧ fr.length ≤ 4000000) ∧ t.size ≤ 1000000, (blkTo (fr.getD fo ET.int.dflt) t x).tv, [(0, some (.cells [.osl .str 5 0 na, .osl .str 6 0 nb, .osl .late 7 0 (nl + 1 + 1), .osl .int 4 (fo + 1) (nf - 1), .val (.int .i64 x), .val (.bool o)]))], [.arr .str a, .arr .str b, .arr .late (l ++ [⟨0, fr.getD fo ET.int.dflt, t⟩] ++ [⟨1, fr.getD fo ET.int.dflt, t⟩])]⟩
    else ⟨((Dk.mk a b l).ok = true ∧ na = a.length ∧ nb = b.length ∧ nl = l.length) ∧ (fo + nf ≤ fr.length ∧ 0 < nf ∧ fr.length ≤ 4000000) ∧ t.size ≤ 1000000, (blkTo (fr.getD fo ET.int.dflt) t x).tv, [(0, some (.cells [.osl .str 5 0 na, .osl .str 6 0 nb, .osl .late 7 0 nl, .osl .int 4 (fo + 1) (nf - 1), .val (.int .i64 x), .val (.bool false)]))], [.arr .str a, .arr .str b, .arr .late l]⟩
  | _, _ => no⟩
theorem s_putR_e : EnterOk Tryz.prog 269 := ⟨_, Tryz.func269, rfl, by decide⟩
@[go_sem] def s_putR_lv : List (List Nat) := [[0, 1, 4], [0, 1, 4, 5], [0, 1, 4, 5], [0, 1, 4, 5, 6, 7], [0, 1, 4, 5, 7], [0, 1, 4, 5], [4]]
@[go_sem] noncomputable def s_putR_K : Known := ((Known.nil).cons 163 ctBlkWrite s_specBlkWrite s_specBlkWrite_e).cons 297 ctBlkTo s_specBlkTo s_specBlkTo_e
set_option maxHeartbeats 8000000 in
theorem s_putR : Sound Tryz.prog 269 ctPutR := by
  have ke := s_putR_K.env []
  have kl : Lives s_putR_lv := trivial
  refine sound_intro (E := ⟨ti, s_putR_K.Γ, []⟩) ke Tryz.func269 Tryz.ntmps269 rfl (rs := [.cell 4 187]) rfl ?_
  intro args os hp
  unfold ctPutR at hp ⊢
  dsimp only at hp ⊢
  split at hp
  · rename_i t na nb nl fo nf x o a b l fr
    refine ⟨by simp, fun φ0 w0 => ?_⟩
    obtain ⟨at_, hat⟩ : ∃ q, fr.getD fo ET.int.dflt = q := ⟨_, rfl⟩
    rw [hat] at hp
    have hp' : ((Dk.mk a b l).ok = true ∧ na = a.length ∧ nb = b.length ∧ nl = l.length) ∧ (fo + nf ≤ fr.length ∧ 0 < nf ∧ fr.length ≤ 4000000) ∧ t.size ≤ 1000000 := by
      by_cases h : (Dk.mk a b l).may2 at_ t = true
      · rw [if_pos h] at hp; exact hp
      · rw [if_neg h] at hp; exact hp
    clear hp
    obtain ⟨⟨hok, rfl, rfl, rfl⟩, ⟨g1, g2, g3⟩, hts⟩ := hp'
    obtain ⟨h1, h2, h3⟩ : a.length ≤ 120 ∧ b.length ≤ 120 ∧ l.length ≤ 600 := Dk.ok_small hok
    have d1 : fo + 0 = fo := rfl
    have oF : (if o = true then false else false) = false := by cases o <;> rfl
    have oT : (if o = true then true else false) = o := by cases o <;> rfl
    cases hm : (Dk.mk a b l).may2 at_ t with
    | false =>
      have b1 : blkWrite ⟨a, b, l⟩ at_ t = ⟨a, b, l⟩ := by unfold blkWrite; rw [if_pos hok, hm]; rfl
      have b2 : blkWrites ⟨a, b, l⟩ at_ t = false := by unfold blkWrites; rw [hok, hm]; rfl
      cases o with
      | true =>
        refine goh (And.intro hat (And.intro b1 (And.intro b2 d1))) ?_
        exact finh [some 0, some 1, some 2, some 3, some 4, some 6, some 7, some 8] (And.intro hat hm)
      | false =>
        refine goh (And.intro hat (And.intro b1 (And.intro b2 d1))) ?_
        exact finh [some 0, some 1, some 2, some 3, some 4, some 6, some 7, some 8] (And.intro hat hm)
    | true =>
      have b1 : blkWrite ⟨a, b, l⟩ at_ t = ⟨a, b, l ++ [⟨0, at_, t⟩] ++ [⟨1, at_, t⟩]⟩ := by unfold blkWrite; rw [if_pos hok, hm]; rfl
      have b2 : blkWrites ⟨a, b, l⟩ at_ t = true := by unfold blkWrites; rw [hok, hm]; rfl
      cases o with
      | true =>
        refine goh (And.intro hat (And.intro b1 (And.intro b2 d1))) ?_
        exact finh [some 0, some 1, some 2, some 3, some 4, some 6, some 7, some 8] (And.intro hat hm)
      | false =>
        refine goh (And.intro hat (And.intro b1 (And.intro b2 d1))) ?_
        exact finh [some 0, some 1, some 2, some 3, some 4, some 6, some 7, some 8] (And.intro hat hm)
  · simp [no] at hp
@[go_sem] noncomputable def ctRingS : Ct := ⟨false, [[some .str, some .str, some .late]], fun args os => match args, os with
  | [.agg [.isl .str a, .isl .str b, .isl .late l], .one (.val (.int .i64 x)), .agg [.val (.int .i64 p), .val (.int .i64 q), .val (.int .i64 r)]], [] => ⟨(Dk.mk a b l).small ∧ 0 ≤ x ∧ x ≤ 2000000, .tup [(blkWrite ⟨a, b, l⟩ (1 + x.tmod 4) (uberT x ⟨p, q, r⟩)).v 0, vb (blkWrites ⟨a, b, l⟩ (1 + x.tmod 4) (uberT x ⟨p, q, r⟩))], [], (blkWrite ⟨a, b, l⟩ (1 + x.tmod 4) (uberT x ⟨p, q, r⟩)).objs⟩
  | _, _ => no⟩
theorem s_l8Ring_e : EnterOk Tryz.prog 235 := ⟨_, Tryz.func235, rfl, by decide⟩
@[go_sem] def s_l8Ring_lv : List (List Nat) := [[1, 3, 5, 6], [6, 7]]
@[go_sem] noncomputable def s_l8Ring_K : Known := ((Known.nil).cons 272 ctUber s_specUber s_specUber_e).cons 163 ctBlkWrite s_specBlkWrite s_specBlkWrite_e
set_option maxHeartbeats 8000000 in
theorem s_l8Ring : Sound Tryz.prog 235 ctRingS := by
  have ke := s_l8Ring_K.env []
  have kl : Lives s_l8Ring_lv := trivial
  refine sound_intro (E := ⟨ti, s_l8Ring_K.Γ, []⟩) ke Tryz.func235 Tryz.ntmps235 rfl (rs := [.cell 6 36, .tmp 7]) rfl ?_
  intro args os hp
  unfold ctRingS at hp ⊢
  dsimp only at hp ⊢
  split at hp
  · rename_i a b l x p q r
    refine ⟨by simp, fun φ0 w0 => ?_⟩
    obtain ⟨⟨h1, h2, h3⟩, hx0, hx1⟩ : (Dk.mk a b l).small ∧ 0 ≤ x ∧ x ≤ 2000000 := hp
    simp only at h1 h2 h3
    have hr : 0 ≤ x.tmod 4 ∧ x.tmod 4 < 4 := ⟨Int.tmod_nonneg 4 hx0, Int.tmod_lt_of_pos x (by decide)⟩
    obtain ⟨m, hm⟩ : ∃ m, x.tmod 4 = m := ⟨_, rfl⟩
    rw [hm] at hr
    have w1 : IntKind.i64.wrap (1 + m) = 1 + m := wrap_id _ (by omega) (by omega)
    obtain ⟨d, hd⟩ : ∃ d, blkWrite ⟨a, b, l⟩ (1 + m) (uberT x ⟨p, q, r⟩) = d := ⟨_, rfl⟩
    refine goh (And.intro hm (And.intro w1 hd)) ?_
    exact finh [some 3, some 4, some 5] (And.intro hm hd)
  · simp [no] at hp
end Go.Proofs.YtmnbgppmfbnamaaGreatDoor
/- Functions: a commit's number and pointer that are drawn; an open disk. -/
namespace Go.Proofs.YtmnbgppmfbnamaaGreatDoor
open Go.RowKit

theorem s_diskOpen_e : EnterOk Tryz.prog 14 := ⟨_, Tryz.func14, rfl, by decide⟩
@[go_sem] def s_diskOpen_lv : List (List Nat) := [[0, 2], [0, 2, 5], [2], [2]]
@[go_sem] noncomputable def s_diskOpen_K : Known := (Known.nil).cons 46 ctWithin s_within s_within_e
set_option maxHeartbeats 8000000 in
theorem s_diskOpen : Sound Tryz.prog 14 ctSpecOpen := by
  have ke := s_diskOpen_K.env []
  have kl : Lives s_diskOpen_lv := trivial
  refine sound_intro (E := ⟨ti, s_diskOpen_K.Γ, []⟩) ke Tryz.func14 Tryz.ntmps14 rfl (rs := [.cell 2 36]) rfl ?_
  intro args os hp
  unfold ctSpecOpen at hp ⊢
  dsimp only at hp ⊢
  split at hp
  · rename_i n
    refine ⟨by simp, fun φ0 w0 => ?_⟩
    clear hp
    have nt : (!true) = false := rfl
    have nf : (!false) = true := rfl
    by_cases hn : 1 ≤ n ∧ n ≤ 120
    · have c : (decide (1 ≤ n) && decide (n ≤ 120)) = true := by simp [hn.1, hn.2]
      have hd : dkOpen n = ⟨List.replicate n.toNat ⟨#[]⟩, List.replicate n.toNat ⟨#[]⟩, []⟩ := by unfold dkOpen; rw [if_pos hn]
      obtain ⟨n1, n2⟩ := hn
      refine goh (And.intro c nt) ?_
      refine W_cnd ?_ ?_ <;> intro hlit <;> try (cases hlit; done)
      refine goh trivial ?_
      rw [hd]
      refine ⟨by (simp only [go_sem, ↓reduceIte, reduceCtorEq, Nat.reduceAdd, Nat.reduceLT, Nat.reduceLeDiff, Nat.reduceEqDiff]) <;> trivial, [some 1, some 2, none], ?_⟩
      all_goals try simp only [go_sem, inj_r, ↓reduceIte, reduceCtorEq, Nat.reduceAdd, Nat.reduceLT, Nat.reduceLeDiff, Nat.reduceEqDiff, Int.reduceEq]
      all_goals (repeat' refine And.intro ?_ ?_) <;> try exact shut7
      all_goals simp only [List.length_replicate]
    · have c : (decide (1 ≤ n) && decide (n ≤ 120)) = false := by
        rw [Bool.and_eq_false_iff, decide_eq_false_iff_not, decide_eq_false_iff_not]; omega
      have hd : dkOpen n = ⟨[], [], []⟩ := by unfold dkOpen; rw [if_neg hn]
      refine goh (And.intro c nf) ?_
      refine W_cnd ?_ ?_ <;> intro hlit <;> try (cases hlit; done)
      refine goh trivial ?_
      rw [hd]
      exact finh [none, none, none] trivial
  · simp [no] at hp
def ucN (code : List UInt8) : Int := ET.int.at [1, 2, 99, 0, -1, 1000000, 1000001] (pickV (code.take 2000) 0 7).toNat
def ucP (code : List UInt8) : Ptr := (ptrD (code.take 2000) (blkDisk (code.take 2000) 1).1 (blkDisk (code.take 2000) 1).2).1
@[go_sem] def ctDrawUber : Ct := ⟨false, [[some .byte]], fun args os => match args, os with
  | [.one (.isl .byte code)], [] => ifp (code.length ≤ 1048576) (.tup [vi (ucN code), (ucP code).tv])
  | _, _ => no⟩
/-- What a torn write leaves. -/
theorem torn_disk {s t : ByteArray} (hs : s.size ≤ 420) (ht : t.size ≤ 420) :
    dkWrite (dkOpen 2) 0 1 t = ⟨[⟨#[]⟩, ⟨#[]⟩], [⟨#[]⟩, ⟨#[]⟩], [⟨0, 1, t⟩]⟩ ∧
    dkFlush ⟨[⟨#[]⟩, ⟨#[]⟩], [⟨#[]⟩, ⟨#[]⟩], [⟨0, 1, t⟩]⟩ = ⟨[⟨#[]⟩, t], [⟨#[]⟩, ⟨#[]⟩], []⟩ ∧
    dkWrite ⟨[⟨#[]⟩, t], [⟨#[]⟩, ⟨#[]⟩], []⟩ 0 1 s = ⟨[⟨#[]⟩, t], [⟨#[]⟩, ⟨#[]⟩], [⟨0, 1, s⟩]⟩ ∧
    dkFall ⟨[⟨#[]⟩, t], [⟨#[]⟩, ⟨#[]⟩], [⟨0, 1, s⟩]⟩ [2] = ⟨[⟨#[]⟩, torn t s], [⟨#[]⟩, ⟨#[]⟩], []⟩ := by
  have e0 : dkOpen 2 = ⟨[⟨#[]⟩, ⟨#[]⟩], [⟨#[]⟩, ⟨#[]⟩], []⟩ := rfl
  have k0 : Dk.ok ⟨[⟨#[]⟩, ⟨#[]⟩], [⟨#[]⟩, ⟨#[]⟩], []⟩ = true := by decide
  have m0 : Dk.may ⟨[⟨#[]⟩, ⟨#[]⟩], [⟨#[]⟩, ⟨#[]⟩], []⟩ 0 1 t = true := (may_iff _ _ _ _).2 ⟨.inl rfl, by decide, by decide, ht, by decide⟩
  have k1 := Dk.add_ok k0 m0
  have k1 : Dk.ok ⟨[⟨#[]⟩, ⟨#[]⟩], [⟨#[]⟩, ⟨#[]⟩], [⟨0, 1, t⟩]⟩ = true := k1
  have e1 : dkFlush ⟨[⟨#[]⟩, ⟨#[]⟩], [⟨#[]⟩, ⟨#[]⟩], [⟨0, 1, t⟩]⟩ = ⟨[⟨#[]⟩, t], [⟨#[]⟩, ⟨#[]⟩], []⟩ := by unfold dkFlush; rw [if_pos k1]; rfl
  have k2 : Dk.ok ⟨[⟨#[]⟩, t], [⟨#[]⟩, ⟨#[]⟩], []⟩ = true := by rw [← e1]; exact dkFlush_ok k1
  have m2 : Dk.may ⟨[⟨#[]⟩, t], [⟨#[]⟩, ⟨#[]⟩], []⟩ 0 1 s = true := (may_iff _ _ _ _).2 ⟨.inl rfl, by show (0 : Int) ≤ 1; decide, by show (1 : Int) < 2; decide, hs, by show 0 < 600; decide⟩
  have k3 : Dk.ok ⟨[⟨#[]⟩, t], [⟨#[]⟩, ⟨#[]⟩], [⟨0, 1, s⟩]⟩ = true := Dk.add_ok k2 m2
  refine ⟨?_, e1, ?_, ?_⟩
  · rw [e0]; unfold dkWrite; rw [if_pos k0, if_pos m0]; rfl
  · unfold dkWrite; rw [if_pos k2, if_pos m2]; rfl
  · unfold dkFall; rw [if_pos k3]; rfl
end Go.Proofs.YtmnbgppmfbnamaaGreatDoor
/- Functions: the reference's first commit of a new disk. -/
namespace Go.Proofs.YtmnbgppmfbnamaaGreatDoor
open Go.RowKit

noncomputable def mayB (d : Dk) (c : Co) : Bool := decide (c.txg < 1000000) && decide (((freeL c.ddt c.safe d.a.length).length : Int) ≥ (needsN c : Nat))
@[go_sem] noncomputable def ctMay : Ct := ⟨false, [[some .str, some .str, some .late], [none, some .cset, some .ent, some .ptr, none, some .int, none]], fun args os => match args, os with
  | [.agg [.isl .str a, .isl .str b, .isl .late l], .agg [.val (.int .i64 x), .isl .cset cs, .isl .ent es, .isl .ptr ps, .val (.bool y), .isl .int zs, .val (.int .i64 u)]], [] => ifp ((cs.length ≤ 1000000 ∧ es.length ≤ 1000000 ∧ zs.length ≤ 1000000) ∧ a.length ≤ 1000) (vb (mayB ⟨a, b, l⟩ ⟨x, cs, es, ps, y, zs, u⟩))
  | _, _ => no⟩
theorem s_l8May_e : EnterOk Tryz.prog 187 := ⟨_, Tryz.func187, rfl, by decide⟩
@[go_sem] def s_l8May_lv : List (List Nat) := [[2, 3], [4]]
@[go_sem] noncomputable def s_l8May_K : Known := ((Known.nil).cons 232 ctFreeS s_l7Free s_l7Free_e).cons 233 ctNeedsS s_l8Needs s_l8Needs_e
set_option maxHeartbeats 8000000 in
theorem s_l8May : Sound Tryz.prog 187 ctMay := by
  have ke := s_l8May_K.env []
  have kl : Lives s_l8May_lv := trivial
  refine sound_intro (E := ⟨ti, s_l8May_K.Γ, []⟩) ke Tryz.func187 Tryz.ntmps187 rfl (rs := [.tmp 4]) rfl ?_
  intro args os hp
  unfold ctMay at hp ⊢
  dsimp only at hp ⊢
  split at hp
  · rename_i a b l x cs es ps y zs u
    refine ⟨by simp, fun φ0 w0 => ?_⟩
    obtain ⟨⟨k1, k2, k3⟩, h1⟩ : (cs.length ≤ 1000000 ∧ es.length ≤ 1000000 ∧ zs.length ≤ 1000000) ∧ a.length ≤ 1000 := hp
    cases hx : decide (x < 1000000) with
    | true =>
      have e : mayB ⟨a, b, l⟩ ⟨x, cs, es, ps, y, zs, u⟩ = decide (((freeL es zs a.length).length : Int) ≥ (needsN ⟨x, cs, es, ps, y, zs, u⟩ : Nat)) := by
        unfold mayB; simp only [hx, Bool.true_and]
      refine goh hx ?_
      exact finh [] e
    | false =>
      have e : mayB ⟨a, b, l⟩ ⟨x, cs, es, ps, y, zs, u⟩ = false := by
        unfold mayB; simp only [hx, Bool.false_and]
      refine goh hx ?_
      exact finh [] e
  · simp [no, ifp] at hp
theorem free_none (n : Nat) (h : 13 < n) : ∃ fr, freeL [] [] n = fr ∧ fr.length = n - 13 ∧ fr.getD 0 ET.int.dflt = 13 := by
  have hb : ∀ a, freeB [] [] a = true := fun a => by unfold freeB thereE hasI; simp
  have e : freeL [] [] n = (List.range ((n : Int) - 13).toNat).map fun j : Nat => (13 + j : Int) := by
    unfold freeL freeN
    exact List.filter_eq_self.2 fun a _ => hb a
  have hn : ((n : Int) - 13).toNat = n - 13 := by omega
  refine ⟨_, rfl, ?_, ?_⟩
  · rw [e, hn]; simp
  · rw [e, hn]
    obtain ⟨m, hm⟩ : ∃ m, n - 13 = m + 1 := ⟨n - 14, by omega⟩
    rw [hm, List.range_succ_eq_map]
    rfl
@[go_sem] noncomputable def ctBlocksS : Ct := ⟨true, [], fun args os => match args, os with
  | [.agg [.osl .str 0 0 na, .osl .str 1 0 nb, .osl .late 2 0 nl], .agg [.val (.int .i64 x), .isl .cset cs, .isl .ent es, .isl .ptr ps, .val (.bool y), .isl .int zs, .val (.int .i64 u)]], [.arr .str a, .arr .str b, .arr .late l] =>
    ⟨((cs = [] ∧ es = [] ∧ ps = [] ∧ zs = []) ∧ y = false) ∧ ((Dk.mk a b l).ok = true ∧ na = a.length ∧ nb = b.length ∧ nl = l.length) ∧ 13 < a.length ∧ (0 ≤ x ∧ x ≤ 1000000) ∧ (Dk.mk a b l).may2 13 root0 = true,
     .tup [.one (.ptr 3 0), .agg [.val (.int .i64 x), .osl .cset 8 0 0, .osl .ent 9 0 0, .osl .ptr 10 0 0, .val (.bool false), .osl .int 11 0 0, .val (.int .i64 u)], (blkTo 13 root0 (x + 1)).tv], [],
     [.cells [.osl .str 4 0 na, .osl .str 5 0 nb, .osl .late 6 0 (nl + 1 + 1), .osl .int 7 1 (na - 13 - 1), .val (.int .i64 (x + 1)), .val (.bool true)], .arr .str a, .arr .str b, .arr .late (l ++ [⟨0, 13, root0⟩] ++ [⟨1, 13, root0⟩]), .arr .int (freeL [] [] na), .arr .cset [], .arr .ent [], .arr .ptr [], .arr .int []]⟩
  | _, _ => no⟩
theorem s_l8Blocks_e : EnterOk Tryz.prog 234 := ⟨_, Tryz.func234, rfl, by decide⟩
@[go_sem] def s_l8Blocks_lv : List (List Nat) := [[2, 3, 5, 6], [2, 3, 5, 6], [3, 5, 6, 7], [3, 5, 6, 7, 8], [3, 5, 6, 7, 8, 30], [3, 5, 6, 7, 8], [3, 5, 6, 7, 8, 38], [3, 5, 6, 7, 8], [3, 5, 6, 7, 8], [3, 5, 6, 7, 59], [3, 5, 6, 7, 9], [3, 5, 6, 7, 9], [3, 5, 6, 7, 9, 10], [3, 5, 6, 7, 9, 10, 67], [3, 5, 6, 7, 9, 10], [3, 5, 6, 7, 9, 10], [3, 5, 6, 7], [3, 5, 6, 7, 11], [4, 5, 6]]
@[go_sem] noncomputable def s_l8Blocks_K : Known := ((((((Known.nil).cons 92 ctToCore s_l6Copy s_l6Copy_e).cons 232 ctFreeS s_l7Free s_l7Free_e).cons 270 ctMapT s_specCoreMap s_specCoreMap_e).cons 269 ctPutR s_putR s_putR_e).cons 268 ctParts s_l8Parts s_l8Parts_e).cons 271 ctRootT s_specCoreRoot s_specCoreRoot_e
set_option maxHeartbeats 8000000 in
theorem s_l8Blocks : Sound Tryz.prog 234 ctBlocksS := by
  have ke := s_l8Blocks_K.env []
  have kl : Lives s_l8Blocks_lv := trivial
  refine sound_intro (E := ⟨ti, s_l8Blocks_K.Γ, []⟩) ke Tryz.func234 Tryz.ntmps234 rfl (rs := [.tmp 4, .cell 5 68, .cell 6 187]) rfl ?_
  intro args os hp
  unfold ctBlocksS at hp ⊢
  dsimp only at hp ⊢
  split at hp
  · rename_i na nb nl x cs es ps y zs u a b l
    refine ⟨by simp, fun φ0 w0 => ?_⟩
    obtain ⟨⟨⟨rfl, rfl, rfl, rfl⟩, rfl⟩, ⟨hok, rfl, rfl, rfl⟩, h13, ⟨hx0, hx1⟩, hm⟩ : ((cs = [] ∧ es = [] ∧ ps = [] ∧ zs = []) ∧ y = false) ∧ ((Dk.mk a b l).ok = true ∧ na = a.length ∧ nb = b.length ∧ nl = l.length) ∧ 13 < a.length ∧ (0 ≤ x ∧ x ≤ 1000000) ∧ (Dk.mk a b l).may2 13 root0 = true := hp
    obtain ⟨h1, h2, h3⟩ : a.length ≤ 120 ∧ b.length ≤ 120 ∧ l.length ≤ 600 := Dk.ok_small hok
    obtain ⟨fr, hfr, hfl, hf0⟩ := free_none a.length h13
    have w1 : IntKind.i64.wrap (x + 1) = x + 1 := wrap_id _ (by omega) (by omega)
    have hr := root_none
    have hz : root0.size ≤ 1000000 := by decide
    have hfit := core_fit0 x u
    refine goh (And.intro hfr (And.intro w1 hfl)) ?_
    refine W_for 0 (fun i => True) (fun i => ⟨[(3, .one (.ptr 4 0)), (5, .one (.ptr 5 0)), (6, .one (.ptr 6 0)), (7, .one (.ptr 12 0)), (8, vi i)], [some (.arr .str a), some (.arr .str b), some (.arr .late l), some (.cells [.osl .str 0 0 a.length, .osl .str 1 0 b.length, .osl .late 2 0 l.length]), some (.cells [.val (.int .i64 x), .osl .cset 7 0 0, .osl .ent 8 0 0, .osl .ptr 9 0 0, .val (.bool false), .osl .int 10 0 0, .val (.int .i64 u)]), some (.cells [.val (.int .i64 0), .val (.slice none 0 0), .val (.slice none 0 0), .val (.slice none 0 0), .val (.bool false), .val (.slice none 0 0), .val (.int .i64 0)]), some (.cells [.val (.int .i64 0), .val (.int .i64 0), .val (.int .i64 0)]), some (.arr .cset []), some (.arr .ent []), some (.arr .ptr []), some (.arr .int []), some (.arr .int fr), some (.cells [.osl .str 0 0 a.length, .osl .str 1 0 b.length, .osl .late 2 0 l.length, .osl .int 11 0 (a.length - 13), .val (.int .i64 (x + 1)), .val (.bool true)])], []⟩) [some 0, some 1, some 2, some 3, some 4, some 5, some 6, some 7, some 8, some 9, some 10, some 11, some 12] (leh trivial) trivial fun i hi _ => ?_
    obtain rfl : i = 0 := by omega
    refine goh trivial ?_
    refine W_cnd ?_ ?_ <;> intro hlit <;> try (cases hlit; done)
    refine goh trivial ?_
    refine W_cnd ?_ ?_ <;> intro hlit <;> try (cases hlit; done)
    refine goh (And.intro hr (And.intro hf0 (And.intro hm (And.intro hok (And.intro hfl hfit))))) ?_
    exact finh [some 0, some 1, some 2, some 12, some 13, some 14, some 15, some 11, some 7, some 8, some 9, some 10] hfr
  · simp [no] at hp
def coR : Co := ⟨1, [], [], [], false, [13], 0⟩
@[go_sem] noncomputable def ctDoS : Ct := ⟨true, [], fun args os => match args, os with
  | [.agg [.osl .str 0 0 na, .osl .str 1 0 nb, .osl .late 2 0 nl], .agg [.val (.int .i64 x), .isl .cset cs, .isl .ent es, .isl .ptr ps, .val (.bool y), .isl .int zs, .val (.int .i64 u)]], [.arr .str a, .arr .str b, .arr .late l] =>
    ⟨((cs = [] ∧ es = [] ∧ ps = [] ∧ zs = []) ∧ y = false ∧ x = 0) ∧ ((Dk.mk a b l).ok = true ∧ na = a.length ∧ nb = b.length ∧ nl = l.length) ∧ 13 < a.length ∧ l = [],
     .tup [(comD a b).v 3, coR.v 6, vi 0], [], (comD a b).objs ++ coR.objs⟩
  | _, _ => no⟩
theorem s_l8Do_e : EnterOk Tryz.prog 188 := ⟨_, Tryz.func188, rfl, by decide⟩
@[go_sem] def s_l8Do_lv : List (List Nat) := [[2, 3, 4, 5], [2, 3, 4, 5, 7, 8], [2, 3, 4, 5, 7, 8, 22], [4, 5, 6], [2, 3, 4, 5, 7, 8, 9, 10], [2, 3, 4, 5, 7, 8, 9, 40], [4, 5, 6], [3, 4, 5, 8, 9], [3, 4, 5, 9], [3, 4, 5, 9], [4, 5, 6]]
@[go_sem] noncomputable def s_l8Do_K : Known := ((((Known.nil).cons 234 ctBlocksS s_l8Blocks s_l8Blocks_e).cons 236 ctDiskFlush s_specFlush s_specFlush_e).cons 235 ctRingS s_l8Ring s_l8Ring_e).cons 237 ctReach s_l7Reach s_l7Reach_e
set_option maxHeartbeats 8000000 in
theorem s_l8Do : Sound Tryz.prog 188 ctDoS := by
  have ke := s_l8Do_K.env []
  have kl : Lives s_l8Do_lv := trivial
  refine sound_intro (E := ⟨ti, s_l8Do_K.Γ, []⟩) ke Tryz.func188 Tryz.ntmps188 rfl (rs := [.cell 4 36, .cell 5 68, .tmp 6]) rfl ?_
  intro args os hp
  unfold ctDoS at hp ⊢
  dsimp only at hp ⊢
  split at hp
  · rename_i na nb nl x cs es ps y zs u a b l
    refine ⟨by simp, fun φ0 w0 => ?_⟩
    obtain ⟨⟨⟨rfl, rfl, rfl, rfl⟩, rfl, rfl⟩, ⟨hok, rfl, rfl, rfl⟩, h13, rfl⟩ : ((cs = [] ∧ es = [] ∧ ps = [] ∧ zs = []) ∧ y = false ∧ x = 0) ∧ ((Dk.mk a b l).ok = true ∧ na = a.length ∧ nb = b.length ∧ nl = l.length) ∧ 13 < a.length ∧ l = [] := hp
    obtain ⟨h1, h2, h3⟩ : a.length ≤ 120 ∧ b.length ≤ 120 ∧ ([] : List Late).length ≤ 600 := Dk.ok_small hok
    obtain ⟨m1, o1, o2, ⟨l2a, l2b⟩, m3, o3, ⟨l4a, l4b⟩, l4⟩ := com_facts hok h13
    have hb : blkTo 13 root0 1 = ⟨13, (sumOf root0 : Nat), 1⟩ := root1_eq
    have hr1 : root1 = ⟨13, (sumOf root0 : Nat), 1⟩ := root1_eq
    have f1 : dkFlush ⟨a, b, [⟨0, 13, root0⟩, ⟨1, 13, root0⟩]⟩ = (com1 a b).flushed := by unfold dkFlush; rw [if_pos (show (Dk.mk a b [⟨0, 13, root0⟩, ⟨1, 13, root0⟩]).ok = true from o1)]; rfl
    have f3 : dkFlush (com2 a b) = comD a b := by unfold dkFlush; rw [if_pos o3]; rfl
    have hc2 : com2 a b = ⟨(com1 a b).flushed.a, (com1 a b).flushed.b, [⟨0, 2, uberT 1 root1⟩, ⟨1, 2, uberT 1 root1⟩]⟩ := rfl
    rw [hc2] at f3
    rw [hr1] at f3 m3
    obtain ⟨⟨A2, B2, L2⟩, hA2⟩ : ∃ d, (com1 a b).flushed = d := ⟨_, rfl⟩
    have hL2 : L2 = [] := (congrArg Dk.l hA2).symm
    subst hL2
    rw [hA2] at f1 f3 o2 l2a l2b m3
    simp only at f1 f3 o2 l2a l2b m3
    obtain ⟨S, hS⟩ : ∃ S : Int, (sumOf root0 : Nat) = S := ⟨_, rfl⟩
    rw [hS] at hb f3 m3
    obtain ⟨U, hU⟩ : ∃ U, uberT 1 ⟨13, S, 1⟩ = U := ⟨_, rfl⟩
    rw [hU] at f3 m3
    obtain ⟨D4, hD4⟩ : ∃ d, comD a b = d := ⟨_, rfl⟩
    rw [hD4] at f3 l4a l4b l4
    have b1 : blkWrite ⟨A2, B2, []⟩ 2 U = ⟨A2, B2, [⟨0, 2, U⟩, ⟨1, 2, U⟩]⟩ := by unfold blkWrite; rw [if_pos o2, m3]; rfl
    have b2 : blkWrites ⟨A2, B2, []⟩ 2 U = true := by unfold blkWrites; rw [o2, m3]; rfl
    have hre := reach_none u
    have q0 : (0 : Int) + 1 = 1 := rfl
    have q1 : (1 : Int).tmod 4 = 1 := rfl
    have q2 : (1 : Int) + 1 = 2 := rfl
    have nt : (!true) = false := rfl
    repeat' first
      | with_reducible refine red ?_
      | refine W_seq ?_
      | (refine W_reg (s_l8Do_K.env []) s_l8Do_lv fun K' hK' => ?_
         simp only [go_sem, m1, hok, q0, hb, nt, root0_size, ↓reduceIte, ↓reduceDIte, reduceCtorEq, Nat.reduceAdd, Nat.reduceMul, Nat.reduceSub, Nat.reduceDiv, Nat.reduceMod, Nat.reduceLT, Nat.reduceLeDiff, Nat.reduceEqDiff, Nat.reduceBEq, Int.reduceToNat, Int.reduceLE, Int.reduceLT, Int.reduceEq, Int.reduceNe, Int.reduceNeg]
         (repeat' refine And.intro ?_ ?_) <;> try first | with_reducible refine hK' ?_ | exact shut6)
      | with_reducible refine blockG_o (by decide) ?_
    refine W_cnd ?_ ?_ <;> intro hlit <;> try (cases hlit; done)
    refine goh (And.intro f1 (And.intro q1 (And.intro q2 (And.intro hU (And.intro b1 (And.intro b2 nt)))))) ?_
    refine W_cnd ?_ ?_ <;> intro hlit <;> try (cases hlit; done)
    refine goh (And.intro f3 hre) ?_
    refine ⟨by (simp only [go_sem, hD4, coR, ↓reduceIte, reduceCtorEq, Nat.reduceAdd, Nat.reduceLT, Nat.reduceLeDiff, Nat.reduceEqDiff]) <;> trivial, [some 0, some 1, some 2, some 25, some 26, some 27, some 12, some 13, some 14, some 24], ?_⟩
    all_goals try simp only [go_sem, hD4, coR, inj_r, ↓reduceIte, reduceCtorEq, Nat.reduceAdd, Nat.reduceLT, Nat.reduceLeDiff, Nat.reduceEqDiff, Int.reduceEq]
    all_goals (repeat' refine And.intro ?_ ?_) <;> try exact shut7
  · simp [no] at hp
noncomputable def comV (a b : List ByteArray) : Dk × Co × Int := if (Dk.mk a b []).ok = true ∧ 13 < a.length then (comD a b, coR, 0) else (.nil, .nil, 5)
@[go_sem] noncomputable def ctDoNS : Ct := ⟨false, [[some .str, some .str, some .late], [none, some .cset, some .ent, some .ptr, none, some .int, none]], fun args os => match args, os with
  | [.agg [.isl .str a, .isl .str b, .isl .late l], .agg [.val (.int .i64 x), .isl .cset cs, .isl .ent es, .isl .ptr ps, .val (.bool y), .isl .int zs, .val (.int .i64 u)]], [] =>
    ⟨((cs = [] ∧ es = [] ∧ ps = [] ∧ zs = []) ∧ y = false ∧ x = 0 ∧ u = 0) ∧ (Dk.mk a b l).small ∧ l = [], .tup [(comV a b).1.v 0, (comV a b).2.1.v 3, vi (comV a b).2.2], [], (comV a b).1.objs ++ (comV a b).2.1.objs⟩
  | _, _ => no⟩
theorem needs_none (x u : Int) : needsN ⟨x, [], [], [], false, [], u⟩ = 1 := rfl
theorem s_specDo_e : EnterOk Tryz.prog 114 := ⟨_, Tryz.func114, rfl, by decide⟩
@[go_sem] def s_specDo_lv : List (List Nat) := [[2, 3, 4, 5], [2, 3, 4, 5, 24], [4, 5, 6], [2, 3, 4, 5, 30], [4, 5, 6], [2, 3, 4, 5, 7, 8, 9], [2, 3, 4, 5, 7, 8, 9, 44], [4, 5, 6], [4, 5, 6]]
@[go_sem] noncomputable def s_specDo_K : Known := ((((((Known.nil).cons 88 ctDiskOk s_specDiskOk s_specDiskOk_e).cons 89 ctCoreOk s_specCoreOk s_specCoreOk_e).cons 187 ctMay s_l8May s_l8May_e).cons 91 ctOwn s_copy s_copy_e).cons 92 ctToCore s_l6Copy s_l6Copy_e).cons 188 ctDoS s_l8Do s_l8Do_e
set_option maxHeartbeats 8000000 in
theorem s_specDo : Sound Tryz.prog 114 ctDoNS := by
  have ke := s_specDo_K.env []
  have kl : Lives s_specDo_lv := trivial
  refine sound_intro (E := ⟨ti, s_specDo_K.Γ, []⟩) ke Tryz.func114 Tryz.ntmps114 rfl (rs := [.cell 4 36, .cell 5 68, .tmp 6]) rfl ?_
  intro args os hp
  unfold ctDoNS at hp ⊢
  dsimp only at hp ⊢
  split at hp
  · rename_i a b l x cs es ps y zs u
    refine ⟨by simp, fun φ0 w0 => ?_⟩
    obtain ⟨⟨⟨rfl, rfl, rfl, rfl⟩, rfl, rfl, rfl⟩, ⟨h1, h2, h3⟩, rfl⟩ : ((cs = [] ∧ es = [] ∧ ps = [] ∧ zs = []) ∧ y = false ∧ x = 0 ∧ u = 0) ∧ (Dk.mk a b l).small ∧ l = [] := hp
    simp only at h1 h2 h3
    have hco := core0_ok (u := 0) (by decide) (by decide)
    have hfit := core_fit0 0 0
    have nt : (!true) = false := rfl
    have nf : (!false) = true := rfl
    cases hok : (Dk.mk a b []).ok with
    | false =>
      have e : comV a b = (.nil, .nil, 5) := by unfold comV; rw [if_neg (by rw [hok]; simp)]
      refine goh (And.intro hok (And.intro hco (And.intro hfit (And.intro nf nt)))) ?_
      refine W_cnd ?_ ?_ <;> intro hlit <;> try (cases hlit; done)
      refine goh trivial ?_
      refine ⟨by (simp only [go_sem, e, Dk.nil, Co.nil, ↓reduceIte, reduceCtorEq, Nat.reduceAdd, Nat.reduceLT, Nat.reduceLeDiff, Nat.reduceEqDiff]) <;> trivial, [none, none, none, none, none, none, none], ?_⟩
      all_goals try simp only [go_sem, e, Dk.nil, Co.nil, inj_r, ↓reduceIte, reduceCtorEq, Nat.reduceAdd, Nat.reduceLT, Nat.reduceLeDiff, Nat.reduceEqDiff, Int.reduceEq]
      all_goals (repeat' refine And.intro ?_ ?_) <;> try exact shut7
    | true =>
      by_cases h13 : 13 < a.length
      · have e : comV a b = (comD a b, coR, 0) := by unfold comV; rw [if_pos ⟨hok, h13⟩]
        have c1 : decide ((a.length : Int) ≤ 13) = false := by simp; omega
        obtain ⟨g1, g2, -⟩ : a.length ≤ 120 ∧ b.length ≤ 120 ∧ ([] : List Late).length ≤ 600 := Dk.ok_small hok
        obtain ⟨fr, hfr, hfl, hf0⟩ := free_none a.length h13
        have hmay : mayB ⟨a, b, []⟩ ⟨0, [], [], [], false, [], 0⟩ = true := by
          unfold mayB
          simp only [hfr, hfl, needs_none]
          simp; omega
        obtain ⟨D4, hD4⟩ : ∃ d, comD a b = d := ⟨_, rfl⟩
        rw [hD4] at e
        refine goh (And.intro hok (And.intro hco (And.intro hfit (And.intro c1 (And.intro nf nt))))) ?_
        refine W_cnd ?_ ?_ <;> intro hlit <;> try (cases hlit; done)
        refine goh (And.intro hmay nt) ?_
        refine W_cnd ?_ ?_ <;> intro hlit <;> try (cases hlit; done)
        refine goh (And.intro hok hD4) ?_
        refine W_cnd ?_ ?_ <;> intro hlit <;> try (cases hlit; done)
        refine goh trivial ?_
        refine ⟨by (simp only [go_sem, e, coR, ↓reduceIte, reduceCtorEq, Nat.reduceAdd, Nat.reduceLT, Nat.reduceLeDiff, Nat.reduceEqDiff]) <;> trivial, [some 7, some 8, some 9, some 10, some 11, some 12, some 13], ?_⟩
        all_goals try simp only [go_sem, e, coR, inj_r, ↓reduceIte, reduceCtorEq, Nat.reduceAdd, Nat.reduceLT, Nat.reduceLeDiff, Nat.reduceEqDiff, Int.reduceEq]
        all_goals (repeat' refine And.intro ?_ ?_) <;> try exact shut7
      · have e : comV a b = (.nil, .nil, 5) := by unfold comV; rw [if_neg (fun h => h13 h.2)]
        have c1 : decide ((a.length : Int) ≤ 13) = true := by simp; omega
        refine goh (And.intro hok (And.intro hco (And.intro hfit (And.intro c1 (And.intro nf nt))))) ?_
        refine W_cnd ?_ ?_ <;> intro hlit <;> try (cases hlit; done)
        refine goh trivial ?_
        refine ⟨by (simp only [go_sem, e, Dk.nil, Co.nil, ↓reduceIte, reduceCtorEq, Nat.reduceAdd, Nat.reduceLT, Nat.reduceLeDiff, Nat.reduceEqDiff]) <;> trivial, [none, none, none, none, none, none, none], ?_⟩
        all_goals try simp only [go_sem, e, Dk.nil, Co.nil, inj_r, ↓reduceIte, reduceCtorEq, Nat.reduceAdd, Nat.reduceLT, Nat.reduceLeDiff, Nat.reduceEqDiff, Int.reduceEq]
        all_goals (repeat' refine And.intro ?_ ?_) <;> try exact shut7
  · simp [no] at hp
/-- A new disk, committed. -/
noncomputable def newV (n : Int) : Dk × Co × Bool := ((comV (dkOpen n).a (dkOpen n).b).1, (comV (dkOpen n).a (dkOpen n).b).2.1, (comV (dkOpen n).a (dkOpen n).b).2.2 == 0)
@[go_sem] noncomputable def ctNewS : Ct := ⟨false, [], fun args os => match args, os with
  | [.one (.val (.int .i64 n))], [] => ⟨True, .tup [(newV n).1.v 0, (newV n).2.1.v 3, vb (newV n).2.2], [], (newV n).1.objs ++ (newV n).2.1.objs⟩
  | _, _ => no⟩
theorem open_late (n : Int) : (dkOpen n).l = [] := by unfold dkOpen; split <;> rfl
theorem open_small (n : Int) : (dkOpen n).a.length ≤ 120 ∧ (dkOpen n).b.length ≤ 120 := by
  unfold dkOpen
  split
  · simp; omega
  · simp
theorem s_specNew_e : EnterOk Tryz.prog 37 := ⟨_, Tryz.func37, rfl, by decide⟩
@[go_sem] def s_specNew_lv : List (List Nat) := [[0, 2, 3], [2, 3, 5, 6, 7], [2, 3, 4]]
@[go_sem] noncomputable def s_specNew_K : Known := ((Known.nil).cons 115 ctSpecOpen s_specOpen s_specOpen_e).cons 114 ctDoNS s_specDo s_specDo_e
set_option maxHeartbeats 8000000 in
theorem s_specNew : Sound Tryz.prog 37 ctNewS := by
  have ke := s_specNew_K.env []
  have kl : Lives s_specNew_lv := trivial
  refine sound_intro (E := ⟨ti, s_specNew_K.Γ, []⟩) ke Tryz.func37 Tryz.ntmps37 rfl (rs := [.cell 2 36, .cell 3 68, .tmp 4]) rfl ?_
  intro args os hp
  unfold ctNewS at hp ⊢
  dsimp only at hp ⊢
  split at hp
  · rename_i n
    refine ⟨by simp, fun φ0 w0 => ?_⟩
    clear hp
    have h1 := open_late n
    have h2 := open_small n
    have hnv : newV n = ((comV (dkOpen n).a (dkOpen n).b).1, (comV (dkOpen n).a (dkOpen n).b).2.1, (comV (dkOpen n).a (dkOpen n).b).2.2 == 0) := rfl
    obtain ⟨⟨a, b, l⟩, hd⟩ : ∃ d, dkOpen n = d := ⟨_, rfl⟩
    rw [hd] at h1 h2 hnv
    simp only at h1 h2 hnv
    subst h1
    obtain ⟨g1, g2⟩ := h2
    obtain ⟨⟨D, C, k⟩, hk⟩ : ∃ r, comV a b = r := ⟨_, rfl⟩
    rw [hk] at hnv
    refine goh (And.intro hd hk) ?_
    exact finh [some 5, some 6, some 7, some 8, some 9, some 10, some 11] hnv
  · simp [no] at hp
end Go.Proofs.YtmnbgppmfbnamaaGreatDoor
