import Derived.Test.YtjedcphhajlnoaaGreatDoorM5
set_option linter.unusedSimpArgs false
set_option linter.unusedVariables false
set_option linter.unusedSectionVars false
/- Functions: what the reader of codes draws. -/
namespace Go.Proofs.YtjedcphhajlnoaaGreatDoor
open Go.RowKit

/-- The reader's object: bytes, place. -/
@[go_sem] def rdO (bs : List UInt8) (p : Int) : Obj := .cells [.isl .byte bs, .val (.int .i64 p)]
@[go_sem] def ctOpen : Ct := ⟨true, [[some .byte]], fun args os => match args, os with
  | [.one (.isl .byte bs)], [] => ⟨bs.length ≤ 1048576, .one (.ptr 0 0), [], [rdO (bs.take 2000) 0]⟩
  | _, _ => no⟩
theorem s_open_e : EnterOk Tryz.prog 96 := ⟨_, Tryz.func96, rfl, by decide⟩
@[go_sem] def s_open_lv : List (List Nat) := [[0], [0, 5], [0], [2]]
@[go_sem] noncomputable def s_open_K : Known := Known.nil
set_option maxHeartbeats 8000000 in
theorem s_open : Sound Tryz.prog 96 ctOpen := by
  have ke := s_open_K.env []
  have kl : Lives s_open_lv := trivial
  refine sound_intro (E := ⟨ti, s_open_K.Γ, []⟩) ke Tryz.func96 Tryz.ntmps96 rfl (rs := [.tmp 2]) rfl ?_
  intro args os hp
  unfold ctOpen at hp ⊢
  dsimp only at hp ⊢
  split at hp
  · rename_i bs
    refine ⟨by simp, fun φ0 w0 => ?_⟩
    have hlen : bs.length ≤ 1048576 := hp
    clear hp
    refine goh trivial ?_
    refine W_cnd ?_ ?_ <;> (try simp only [cnd_r]) <;> intro hc
    · refine goh trivial ?_
      exact finh [some 0] trivial
    · refine goh trivial ?_
      have ht : bs.take 2000 = bs := List.take_of_length_le (by omega)
      rw [ht]
      exact finh [some 0] trivial
  · simp [no] at hp

def byteAt (bs : List UInt8) (i : Int) : Int := ((bs.getD i.toNat 0).toNat : Int)
def byteW (bs : List UInt8) (i : Int) : Int := IntKind.i64.wrap ((UInt8.toNat (bs.getD i.toNat ET.byte.dflt) : Nat) : Int)
/-- What is drawn behind the code's end. -/
def mixS (bs : List UInt8) (k : Int) : Int := IntKind.i64.wrap (IntKind.i64.wrap (IntKind.i64.wrap (IntKind.i64.wrap (byteW bs (k.tmod bs.length) * 131) + IntKind.i64.wrap (byteW bs ((IntKind.i64.wrap (IntKind.i64.wrap (k * 7) + 3)).tmod bs.length) * 1117)) + IntKind.i64.wrap (k * 29)) + IntKind.i64.wrap (IntKind.i64.wrap (k.tdiv bs.length) * 53))
def mixV (bs : List UInt8) (k : Int) : Int := IntKind.i64.wrap (((BitVec.ofInt 64 (mixS bs k) ^^^ BitVec.ofInt 64 (IntKind.i64.wrap ((mixS bs k).tdiv 64))).toNat : Nat) : Int)
theorem byteW_eq (bs : List UInt8) (i : Int) : byteW bs i = byteAt bs i ∧ 0 ≤ byteAt bs i ∧ byteAt bs i < 256 := by
  have hb : (UInt8.toNat (bs.getD i.toNat (0 : UInt8))) < 256 := UInt8.toNat_lt _
  have e : byteW bs i = IntKind.i64.wrap (byteAt bs i) := rfl
  unfold byteAt at e ⊢
  rw [e, wrap_id _ (by omega) (by omega)]
  omega
theorem tmod_in (k : Int) (n : Nat) (hk : 0 ≤ k) (hn : n ≠ 0) : 0 ≤ k.tmod n ∧ k.tmod n < n := ⟨Int.tmod_nonneg _ hk, Int.tmod_lt_of_pos _ (show (0 : Int) < n by omega)⟩
theorem tdiv_in (k : Int) (n : Int) (hk : 0 ≤ k) (hn : 0 < n) : 0 ≤ k.tdiv n ∧ k.tdiv n ≤ k := ⟨Int.tdiv_nonneg hk (by omega), by
  rw [Int.tdiv_eq_ediv_of_nonneg hk]; exact Int.ediv_le_self n hk⟩
theorem mixS_in (bs : List UInt8) (k : Int) (h1 : 0 ≤ k) (h2 : k ≤ 1000000) (hb : bs.length ≠ 0) : 0 ≤ mixS bs k ∧ mixS bs k ≤ 1000000000 := by
  obtain ⟨a1, a2, a3⟩ := byteW_eq bs (k.tmod bs.length)
  obtain ⟨b1, b2, b3⟩ := byteW_eq bs ((IntKind.i64.wrap (IntKind.i64.wrap (k * 7) + 3)).tmod bs.length)
  obtain ⟨c1, c2⟩ := tdiv_in k bs.length h1 (by omega)
  unfold mixS
  rw [a1, b1]
  generalize byteAt bs (k.tmod bs.length) = x at *
  generalize byteAt bs ((IntKind.i64.wrap (IntKind.i64.wrap (k * 7) + 3)).tmod bs.length) = y at *
  generalize k.tdiv bs.length = z at *
  rw [wrap_id (x * 131) (by omega) (by omega), wrap_id (y * 1117) (by omega) (by omega), wrap_id (k * 29) (by omega) (by omega), wrap_id z (by omega) (by omega), wrap_id (z * 53) (by omega) (by omega),
    wrap_id (x * 131 + y * 1117) (by omega) (by omega), wrap_id (x * 131 + y * 1117 + k * 29) (by omega) (by omega), wrap_id (x * 131 + y * 1117 + k * 29 + z * 53) (by omega) (by omega)]
  omega
theorem xor_in (a b : Int) (ha : 0 ≤ a) (hb : 0 ≤ b) (ha' : a < 4611686018427387904) (hb' : b < 4611686018427387904) : 0 ≤ IntKind.i64.wrap (((BitVec.ofInt 64 a ^^^ BitVec.ofInt 64 b).toNat : Nat) : Int) := by
  obtain ⟨a, rfl⟩ := Int.eq_ofNat_of_zero_le ha
  obtain ⟨b, rfl⟩ := Int.eq_ofNat_of_zero_le hb
  have h : (BitVec.ofInt 64 (a : Int) ^^^ BitVec.ofInt 64 (b : Int)).toNat < 2 ^ 62 := by
    rw [BitVec.toNat_xor, BitVec.toNat_ofInt, BitVec.toNat_ofInt]
    refine Nat.xor_lt_two_pow ?_ ?_ <;> omega
  generalize (BitVec.ofInt 64 (a : Int) ^^^ BitVec.ofInt 64 (b : Int)).toNat = x at *
  rw [wrap_id _ (by omega) (by omega)]
  omega
theorem mixV_in (bs : List UInt8) (k : Int) (h1 : 0 ≤ k) (h2 : k ≤ 1000000) (hb : bs.length ≠ 0) : 0 ≤ mixV bs k := by
  obtain ⟨a, b⟩ := mixS_in bs k h1 h2 hb
  obtain ⟨c, d⟩ := tdiv_in (mixS bs k) 64 a (by omega)
  unfold mixV
  refine xor_in _ _ a ?_ (by omega) ?_ <;> rw [wrap_id _ (by omega) (by omega)] <;> omega
/-- The number that is picked. -/
def pickV (bs : List UInt8) (p n : Int) : Int := if n < 1 ∨ bs.length = 0 then 0 else if p < bs.length then (byteAt bs p).tmod n else (mixV bs p).tmod n
@[go_sem] def ctPick : Ct := ⟨true, [], fun args os => match args, os with
  | [.one (.ptr 0 0), .one (.val (.int .i64 n))], [.cells [.isl .byte bs, .val (.int .i64 p)]] => ⟨0 ≤ p ∧ p ≤ 1000000 ∧ bs.length ≤ 2000, vi (pickV bs p n), [(0, some (rdO bs (p + 1)))], []⟩
  | _, _ => no⟩
theorem s_pick_e : EnterOk Tryz.prog 170 := ⟨_, Tryz.func170, rfl, by decide⟩
@[go_sem] def s_pick_lv : List (List Nat) := [[0, 1], [0, 1], [0, 1, 24], [4], [0, 1, 5], [0, 1, 5, 36], [4], [1, 6], [1, 6], [4]]
@[go_sem] noncomputable def s_pick_K : Known := Known.nil
set_option maxHeartbeats 8000000 in
theorem s_pick : Sound Tryz.prog 170 ctPick := by
  have ke := s_pick_K.env []
  have kl : Lives s_pick_lv := trivial
  refine sound_intro (E := ⟨ti, s_pick_K.Γ, []⟩) ke Tryz.func170 Tryz.ntmps170 rfl (rs := [.tmp 4]) rfl ?_
  intro args os hp
  unfold ctPick at hp ⊢
  dsimp only at hp ⊢
  split at hp
  · rename_i n bs p
    refine ⟨by simp, fun φ0 w0 => ?_⟩
    obtain ⟨h1, h2, h3⟩ : 0 ≤ p ∧ p ≤ 1000000 ∧ bs.length ≤ 2000 := hp
    have hw1 : IntKind.i64.wrap (p + 1) = p + 1 := wrap_id _ (by omega) (by omega)
    have hw2 : IntKind.i64.wrap (p + 1 - 1) = p := by rw [wrap_id _ (by omega) (by omega)]; omega
    refine goh (And.intro hw1 hw2) ?_
    refine W_cond _ (by exact rfl) (by exact trivial) ?_ ?_ <;> intro hc
    · have hc' : n < 1 ∨ bs.length = 0 := by
        by_cases hn : n < 1
        · exact .inl hn
        · rw [if_neg hn] at hc; simp at hc; exact .inr (by simp [hc])
      refine goh trivial ?_
      refine ⟨by (simp only [go_sem, ↓reduceIte, reduceCtorEq, Nat.reduceAdd, Nat.reduceLT, Nat.reduceLeDiff, Nat.reduceEqDiff]) <;> trivial, [some 0], ?_⟩
      all_goals try simp only [go_sem, inj_r, ↓reduceIte, reduceCtorEq, Nat.reduceAdd, Nat.reduceLT, Nat.reduceLeDiff, Nat.reduceEqDiff, Int.reduceEq]
      all_goals (repeat' refine And.intro ?_ ?_) <;> try exact shut7
      unfold pickV
      rw [if_pos hc']
    · have hn : ¬ n < 1 := by intro hn; rw [if_pos hn] at hc; cases hc
      have hl : bs.length ≠ 0 := by rw [if_neg hn] at hc; simp at hc; intro h; exact hc (List.length_eq_zero_iff.1 h)
      have hpv : pickV bs p n = if p < bs.length then (byteAt bs p).tmod n else (mixV bs p).tmod n := by
        unfold pickV
        rw [if_neg (by rintro (h | h); exact hn h; exact hl h)]
      clear hc
      refine goh hw2 ?_
      refine W_cnd ?_ ?_ <;> (try simp only [cnd_r]) <;> intro hlt
      · refine goh trivial ?_
        refine ⟨by (simp only [go_sem, ↓reduceIte, reduceCtorEq, Nat.reduceAdd, Nat.reduceLT, Nat.reduceLeDiff, Nat.reduceEqDiff]) <;> trivial, [some 0], ?_⟩
        all_goals try simp only [go_sem, inj_r, ↓reduceIte, reduceCtorEq, Nat.reduceAdd, Nat.reduceLT, Nat.reduceLeDiff, Nat.reduceEqDiff, Int.reduceEq]
        all_goals (repeat' refine And.intro ?_ ?_) <;> try exact shut7
        rw [hpv, if_pos hlt, ← (byteW_eq bs p).1]
        rfl
      · have h7 : IntKind.i64.wrap (IntKind.i64.wrap (p * 7) + 3) = p * 7 + 3 := by rw [wrap_id (p * 7) (by omega) (by omega), wrap_id _ (by omega) (by omega)]
        have t1 := tmod_in p bs.length h1 hl
        have t2 := tmod_in (p * 7 + 3) bs.length (by omega) hl
        refine goh h7 ?_
        refine ⟨by (simp only [go_sem, ↓reduceIte, reduceCtorEq, Nat.reduceAdd, Nat.reduceLT, Nat.reduceLeDiff, Nat.reduceEqDiff]) <;> trivial, [some 0], ?_⟩
        all_goals try simp only [go_sem, inj_r, ↓reduceIte, reduceCtorEq, Nat.reduceAdd, Nat.reduceLT, Nat.reduceLeDiff, Nat.reduceEqDiff, Int.reduceEq]
        all_goals (repeat' refine And.intro ?_ ?_) <;> try exact shut7
        rw [hpv, if_neg hlt, mixV, mixS, h7]
        rfl
  · simp [no] at hp
theorem pickV_in (bs : List UInt8) (p n : Int) (h1 : 0 ≤ p) (h2 : p ≤ 1000000) (hn : 1 ≤ n) : 0 ≤ pickV bs p n ∧ pickV bs p n < n := by
  unfold pickV
  split
  · omega
  · rename_i h
    have hb : bs.length ≠ 0 := fun e => h (.inr e)
    split
    · exact ⟨Int.tmod_nonneg _ (byteW_eq bs p).2.1, Int.tmod_lt_of_pos _ (by omega)⟩
    · exact ⟨Int.tmod_nonneg _ (mixV_in bs p h1 h2 hb), Int.tmod_lt_of_pos _ (by omega)⟩
end Go.Proofs.YtjedcphhajlnoaaGreatDoor
