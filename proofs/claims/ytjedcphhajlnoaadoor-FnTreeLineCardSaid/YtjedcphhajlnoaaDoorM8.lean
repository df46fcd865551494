import Derived.Test.YtjedcphhajlnoaaDoorM5
import Derived.Test.YtjedcphhajlnoaaDoorM7
set_option linter.unusedSimpArgs false
set_option linter.unusedVariables false
set_option linter.unusedSectionVars false
/- Functions: what the reader of codes draws. -/
namespace Go.Proofs.YtjedcphhajlnoaaDoor
open Go.RowKit

/-- The reader's object: bytes, place. -/
@[go_sem] def rdO (bs : List UInt8) (p : Int) : Obj := .cells [.isl .byte bs, .val (.int .i64 p)]
@[go_sem] def ctOpen : Ct := ⟨true, [[some .byte]], fun args os => match args, os with
  | [.one (.isl .byte bs)], [] => ⟨bs.length ≤ 1048576, .one (.ptr 0 0), [], [rdO (bs.take 2000) 0]⟩
  | _, _ => no⟩
theorem s_open_e : EnterOk Tryd.prog 40 := ⟨_, Tryd.func40, rfl, by decide⟩
@[go_sem] def s_open_lv : List (List Nat) := [[0], [0, 5], [0], [2]]
@[go_sem] noncomputable def s_open_K : Known := Known.nil
set_option maxHeartbeats 8000000 in
theorem s_open : Sound Tryd.prog 40 ctOpen := by
  have ke := s_open_K.env []
  have kl : Lives s_open_lv := trivial
  refine sound_intro (E := ⟨ti, s_open_K.Γ, []⟩) ke Tryd.func40 Tryd.ntmps40 rfl (rs := [.tmp 2]) rfl ?_
  intro args os hp
  unfold ctOpen at hp ⊢
  dsimp only at hp ⊢
  split at hp
  · rename_i bs
    refine ⟨by simp, fun φ0 w0 => ?_⟩
    have hlen : bs.length ≤ 1048576 := hp
    clear hp
    refine goh trivial ?_
    refine W_cnd ?_ ?_ <;> (try simp only [cnd_r]) <;> intro hc
    · refine goh trivial ?_
      exact finh [some 0] trivial
    · refine goh trivial ?_
      have ht : bs.take 2000 = bs := List.take_of_length_le (by omega)
      rw [ht]
      exact finh [some 0] trivial
  · simp [no] at hp

def byteAt (bs : List UInt8) (i : Int) : Int := ((bs.getD i.toNat 0).toNat : Int)
def byteW (bs : List UInt8) (i : Int) : Int := IntKind.i64.wrap ((UInt8.toNat (bs.getD i.toNat ET.byte.dflt) : Nat) : Int)
/-- What is drawn behind the code's end. -/
def mixS (bs : List UInt8) (k : Int) : Int := IntKind.i64.wrap (IntKind.i64.wrap (IntKind.i64.wrap (IntKind.i64.wrap (byteW bs (k.tmod bs.length) * 131) + IntKind.i64.wrap (byteW bs ((IntKind.i64.wrap (IntKind.i64.wrap (k * 7) + 3)).tmod bs.length) * 1117)) + IntKind.i64.wrap (k * 29)) + IntKind.i64.wrap (IntKind.i64.wrap (k.tdiv bs.length) * 53))
def mixV (bs : List UInt8) (k : Int) : Int := IntKind.i64.wrap (((BitVec.ofInt 64 (mixS bs k) ^^^ BitVec.ofInt 64 (IntKind.i64.wrap ((mixS bs k).tdiv 64))).toNat : Nat) : Int)
theorem byteW_eq (bs : List UInt8) (i : Int) : byteW bs i = byteAt bs i ∧ 0 ≤ byteAt bs i ∧ byteAt bs i < 256 := by
  have hb : (UInt8.toNat (bs.getD i.toNat (0 : UInt8))) < 256 := UInt8.toNat_lt _
  have e : byteW bs i = IntKind.i64.wrap (byteAt bs i) := rfl
  unfold byteAt at e ⊢
  rw [e, wrap_id _ (by omega) (by omega)]
  omega
theorem tmod_in (k : Int) (n : Nat) (hk : 0 ≤ k) (hn : n ≠ 0) : 0 ≤ k.tmod n ∧ k.tmod n < n := ⟨Int.tmod_nonneg _ hk, Int.tmod_lt_of_pos _ (show (0 : Int) < n by omega)⟩
theorem tdiv_in (k : Int) (n : Int) (hk : 0 ≤ k) (hn : 0 < n) : 0 ≤ k.tdiv n ∧ k.tdiv n ≤ k := ⟨Int.tdiv_nonneg hk (by omega), by
  rw [Int.tdiv_eq_ediv_of_nonneg hk]; exact Int.ediv_le_self n hk⟩
theorem mixS_in (bs : List UInt8) (k : Int) (h1 : 0 ≤ k) (h2 : k ≤ 1000000) (hb : bs.length ≠ 0) : 0 ≤ mixS bs k ∧ mixS bs k ≤ 1000000000 := by
  obtain ⟨a1, a2, a3⟩ := byteW_eq bs (k.tmod bs.length)
  obtain ⟨b1, b2, b3⟩ := byteW_eq bs ((IntKind.i64.wrap (IntKind.i64.wrap (k * 7) + 3)).tmod bs.length)
  obtain ⟨c1, c2⟩ := tdiv_in k bs.length h1 (by omega)
  unfold mixS
  rw [a1, b1]
  generalize byteAt bs (k.tmod bs.length) = x at *
  generalize byteAt bs ((IntKind.i64.wrap (IntKind.i64.wrap (k * 7) + 3)).tmod bs.length) = y at *
  generalize k.tdiv bs.length = z at *
  rw [wrap_id (x * 131) (by omega) (by omega), wrap_id (y * 1117) (by omega) (by omega), wrap_id (k * 29) (by omega) (by omega), wrap_id z (by omega) (by omega), wrap_id (z * 53) (by omega) (by omega),
    wrap_id (x * 131 + y * 1117) (by omega) (by omega), wrap_id (x * 131 + y * 1117 + k * 29) (by omega) (by omega), wrap_id (x * 131 + y * 1117 + k * 29 + z * 53) (by omega) (by omega)]
  omega
theorem xor_in (a b : Int) (ha : 0 ≤ a) (hb : 0 ≤ b) (ha' : a < 4611686018427387904) (hb' : b < 4611686018427387904) : 0 ≤ IntKind.i64.wrap (((BitVec.ofInt 64 a ^^^ BitVec.ofInt 64 b).toNat : Nat) : Int) := by
  obtain ⟨a, rfl⟩ := Int.eq_ofNat_of_zero_le ha
  obtain ⟨b, rfl⟩ := Int.eq_ofNat_of_zero_le hb
  have h : (BitVec.ofInt 64 (a : Int) ^^^ BitVec.ofInt 64 (b : Int)).toNat < 2 ^ 62 := by
    rw [BitVec.toNat_xor, BitVec.toNat_ofInt, BitVec.toNat_ofInt]
    refine Nat.xor_lt_two_pow ?_ ?_ <;> omega
  generalize (BitVec.ofInt 64 (a : Int) ^^^ BitVec.ofInt 64 (b : Int)).toNat = x at *
  rw [wrap_id _ (by omega) (by omega)]
  omega
theorem mixV_in (bs : List UInt8) (k : Int) (h1 : 0 ≤ k) (h2 : k ≤ 1000000) (hb : bs.length ≠ 0) : 0 ≤ mixV bs k := by
  obtain ⟨a, b⟩ := mixS_in bs k h1 h2 hb
  obtain ⟨c, d⟩ := tdiv_in (mixS bs k) 64 a (by omega)
  unfold mixV
  refine xor_in _ _ a ?_ (by omega) ?_ <;> rw [wrap_id _ (by omega) (by omega)] <;> omega
/-- The number that is picked. -/
def pickV (bs : List UInt8) (p n : Int) : Int := if n < 1 ∨ bs.length = 0 then 0 else if p < bs.length then (byteAt bs p).tmod n else (mixV bs p).tmod n
@[go_sem] def ctPick : Ct := ⟨true, [], fun args os => match args, os with
  | [.one (.ptr 0 0), .one (.val (.int .i64 n))], [.cells [.isl .byte bs, .val (.int .i64 p)]] => ⟨0 ≤ p ∧ p ≤ 1000000 ∧ bs.length ≤ 2000, vi (pickV bs p n), [(0, some (rdO bs (p + 1)))], []⟩
  | _, _ => no⟩
theorem s_pick_e : EnterOk Tryd.prog 42 := ⟨_, Tryd.func42, rfl, by decide⟩
@[go_sem] def s_pick_lv : List (List Nat) := [[0, 1], [0, 1], [0, 1, 24], [4], [0, 1, 5], [0, 1, 5, 36], [4], [1, 6], [1, 6], [4]]
@[go_sem] noncomputable def s_pick_K : Known := Known.nil
set_option maxHeartbeats 8000000 in
theorem s_pick : Sound Tryd.prog 42 ctPick := by
  have ke := s_pick_K.env []
  have kl : Lives s_pick_lv := trivial
  refine sound_intro (E := ⟨ti, s_pick_K.Γ, []⟩) ke Tryd.func42 Tryd.ntmps42 rfl (rs := [.tmp 4]) rfl ?_
  intro args os hp
  unfold ctPick at hp ⊢
  dsimp only at hp ⊢
  split at hp
  · rename_i n bs p
    refine ⟨by simp, fun φ0 w0 => ?_⟩
    obtain ⟨h1, h2, h3⟩ : 0 ≤ p ∧ p ≤ 1000000 ∧ bs.length ≤ 2000 := hp
    have hw1 : IntKind.i64.wrap (p + 1) = p + 1 := wrap_id _ (by omega) (by omega)
    have hw2 : IntKind.i64.wrap (p + 1 - 1) = p := by rw [wrap_id _ (by omega) (by omega)]; omega
    refine goh (And.intro hw1 hw2) ?_
    refine W_cond _ (by exact rfl) (by exact trivial) ?_ ?_ <;> intro hc
    · have hc' : n < 1 ∨ bs.length = 0 := by
        by_cases hn : n < 1
        · exact .inl hn
        · rw [if_neg hn] at hc; simp at hc; exact .inr (by simp [hc])
      refine goh trivial ?_
      refine ⟨by (simp only [go_sem, ↓reduceIte, reduceCtorEq, Nat.reduceAdd, Nat.reduceLT, Nat.reduceLeDiff, Nat.reduceEqDiff]) <;> trivial, [some 0], ?_⟩
      all_goals try simp only [go_sem, inj_r, ↓reduceIte, reduceCtorEq, Nat.reduceAdd, Nat.reduceLT, Nat.reduceLeDiff, Nat.reduceEqDiff, Int.reduceEq]
      all_goals (repeat' refine And.intro ?_ ?_) <;> try exact shut7
      unfold pickV
      rw [if_pos hc']
    · have hn : ¬ n < 1 := by intro hn; rw [if_pos hn] at hc; cases hc
      have hl : bs.length ≠ 0 := by rw [if_neg hn] at hc; simp at hc; intro h; exact hc (List.length_eq_zero_iff.1 h)
      have hpv : pickV bs p n = if p < bs.length then (byteAt bs p).tmod n else (mixV bs p).tmod n := by
        unfold pickV
        rw [if_neg (by rintro (h | h); exact hn h; exact hl h)]
      clear hc
      refine goh hw2 ?_
      refine W_cnd ?_ ?_ <;> (try simp only [cnd_r]) <;> intro hlt
      · refine goh trivial ?_
        refine ⟨by (simp only [go_sem, ↓reduceIte, reduceCtorEq, Nat.reduceAdd, Nat.reduceLT, Nat.reduceLeDiff, Nat.reduceEqDiff]) <;> trivial, [some 0], ?_⟩
        all_goals try simp only [go_sem, inj_r, ↓reduceIte, reduceCtorEq, Nat.reduceAdd, Nat.reduceLT, Nat.reduceLeDiff, Nat.reduceEqDiff, Int.reduceEq]
        all_goals (repeat' refine And.intro ?_ ?_) <;> try exact shut7
        rw [hpv, if_pos hlt, ← (byteW_eq bs p).1]
        rfl
      · have h7 : IntKind.i64.wrap (IntKind.i64.wrap (p * 7) + 3) = p * 7 + 3 := by rw [wrap_id (p * 7) (by omega) (by omega), wrap_id _ (by omega) (by omega)]
        have t1 := tmod_in p bs.length h1 hl
        have t2 := tmod_in (p * 7 + 3) bs.length (by omega) hl
        refine goh h7 ?_
        refine ⟨by (simp only [go_sem, ↓reduceIte, reduceCtorEq, Nat.reduceAdd, Nat.reduceLT, Nat.reduceLeDiff, Nat.reduceEqDiff]) <;> trivial, [some 0], ?_⟩
        all_goals try simp only [go_sem, inj_r, ↓reduceIte, reduceCtorEq, Nat.reduceAdd, Nat.reduceLT, Nat.reduceLeDiff, Nat.reduceEqDiff, Int.reduceEq]
        all_goals (repeat' refine And.intro ?_ ?_) <;> try exact shut7
        rw [hpv, if_neg hlt, mixV, mixS, h7]
        rfl
  · simp [no] at hp
theorem pickV_in (bs : List UInt8) (p n : Int) (h1 : 0 ≤ p) (h2 : p ≤ 1000000) (hn : 1 ≤ n) : 0 ≤ pickV bs p n ∧ pickV bs p n < n := by
  unfold pickV
  split
  · omega
  · rename_i h
    have hb : bs.length ≠ 0 := fun e => h (.inr e)
    split
    · exact ⟨Int.tmod_nonneg _ (byteW_eq bs p).2.1, Int.tmod_lt_of_pos _ (by omega)⟩
    · exact ⟨Int.tmod_nonneg _ (mixV_in bs p h1 h2 hb), Int.tmod_lt_of_pos _ (by omega)⟩
end Go.Proofs.YtjedcphhajlnoaaDoor
/- Functions: one of a list; texts that are drawn. -/
namespace Go.Proofs.YtjedcphhajlnoaaDoor
open Go.RowKit

/-- May the reader go on from here? -/
def rdOk (bs : List UInt8) (p : Int) : Prop := 0 ≤ p ∧ p ≤ 900000 ∧ bs.length ≤ 2000
@[go_sem] def ctNum : Ct := ⟨true, [], fun args os => match args, os with
  | [.one (.ptr 0 0), .one (.osl .int 1 0 n)], [.cells [.isl .byte bs, .val (.int .i64 p)], .arr .int xs] => ⟨(0 ≤ p ∧ p ≤ 1000000 ∧ bs.length ≤ 2000) ∧ n = xs.length ∧ 0 < n ∧ n ≤ 1000, vi (ET.int.at xs (pickV bs p n).toNat), [(0, some (rdO bs (p + 1)))], []⟩
  | _, _ => no⟩
theorem s_num_e : EnterOk Tryd.prog 62 := ⟨_, Tryd.func62, rfl, by decide⟩
@[go_sem] def s_num_lv : List (List Nat) := [[0, 1], [4]]
@[go_sem] noncomputable def s_num_K : Known := (Known.nil).cons 42 ctPick s_pick s_pick_e
set_option maxHeartbeats 8000000 in
theorem s_num : Sound Tryd.prog 62 ctNum := by
  have ke := s_num_K.env []
  have kl : Lives s_num_lv := trivial
  refine sound_intro (E := ⟨ti, s_num_K.Γ, []⟩) ke Tryd.func62 Tryd.ntmps62 rfl (rs := [.tmp 4]) rfl ?_
  intro args os hp
  unfold ctNum at hp ⊢
  dsimp only at hp ⊢
  split at hp
  · rename_i n bs p xs
    refine ⟨by simp, fun φ0 w0 => ?_⟩
    obtain ⟨⟨h1, h2, h3⟩, h4, h5, h6⟩ : (0 ≤ p ∧ p ≤ 1000000 ∧ bs.length ≤ 2000) ∧ n = xs.length ∧ 0 < n ∧ n ≤ 1000 := hp
    have h7 := pickV_in bs p n h1 h2 (by omega)
    refine goh trivial ?_
    exact finh [some 0, some 1] trivial
  · simp [no] at hp
@[go_sem] def ctOf : Ct := ⟨true, [], fun args os => match args, os with
  | [.one (.ptr 0 0), .one (.osl .str 1 0 n)], [.cells [.isl .byte bs, .val (.int .i64 p)], .arr .str xs] => ⟨(0 ≤ p ∧ p ≤ 1000000 ∧ bs.length ≤ 2000) ∧ n = xs.length ∧ 0 < n ∧ n ≤ 1000, vs (ET.str.at xs (pickV bs p n).toNat), [(0, some (rdO bs (p + 1)))], []⟩
  | _, _ => no⟩
theorem s_of_e : EnterOk Tryd.prog 43 := ⟨_, Tryd.func43, rfl, by decide⟩
@[go_sem] def s_of_lv : List (List Nat) := [[0, 1], [4]]
@[go_sem] noncomputable def s_of_K : Known := (Known.nil).cons 42 ctPick s_pick s_pick_e
set_option maxHeartbeats 8000000 in
theorem s_of : Sound Tryd.prog 43 ctOf := by
  have ke := s_of_K.env []
  have kl : Lives s_of_lv := trivial
  refine sound_intro (E := ⟨ti, s_of_K.Γ, []⟩) ke Tryd.func43 Tryd.ntmps43 rfl (rs := [.tmp 4]) rfl ?_
  intro args os hp
  unfold ctOf at hp ⊢
  dsimp only at hp ⊢
  split at hp
  · rename_i n bs p xs
    refine ⟨by simp, fun φ0 w0 => ?_⟩
    obtain ⟨⟨h1, h2, h3⟩, h4, h5, h6⟩ : (0 ≤ p ∧ p ≤ 1000000 ∧ bs.length ≤ 2000) ∧ n = xs.length ∧ 0 < n ∧ n ≤ 1000 := hp
    have h7 := pickV_in bs p n h1 h2 (by omega)
    refine goh trivial ?_
    exact finh [some 0, some 1] trivial
  · simp [no] at hp
def txts : List ByteArray := [⟨#[97]⟩, ⟨#[98]⟩, ⟨#[32]⟩, ⟨#[58]⟩, ⟨#[10]⟩, ⟨#[49, 50]⟩, ⟨#[255]⟩, ⟨#[0]⟩, ⟨#[120, 121, 122]⟩]
theorem at_size {xs : List ByteArray} {m : Nat} (h : ∀ s ∈ xs, s.size ≤ m) (i : Nat) : (ET.str.at xs i).size ≤ m := by
  unfold ET.at
  rcases Nat.lt_or_ge i xs.length with hi | hi
  · rw [List.getD_eq_getElem?_getD, List.getElem?_eq_getElem hi]; exact h _ (List.getElem_mem hi)
  · rw [List.getD_eq_getElem?_getD, List.getElem?_eq_none hi]; exact Nat.zero_le _
theorem txts_size (i : Nat) : (ET.str.at txts i).size ≤ 3 := at_size (by decide) i
def l1T (bs : List UInt8) : Nat → Int → ByteArray → ByteArray
  | 0, _, out => out
  | i + 1, p, out => l1T bs i (p + 1) (out ++ ET.str.at txts (pickV bs p 9).toNat)
theorem l1T_size (bs : List UInt8) : ∀ (i : Nat) (p : Int) (out : ByteArray), (l1T bs i p out).size ≤ out.size + 3 * i
  | 0, p, out => by simp [l1T]
  | i + 1, p, out => by
    have h1 := l1T_size bs i (p + 1) (out ++ ET.str.at txts (pickV bs p 9).toNat)
    have h2 := txts_size (pickV bs p 9).toNat
    rw [ByteArray.size_append] at h1
    unfold l1T; omega
/-- A text that is drawn, and where the reader goes on. -/
def textV (bs : List UInt8) (p : Int) : ByteArray := l1T bs (pickV bs p 7).toNat (p + 1) ⟨#[]⟩
def textP (bs : List UInt8) (p : Int) : Int := p + 1 + pickV bs p 7
theorem textV_size (bs : List UInt8) (p : Int) (h : rdOk bs p) : (textV bs p).size ≤ 18 := by
  have h1 := pickV_in bs p 7 h.1 (by have := h.2.1; omega) (by omega)
  have h2 := l1T_size bs (pickV bs p 7).toNat (p + 1) ⟨#[]⟩
  have h3 : (⟨#[]⟩ : ByteArray).size = 0 := rfl
  unfold textV; omega
theorem textP_in (bs : List UInt8) (p : Int) (h : rdOk bs p) : p + 1 ≤ textP bs p ∧ textP bs p ≤ p + 7 := by
  have h1 := pickV_in bs p 7 h.1 (by have := h.2.1; omega) (by omega)
  unfold textP; omega
@[go_sem] def ctText : Ct := ⟨true, [], fun args os => match args, os with
  | [.one (.ptr 0 0)], [.cells [.isl .byte bs, .val (.int .i64 p)]] => ⟨rdOk bs p, vs (textV bs p), [(0, some (rdO bs (textP bs p)))], []⟩
  | _, _ => no⟩
@[go_sem] def sgText (bs : List UInt8) (p : Int) (i : Nat) (out : ByteArray) : Sg := ⟨[(0, .one (.ptr 0 0)), (3, vs out), (4, vi i)], [some (rdO bs p)], [0]⟩
def fates : List Int := [0, 1, 1, 1, 2, 3]
def l2F (bs : List UInt8) : Nat → Int → List Int → List Int
  | 0, _, out => out
  | i + 1, p, out => l2F bs i (p + 1) (out ++ [ET.int.at fates (pickV bs p 6).toNat])
theorem l2F_len (bs : List UInt8) : ∀ (i : Nat) (p : Int) (out : List Int), (l2F bs i p out).length = out.length + i
  | 0, p, out => by simp [l2F]
  | i + 1, p, out => by
    have h1 := l2F_len bs i (p + 1) (out ++ [ET.int.at fates (pickV bs p 6).toNat])
    rw [List.length_append] at h1
    simp only [List.length_cons, List.length_nil] at h1
    unfold l2F; omega
/-- What becomes of writes, as it is drawn. -/
def fateV (bs : List UInt8) (p : Int) : List Int := l2F bs (pickV bs p 16).toNat (p + 1) []
def fateP (bs : List UInt8) (p : Int) : Int := p + 1 + pickV bs p 16
theorem fateV_len (bs : List UInt8) (p : Int) (h : rdOk bs p) : (fateV bs p).length ≤ 15 := by
  have h1 := pickV_in bs p 16 h.1 (by have := h.2.1; omega) (by omega)
  unfold fateV; rw [l2F_len]; simp only [List.length_nil]; omega
theorem fateP_in (bs : List UInt8) (p : Int) (h : rdOk bs p) : p + 1 ≤ fateP bs p ∧ fateP bs p ≤ p + 16 := by
  have h1 := pickV_in bs p 16 h.1 (by have := h.2.1; omega) (by omega)
  unfold fateP; omega
@[go_sem] def ctFate : Ct := ⟨true, [], fun args os => match args, os with
  | [.one (.ptr 0 0)], [.cells [.isl .byte bs, .val (.int .i64 p)]] => ⟨rdOk bs p, .one (.osl .int 1 0 (fateV bs p).length), [(0, some (rdO bs (fateP bs p)))], [.arr .int (fateV bs p)]⟩
  | _, _ => no⟩
@[go_sem] def sgFate (bs : List UInt8) (p : Int) (i : Nat) (out : List Int) : Sg := ⟨[(0, .one (.ptr 0 0)), (3, .one (.osl .int 1 0 out.length)), (4, vi i)], [some (rdO bs p), some (.arr .int out)], [0]⟩
/-- A text n times. -/
def manyL : Nat → ByteArray → Nat → ByteArray → ByteArray
  | 0, _, _, out => out
  | f + 1, s, n, out => if n = 0 then out else manyL f (s ++ s) (n / 2) (if n % 2 = 1 then out ++ s else out)
theorem manyL_size : ∀ (f : Nat) (s : ByteArray) (n : Nat) (out : ByteArray), n < 2 ^ f → (manyL f s n out).size = out.size + n * s.size
  | 0, s, n, out, h => by
    have : n = 0 := by simp at h; exact h
    subst this; simp [manyL]
  | f + 1, s, n, out, h => by
    unfold manyL
    split
    · rename_i h0; subst h0; simp
    · rw [manyL_size f _ _ _ (by rw [Nat.pow_succ] at h; omega), ByteArray.size_append]
      have e : n * s.size = (n / 2) * (s.size + s.size) + (n % 2) * s.size := by
        have : n = 2 * (n / 2) + n % 2 := by omega
        rw [Nat.mul_add, ← Nat.add_mul, ← Nat.add_mul]; congr 1; omega
      split
      · rename_i h1; rw [e, h1, ByteArray.size_append]; omega
      · rename_i h1
        have : n % 2 = 0 := by omega
        rw [e, this]; omega
theorem manyL_enough : ∀ (f : Nat) (s : ByteArray) (n : Nat) (out : ByteArray), n < 2 ^ f → manyL (f + 1) s n out = manyL f s n out
  | 0, s, n, out, h => by
    have : n = 0 := by simp at h; exact h
    subst this; simp [manyL]
  | f + 1, s, n, out, h => by
    have h2 : n / 2 < 2 ^ f := by rw [Nat.pow_succ] at h; omega
    conv => lhs; unfold manyL
    conv => rhs; unfold manyL
    rw [manyL_enough f _ _ _ h2]
def many (s : ByteArray) (n : Nat) : ByteArray := manyL 10 s n ⟨#[]⟩
theorem many_size (s : ByteArray) (n : Nat) (h : n ≤ 1000) : (many s n).size = n * s.size := by
  unfold many; rw [manyL_size _ _ _ _ (by omega)]; exact Nat.zero_add _
theorem manyL_step (s : ByteArray) (n : Nat) (out : ByteArray) (h : n ≤ 1000) (h0 : n ≠ 0) : manyL 10 s n out = manyL 10 (s ++ s) (n / 2) (if n % 2 = 1 then out ++ s else out) := by
  conv => lhs; unfold manyL
  rw [if_neg h0, ← manyL_enough 9 _ _ _ (by omega)]
@[go_sem] def ctMany : Ct := ⟨false, [], fun args os => match args, os with
  | [.one (.val (.string s)), .one (.val (.int .i64 n))], [] => ifp (0 ≤ n ∧ n ≤ 1000 ∧ s.size ≤ 100) (vs (many s n.toNat))
  | _, _ => no⟩
@[go_sem] def sgMany (s : ByteArray) (n : Nat) (out : ByteArray) : Sg := ⟨[(0, vs s), (1, vi n), (5, vs out)], [], []⟩
theorem s_many_e : EnterOk Tryd.prog 63 := ⟨_, Tryd.func63, rfl, by decide⟩
@[go_sem] def s_many_lv : List (List Nat) := [[0, 1], [0, 1, 5], [0, 1, 5, 7], [0, 1, 5, 10], [0, 1, 5], [0, 1, 5], [0, 1, 5], [4]]
@[go_sem] noncomputable def s_many_K : Known := Known.nil
set_option maxHeartbeats 8000000 in
theorem s_many : Sound Tryd.prog 63 ctMany := by
  have ke := s_many_K.env []
  have kl : Lives s_many_lv := trivial
  refine sound_intro (E := ⟨ti, s_many_K.Γ, []⟩) ke Tryd.func63 Tryd.ntmps63 rfl (rs := [.tmp 4]) rfl ?_
  intro args os hp
  unfold ctMany at hp ⊢
  dsimp only at hp ⊢
  split at hp
  · rename_i s0 n0
    refine ⟨by simp, fun φ0 w0 => ?_⟩
    obtain ⟨h1, h2, h3⟩ : 0 ≤ n0 ∧ n0 ≤ 1000 ∧ s0.size ≤ 100 := hp
    obtain ⟨n0, rfl⟩ := Int.eq_ofNat_of_zero_le h1
    have hb : n0 * s0.size ≤ 100000 := Nat.mul_le_mul (show n0 ≤ 1000 by omega) h3
    have hn0 : (n0 : Int).toNat = n0 := Int.toNat_natCast n0
    refine goh trivial ?_
    refine W_le (σ' := sgMany s0 n0 ⟨#[]⟩) [] (by
      simp only [go_sem, inj_r, ↓reduceIte, reduceCtorEq, Nat.reduceAdd, Nat.reduceLT, Nat.reduceLeDiff, Nat.reduceEqDiff, Int.reduceEq]
      all_goals (repeat' refine And.intro ?_ ?_) <;> try exact shut7
      ) ?_
    refine W_loop (fun n σ => ∃ (s : ByteArray) (i : Nat) (out : ByteArray), n = i ∧ i ≤ 1000 ∧ out.size + i * s.size ≤ 100000 ∧ s.size ≤ 200000 ∧ manyL 10 s i out = many s0 n0 ∧ σ = sgMany s i out) n0 ⟨_, _, _, rfl, by omega, by rw [show (⟨#[]⟩ : ByteArray).size = 0 from rfl]; omega, by omega, rfl, rfl⟩ ?_
    rintro n σ ⟨s, i, out, rfl, hi, ho, hs, hm, rfl⟩
    unfold sgMany
    refine goh trivial ?_
    refine W_cnd ?_ ?_ <;> (try simp only [cnd_r]) <;> intro hlt
    · have hr : ((n : Int)).tmod 2 = ((n % 2 : Nat) : Int) := (Int.ofNat_tmod _ _).symm
      have hq : IntKind.i64.wrap (((n : Int)).tdiv 2) = ((n / 2 : Nat) : Int) := by
        have : (n : Int).tdiv 2 = ((n / 2 : Nat) : Int) := (Int.ofNat_tdiv _ _).symm
        rw [this]; exact wrap_id _ (by omega) (by omega)
      have hst := manyL_step s n out (by omega) (by omega)
      have hs1 : s.size ≤ 100000 := by have := Nat.mul_le_mul_right s.size (show 1 ≤ n by omega); omega
      have e : n * s.size = (n / 2) * (s.size + s.size) + (n % 2) * s.size := by
        have : n = 2 * (n / 2) + n % 2 := by omega
        rw [Nat.mul_add, ← Nat.add_mul, ← Nat.add_mul]; congr 1; omega
      refine goh hr ?_
      refine W_cond _ (by exact rfl) (by exact trivial) ?_ ?_ <;> intro hc
      · have h1 : n % 2 = 1 := by simp only [beq_iff_eq] at hc; omega
        rw [if_pos h1] at hst
        rw [h1] at e
        refine goh hq ?_
        refine ⟨n / 2, [], sgMany (s ++ s) (n / 2) (out ++ s), by omega, ?_, _, _, _, rfl, by omega, ?_, ?_, hst ▸ hm, rfl⟩
        · exact leh trivial
        · rw [ByteArray.size_append, ByteArray.size_append]; omega
        · rw [ByteArray.size_append]; omega
      · have h1 : n % 2 = 0 := by
          have : ¬ (((n % 2 : Nat) : Int) = 1) := by simpa using hc
          omega
        rw [if_neg (by omega)] at hst
        rw [h1] at e
        refine goh hq ?_
        refine ⟨n / 2, [], sgMany (s ++ s) (n / 2) out, by omega, ?_, _, _, _, rfl, by omega, ?_, ?_, hst ▸ hm, rfl⟩
        · exact leh trivial
        · rw [ByteArray.size_append]; omega
        · rw [ByteArray.size_append]; omega
    · refine goh trivial ?_
      have : n = 0 := by omega
      subst this
      have hm : out = many s0 n0 := hm
      subst hm
      exact finh [] trivial
  · simp [no, ifp] at hp
end Go.Proofs.YtjedcphhajlnoaaDoor
/- Functions: a call that is drawn. -/
namespace Go.Proofs.YtjedcphhajlnoaaDoor
open Go.RowKit

/-- Two ways meet in one state. -/
theorem W_join {P : Program} {B : Beg} {σ : Sg} {Q : Exit → Sg → Prop} {x y : Code} (J : Sg) (hy : W P B y J Q) (h : ∀ Y : Sg → Prop, (∀ {σ' : Sg} (π : List (Option Nat)), leS B.m π σ' J → Y σ') → W P B x σ (thenG Y Q)) :
    W P B x σ (thenG (fun σ' => W P B y σ' Q) Q) := h _ fun π hle => W_le π hle hy
@[go_sem] def ctCopyB : Ct := ⟨false, [[some .bset]], fun args os => match args, os with
  | [.agg [.isl .bset xs]], [] => ⟨xs.length ≤ 1000, .agg [.osl .bset 0 0 xs.length], [], [.arr .bset xs]⟩
  | _, _ => no⟩
theorem s_copyB_e : EnterOk Tryd.prog 75 := ⟨_, Tryd.func75, rfl, by decide⟩
@[go_sem] def s_copyB_lv : List (List Nat) := [[1, 2], [2]]
@[go_sem] noncomputable def s_copyB_K : Known := Known.nil
set_option maxHeartbeats 8000000 in
theorem s_copyB : Sound Tryd.prog 75 ctCopyB := by
  have ke := s_copyB_K.env []
  have kl : Lives s_copyB_lv := trivial
  refine sound_intro (E := ⟨ti, s_copyB_K.Γ, []⟩) ke Tryd.func75 Tryd.ntmps75 rfl (rs := [.cell 2 25]) rfl ?_
  intro args os hp
  unfold ctCopyB at hp ⊢
  dsimp only at hp ⊢
  split at hp
  · rename_i xs
    refine ⟨by simp, fun φ0 w0 => ?_⟩
    have h1 : xs.length ≤ 1000 := hp
    refine goh trivial ?_
    exact finh [some 3] trivial
  · simp [no] at hp
def names8 : List ByteArray := [⟨#[97]⟩, ⟨#[98]⟩, ⟨#[99]⟩, ⟨#[100]⟩, ⟨#[101]⟩, ⟨#[102]⟩, ⟨#[103]⟩, ⟨#[118, 111, 108]⟩]
@[go_sem] def ctNm : Ct := ⟨true, [], fun args os => match args, os with
  | [.one (.ptr 0 0)], [.cells [.isl .byte bs, .val (.int .i64 p)]] => ⟨0 ≤ p ∧ p ≤ 1000000 ∧ bs.length ≤ 2000, vs (ET.str.at names8 (pickV bs p 8).toNat), [(0, some (rdO bs (p + 1)))], []⟩
  | _, _ => no⟩
theorem s_nm_e : EnterOk Tryd.prog 93 := ⟨_, Tryd.func93, rfl, by decide⟩
@[go_sem] def s_nm_lv : List (List Nat) := [[0], [2]]
@[go_sem] noncomputable def s_nm_K : Known := (Known.nil).cons 43 ctOf s_of s_of_e
set_option maxHeartbeats 8000000 in
theorem s_nm : Sound Tryd.prog 93 ctNm := by
  have ke := s_nm_K.env []
  have kl : Lives s_nm_lv := trivial
  refine sound_intro (E := ⟨ti, s_nm_K.Γ, []⟩) ke Tryd.func93 Tryd.ntmps93 rfl (rs := [.tmp 2]) rfl ?_
  intro args os hp
  unfold ctNm at hp ⊢
  dsimp only at hp ⊢
  split at hp
  · rename_i bs p
    refine ⟨by simp, fun φ0 w0 => ?_⟩
    obtain ⟨h1, h2, h3⟩ : 0 ≤ p ∧ p ≤ 1000000 ∧ bs.length ≤ 2000 := hp
    have hn : names8 = [⟨#[97]⟩, ⟨#[98]⟩, ⟨#[99]⟩, ⟨#[100]⟩, ⟨#[101]⟩, ⟨#[102]⟩, ⟨#[103]⟩, ⟨#[118, 111, 108]⟩] := rfl
    refine goh trivial ?_
    exact finh [some 0] hn
  · simp [no] at hp
/-- Places of the reader counted on. -/
theorem more1 : (∀ p : Int, p + 1 + 1 = p + 2) ∧ (∀ p : Int, p + 2 + 1 = p + 3) ∧ (∀ p : Int, p + 3 + 1 = p + 4) ∧ (∀ p : Int, p + 4 + 1 = p + 5) ∧ (∀ p : Int, p + 5 + 1 = p + 6) ∧ (∀ p : Int, p + 6 + 1 = p + 7) ∧ (∀ p : Int, p + 7 + 1 = p + 8) := by
  refine ⟨?_, ?_, ?_, ?_, ?_, ?_, ?_⟩ <;> intro p <;> omega
def opKs : List Int := [1, 1, 2, 3, 3, 3, 3, 3, 3, 3, 4, 4, 5, 6]
def opTs : List ByteArray := [⟨#[120]⟩, ⟨#[121]⟩, ⟨#[122, 122]⟩, ⟨#[111, 110, 101]⟩, ⟨#[97, 122, 122]⟩, ⟨#[98, 120, 108]⟩, ⟨#[]⟩, ⟨#[120]⟩, ⟨#[97, 32, 98]⟩, ⟨#[49, 50, 51, 52, 53, 54, 55, 56, 57, 48, 49, 50, 51, 52, 53, 54, 55, 56, 57, 48]⟩]
def op0 (bs : List UInt8) (p : Int) : BOp := ⟨ET.int.at opKs (pickV bs p 14).toNat, ET.str.at names8 (pickV bs (p + 1) 8).toNat, ET.str.at names8 (pickV bs (p + 2) 8).toNat, pickV bs (p + 3) 8, ET.str.at opTs (pickV bs (p + 4) 10).toNat⟩
@[go_sem] def sgO (bs : List UInt8) (xs : List BSet) (q : Int) (o : BOp) : Sg := ⟨[(0, .one (.ptr 0 0)), (3, .one (.ptr 2 0)), (4, .one (.ptr 3 0)), (5, .one (.ptr 4 0))],
  [some (rdO bs q), some (.arr .bset xs), some (.cells [.osl .bset 1 0 xs.length]), some (.cells [.val (.int .i64 0), .val (.string ⟨#[]⟩), .val (.string ⟨#[]⟩), .val (.int .i64 0), .val (.string ⟨#[]⟩)]), some (.cells ((ET.bop.cells o).map .val))], [0]⟩
def lettersV (bs : List UInt8) (p q : Int) : ByteArray := ⟨#[UInt8.ofNat (IntKind.u8.wrap (IntKind.i64.wrap (65 + pickV bs p 26))).toNat, UInt8.ofNat (IntKind.u8.wrap (IntKind.i64.wrap (48 + pickV bs q 10))).toNat]⟩
def op1 (bs : List UInt8) (p : Int) : BOp × Int :=
  if pickV bs (p + 5) 3 = 0 then (⟨(op0 bs p).kind, (op0 bs p).a, (op0 bs p).b, (op0 bs p).i, lettersV bs (p + 6) (p + 7)⟩, p + 8) else (op0 bs p, p + 6)
def op2 (bs : List UInt8) (xs : List BSet) (r : BOp × Int) : BOp × Int :=
  if 0 < xs.length ∧ ¬ r.1.kind = 1 then
    (if 0 < pickV bs r.2 5 then (⟨r.1.kind, (xs.getD (pickV bs (r.2 + 1) xs.length).toNat ET.bset.dflt).name, r.1.b, r.1.i, r.1.text⟩, r.2 + 2) else (r.1, r.2 + 1)) else r
@[go_sem] def sgO2 (bs : List UInt8) (xs : List BSet) (q : Int) (o : BOp) : Sg := ⟨[(0, .one (.ptr 0 0)), (4, .one (.ptr 3 0)), (5, .one (.ptr 4 0))],
  [some (rdO bs q), some (.arr .bset xs), some (.cells [.osl .bset 1 0 xs.length]), some (.cells [.val (.int .i64 0), .val (.string ⟨#[]⟩), .val (.string ⟨#[]⟩), .val (.int .i64 0), .val (.string ⟨#[]⟩)]), some (.cells ((ET.bop.cells o).map .val))], [0]⟩
def op3 (bs : List UInt8) (xs : List BSet) (r : BOp × Int) : BOp × Int :=
  if r.1.kind = 6 ∧ 0 < xs.length then
    (if 0 < pickV bs r.2 4 then (⟨r.1.kind, (xs.getD (pickV bs (r.2 + 1) xs.length).toNat ET.bset.dflt).from_, (xs.getD (pickV bs (r.2 + 1) xs.length).toNat ET.bset.dflt).name, r.1.i, r.1.text⟩, r.2 + 2) else (r.1, r.2 + 1)) else r
def op4 (bs : List UInt8) (r : BOp × Int) : BOp × Int :=
  if pickV bs r.2 30 = 0 then (⟨ET.int.at [0, 7, -1] (pickV bs (r.2 + 1) 3).toNat, r.1.a, r.1.b, r.1.i, r.1.text⟩, r.2 + 2)
  else if pickV bs r.2 30 = 1 then (⟨r.1.kind, r.1.a, r.1.b, ET.int.at [-1, 8] (pickV bs (r.2 + 1) 2).toNat, r.1.text⟩, r.2 + 2)
  else if pickV bs r.2 30 = 2 then (⟨r.1.kind, r.1.a, r.1.b, r.1.i, many ⟨#[120]⟩ (24 + pickV bs (r.2 + 1) 2).toNat⟩, r.2 + 2)
  else if pickV bs r.2 30 = 3 then (⟨r.1.kind, ET.str.at [⟨#[]⟩, ⟨#[65]⟩, ⟨#[97, 98, 99, 100, 101, 102, 103]⟩] (pickV bs (r.2 + 1) 3).toNat, r.1.b, r.1.i, r.1.text⟩, r.2 + 2)
  else if pickV bs r.2 30 = 4 then (⟨r.1.kind, r.1.a, ET.str.at [⟨#[]⟩, ⟨#[66]⟩, ⟨#[97, 98, 99, 100, 101, 102, 103]⟩] (pickV bs (r.2 + 1) 3).toNat, r.1.i, r.1.text⟩, r.2 + 2)
  else (r.1, r.2 + 1)
/-- The call that is drawn, and where the reader goes on. -/
def opV (bs : List UInt8) (xs : List BSet) (p : Int) : BOp × Int := op4 bs (op3 bs xs (op2 bs xs (op1 bs p)))
@[go_sem] def ctOp : Ct := ⟨true, [], fun args os => match args, os with
  | [.one (.ptr 0 0), .agg [.osl .bset 1 0 n]], [.cells [.isl .byte bs, .val (.int .i64 p)], .arr .bset xs] => ⟨rdOk bs p ∧ n = xs.length ∧ xs.length ≤ 100, .agg ((ET.bop.cells (opV bs xs p).1).map .val), [(0, some (rdO bs (opV bs xs p).2))], []⟩
  | _, _ => no⟩
theorem s_op_e : EnterOk Tryd.prog 76 := ⟨_, Tryd.func76, rfl, by decide⟩
@[go_sem] def s_op_lv : List (List Nat) := [[0, 3, 4], [0, 3, 4, 5], [0, 3, 4, 5, 22], [0, 3, 4, 5], [0, 3, 4, 5, 47], [0, 3, 4, 5], [0, 3, 4, 5, 72], [0, 4, 5, 6], [0, 4, 5, 6], [0, 4, 5], [0, 4, 5, 89], [0, 4, 5, 89, 90], [4, 5], [0, 4, 5, 89, 96], [4, 5], [0, 4, 5, 89, 102], [4, 5], [0, 4, 5, 89, 109], [4, 5], [0, 4, 5, 115], [4, 5], [4]]
@[go_sem] noncomputable def s_op_K : Known := (((((Known.nil).cons 62 ctNum s_num s_num_e).cons 93 ctNm s_nm s_nm_e).cons 42 ctPick s_pick s_pick_e).cons 43 ctOf s_of s_of_e).cons 63 ctMany s_many s_many_e
set_option maxHeartbeats 8000000 in
theorem s_op : Sound Tryd.prog 76 ctOp := by
  have ke := s_op_K.env []
  have kl : Lives s_op_lv := trivial
  refine sound_intro (E := ⟨ti, s_op_K.Γ, []⟩) ke Tryd.func76 Tryd.ntmps76 rfl (rs := [.cell 4 96]) rfl ?_
  intro args os hp
  unfold ctOp at hp ⊢
  dsimp only at hp ⊢
  split at hp
  · rename_i n bs p xs
    refine ⟨by simp, fun φ0 w0 => ?_⟩
    obtain ⟨⟨h1, h2, h3⟩, rfl, h4⟩ : rdOk bs p ∧ n = xs.length ∧ xs.length ≤ 100 := hp
    have hm := more1
    obtain ⟨o, ho⟩ : ∃ o, op0 bs p = o := ⟨_, rfl⟩
    have ho2 := ho
    unfold op0 at ho2
    refine goh hm ?_
    refine W_join (sgO bs xs (op1 bs p).2 (op1 bs p).1) ?_ (fun Y hY => ?_)
    · obtain ⟨hq1, hq2⟩ : p ≤ (op1 bs p).2 ∧ (op1 bs p).2 ≤ p + 8 := by unfold op1; split <;> simp only <;> omega
      clear ho ho2 o
      obtain ⟨o1, ho1⟩ : ∃ o, op1 bs p = o := ⟨_, rfl⟩
      rw [ho1] at hq1 hq2 ⊢
      obtain ⟨⟨k, a, b, i, t⟩, q⟩ := o1
      simp only at hq1 hq2
      refine W_seq ?_
      refine W_join (sgO bs xs (op2 bs xs (⟨k, a, b, i, t⟩, q)).2 (op2 bs xs (⟨k, a, b, i, t⟩, q)).1) ?_ (fun Y hY => ?_)
      · have hr2 : q ≤ (op2 bs xs (⟨k, a, b, i, t⟩, q)).2 ∧ (op2 bs xs (⟨k, a, b, i, t⟩, q)).2 ≤ q + 2 := by
          unfold op2; split
          · split <;> simp only <;> omega
          · simp only; omega
        obtain ⟨o2, ho2⟩ : ∃ o, op2 bs xs (⟨k, a, b, i, t⟩, q) = o := ⟨_, rfl⟩
        rw [ho2] at hr2 ⊢
        obtain ⟨⟨k2, a2, b2, i2, t2⟩, r⟩ := o2
        simp only at hr2
        refine W_seq ?_
        refine W_join (sgO2 bs xs (op3 bs xs (⟨k2, a2, b2, i2, t2⟩, r)).2 (op3 bs xs (⟨k2, a2, b2, i2, t2⟩, r)).1) ?_ (fun Y hY => ?_)
        · have hr3 : r ≤ (op3 bs xs (⟨k2, a2, b2, i2, t2⟩, r)).2 ∧ (op3 bs xs (⟨k2, a2, b2, i2, t2⟩, r)).2 ≤ r + 2 := by
            unfold op3; split
            · split <;> simp only <;> omega
            · simp only; omega
          obtain ⟨o3, ho3⟩ : ∃ o, op3 bs xs (⟨k2, a2, b2, i2, t2⟩, r) = o := ⟨_, rfl⟩
          rw [ho3] at hr3 ⊢
          obtain ⟨⟨k3, a3, b3, i3, t3⟩, s⟩ := o3
          simp only at hr3
          have hm3 : s + 1 + 1 = s + 2 := by omega
          have eV : ∀ z, op4 bs (⟨k3, a3, b3, i3, t3⟩, s) = z → opV bs xs p = z := by intro z h; unfold opV; rw [ho1, ho2, ho3]; exact h
          have c1 := pickV_in bs (s + 1) 2 (by omega) (by omega) (by omega)
          have c2 := pickV_in bs (s + 1) 3 (by omega) (by omega) (by omega)
          have hw : IntKind.i64.wrap (24 + pickV bs (s + 1) 2) = 24 + pickV bs (s + 1) 2 := wrap_id _ (by omega) (by omega)
          refine goh hm3 ?_
          refine W_cnd ?_ ?_ <;> (try simp only [cnd_r]) <;> intro hc0
          · have e := eV (⟨ET.int.at [0, 7, -1] (pickV bs (s + 1) 3).toNat, a3, b3, i3, t3⟩, s + 2) (by unfold op4; rw [if_pos hc0])
            refine goh (And.intro hm3 hw) ?_
            exact finh [some 0, some 1] e
          · simp only [beq_eq_false_iff_ne, ne_eq] at hc0
            refine goh trivial ?_
            refine W_cnd ?_ ?_ <;> (try simp only [cnd_r]) <;> intro hc1
            · have e := eV (⟨k3, a3, b3, ET.int.at [-1, 8] (pickV bs (s + 1) 2).toNat, t3⟩, s + 2) (by unfold op4; rw [if_neg hc0, if_pos hc1])
              refine goh (And.intro hm3 hw) ?_
              exact finh [some 0, some 1] e
            · simp only [beq_eq_false_iff_ne, ne_eq] at hc1
              refine goh trivial ?_
              refine W_cnd ?_ ?_ <;> (try simp only [cnd_r]) <;> intro hc2
              · have e := eV (⟨k3, a3, b3, i3, many ⟨#[120]⟩ (24 + pickV bs (s + 1) 2).toNat⟩, s + 2) (by unfold op4; rw [if_neg hc0, if_neg hc1, if_pos hc2])
                refine goh (And.intro hm3 hw) ?_
                exact finh [some 0, some 1] e
              · simp only [beq_eq_false_iff_ne, ne_eq] at hc2
                refine goh trivial ?_
                refine W_cnd ?_ ?_ <;> (try simp only [cnd_r]) <;> intro hc3
                · have e := eV (⟨k3, ET.str.at [⟨#[]⟩, ⟨#[65]⟩, ⟨#[97, 98, 99, 100, 101, 102, 103]⟩] (pickV bs (s + 1) 3).toNat, b3, i3, t3⟩, s + 2) (by unfold op4; rw [if_neg hc0, if_neg hc1, if_neg hc2, if_pos hc3])
                  refine goh (And.intro hm3 hw) ?_
                  exact finh [some 0, some 1] e
                · simp only [beq_eq_false_iff_ne, ne_eq] at hc3
                  refine goh trivial ?_
                  refine W_cnd ?_ ?_ <;> (try simp only [cnd_r]) <;> intro hc4
                  · have e := eV (⟨k3, a3, ET.str.at [⟨#[]⟩, ⟨#[66]⟩, ⟨#[97, 98, 99, 100, 101, 102, 103]⟩] (pickV bs (s + 1) 3).toNat, i3, t3⟩, s + 2) (by unfold op4; rw [if_neg hc0, if_neg hc1, if_neg hc2, if_neg hc3, if_pos hc4])
                    refine goh (And.intro hm3 hw) ?_
                    exact finh [some 0, some 1] e
                  · simp only [beq_eq_false_iff_ne, ne_eq] at hc4
                    have e := eV (⟨k3, a3, b3, i3, t3⟩, s + 1) (by unfold op4; rw [if_neg hc0, if_neg hc1, if_neg hc2, if_neg hc3, if_neg hc4])
                    refine goh trivial ?_
                    exact finh [some 0, some 1] e
        · by_cases g2 : k2 = 6
          · subst g2
            by_cases g1 : 0 < xs.length
            · have g1' : (xs.length : Int) > 0 := by omega
              refine goh g1' ?_
              refine W_cnd ?_ ?_ <;> (try simp only [cnd_r]) <;> intro hp5
              · have e : op3 bs xs (⟨6, a2, b2, i2, t2⟩, r) = (⟨6, (xs.getD (pickV bs (r + 1) xs.length).toNat ET.bset.dflt).from_, (xs.getD (pickV bs (r + 1) xs.length).toNat ET.bset.dflt).name, i2, t2⟩, r + 2) := by unfold op3; rw [if_pos ⟨rfl, g1⟩, if_pos (by simpa using hp5)]
                have c1 := pickV_in bs (r + 1) xs.length (by omega) (by omega) (by omega)
                have hm2 : r + 1 + 1 = r + 2 := by omega
                refine goh hm2 ?_
                exact hY [some 0, some 1, some 2, some 3, some 4] (leh e)
              · have e : op3 bs xs (⟨6, a2, b2, i2, t2⟩, r) = (⟨6, a2, b2, i2, t2⟩, r + 1) := by unfold op3; rw [if_pos ⟨rfl, g1⟩, if_neg (by simpa using hp5)]
                refine goh trivial ?_
                exact hY [some 0, some 1, some 2, some 3, some 4] (leh e)
            · have g1' : ¬ (xs.length : Int) > 0 := by omega
              have e : op3 bs xs (⟨6, a2, b2, i2, t2⟩, r) = (⟨6, a2, b2, i2, t2⟩, r) := by unfold op3; rw [if_neg (fun h => g1 h.2)]
              refine goh g1' ?_
              refine W_cnd ?_ ?_ <;> intro hlit <;> try (cases hlit; done)
              refine goh trivial ?_
              exact hY [some 0, some 1, some 2, some 3, some 4] (leh e)
          · have g3 : (k2 == 6) = false ∧ (k2 != 6) = true := by constructor <;> simp [g2]
            have e : op3 bs xs (⟨k2, a2, b2, i2, t2⟩, r) = (⟨k2, a2, b2, i2, t2⟩, r) := by unfold op3; rw [if_neg (fun h => g2 h.1)]
            refine goh (And.intro g2 g3) ?_
            refine W_cnd ?_ ?_ <;> intro hlit <;> try (cases hlit; done)
            refine goh trivial ?_
            exact hY [some 0, some 1, some 2, some 3, some 4] (leh e)
      · by_cases g1 : 0 < xs.length
        · have g1' : (xs.length : Int) > 0 := by omega
          by_cases g2 : k = 1
          · have e : op2 bs xs (⟨k, a, b, i, t⟩, q) = (⟨k, a, b, i, t⟩, q) := by unfold op2; rw [if_neg (fun h => h.2 g2)]
            subst g2
            refine goh g1' ?_
            refine W_cnd ?_ ?_ <;> intro hlit <;> try (cases hlit; done)
            refine goh trivial ?_
            exact hY [some 0, some 1, some 2, some 3, some 4] (leh e)
          · have g3 : (k == 1) = false ∧ (k != 1) = true := by constructor <;> simp [g2]
            refine goh (And.intro g1' (And.intro g2 g3)) ?_
            refine W_cnd ?_ ?_ <;> (try simp only [cnd_r]) <;> intro hp5
            · have e : op2 bs xs (⟨k, a, b, i, t⟩, q) = (⟨k, (xs.getD (pickV bs (q + 1) xs.length).toNat ET.bset.dflt).name, b, i, t⟩, q + 2) := by unfold op2; rw [if_pos ⟨g1, g2⟩, if_pos (by simpa using hp5)]
              have c1 := pickV_in bs (q + 1) xs.length (by omega) (by omega) (by omega)
              have hm2 : q + 1 + 1 = q + 2 := by omega
              refine goh hm2 ?_
              exact hY [some 0, some 1, some 2, some 3, some 4] (leh e)
            · have e : op2 bs xs (⟨k, a, b, i, t⟩, q) = (⟨k, a, b, i, t⟩, q + 1) := by unfold op2; rw [if_pos ⟨g1, g2⟩, if_neg (by simpa using hp5)]
              refine goh trivial ?_
              exact hY [some 0, some 1, some 2, some 3, some 4] (leh e)
        · have g1' : ¬ (xs.length : Int) > 0 := by omega
          have e : op2 bs xs (⟨k, a, b, i, t⟩, q) = (⟨k, a, b, i, t⟩, q) := by unfold op2; rw [if_neg (fun h => g1 h.1)]
          refine goh g1' ?_
          refine W_cnd ?_ ?_ <;> intro hlit <;> try (cases hlit; done)
          refine goh trivial ?_
          exact hY [some 0, some 1, some 2, some 3, some 4] (leh e)
    · refine W_cnd ?_ ?_ <;> (try simp only [cnd_r]) <;> intro hc
      · have e : op1 bs p = (⟨(op0 bs p).kind, (op0 bs p).a, (op0 bs p).b, (op0 bs p).i, lettersV bs (p + 6) (p + 7)⟩, p + 8) := by unfold op1; rw [if_pos hc]
        have c1 := pickV_in bs (p + 6) 26 (by omega) (by omega) (by omega)
        have c2 := pickV_in bs (p + 7) 10 (by omega) (by omega) (by omega)
        refine goh hm ?_
        exact hY [some 0, some 1, some 2, some 3, some 6] (leh (And.intro e (And.intro ho ho2.symm)))
      · have hc2 : ¬ pickV bs (p + 5) 3 = 0 := by simp only [beq_eq_false_iff_ne, ne_eq] at hc; exact hc
        have e : op1 bs p = (op0 bs p, p + 6) := by unfold op1; rw [if_neg hc2]
        refine goh trivial ?_
        exact hY [some 0, some 1, some 2, some 3, some 6] (leh (And.intro e ho2.symm))
  · simp [no] at hp
end Go.Proofs.YtjedcphhajlnoaaDoor
/- Plain facts: drawn calls and books are small. -/
namespace Go.Proofs.YtjedcphhajlnoaaDoor
open Go.RowKit

/-- Short names, short texts. -/
def Brief (xs : List BSet) : Prop := ∀ s ∈ xs, s.name.size ≤ 7 ∧ s.from_.size ≤ 7
def BriefO (o : BOp) : Prop := o.a.size ≤ 7 ∧ o.b.size ≤ 7 ∧ o.text.size ≤ 1000
theorem Brief.at_ {xs : List BSet} (h : Brief xs) (i : Nat) : (xs.getD i ET.bset.dflt).name.size ≤ 7 ∧ (xs.getD i ET.bset.dflt).from_.size ≤ 7 := by
  rcases Nat.lt_or_ge i xs.length with hi | hi
  · rw [List.getD_eq_getElem?_getD, List.getElem?_eq_getElem hi]; exact h _ (List.getElem_mem hi)
  · rw [List.getD_eq_getElem?_getD, List.getElem?_eq_none hi]; exact ⟨Nat.zero_le _, Nat.zero_le _⟩
theorem brief_new {xs : List BSet} (h : Brief xs) (hl : xs.length ≤ 6) {s : BSet} (h1 : s.name.size ≤ 7) (h2 : s.from_.size ≤ 7) : Brief (newX xs s).xs ∧ (newX xs s).xs.length ≤ 6 := by
  unfold newX
  split
  · exact ⟨h, hl⟩
  · split
    · exact ⟨h, hl⟩
    · split
      · exact ⟨h, hl⟩
      · rename_i hn
        refine ⟨fun x hx => ?_, ?_⟩
        · rcases List.mem_append.1 hx with hx | hx
          · rcases List.mem_append.1 hx with hx | hx
            · exact h x (List.mem_of_mem_take hx)
            · rw [List.mem_singleton] at hx; subst hx; exact ⟨h1, h2⟩
          · exact h x (List.mem_of_mem_drop hx)
        · have := lowN_le xs s.name
          simp only [List.length_append, List.length_take, List.length_drop, List.length_cons, List.length_nil]; omega
theorem brief_kill {xs : List BSet} (h : Brief xs) (hl : xs.length ≤ 6) (k : Nat) : Brief (killX xs k).xs ∧ (killX xs k).xs.length ≤ 6 := by
  unfold killX
  split
  · exact ⟨h, hl⟩
  · refine ⟨fun x hx => ?_, ?_⟩
    · rcases List.mem_append.1 hx with hx | hx
      · exact h x (List.mem_of_mem_take hx)
      · exact h x (List.mem_of_mem_drop hx)
    · simp only [List.length_append, List.length_take, List.length_drop]; omega
theorem brief_set {xs : List BSet} (h : Brief xs) (k : Nat) {s : BSet} (h1 : s.name.size ≤ 7) (h2 : s.from_.size ≤ 7) : Brief (xs.set k s) := fun x hx => by
  rcases List.mem_or_eq_of_mem_set hx with hx | rfl
  · exact h x hx
  · exact ⟨h1, h2⟩
theorem brief_put {xs : List BSet} (h : Brief xs) (hl : xs.length ≤ 6) (k : Nat) (i : Int) (t : ByteArray) : Brief (putX xs k i t).xs ∧ (putX xs k i t).xs.length ≤ 6 := by
  unfold putX
  split
  · exact ⟨h, hl⟩
  · split
    · exact ⟨h, hl⟩
    · exact ⟨brief_set h k (h.at_ k).1 (h.at_ k).2, by rw [List.length_set]; exact hl⟩
theorem brief_back {xs : List BSet} (h : Brief xs) (hl : xs.length ≤ 6) (k : Nat) (name : ByteArray) : Brief (backX xs k name).xs ∧ (backX xs k name).xs.length ≤ 6 := by
  unfold backX
  split
  · exact ⟨h, hl⟩
  · split
    · exact ⟨brief_set h k (h.at_ k).1 (h.at_ k).2, by rw [List.length_set]; exact hl⟩
    · exact ⟨h, hl⟩
theorem brief_do {xs : List BSet} (h : Brief xs) (hl : xs.length ≤ 6) {o : BOp} (ho : BriefO o) : Brief (doX xs o).xs ∧ (doX xs o).xs.length ≤ 6 := by
  obtain ⟨h1, h2, -⟩ := ho
  unfold doX
  repeat' split
  · exact brief_new h hl h1 (Nat.zero_le _)
  · exact ⟨h, hl⟩
  · exact ⟨h, hl⟩
  · exact brief_kill h hl _
  · exact brief_put h hl _ _ _
  · exact brief_back h hl _ _
  · exact ⟨h, hl⟩
  · exact brief_new h hl h2 (h.at_ _).1
  · exact ⟨h, hl⟩
  · exact brief_new h hl h2 (h.at_ _).1
theorem briefO_1 (bs : List UInt8) (p : Int) : BriefO (op1 bs p).1 ∧ p + 6 ≤ (op1 bs p).2 ∧ (op1 bs p).2 ≤ p + 8 := by
  have n1 : ∀ i, (ET.str.at names8 i).size ≤ 7 := at_size (by decide)
  have n2 : ∀ i, (ET.str.at opTs i).size ≤ 1000 := at_size (by decide)
  unfold op1
  split
  · exact ⟨⟨n1 _, n1 _, show 2 ≤ 1000 by decide⟩, by simp only; omega, by simp only; omega⟩
  · exact ⟨⟨n1 _, n1 _, n2 _⟩, by simp only; omega, by simp only; omega⟩
theorem briefO_2 {bs : List UInt8} {xs : List BSet} (h : Brief xs) {r : BOp × Int} (hr : BriefO r.1) : BriefO (op2 bs xs r).1 ∧ r.2 ≤ (op2 bs xs r).2 ∧ (op2 bs xs r).2 ≤ r.2 + 2 := by
  unfold op2
  split
  · split
    · exact ⟨⟨(h.at_ _).1, hr.2.1, hr.2.2⟩, by simp only; omega, by simp only; omega⟩
    · exact ⟨hr, by simp only; omega, by simp only; omega⟩
  · exact ⟨hr, by omega, by omega⟩
theorem briefO_3 {bs : List UInt8} {xs : List BSet} (h : Brief xs) {r : BOp × Int} (hr : BriefO r.1) : BriefO (op3 bs xs r).1 ∧ r.2 ≤ (op3 bs xs r).2 ∧ (op3 bs xs r).2 ≤ r.2 + 2 := by
  unfold op3
  split
  · split
    · exact ⟨⟨(h.at_ _).2, (h.at_ _).1, hr.2.2⟩, by simp only; omega, by simp only; omega⟩
    · exact ⟨hr, by simp only; omega, by simp only; omega⟩
  · exact ⟨hr, by omega, by omega⟩
theorem briefO_4 {bs : List UInt8} {r : BOp × Int} (hr : BriefO r.1) (h1 : 0 ≤ r.2) (h2 : r.2 ≤ 950000) : BriefO (op4 bs r).1 ∧ r.2 + 1 ≤ (op4 bs r).2 ∧ (op4 bs r).2 ≤ r.2 + 2 := by
  have n1 : ∀ i, (ET.str.at [⟨#[]⟩, ⟨#[65]⟩, ⟨#[97, 98, 99, 100, 101, 102, 103]⟩] i).size ≤ 7 := at_size (by decide)
  have n2 : ∀ i, (ET.str.at [⟨#[]⟩, ⟨#[66]⟩, ⟨#[97, 98, 99, 100, 101, 102, 103]⟩] i).size ≤ 7 := at_size (by decide)
  have c1 := pickV_in bs (r.2 + 1) 2 (by omega) (by omega) (by omega)
  have c2 : (many ⟨#[120]⟩ (24 + pickV bs (r.2 + 1) 2).toNat).size ≤ 1000 := by
    rw [many_size _ _ (by omega)]
    show (24 + pickV bs (r.2 + 1) 2).toNat * 1 ≤ 1000
    omega
  unfold op4
  split
  · exact ⟨hr, by simp only; omega, by simp only; omega⟩
  · split
    · exact ⟨hr, by simp only; omega, by simp only; omega⟩
    · split
      · exact ⟨⟨hr.1, hr.2.1, c2⟩, by simp only; omega, by simp only; omega⟩
      · split
        · exact ⟨⟨n1 _, hr.2.1, hr.2.2⟩, by simp only; omega, by simp only; omega⟩
        · split
          · exact ⟨⟨hr.1, n2 _, hr.2.2⟩, by simp only; omega, by simp only; omega⟩
          · exact ⟨hr, by simp only; omega, by simp only; omega⟩
theorem brief_op (bs : List UInt8) {xs : List BSet} (h : Brief xs) {p : Int} (h1 : 0 ≤ p) (h2 : p ≤ 900000) : BriefO (opV bs xs p).1 ∧ p + 7 ≤ (opV bs xs p).2 ∧ (opV bs xs p).2 ≤ p + 14 := by
  obtain ⟨a1, a2, a3⟩ := briefO_1 bs p
  obtain ⟨b1, b2, b3⟩ := briefO_2 (bs := bs) h a1
  obtain ⟨c1, c2, c3⟩ := briefO_3 (bs := bs) h b1
  obtain ⟨d1, d2, d3⟩ := briefO_4 (bs := bs) c1 (by omega) (by omega)
  exact ⟨d1, by unfold opV; omega, by unfold opV; omega⟩
/-- A book that was kept for some time, and where the reader goes on. -/
noncomputable def playV (bs : List UInt8) (p : Int) : Nat → List BSet × Int
  | 0 => ([], p)
  | i + 1 => ((doX (playV bs p i).1 (opV bs (playV bs p i).1 (playV bs p i).2).1).xs, (opV bs (playV bs p i).1 (playV bs p i).2).2)
theorem brief_play (bs : List UInt8) {p : Int} (h1 : 0 ≤ p) (h2 : p ≤ 890000) : ∀ i : Nat, i ≤ 100 → Brief (playV bs p i).1 ∧ (playV bs p i).1.length ≤ 6 ∧ p ≤ (playV bs p i).2 ∧ (playV bs p i).2 ≤ p + 14 * i
  | 0, _ => by
    refine ⟨fun s hs => ?_, Nat.zero_le _, Int.le_refl _, ?_⟩
    · exact absurd hs List.not_mem_nil
    · show p ≤ p + 14 * ((0 : Nat) : Int); omega
  | i + 1, hi => by
    obtain ⟨a1, a2, a3, a4⟩ := brief_play bs h1 h2 i (by omega)
    obtain ⟨b1, b2, b3⟩ := brief_op bs a1 (p := (playV bs p i).2) (by omega) (by omega)
    obtain ⟨c1, c2⟩ := brief_do a1 a2 b1
    exact ⟨c1, c2, by show p ≤ (opV _ _ _).2; omega, by show (opV _ _ _).2 ≤ _; omega⟩
end Go.Proofs.YtjedcphhajlnoaaDoor
/- Functions: a book that was kept for some time. -/
namespace Go.Proofs.YtjedcphhajlnoaaDoor
open Go.RowKit

@[go_sem] noncomputable def ctPlay : Ct := ⟨true, [], fun args os => match args, os with
  | [.one (.ptr 0 0), .one (.val (.int .i64 n))], [.cells [.isl .byte bs, .val (.int .i64 p)]] => ⟨(0 ≤ p ∧ p ≤ 800000 ∧ bs.length ≤ 2000) ∧ 0 ≤ n ∧ n ≤ 50, .agg [.osl .bset 1 0 (playV bs p n.toNat).1.length], [(0, some (rdO bs (playV bs p n.toNat).2))], [.arr .bset (playV bs p n.toNat).1]⟩
  | _, _ => no⟩
theorem s_play_e : EnterOk Tryd.prog 61 := ⟨_, Tryd.func61, rfl, by decide⟩
@[go_sem] def s_play_lv : List (List Nat) := [[0, 1, 4], [0, 1, 4, 5], [0, 1, 4, 5, 6], [0, 1, 4, 5, 6, 10], [0, 1, 4, 5, 6], [0, 1, 4, 5, 6], [4]]
@[go_sem] noncomputable def s_play_K : Known := (((Known.nil).cons 75 ctCopyB s_copyB s_copyB_e).cons 76 ctOp s_op s_op_e).cons 74 ctDo s_do s_do_e
set_option maxHeartbeats 8000000 in
theorem s_play : Sound Tryd.prog 61 ctPlay := by
  have ke := s_play_K.env []
  have kl : Lives s_play_lv := trivial
  refine sound_intro (E := ⟨ti, s_play_K.Γ, []⟩) ke Tryd.func61 Tryd.ntmps61 rfl (rs := [.cell 4 25]) rfl ?_
  intro args os hp
  unfold ctPlay at hp ⊢
  dsimp only at hp ⊢
  split at hp
  · rename_i n bs p
    obtain ⟨⟨h1, h2, h3⟩, h4, h5⟩ : (0 ≤ p ∧ p ≤ 800000 ∧ bs.length ≤ 2000) ∧ 0 ≤ n ∧ n ≤ 50 := hp
    obtain ⟨n, rfl⟩ := Int.eq_ofNat_of_zero_le h4
    refine ⟨by simp, fun φ0 w0 => ?_⟩
    refine goh trivial ?_
    refine W_for n (fun i => True) (fun i => ⟨[(0, .one (.ptr 0 0)), (1, vi n), (4, .one (.ptr 1 0)), (5, .one (.ptr 2 0)), (6, vi i)], [some (rdO bs (playV bs p i).2), some (.cells [.val (.slice none 0 0)]), some (.cells [.osl .bset 3 0 (playV bs p i).1.length]), some (.arr .bset (playV bs p i).1)], [0]⟩) [some 0, some 1, some 2, none] (leh (show playV bs p 0 = ([], p) from rfl)) trivial fun i hi _ => ?_
    obtain ⟨k1, k2, k3, k4⟩ := brief_play bs (p := p) (by omega) (by omega) i (by omega)
    have hn : playV bs p (i + 1) = ((doX (playV bs p i).1 (opV bs (playV bs p i).1 (playV bs p i).2).1).xs, (opV bs (playV bs p i).1 (playV bs p i).2).2) := rfl
    obtain ⟨x, hx⟩ : ∃ x, playV bs p i = x := ⟨_, rfl⟩
    rw [hx] at k1 k2 k3 k4 hn ⊢
    obtain ⟨xs, q⟩ := x
    simp only at k1 k2 k3 k4 hn
    refine goh trivial ?_
    refine W_cnd ?_ ?_ <;> (try simp only [cnd_r]) <;> intro hlt
    · obtain ⟨⟨o1, o2, o3⟩, o4, o5⟩ := brief_op bs k1 (p := q) (by omega) (by omega)
      have hq : rdOk bs q := ⟨by omega, by omega, h3⟩
      obtain ⟨⟨⟨k, a, b, j, t⟩, q2⟩, ho⟩ : ∃ o, opV bs xs q = o := ⟨_, rfl⟩
      rw [ho] at o1 o2 o3 o4 o5 hn
      simp only at o1 o2 o3 o4 o5 hn
      obtain ⟨⟨ys, c, f⟩, hd⟩ : ∃ r, doX xs ⟨k, a, b, j, t⟩ = r := ⟨_, rfl⟩
      rw [hd] at hn
      simp only at hn
      cases f with
      | false =>
        refine goh (And.intro ho (And.intro hd hq)) ?_
        exact ⟨[some 0, some 1, some 2, some 4], by omega, leh hn, trivial⟩
      | true =>
        refine goh (And.intro ho (And.intro hd hq)) ?_
        exact ⟨[some 0, some 1, some 2, some 5], by omega, leh hn, trivial⟩
    · have : i = n := by omega
      subst this
      refine goh trivial ?_
      exact finh [some 0, some 3] hx
  · simp [no] at hp
end Go.Proofs.YtjedcphhajlnoaaDoor
/- Functions: a book that is drawn. -/
namespace Go.Proofs.YtjedcphhajlnoaaDoor
open Go.RowKit

noncomputable def bendV (bs : List UInt8) (r : List BSet × Int) (k : Nat) (c : Int) (q : Int) : List BSet × Int :=
  if c = 0 then (r.1.set k ⟨⟨#[65]⟩, (r.1.getD k ET.bset.dflt).kind, (r.1.getD k ET.bset.dflt).from_, (r.1.getD k ET.bset.dflt).blocks⟩, q)
  else if c = 1 then (r.1.set k ⟨(r.1.getD k ET.bset.dflt).name, IntKind.i64.wrap (3 - (r.1.getD k ET.bset.dflt).kind), (r.1.getD k ET.bset.dflt).from_, (r.1.getD k ET.bset.dflt).blocks⟩, q)
  else if c = 2 then (r.1.set k ⟨(r.1.getD k ET.bset.dflt).name, (r.1.getD k ET.bset.dflt).kind, ET.str.at [⟨#[110, 111, 110, 101]⟩, (r.1.getD k ET.bset.dflt).name, ⟨#[97]⟩] (pickV bs q 3).toNat, (r.1.getD k ET.bset.dflt).blocks⟩, q + 1)
  else if c = 3 then (r.1 ++ [r.1.getD k ET.bset.dflt], q)
  else if c = 4 then (r.1.set k ⟨(r.1.getD k ET.bset.dflt).name, (r.1.getD k ET.bset.dflt).kind, (r.1.getD k ET.bset.dflt).from_, (r.1.getD k ET.bset.dflt).blocks.put 0 (many ⟨#[121]⟩ 25)⟩, q)
  else (r.1, q)
noncomputable def playedV (bs : List UInt8) (p : Int) : List BSet × Int := playV bs (p + 1) (ET.int.at [0, 4, 10, 20, 35] (pickV bs p 5).toNat).toNat
/-- A book that is drawn, and where the reader goes on. -/
noncomputable def bookV (bs : List UInt8) (p : Int) : List BSet × Int :=
  if (playedV bs p).1.length = 0 then playedV bs p else bendV bs (playedV bs p) (pickV bs (playedV bs p).2 (playedV bs p).1.length).toNat (pickV bs ((playedV bs p).2 + 1) 40) ((playedV bs p).2 + 2)
@[go_sem] noncomputable def ctBookD : Ct := ⟨true, [], fun args os => match args, os with
  | [.one (.ptr 0 0)], [.cells [.isl .byte bs, .val (.int .i64 p)]] => ⟨0 ≤ p ∧ p ≤ 1000 ∧ bs.length ≤ 2000, .agg [.osl .bset 1 0 (bookV bs p).1.length], [(0, some (rdO bs (bookV bs p).2))], [.arr .bset (bookV bs p).1]⟩
  | _, _ => no⟩
theorem s_bookD_e : EnterOk Tryd.prog 41 := ⟨_, Tryd.func41, rfl, by decide⟩
@[go_sem] def s_bookD_lv : List (List Nat) := [[0, 2], [0, 2, 3], [0, 2, 3, 13], [2], [0, 2, 3, 4], [0, 2, 3, 4, 21], [0, 2, 3, 4, 21, 22], [2, 3], [0, 2, 3, 4, 21, 29], [2, 3], [0, 2, 3, 4, 21, 43], [2, 3], [2, 3, 4, 21, 59], [2, 3], [2, 3, 4, 71], [2, 3], [2]]
@[go_sem] noncomputable def s_bookD_K : Known := (((((Known.nil).cons 62 ctNum s_num s_num_e).cons 61 ctPlay s_play s_play_e).cons 42 ctPick s_pick s_pick_e).cons 43 ctOf s_of s_of_e).cons 63 ctMany s_many s_many_e
set_option maxHeartbeats 8000000 in
theorem s_bookD : Sound Tryd.prog 41 ctBookD := by
  have ke := s_bookD_K.env []
  have kl : Lives s_bookD_lv := trivial
  refine sound_intro (E := ⟨ti, s_bookD_K.Γ, []⟩) ke Tryd.func41 Tryd.ntmps41 rfl (rs := [.cell 2 25]) rfl ?_
  intro args os hp
  unfold ctBookD at hp ⊢
  dsimp only at hp ⊢
  split at hp
  · rename_i bs p
    obtain ⟨h1, h2, h3⟩ : 0 ≤ p ∧ p ≤ 1000 ∧ bs.length ≤ 2000 := hp
    refine ⟨by simp, fun φ0 w0 => ?_⟩
    obtain ⟨n, hn, hn2⟩ : ∃ n : Nat, ET.int.at [0, 4, 10, 20, 35] (pickV bs p 5).toNat = n ∧ n ≤ 35 := by
      have := pickV_in bs p 5 (by omega) (by omega) (by omega)
      generalize (pickV bs p 5).toNat = i at *
      match i with
      | 0 => exact ⟨0, rfl, by omega⟩
      | 1 => exact ⟨4, rfl, by omega⟩
      | 2 => exact ⟨10, rfl, by omega⟩
      | 3 => exact ⟨20, rfl, by omega⟩
      | 4 => exact ⟨35, rfl, by omega⟩
      | _ + 5 => exact ⟨0, rfl, by omega⟩
    have hn3 := hn
    unfold ET.at at hn3
    obtain ⟨k1, k2, k3, k4⟩ := brief_play bs (p := p + 1) (by omega) (by omega) n (by omega)
    obtain ⟨x, hx⟩ : ∃ x, playV bs (p + 1) n = x := ⟨_, rfl⟩
    have hV : playedV bs p = x := by unfold playedV; rw [hn]; exact hx
    rw [hx] at k1 k2 k3 k4
    obtain ⟨xs, q⟩ := x
    simp only at k1 k2 k3 k4
    refine goh (And.intro hn (And.intro hn3 hx)) ?_
    refine W_cnd ?_ ?_ <;> (try simp only [cnd_r]) <;> intro h0
    · have h0' : xs.length = 0 := by omega
      have e : bookV bs p = (xs, q) := by unfold bookV; rw [hV, if_pos h0']
      refine goh trivial ?_
      exact finh [some 0, some 3] e
    · simp only [beq_eq_false_iff_ne, ne_eq] at h0
      have h0' : ¬ xs.length = 0 := by omega
      have c1 := pickV_in bs q xs.length (by omega) (by omega) (by omega)
      have c2 := pickV_in bs (q + 1) 40 (by omega) (by omega) (by omega)
      have c3 := pickV_in bs (q + 2) 3 (by omega) (by omega) (by omega)
      obtain ⟨k, hk⟩ := Int.eq_ofNat_of_zero_le c1.1
      obtain ⟨c, hc⟩ : ∃ c, pickV bs (q + 1) 40 = c := ⟨_, rfl⟩
      have hk2 : k < xs.length := by omega
      have eV : ∀ z, bendV bs (xs, q) k c (q + 2) = z → bookV bs p = z := by
        intro z h; unfold bookV; rw [hV, if_neg h0']; simp only; rw [hk, hc, Int.toNat_natCast]; exact h
      have hm2 : q + 1 + 1 = q + 2 := by omega
      refine goh (And.intro hk (And.intro hc hm2)) ?_
      refine W_cnd ?_ ?_ <;> (try simp only [cnd_r]) <;> intro hc0
      · have e := eV (xs.set k ⟨⟨#[65]⟩, (xs.getD k ET.bset.dflt).kind, (xs.getD k ET.bset.dflt).from_, (xs.getD k ET.bset.dflt).blocks⟩, q + 2) (by unfold bendV; rw [if_pos hc0])
        refine goh trivial ?_
        exact finh [some 0, some 3] e
      · simp only [beq_eq_false_iff_ne, ne_eq] at hc0
        refine goh trivial ?_
        refine W_cnd ?_ ?_ <;> (try simp only [cnd_r]) <;> intro hc1
        · have e := eV (xs.set k ⟨(xs.getD k ET.bset.dflt).name, IntKind.i64.wrap (3 - (xs.getD k ET.bset.dflt).kind), (xs.getD k ET.bset.dflt).from_, (xs.getD k ET.bset.dflt).blocks⟩, q + 2) (by unfold bendV; rw [if_neg hc0, if_pos hc1])
          refine goh trivial ?_
          exact finh [some 0, some 3] e
        · simp only [beq_eq_false_iff_ne, ne_eq] at hc1
          refine goh trivial ?_
          refine W_cnd ?_ ?_ <;> (try simp only [cnd_r]) <;> intro hc2
          · have e := eV (xs.set k ⟨(xs.getD k ET.bset.dflt).name, (xs.getD k ET.bset.dflt).kind, ET.str.at [⟨#[110, 111, 110, 101]⟩, (xs.getD k ET.bset.dflt).name, ⟨#[97]⟩] (pickV bs (q + 2) 3).toNat, (xs.getD k ET.bset.dflt).blocks⟩, q + 2 + 1) (by unfold bendV; rw [if_neg hc0, if_neg hc1, if_pos hc2])
            refine goh trivial ?_
            exact finh [some 0, some 3] e
          · simp only [beq_eq_false_iff_ne, ne_eq] at hc2
            refine goh trivial ?_
            refine W_cnd ?_ ?_ <;> (try simp only [cnd_r]) <;> intro hc3
            · have e := eV (xs ++ [(xs.getD k ET.bset.dflt)], q + 2) (by unfold bendV; rw [if_neg hc0, if_neg hc1, if_neg hc2, if_pos hc3])
              refine goh trivial ?_

              exact finh [some 0, some 6] e
            · simp only [beq_eq_false_iff_ne, ne_eq] at hc3
              refine goh trivial ?_
              refine W_cnd ?_ ?_ <;> (try simp only [cnd_r]) <;> intro hc4
              · have e := eV (xs.set k ⟨(xs.getD k ET.bset.dflt).name, (xs.getD k ET.bset.dflt).kind, (xs.getD k ET.bset.dflt).from_, (xs.getD k ET.bset.dflt).blocks.put 0 (many ⟨#[121]⟩ 25)⟩, q + 2) (by unfold bendV; rw [if_neg hc0, if_neg hc1, if_neg hc2, if_neg hc3, if_pos hc4])
                simp only [Eight.put, Int.reduceEq, if_true, if_false] at e
                refine goh trivial ?_
                exact finh [some 0, some 3] e
              · simp only [beq_eq_false_iff_ne, ne_eq] at hc4
                have e := eV (xs, q + 2) (by unfold bendV; rw [if_neg hc0, if_neg hc1, if_neg hc2, if_neg hc3, if_neg hc4])
                refine goh trivial ?_
                exact finh [some 0, some 3] e
  · simp [no] at hp
end Go.Proofs.YtjedcphhajlnoaaDoor
/- Functions: the sets that come from a set. -/
namespace Go.Proofs.YtjedcphhajlnoaaDoor
open Go.RowKit

noncomputable def kidsOf (xs : List BSet) (name : ByteArray) : List ByteArray := (xs.filter fun s => same s.from_ name).map (·.name)
theorem kids_len (xs : List BSet) (name : ByteArray) : (kidsOf xs name).length ≤ xs.length := by
  unfold kidsOf; rw [List.length_map]; exact List.length_filter_le _ _
theorem kids_take {xs : List BSet} {i : Nat} (h : i < xs.length) (name : ByteArray) : kidsOf (xs.take (i + 1)) name = kidsOf (xs.take i) name ++ (if same (xs.getD i ET.bset.dflt).from_ name = true then [(xs.getD i ET.bset.dflt).name] else []) := by
  have e : xs.getD i ET.bset.dflt = xs[i] := by simp [h]
  unfold kidsOf
  rw [e, List.take_add_one, List.getElem?_eq_getElem h, List.filter_append, List.map_append]
  congr 1
  cases hc : same xs[i].from_ name <;> simp [hc]
theorem kids_all (xs : List BSet) (i : Nat) (h : i = xs.length) (name : ByteArray) : kidsOf (xs.take i) name = kidsOf xs name := by rw [List.take_of_length_le (by omega)]
@[go_sem] noncomputable def ctKids : Ct := ⟨false, [[some .bset]], fun args os => match args, os with
  | [.agg [.isl .bset xs], .one (.val (.string name))], [] => ⟨xs.length ≤ 4000000, .one (.osl .str 0 0 (kidsOf xs name).length), [], [.arr .str (kidsOf xs name)]⟩
  | _, _ => no⟩
@[go_sem] noncomputable def sgKids (xs : List BSet) (name : ByteArray) (ys : List ByteArray) (i : Nat) : Sg := ⟨[(1, vs name), (5, .one (.osl .str 0 0 ys.length)), (9, .one (.isl .bset xs)), (10, vi xs.length), (11, vi i)], [some (.arr .str ys)], []⟩
theorem s_kids_e : EnterOk Tryd.prog 24 := ⟨_, Tryd.func24, rfl, by decide⟩
@[go_sem] def s_kids_lv : List (List Nat) := [[1, 2], [1, 2, 5], [1, 5, 9, 10, 11], [1, 5, 9, 10, 11, 12], [1, 5, 7, 9, 10, 11], [1, 5, 7, 9, 10, 11, 18], [1, 5, 9, 10, 11], [1, 5, 9, 10, 11], [4]]
@[go_sem] noncomputable def s_kids_K : Known := Known.nil
set_option maxHeartbeats 8000000 in
theorem s_kids : Sound Tryd.prog 24 ctKids := by
  have ke := s_kids_K.env []
  have kl : Lives s_kids_lv := trivial
  refine sound_intro (E := ⟨ti, s_kids_K.Γ, []⟩) ke Tryd.func24 Tryd.ntmps24 rfl (rs := [.tmp 4]) rfl ?_
  intro args os hp
  unfold ctKids at hp ⊢
  dsimp only at hp ⊢
  split at hp
  · rename_i xs name
    refine ⟨by simp, fun φ0 w0 => ?_⟩
    have hlen : xs.length ≤ 4000000 := hp
    refine goh trivial ?_
    refine W_le (σ' := sgKids xs name [] 0) [none] (by
      simp only [go_sem, inj_r, ↓reduceIte, reduceCtorEq, Nat.reduceAdd, Nat.reduceLT, Nat.reduceLeDiff, Nat.reduceEqDiff, Int.reduceEq]
      all_goals (repeat' refine And.intro ?_ ?_) <;> try exact shut7
      ) ?_
    refine W_loop (fun q σ => ∃ (i : Nat) (ys : List ByteArray), i ≤ xs.length ∧ q = xs.length - i ∧ ys = kidsOf (xs.take i) name ∧ ys.length ≤ 4000000 ∧ σ = sgKids xs name ys i) xs.length ⟨0, [], by omega, by omega, rfl, by simp, rfl⟩ ?_
    rintro q σ ⟨i, ys, hi, rfl, hys, hyl, rfl⟩
    unfold sgKids
    refine goh trivial ?_
    refine W_cnd ?_ ?_ <;> (try simp only [cnd_r]) <;> intro hlt
    · have hk := kids_take (show i < xs.length by omega) name
      have hkl := kids_len (xs.take (i + 1)) name
      have htl : (xs.take (i + 1)).length ≤ 4000000 := by rw [List.length_take]; omega
      rw [← hys] at hk
      refine goh trivial ?_
      refine W_cond _ (by exact rfl) (by exact trivial) ?_ ?_ <;> intro hc
      · rw [if_pos hc] at hk
        refine goh trivial ?_
        rw [hk] at hkl
        refine ⟨xs.length - (i + 1), [some 3], sgKids xs name (ys ++ [(xs.getD i ET.bset.dflt).name]) (i + 1), by omega, ?_, i + 1, _, by omega, rfl, hk.symm, by omega, rfl⟩
        exact leh trivial
      · rw [if_neg (by rw [hc]; decide), List.append_nil] at hk
        refine goh trivial ?_
        refine ⟨xs.length - (i + 1), [some 0], sgKids xs name ys (i + 1), by omega, ?_, i + 1, ys, by omega, rfl, hk.symm, hyl, rfl⟩
        exact leh trivial
    · have e := hys.trans (kids_all xs i (by omega) name)
      refine goh trivial ?_
      exact finh [some 0] e
  · simp [no] at hp
noncomputable def treeKids (xs : List BSet) (name : ByteArray) : List ByteArray := if bookB xs = true ∧ same name ⟨#[]⟩ = false then kidsOf xs name else []
theorem treeKids_len (xs : List BSet) (name : ByteArray) : (treeKids xs name).length ≤ xs.length := by
  unfold treeKids
  split
  · exact kids_len xs name
  · exact Nat.zero_le _
@[go_sem] noncomputable def ctTreeKids : Ct := ⟨false, [[some .bset]], fun args os => match args, os with
  | [.agg [.isl .bset xs], .one (.val (.string name))], [] => ⟨xs.length ≤ 4000000 ∧ ∀ i : Nat, (xs.getD i ET.bset.dflt).name.size ≤ 9223372036854775807, .one (.osl .str 0 0 (treeKids xs name).length), [], [.arr .str (treeKids xs name)]⟩
  | _, _ => no⟩
theorem s_treeKids_e : EnterOk Tryd.prog 11 := ⟨_, Tryd.func11, rfl, by decide⟩
@[go_sem] def s_treeKids_lv : List (List Nat) := [[1, 2], [1, 2, 11], [4], [4]]
@[go_sem] noncomputable def s_treeKids_K : Known := ((Known.nil).cons 19 ctBookOk s_bookOk s_bookOk_e).cons 24 ctKids s_kids s_kids_e
set_option maxHeartbeats 8000000 in
theorem s_treeKids : Sound Tryd.prog 11 ctTreeKids := by
  have ke := s_treeKids_K.env []
  have kl : Lives s_treeKids_lv := trivial
  refine sound_intro (E := ⟨ti, s_treeKids_K.Γ, []⟩) ke Tryd.func11 Tryd.ntmps11 rfl (rs := [.tmp 4]) rfl ?_
  intro args os hp
  unfold ctTreeKids at hp ⊢
  dsimp only at hp ⊢
  split at hp
  · rename_i xs name
    refine ⟨by simp, fun φ0 w0 => ?_⟩
    obtain ⟨hlen, hsz⟩ : xs.length ≤ 4000000 ∧ ∀ i : Nat, (xs.getD i ET.bset.dflt).name.size ≤ 9223372036854775807 := hp
    refine goh trivial ?_
    refine W_cond _ (by exact rfl) (by exact trivial) ?_ ?_ <;> intro hc
    · have e : treeKids xs name = [] := by
        unfold treeKids
        rw [if_neg]
        rintro ⟨h1, h2⟩
        rw [h1, h2] at hc
        simp at hc
      refine goh trivial ?_
      exact finh [none] e
    · have e : treeKids xs name = kidsOf xs name := by
        unfold treeKids
        rw [if_pos]
        cases h1 : bookB xs <;> cases h2 : same name ⟨#[]⟩ <;> rw [h1, h2] at hc <;> simp at hc ⊢
      refine goh trivial ?_
      exact finh [some 1] e
  · simp [no] at hp
@[go_sem] noncomputable def sgTk (xs : List BSet) (name : ByteArray) (ys : List ByteArray) (i : Nat) : Sg := ⟨[(1, vs name), (2, .one (.ptr 0 0)), (5, .one (.osl .str 1 0 ys.length)), (6, vi i)], [some (.cells [.isl .bset xs]), some (.arr .str ys)], []⟩
theorem s_specTreeKids_e : EnterOk Tryd.prog 53 := ⟨_, Tryd.func53, rfl, by decide⟩
@[go_sem] def s_specTreeKids_lv : List (List Nat) := [[1, 2], [1, 2, 5], [1, 2, 5, 6], [1, 2, 5, 6, 20], [1, 2, 5, 6], [1, 2, 5, 6, 30], [1, 2, 5, 6], [4]]
@[go_sem] noncomputable def s_specTreeKids_K : Known := (Known.nil).cons 12 ctBookOk s_specBookOk s_specBookOk_e
set_option maxHeartbeats 8000000 in
theorem s_specTreeKids : Sound Tryd.prog 53 ctTreeKids := by
  have ke := s_specTreeKids_K.env []
  have kl : Lives s_specTreeKids_lv := trivial
  refine sound_intro (E := ⟨ti, s_specTreeKids_K.Γ, []⟩) ke Tryd.func53 Tryd.ntmps53 rfl (rs := [.tmp 4]) rfl ?_
  intro args os hp
  unfold ctTreeKids at hp ⊢
  dsimp only at hp ⊢
  split at hp
  · rename_i xs name
    refine ⟨by simp, fun φ0 w0 => ?_⟩
    obtain ⟨hlen, hsz⟩ : xs.length ≤ 4000000 ∧ ∀ i : Nat, (xs.getD i ET.bset.dflt).name.size ≤ 9223372036854775807 := hp
    obtain ⟨ok, hok⟩ : ∃ b, bookB xs = b := ⟨_, rfl⟩
    obtain ⟨nm, hnm⟩ : ∃ b, same name ⟨#[]⟩ = b := ⟨_, rfl⟩
    refine goh trivial ?_
    refine W_le (σ' := sgTk xs name [] 0) [some 0, some 1] (by
      simp only [go_sem, inj_r, ↓reduceIte, reduceCtorEq, Nat.reduceAdd, Nat.reduceLT, Nat.reduceLeDiff, Nat.reduceEqDiff, Int.reduceEq]
      all_goals (repeat' refine And.intro ?_ ?_) <;> try exact shut7
      ) ?_
    by_cases hg : ok = true ∧ nm = false
    · obtain ⟨rfl, rfl⟩ := hg
      have et : treeKids xs name = kidsOf xs name := by unfold treeKids; rw [if_pos ⟨hok, hnm⟩]
      refine W_loop (fun q σ => ∃ (i : Nat) (ys : List ByteArray), i ≤ xs.length ∧ q = xs.length - i ∧ ys = kidsOf (xs.take i) name ∧ ys.length ≤ 4000000 ∧ σ = sgTk xs name ys i) xs.length ⟨0, [], by omega, by omega, rfl, by simp, rfl⟩ ?_
      rintro q σ ⟨i, ys, hi, rfl, hys, hyl, rfl⟩
      unfold sgTk
      refine goh (And.intro hok hnm) ?_
      refine W_cnd ?_ ?_ <;> (try simp only [cnd_r]) <;> intro hlt
      · have hk := kids_take (show i < xs.length by omega) name
        have hkl := kids_len (xs.take (i + 1)) name
        have htl : (xs.take (i + 1)).length ≤ 4000000 := by rw [List.length_take]; omega
        rw [← hys] at hk
        refine goh trivial ?_
        refine W_cond _ (by exact rfl) (by exact trivial) ?_ ?_ <;> intro hc
        · rw [if_pos hc] at hk
          refine goh trivial ?_
          rw [hk] at hkl
          refine ⟨xs.length - (i + 1), [some 0, some 3], sgTk xs name (ys ++ [(xs.getD i ET.bset.dflt).name]) (i + 1), by omega, ?_, i + 1, _, by omega, rfl, hk.symm, by omega, rfl⟩
          exact leh trivial
        · rw [if_neg (by rw [hc]; decide), List.append_nil] at hk
          refine goh trivial ?_
          refine ⟨xs.length - (i + 1), [some 0, some 1], sgTk xs name ys (i + 1), by omega, ?_, i + 1, ys, by omega, rfl, hk.symm, hyl, rfl⟩
          exact leh trivial
      · have e := et.trans (hys.trans (kids_all xs i (by omega) name)).symm
        refine goh trivial ?_
        exact finh [some 1] e
    · have et : treeKids xs name = [] := by
        unfold treeKids
        rw [if_neg]
        rw [hok, hnm]; exact hg
      refine W_loop (fun q σ => q = 0 ∧ σ = sgTk xs name [] 0) 0 ⟨rfl, rfl⟩ ?_
      rintro q σ ⟨rfl, rfl⟩
      unfold sgTk
      cases ok
      · refine goh hok ?_
        refine W_cnd ?_ ?_ <;> intro hlit <;> try (cases hlit; done)
        refine goh trivial ?_
        exact finh [some 1] et
      · obtain rfl : nm = true := by
          cases nm
          · exact absurd ⟨rfl, rfl⟩ hg
          · rfl
        refine goh (And.intro hok hnm) ?_
        refine W_cnd ?_ ?_ <;> intro hlit <;> try (cases hlit; done)
        refine goh trivial ?_
        exact finh [some 1] et
  · simp [no] at hp
end Go.Proofs.YtjedcphhajlnoaaDoor
