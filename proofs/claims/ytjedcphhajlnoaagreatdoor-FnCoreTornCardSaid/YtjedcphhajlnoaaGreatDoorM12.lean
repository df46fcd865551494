import Derived.Test.YtjedcphhajlnoaaGreatDoorProg
import Derived.WalkKit
import Derived.Ground.NamesProg
import Derived.Shelf.Strconv.Itoa3
import Derived.Test.YtjedcphhajlnoaaGreatDoorM5
import Derived.Test.YtjedcphhajlnoaaGreatDoorM7
import Derived.Test.YtjedcphhajlnoaaGreatDoorM8
import Derived.Test.YtjedcphhajlnoaaGreatDoorM9
import Derived.Test.YtjedcphhajlnoaaGreatDoorM11
set_option linter.unusedSimpArgs false
set_option linter.unusedVariables false
set_option linter.unusedSectionVars false
/- Functions: one of a list; texts that are drawn. -/
namespace Go.Proofs.YtjedcphhajlnoaaGreatDoor
open Go.RowKit

/-- May the reader go on from here? -/
def rdOk (bs : List UInt8) (p : Int) : Prop := 0 ≤ p ∧ p ≤ 900000 ∧ bs.length ≤ 2000
@[go_sem] def ctNum : Ct := ⟨true, [], fun args os => match args, os with
  | [.one (.ptr 0 0), .one (.osl .int 1 0 n)], [.cells [.isl .byte bs, .val (.int .i64 p)], .arr .int xs] => ⟨(0 ≤ p ∧ p ≤ 1000000 ∧ bs.length ≤ 2000) ∧ n = xs.length ∧ 0 < n ∧ n ≤ 1000, vi (ET.int.at xs (pickV bs p n).toNat), [(0, some (rdO bs (p + 1)))], []⟩
  | _, _ => no⟩
theorem s_num_e : EnterOk Tryz.prog 97 := ⟨_, Tryz.func97, rfl, by decide⟩
@[go_sem] def s_num_lv : List (List Nat) := [[0, 1], [4]]
@[go_sem] noncomputable def s_num_K : Known := (Known.nil).cons 170 ctPick s_pick s_pick_e
set_option maxHeartbeats 8000000 in
theorem s_num : Sound Tryz.prog 97 ctNum := by
  have ke := s_num_K.env []
  have kl : Lives s_num_lv := trivial
  refine sound_intro (E := ⟨ti, s_num_K.Γ, []⟩) ke Tryz.func97 Tryz.ntmps97 rfl (rs := [.tmp 4]) rfl ?_
  intro args os hp
  unfold ctNum at hp ⊢
  dsimp only at hp ⊢
  split at hp
  · rename_i n bs p xs
    refine ⟨by simp, fun φ0 w0 => ?_⟩
    obtain ⟨⟨h1, h2, h3⟩, h4, h5, h6⟩ : (0 ≤ p ∧ p ≤ 1000000 ∧ bs.length ≤ 2000) ∧ n = xs.length ∧ 0 < n ∧ n ≤ 1000 := hp
    have h7 := pickV_in bs p n h1 h2 (by omega)
    refine goh trivial ?_
    exact finh [some 0, some 1] trivial
  · simp [no] at hp
@[go_sem] def ctOf : Ct := ⟨true, [], fun args os => match args, os with
  | [.one (.ptr 0 0), .one (.osl .str 1 0 n)], [.cells [.isl .byte bs, .val (.int .i64 p)], .arr .str xs] => ⟨(0 ≤ p ∧ p ≤ 1000000 ∧ bs.length ≤ 2000) ∧ n = xs.length ∧ 0 < n ∧ n ≤ 1000, vs (ET.str.at xs (pickV bs p n).toNat), [(0, some (rdO bs (p + 1)))], []⟩
  | _, _ => no⟩
theorem s_of_e : EnterOk Tryz.prog 174 := ⟨_, Tryz.func174, rfl, by decide⟩
@[go_sem] def s_of_lv : List (List Nat) := [[0, 1], [4]]
@[go_sem] noncomputable def s_of_K : Known := (Known.nil).cons 170 ctPick s_pick s_pick_e
set_option maxHeartbeats 8000000 in
theorem s_of : Sound Tryz.prog 174 ctOf := by
  have ke := s_of_K.env []
  have kl : Lives s_of_lv := trivial
  refine sound_intro (E := ⟨ti, s_of_K.Γ, []⟩) ke Tryz.func174 Tryz.ntmps174 rfl (rs := [.tmp 4]) rfl ?_
  intro args os hp
  unfold ctOf at hp ⊢
  dsimp only at hp ⊢
  split at hp
  · rename_i n bs p xs
    refine ⟨by simp, fun φ0 w0 => ?_⟩
    obtain ⟨⟨h1, h2, h3⟩, h4, h5, h6⟩ : (0 ≤ p ∧ p ≤ 1000000 ∧ bs.length ≤ 2000) ∧ n = xs.length ∧ 0 < n ∧ n ≤ 1000 := hp
    have h7 := pickV_in bs p n h1 h2 (by omega)
    refine goh trivial ?_
    exact finh [some 0, some 1] trivial
  · simp [no] at hp
def txts : List ByteArray := [⟨#[97]⟩, ⟨#[98]⟩, ⟨#[32]⟩, ⟨#[58]⟩, ⟨#[10]⟩, ⟨#[49, 50]⟩, ⟨#[255]⟩, ⟨#[0]⟩, ⟨#[120, 121, 122]⟩]
theorem at_size {xs : List ByteArray} {m : Nat} (h : ∀ s ∈ xs, s.size ≤ m) (i : Nat) : (ET.str.at xs i).size ≤ m := by
  unfold ET.at
  rcases Nat.lt_or_ge i xs.length with hi | hi
  · rw [List.getD_eq_getElem?_getD, List.getElem?_eq_getElem hi]; exact h _ (List.getElem_mem hi)
  · rw [List.getD_eq_getElem?_getD, List.getElem?_eq_none hi]; exact Nat.zero_le _
theorem txts_size (i : Nat) : (ET.str.at txts i).size ≤ 3 := at_size (by decide) i
def l1T (bs : List UInt8) : Nat → Int → ByteArray → ByteArray
  | 0, _, out => out
  | i + 1, p, out => l1T bs i (p + 1) (out ++ ET.str.at txts (pickV bs p 9).toNat)
theorem l1T_size (bs : List UInt8) : ∀ (i : Nat) (p : Int) (out : ByteArray), (l1T bs i p out).size ≤ out.size + 3 * i
  | 0, p, out => by simp [l1T]
  | i + 1, p, out => by
    have h1 := l1T_size bs i (p + 1) (out ++ ET.str.at txts (pickV bs p 9).toNat)
    have h2 := txts_size (pickV bs p 9).toNat
    rw [ByteArray.size_append] at h1
    unfold l1T; omega
/-- A text that is drawn, and where the reader goes on. -/
def textV (bs : List UInt8) (p : Int) : ByteArray := l1T bs (pickV bs p 7).toNat (p + 1) ⟨#[]⟩
def textP (bs : List UInt8) (p : Int) : Int := p + 1 + pickV bs p 7
theorem textV_size (bs : List UInt8) (p : Int) (h : rdOk bs p) : (textV bs p).size ≤ 18 := by
  have h1 := pickV_in bs p 7 h.1 (by have := h.2.1; omega) (by omega)
  have h2 := l1T_size bs (pickV bs p 7).toNat (p + 1) ⟨#[]⟩
  have h3 : (⟨#[]⟩ : ByteArray).size = 0 := rfl
  unfold textV; omega
theorem textP_in (bs : List UInt8) (p : Int) (h : rdOk bs p) : p + 1 ≤ textP bs p ∧ textP bs p ≤ p + 7 := by
  have h1 := pickV_in bs p 7 h.1 (by have := h.2.1; omega) (by omega)
  unfold textP; omega
@[go_sem] def ctText : Ct := ⟨true, [], fun args os => match args, os with
  | [.one (.ptr 0 0)], [.cells [.isl .byte bs, .val (.int .i64 p)]] => ⟨rdOk bs p, vs (textV bs p), [(0, some (rdO bs (textP bs p)))], []⟩
  | _, _ => no⟩
@[go_sem] def sgText (bs : List UInt8) (p : Int) (i : Nat) (out : ByteArray) : Sg := ⟨[(0, .one (.ptr 0 0)), (3, vs out), (4, vi i)], [some (rdO bs p)], [0]⟩
theorem s_text_e : EnterOk Tryz.prog 175 := ⟨_, Tryz.func175, rfl, by decide⟩
@[go_sem] def s_text_lv : List (List Nat) := [[0], [0, 3], [0, 3, 4], [0, 3, 4, 8], [0, 3, 4], [0, 3, 4], [2]]
@[go_sem] noncomputable def s_text_K : Known := ((Known.nil).cons 170 ctPick s_pick s_pick_e).cons 174 ctOf s_of s_of_e
set_option maxHeartbeats 8000000 in
theorem s_text : Sound Tryz.prog 175 ctText := by
  have ke := s_text_K.env []
  have kl : Lives s_text_lv := trivial
  refine sound_intro (E := ⟨ti, s_text_K.Γ, []⟩) ke Tryz.func175 Tryz.ntmps175 rfl (rs := [.tmp 2]) rfl ?_
  intro args os hp
  unfold ctText at hp ⊢
  dsimp only at hp ⊢
  split at hp
  · rename_i bs p
    refine ⟨by simp, fun φ0 w0 => ?_⟩
    have hr : rdOk bs p := hp
    obtain ⟨h1, h2, h3⟩ := hr
    have h7 := pickV_in bs p 7 h1 (by omega) (by omega)
    have hT : textP bs p = p + 1 + pickV bs p 7 := rfl
    have hV : textV bs p = l1T bs (pickV bs p 7).toNat (p + 1) ⟨#[]⟩ := rfl
    refine goh trivial ?_
    refine W_le (σ' := sgText bs (p + 1) (pickV bs p 7).toNat ⟨#[]⟩) [some 0] (by
      simp only [go_sem, inj_r, ↓reduceIte, reduceCtorEq, Nat.reduceAdd, Nat.reduceLT, Nat.reduceLeDiff, Nat.reduceEqDiff, Int.reduceEq]
      all_goals (repeat' refine And.intro ?_ ?_) <;> try exact shut7
      ) ?_
    refine W_loop (fun n σ => ∃ (i : Nat) (q : Int) (out : ByteArray), n = i ∧ i ≤ 6 ∧ out.size ≤ 3 * (6 - i) ∧ 0 ≤ q ∧ q + i = textP bs p ∧ l1T bs i q out = textV bs p ∧ σ = sgText bs q i out) (pickV bs p 7).toNat ⟨_, _, _, rfl, by omega, Nat.zero_le _, by omega, by omega, hV.symm, rfl⟩ ?_
    rintro n σ ⟨i, q, out, rfl, hi, ho, hq, hqi, hl, rfl⟩
    unfold sgText
    refine goh trivial ?_
    refine W_cnd ?_ ?_ <;> (try simp only [cnd_r]) <;> intro hlt
    · obtain ⟨j, rfl⟩ : ∃ j, n = j + 1 := ⟨n - 1, by omega⟩
      have h9 := pickV_in bs q 9 hq (by omega) (by omega)
      have ht := txts_size (pickV bs q 9).toNat
      simp only [ET.at, txts] at ht
      refine goh trivial ?_
      refine ⟨j, [some 0], sgText bs (q + 1) j (out ++ ET.str.at txts (pickV bs q 9).toNat), by omega, ?_, j, q + 1, _, rfl, by omega, ?_, by omega, by omega, hl, rfl⟩
      · exact leh trivial
      · simp only [ET.at, txts, ByteArray.size_append]; omega
    · refine goh trivial ?_
      refine ⟨by (simp only [go_sem, ↓reduceIte, reduceCtorEq, Nat.reduceAdd, Nat.reduceLT, Nat.reduceLeDiff, Nat.reduceEqDiff]) <;> trivial, [some 0], ?_⟩
      all_goals try simp only [go_sem, inj_r, ↓reduceIte, reduceCtorEq, Nat.reduceAdd, Nat.reduceLT, Nat.reduceLeDiff, Nat.reduceEqDiff, Int.reduceEq]
      all_goals (repeat' refine And.intro ?_ ?_) <;> try exact shut7
      · have : n = 0 := by omega
        subst this
        exact hl
  · simp [no] at hp
def fates : List Int := [0, 1, 1, 1, 2, 3]
def l2F (bs : List UInt8) : Nat → Int → List Int → List Int
  | 0, _, out => out
  | i + 1, p, out => l2F bs i (p + 1) (out ++ [ET.int.at fates (pickV bs p 6).toNat])
theorem l2F_len (bs : List UInt8) : ∀ (i : Nat) (p : Int) (out : List Int), (l2F bs i p out).length = out.length + i
  | 0, p, out => by simp [l2F]
  | i + 1, p, out => by
    have h1 := l2F_len bs i (p + 1) (out ++ [ET.int.at fates (pickV bs p 6).toNat])
    rw [List.length_append] at h1
    simp only [List.length_cons, List.length_nil] at h1
    unfold l2F; omega
/-- What becomes of writes, as it is drawn. -/
def fateV (bs : List UInt8) (p : Int) : List Int := l2F bs (pickV bs p 16).toNat (p + 1) []
def fateP (bs : List UInt8) (p : Int) : Int := p + 1 + pickV bs p 16
theorem fateV_len (bs : List UInt8) (p : Int) (h : rdOk bs p) : (fateV bs p).length ≤ 15 := by
  have h1 := pickV_in bs p 16 h.1 (by have := h.2.1; omega) (by omega)
  unfold fateV; rw [l2F_len]; simp only [List.length_nil]; omega
theorem fateP_in (bs : List UInt8) (p : Int) (h : rdOk bs p) : p + 1 ≤ fateP bs p ∧ fateP bs p ≤ p + 16 := by
  have h1 := pickV_in bs p 16 h.1 (by have := h.2.1; omega) (by omega)
  unfold fateP; omega
@[go_sem] def ctFate : Ct := ⟨true, [], fun args os => match args, os with
  | [.one (.ptr 0 0)], [.cells [.isl .byte bs, .val (.int .i64 p)]] => ⟨rdOk bs p, .one (.osl .int 1 0 (fateV bs p).length), [(0, some (rdO bs (fateP bs p)))], [.arr .int (fateV bs p)]⟩
  | _, _ => no⟩
@[go_sem] def sgFate (bs : List UInt8) (p : Int) (i : Nat) (out : List Int) : Sg := ⟨[(0, .one (.ptr 0 0)), (3, .one (.osl .int 1 0 out.length)), (4, vi i)], [some (rdO bs p), some (.arr .int out)], [0]⟩
/-- A text n times. -/
def manyL : Nat → ByteArray → Nat → ByteArray → ByteArray
  | 0, _, _, out => out
  | f + 1, s, n, out => if n = 0 then out else manyL f (s ++ s) (n / 2) (if n % 2 = 1 then out ++ s else out)
theorem manyL_size : ∀ (f : Nat) (s : ByteArray) (n : Nat) (out : ByteArray), n < 2 ^ f → (manyL f s n out).size = out.size + n * s.size
  | 0, s, n, out, h => by
    have : n = 0 := by simp at h; exact h
    subst this; simp [manyL]
  | f + 1, s, n, out, h => by
    unfold manyL
    split
    · rename_i h0; subst h0; simp
    · rw [manyL_size f _ _ _ (by rw [Nat.pow_succ] at h; omega), ByteArray.size_append]
      have e : n * s.size = (n / 2) * (s.size + s.size) + (n % 2) * s.size := by
        have : n = 2 * (n / 2) + n % 2 := by omega
        rw [Nat.mul_add, ← Nat.add_mul, ← Nat.add_mul]; congr 1; omega
      split
      · rename_i h1; rw [e, h1, ByteArray.size_append]; omega
      · rename_i h1
        have : n % 2 = 0 := by omega
        rw [e, this]; omega
theorem manyL_enough : ∀ (f : Nat) (s : ByteArray) (n : Nat) (out : ByteArray), n < 2 ^ f → manyL (f + 1) s n out = manyL f s n out
  | 0, s, n, out, h => by
    have : n = 0 := by simp at h; exact h
    subst this; simp [manyL]
  | f + 1, s, n, out, h => by
    have h2 : n / 2 < 2 ^ f := by rw [Nat.pow_succ] at h; omega
    conv => lhs; unfold manyL
    conv => rhs; unfold manyL
    rw [manyL_enough f _ _ _ h2]
def many (s : ByteArray) (n : Nat) : ByteArray := manyL 10 s n ⟨#[]⟩
theorem many_size (s : ByteArray) (n : Nat) (h : n ≤ 1000) : (many s n).size = n * s.size := by
  unfold many; rw [manyL_size _ _ _ _ (by omega)]; exact Nat.zero_add _
theorem manyL_step (s : ByteArray) (n : Nat) (out : ByteArray) (h : n ≤ 1000) (h0 : n ≠ 0) : manyL 10 s n out = manyL 10 (s ++ s) (n / 2) (if n % 2 = 1 then out ++ s else out) := by
  conv => lhs; unfold manyL
  rw [if_neg h0, ← manyL_enough 9 _ _ _ (by omega)]
@[go_sem] def ctMany : Ct := ⟨false, [], fun args os => match args, os with
  | [.one (.val (.string s)), .one (.val (.int .i64 n))], [] => ifp (0 ≤ n ∧ n ≤ 1000 ∧ s.size ≤ 100) (vs (many s n.toNat))
  | _, _ => no⟩
@[go_sem] def sgMany (s : ByteArray) (n : Nat) (out : ByteArray) : Sg := ⟨[(0, vs s), (1, vi n), (5, vs out)], [], []⟩
theorem s_many_e : EnterOk Tryz.prog 200 := ⟨_, Tryz.func200, rfl, by decide⟩
@[go_sem] def s_many_lv : List (List Nat) := [[0, 1], [0, 1, 5], [0, 1, 5, 7], [0, 1, 5, 10], [0, 1, 5], [0, 1, 5], [0, 1, 5], [4]]
@[go_sem] noncomputable def s_many_K : Known := Known.nil
set_option maxHeartbeats 8000000 in
theorem s_many : Sound Tryz.prog 200 ctMany := by
  have ke := s_many_K.env []
  have kl : Lives s_many_lv := trivial
  refine sound_intro (E := ⟨ti, s_many_K.Γ, []⟩) ke Tryz.func200 Tryz.ntmps200 rfl (rs := [.tmp 4]) rfl ?_
  intro args os hp
  unfold ctMany at hp ⊢
  dsimp only at hp ⊢
  split at hp
  · rename_i s0 n0
    refine ⟨by simp, fun φ0 w0 => ?_⟩
    obtain ⟨h1, h2, h3⟩ : 0 ≤ n0 ∧ n0 ≤ 1000 ∧ s0.size ≤ 100 := hp
    obtain ⟨n0, rfl⟩ := Int.eq_ofNat_of_zero_le h1
    have hb : n0 * s0.size ≤ 100000 := Nat.mul_le_mul (show n0 ≤ 1000 by omega) h3
    have hn0 : (n0 : Int).toNat = n0 := Int.toNat_natCast n0
    refine goh trivial ?_
    refine W_le (σ' := sgMany s0 n0 ⟨#[]⟩) [] (by
      simp only [go_sem, inj_r, ↓reduceIte, reduceCtorEq, Nat.reduceAdd, Nat.reduceLT, Nat.reduceLeDiff, Nat.reduceEqDiff, Int.reduceEq]
      all_goals (repeat' refine And.intro ?_ ?_) <;> try exact shut7
      ) ?_
    refine W_loop (fun n σ => ∃ (s : ByteArray) (i : Nat) (out : ByteArray), n = i ∧ i ≤ 1000 ∧ out.size + i * s.size ≤ 100000 ∧ s.size ≤ 200000 ∧ manyL 10 s i out = many s0 n0 ∧ σ = sgMany s i out) n0 ⟨_, _, _, rfl, by omega, by rw [show (⟨#[]⟩ : ByteArray).size = 0 from rfl]; omega, by omega, rfl, rfl⟩ ?_
    rintro n σ ⟨s, i, out, rfl, hi, ho, hs, hm, rfl⟩
    unfold sgMany
    refine goh trivial ?_
    refine W_cnd ?_ ?_ <;> (try simp only [cnd_r]) <;> intro hlt
    · have hr : ((n : Int)).tmod 2 = ((n % 2 : Nat) : Int) := (Int.ofNat_tmod _ _).symm
      have hq : IntKind.i64.wrap (((n : Int)).tdiv 2) = ((n / 2 : Nat) : Int) := by
        have : (n : Int).tdiv 2 = ((n / 2 : Nat) : Int) := (Int.ofNat_tdiv _ _).symm
        rw [this]; exact wrap_id _ (by omega) (by omega)
      have hst := manyL_step s n out (by omega) (by omega)
      have hs1 : s.size ≤ 100000 := by have := Nat.mul_le_mul_right s.size (show 1 ≤ n by omega); omega
      have e : n * s.size = (n / 2) * (s.size + s.size) + (n % 2) * s.size := by
        have : n = 2 * (n / 2) + n % 2 := by omega
        rw [Nat.mul_add, ← Nat.add_mul, ← Nat.add_mul]; congr 1; omega
      refine goh hr ?_
      refine W_cond _ (by exact rfl) (by exact trivial) ?_ ?_ <;> intro hc
      · have h1 : n % 2 = 1 := by simp only [beq_iff_eq] at hc; omega
        rw [if_pos h1] at hst
        rw [h1] at e
        refine goh hq ?_
        refine ⟨n / 2, [], sgMany (s ++ s) (n / 2) (out ++ s), by omega, ?_, _, _, _, rfl, by omega, ?_, ?_, hst ▸ hm, rfl⟩
        · exact leh trivial
        · rw [ByteArray.size_append, ByteArray.size_append]; omega
        · rw [ByteArray.size_append]; omega
      · have h1 : n % 2 = 0 := by
          have : ¬ (((n % 2 : Nat) : Int) = 1) := by simpa using hc
          omega
        rw [if_neg (by omega)] at hst
        rw [h1] at e
        refine goh hq ?_
        refine ⟨n / 2, [], sgMany (s ++ s) (n / 2) out, by omega, ?_, _, _, _, rfl, by omega, ?_, ?_, hst ▸ hm, rfl⟩
        · exact leh trivial
        · rw [ByteArray.size_append]; omega
        · rw [ByteArray.size_append]; omega
    · refine goh trivial ?_
      have : n = 0 := by omega
      subst this
      have hm : out = many s0 n0 := hm
      subst hm
      exact finh [] trivial
  · simp [no, ifp] at hp
end Go.Proofs.YtjedcphhajlnoaaGreatDoor
/- Functions: a disk that is drawn. -/
namespace Go.Proofs.YtjedcphhajlnoaaGreatDoor
open Go.RowKit

@[go_sem] theorem Dk.eta (d : Dk) : Dk.mk d.a d.b d.l = d := rfl
def dstep1 (bs : List UInt8) (d : Dk) (p : Int) : Dk := dkWrite d (pickV bs p 2) (pickV bs (p + 1) 6) (textV bs (p + 2))
def dstep (bs : List UInt8) (d : Dk) (p : Int) : Dk × Int :=
  if pickV bs (textP bs (p + 2)) 8 = 0 then (dkFlush (dstep1 bs d p), textP bs (p + 2) + 1)
  else if pickV bs (textP bs (p + 2)) 8 = 1 then (dkFall (dstep1 bs d p) (fateV bs (textP bs (p + 2) + 1)), fateP bs (textP bs (p + 2) + 1))
  else (dstep1 bs d p, textP bs (p + 2) + 1)
def dsteps (bs : List UInt8) : Nat → Dk → Int → Dk × Int
  | 0, d, p => (d, p)
  | i + 1, d, p => dsteps bs i (dstep bs d p).1 (dstep bs d p).2
def bend (bs : List UInt8) (d : Dk) (p : Int) : Dk × Int :=
  if pickV bs p 24 = 0 then (⟨d.a, d.b ++ [⟨#[]⟩], d.l⟩, p + 1)
  else if pickV bs p 24 = 1 then (⟨d.a, d.b, d.l ++ [⟨ET.int.at [-1, 2, 0] (pickV bs (p + 1) 3).toNat, ET.int.at [-1, 6, 0] (pickV bs (p + 2) 3).toNat, ⟨#[]⟩⟩]⟩, p + 3)
  else if pickV bs p 24 = 2 then (⟨[], d.b, d.l⟩, p + 1)
  else (d, p + 1)
def drawDisk0 (bs : List UInt8) (p : Int) : Dk × Int := dsteps bs (pickV bs (p + 1) 14).toNat (dkOpen (1 + pickV bs p 6)) (p + 2)
/-- A disk that is drawn, and where the reader goes on. -/
def drawDisk (bs : List UInt8) (p : Int) : Dk × Int := bend bs (drawDisk0 bs p).1 (drawDisk0 bs p).2
/-- Few sectors, few writes. -/
def Dk.few (d : Dk) (n : Nat) : Prop := d.a.length ≤ 6 ∧ d.b.length ≤ 6 ∧ d.l.length ≤ n
theorem Dk.few_write {d : Dk} {n : Nat} (h : d.few n) (s k : Int) (t : ByteArray) : (dkWrite d s k t).few (n + 1) := by
  obtain ⟨h1, h2, h3⟩ := h
  unfold dkWrite
  split
  · split
    · refine ⟨h1, h2, ?_⟩
      show (d.l ++ [_]).length ≤ n + 1
      rw [List.length_append]; simp only [List.length_cons, List.length_nil]; omega
    · exact ⟨h1, h2, by omega⟩
  · exact ⟨Nat.zero_le _, Nat.zero_le _, Nat.zero_le _⟩
theorem Dk.few_flush {d : Dk} {n : Nat} (h : d.few n) : (dkFlush d).few n := by
  obtain ⟨h1, h2, h3⟩ := h
  unfold dkFlush
  split
  · have := d.done_len d.l.length
    exact ⟨by show (d.done _).1.length ≤ 6; omega, by show (d.done _).2.length ≤ 6; omega, Nat.zero_le _⟩
  · exact ⟨Nat.zero_le _, Nat.zero_le _, Nat.zero_le _⟩
theorem Dk.few_fall {d : Dk} {n : Nat} (h : d.few n) (f : List Int) : (dkFall d f).few n := by
  obtain ⟨h1, h2, h3⟩ := h
  unfold dkFall
  split
  · have := d.fallN_len f (min d.l.length f.length)
    exact ⟨by show (d.fallN f _).1.length ≤ 6; omega, by show (d.fallN f _).2.length ≤ 6; omega, Nat.zero_le _⟩
  · exact ⟨Nat.zero_le _, Nat.zero_le _, Nat.zero_le _⟩
theorem dstep_few (bs : List UInt8) (d : Dk) (p : Int) {n : Nat} (h : d.few n) : (dstep bs d p).1.few (n + 1) := by
  have h1 : (dstep1 bs d p).few (n + 1) := Dk.few_write h _ _ _
  unfold dstep
  split
  · exact Dk.few_flush h1
  · split
    · exact Dk.few_fall h1 _
    · exact h1
theorem dstep_p (bs : List UInt8) (d : Dk) (p : Int) (hp : 0 ≤ p) (hp2 : p ≤ 800000) (hb : bs.length ≤ 2000) : p + 1 ≤ (dstep bs d p).2 ∧ (dstep bs d p).2 ≤ p + 30 := by
  have h1 := textP_in bs (p + 2) ⟨by omega, by omega, hb⟩
  have h2 := fateP_in bs (textP bs (p + 2) + 1) ⟨by omega, by omega, hb⟩
  unfold dstep
  split
  · simp only; omega
  · split
    · simp only; omega
    · simp only; omega
theorem dkOpen_few (n : Int) (h : n ≤ 6) : (dkOpen n).few 0 := by
  unfold dkOpen
  split
  · exact ⟨by show (List.replicate _ _).length ≤ 6; rw [List.length_replicate]; omega, by show (List.replicate _ _).length ≤ 6; rw [List.length_replicate]; omega, Nat.zero_le _⟩
  · exact ⟨Nat.zero_le _, Nat.zero_le _, Nat.zero_le _⟩
theorem dsteps_all (bs : List UInt8) (hb : bs.length ≤ 2000) : ∀ (i : Nat) (d : Dk) (p : Int) (n : Nat), 0 ≤ p → p + 30 * i ≤ 800000 → d.few n → (dsteps bs i d p).1.few (n + i) ∧ p ≤ (dsteps bs i d p).2 ∧ (dsteps bs i d p).2 ≤ p + 30 * i
  | 0, d, p, n, h0, h1, h2 => by
    refine ⟨h2, Int.le_refl _, ?_⟩
    show p ≤ _
    omega
  | i + 1, d, p, n, h0, h1, h2 => by
    have hs := dstep_p bs d p h0 (by omega) hb
    obtain ⟨k1, k2, k3⟩ := dsteps_all bs hb i (dstep bs d p).1 (dstep bs d p).2 (n + 1) (by omega) (by omega) (dstep_few bs d p h2)
    refine ⟨?_, ?_, ?_⟩
    · have : n + (i + 1) = n + 1 + i := by omega
      rw [this]; exact k1
    · show p ≤ (dsteps bs i _ _).2; omega
    · show (dsteps bs i _ _).2 ≤ _; omega
def rdOk2 (bs : List UInt8) (p : Int) : Prop := 0 ≤ p ∧ p ≤ 700000 ∧ bs.length ≤ 2000
theorem drawDisk0_all (bs : List UInt8) (p : Int) (h : rdOk2 bs p) : (drawDisk0 bs p).1.few 13 ∧ p ≤ (drawDisk0 bs p).2 ∧ (drawDisk0 bs p).2 ≤ p + 500 := by
  obtain ⟨h1, h2, h3⟩ := h
  have h7 := pickV_in bs p 6 h1 (by omega) (by omega)
  have h8 := pickV_in bs (p + 1) 14 (by omega) (by omega) (by omega)
  obtain ⟨k1, k2, k3⟩ := dsteps_all bs h3 (pickV bs (p + 1) 14).toNat (dkOpen (1 + pickV bs p 6)) (p + 2) 0 (by omega) (by omega) (dkOpen_few _ (by omega))
  unfold drawDisk0
  refine ⟨⟨k1.1, k1.2.1, Nat.le_trans k1.2.2 (by omega)⟩, by omega, by omega⟩
theorem drawDisk_all (bs : List UInt8) (p : Int) (h : rdOk2 bs p) : ((drawDisk bs p).1.a.length ≤ 7 ∧ (drawDisk bs p).1.b.length ≤ 7 ∧ (drawDisk bs p).1.l.length ≤ 14) ∧ p ≤ (drawDisk bs p).2 ∧ (drawDisk bs p).2 ≤ p + 503 := by
  obtain ⟨⟨k1, k2, k3⟩, k4, k5⟩ := drawDisk0_all bs p h
  unfold drawDisk bend
  split
  · refine ⟨⟨by simp only; omega, ?_, by simp only; omega⟩, by simp only; omega, by simp only; omega⟩
    simp only [List.length_append, List.length_cons, List.length_nil]; omega
  · split
    · refine ⟨⟨by simp only; omega, by simp only; omega, ?_⟩, by simp only; omega, by simp only; omega⟩
      simp only [List.length_append, List.length_cons, List.length_nil]; omega
    · split
      · exact ⟨⟨Nat.zero_le _, by simp only; omega, by simp only; omega⟩, by simp only; omega, by simp only; omega⟩
      · exact ⟨⟨by simp only; omega, by simp only; omega, by simp only; omega⟩, by simp only; omega, by simp only; omega⟩
@[go_sem] def ctDrawDisk : Ct := ⟨true, [], fun args os => match args, os with
  | [.one (.ptr 0 0)], [.cells [.isl .byte bs, .val (.int .i64 p)]] => ⟨rdOk2 bs p, (drawDisk bs p).1.v 1, [(0, some (rdO bs (drawDisk bs p).2))], (drawDisk bs p).1.objs⟩
  | _, _ => no⟩
@[go_sem] def sgDraw (bs : List UInt8) (p : Int) (i : Nat) (d : Dk) : Sg := ⟨[(0, .one (.ptr 0 0)), (2, .one (.ptr 1 0)), (3, .one (.ptr 2 0)), (4, vi i)],
  [some (rdO bs p), some (.cells [.val (.slice none 0 0), .val (.slice none 0 0), .val (.slice none 0 0)]), some (.cells [.osl .str 3 0 d.a.length, .osl .str 4 0 d.b.length, .osl .late 5 0 d.l.length]), some (.arr .str d.a), some (.arr .str d.b), some (.arr .late d.l)], [0]⟩
end Go.Proofs.YtjedcphhajlnoaaGreatDoor
/- Functions: a disk of blocks that is drawn. -/
namespace Go.Proofs.YtjedcphhajlnoaaGreatDoor
open Go.RowKit

def l3s : List ByteArray := [⟨#[97]⟩, ⟨#[98, 98]⟩, ⟨#[120, 32, 121]⟩, ⟨#[97]⟩, ⟨#[]⟩]
/-- n blocks written, from place i on. -/
def l3W (bs : List UInt8) : Nat → Int → Dk → Int → Dk
  | 0, _, d, _ => d
  | n + 1, i, d, p => l3W bs n (i + 1) (blkWrite d i (ET.str.at l3s (pickV bs p 5).toNat)) (p + 1)
/-- n writes. -/
def l3V (bs : List UInt8) : Nat → Dk → Int → Dk × Int
  | 0, d, p => (d, p)
  | n + 1, d, p => l3V bs n (dstep1 bs d p) (textP bs (p + 2))
def l3a (bs : List UInt8) (p : Int) : Dk := l3W bs 5 1 (dkOpen 6) p
def l3b (bs : List UInt8) (p : Int) : Dk := if pickV bs (p + 5) 2 = 0 then dkFlush (l3a bs p) else l3a bs p
def l3c (bs : List UInt8) (p : Int) : Dk × Int := l3V bs (pickV bs (p + 6) 3).toNat (l3b bs p) (p + 7)
def blkDisk (bs : List UInt8) (p : Int) : Dk × Int := (if pickV bs (l3c bs p).2 16 = 0 then ⟨[], (l3c bs p).1.b, (l3c bs p).1.l⟩ else (l3c bs p).1, (l3c bs p).2 + 1)
theorem few_blk {d : Dk} {n : Nat} (h : d.few n) (k : Int) (t : ByteArray) : (blkWrite d k t).few (n + 2) := by
  obtain ⟨h1, h2, h3⟩ := h
  unfold blkWrite
  split
  · split
    · refine ⟨h1, h2, ?_⟩
      show (d.l ++ [_] ++ [_]).length ≤ n + 2
      simp only [List.length_append, List.length_cons, List.length_nil]; omega
    · exact ⟨h1, h2, by omega⟩
  · exact ⟨Nat.zero_le _, Nat.zero_le _, Nat.zero_le _⟩
theorem few_mono {d : Dk} {n m : Nat} (h : d.few n) (hm : n ≤ m) : d.few m := ⟨h.1, h.2.1, Nat.le_trans h.2.2 hm⟩
theorem l3W_few (bs : List UInt8) : ∀ (n : Nat) (i : Int) (d : Dk) (p : Int) (m : Nat), d.few m → (l3W bs n i d p).few (m + 2 * n)
  | 0, _, _, _, _, h => h
  | n + 1, i, d, p, m, h => few_mono (l3W_few bs n (i + 1) _ (p + 1) (m + 2) (few_blk h _ _)) (by omega)
theorem l3V_all (bs : List UInt8) (hb : bs.length ≤ 2000) : ∀ (n : Nat) (d : Dk) (p : Int) (m : Nat), 0 ≤ p → p + 10 * n ≤ 800000 → d.few m → (l3V bs n d p).1.few (m + n) ∧ p ≤ (l3V bs n d p).2 ∧ (l3V bs n d p).2 ≤ p + 10 * n
  | 0, d, p, m, h0, h1, h2 => ⟨h2, Int.le_refl _, by show p ≤ _; omega⟩
  | n + 1, d, p, m, h0, h1, h2 => by
    have ht := textP_in bs (p + 2) ⟨by omega, by omega, hb⟩
    obtain ⟨k1, k2, k3⟩ := l3V_all bs hb n (dstep1 bs d p) (textP bs (p + 2)) (m + 1) (by omega) (by omega) (Dk.few_write h2 _ _ _)
    refine ⟨few_mono k1 (by omega), ?_, ?_⟩
    · show p ≤ (l3V bs n _ _).2; omega
    · show (l3V bs n _ _).2 ≤ _; omega
theorem l3s_size (i : Nat) : (ET.str.at l3s i).size ≤ 3 := at_size (by decide) i
theorem blkDisk_all (bs : List UInt8) (p : Int) (h : rdOk2 bs p) : ((l3b bs p).few 10 ∧ (l3c bs p).1.few 12 ∧ p + 7 ≤ (l3c bs p).2 ∧ (l3c bs p).2 ≤ p + 27) := by
  obtain ⟨h1, h2, h3⟩ := h
  have ha : (l3a bs p).few 10 := few_mono (l3W_few bs 5 1 _ p 0 (dkOpen_few 6 (by omega))) (by omega)
  have hb : (l3b bs p).few 10 := by
    unfold l3b; split
    · exact Dk.few_flush ha
    · exact ha
  have hp := pickV_in bs (p + 6) 3 (by omega) (by omega) (by omega)
  obtain ⟨k1, k2, k3⟩ := l3V_all bs h3 (pickV bs (p + 6) 3).toNat (l3b bs p) (p + 7) 10 (by omega) (by omega) hb
  refine ⟨hb, few_mono k1 (by omega), by unfold l3c; omega, by unfold l3c; omega⟩
@[go_sem] def ctBlkDisk : Ct := ⟨true, [], fun args os => match args, os with
  | [.one (.ptr 0 0)], [.cells [.isl .byte bs, .val (.int .i64 p)]] => ⟨rdOk2 bs p, (blkDisk bs p).1.v 1, [(0, some (rdO bs (blkDisk bs p).2))], (blkDisk bs p).1.objs⟩
  | _, _ => no⟩
@[go_sem] def sgB3 (bs : List UInt8) (p : Int) (i : Nat) (d : Dk) : Sg := ⟨[(0, .one (.ptr 0 0)), (2, .one (.ptr 1 0)), (3, .one (.ptr 2 0)), (5, vi i)], (sgDraw bs p i d).tab, [0]⟩
structure Box (X : Prop) : Prop where
  out : X
theorem merge {A X : Prop} (h : Box X → A) (x : X) : A := h ⟨x⟩
theorem s_blkDisk_e : EnterOk Tryz.prog 99 := ⟨_, Tryz.func99, rfl, by decide⟩
@[go_sem] def s_blkDisk_lv : List (List Nat) := [[0, 2], [0, 2, 3], [0, 2, 3, 4], [0, 2, 3, 4, 8], [0, 2, 3, 4], [0, 2, 3, 4], [0, 2, 3, 22], [0, 2, 3], [0, 2, 3, 5], [0, 2, 3, 5, 28], [0, 2, 3, 5], [0, 2, 3, 5], [2, 3, 44], [2, 3], [2]]
@[go_sem] noncomputable def s_blkDisk_K : Known := (((((((Known.nil).cons 172 ctSpecOpen s_specOpen s_specOpen_e).cons 174 ctOf s_of s_of_e).cons 173 ctBlkWrite s_specBlkWrite s_specBlkWrite_e).cons 170 ctPick s_pick s_pick_e).cons 118 ctDiskFlush s_specFlush s_specFlush_e).cons 175 ctText s_text s_text_e).cons 86 ctDiskWrite s_specWrite s_specWrite_e
set_option maxHeartbeats 8000000 in
theorem s_blkDisk : Sound Tryz.prog 99 ctBlkDisk := by
  have ke := s_blkDisk_K.env []
  have kl : Lives s_blkDisk_lv := trivial
  refine sound_intro (E := ⟨ti, s_blkDisk_K.Γ, []⟩) ke Tryz.func99 Tryz.ntmps99 rfl (rs := [.cell 2 39]) rfl ?_
  intro args os hp
  unfold ctBlkDisk at hp ⊢
  dsimp only at hp ⊢
  split at hp
  · rename_i bs p
    refine ⟨by simp, fun φ0 w0 => ?_⟩
    have hr : rdOk2 bs p := hp
    obtain ⟨h1, h2, h3⟩ := hr
    obtain ⟨⟨b1, b2, b3⟩, ⟨c1, c2, c3⟩, c4, c5⟩ := blkDisk_all bs p ⟨h1, h2, h3⟩
    refine goh trivial ?_
    refine W_le (σ' := sgDraw bs p 1 (dkOpen 6)) [some 0, some 1, some 5, some 2, some 3, some 4] (by
      simp only [go_sem, inj_r, ↓reduceIte, reduceCtorEq, Nat.reduceAdd, Nat.reduceLT, Nat.reduceLeDiff, Nat.reduceEqDiff, Int.reduceEq]
      all_goals (repeat' refine And.intro ?_ ?_) <;> try exact shut7
      ) ?_
    refine W_loop (fun n σ => ∃ (i : Nat) (q : Int) (e : Dk), n = 6 - i ∧ 1 ≤ i ∧ i ≤ 6 ∧ e.few (2 * (i - 1)) ∧ q + 1 = p + i ∧ l3W bs (6 - i) i e q = l3a bs p ∧ σ = sgDraw bs q i e) 5
      ⟨1, p, _, by omega, by omega, by omega, dkOpen_few 6 (by omega), by omega, rfl, rfl⟩ ?_
    rintro n σ ⟨i, q, e, rfl, hi1, hi, he, hq, hw, rfl⟩
    obtain ⟨f1, f2, f3⟩ := he
    unfold sgDraw
    refine goh trivial ?_
    refine W_cnd ?_ ?_ <;> (try simp only [cnd_r]) <;> intro hlt
    · obtain ⟨j, hj⟩ : ∃ j, 6 - i = j + 1 := ⟨5 - i, by omega⟩
      have h5 := pickV_in bs q 5 (by omega) (by omega) (by omega)
      rw [hj] at hw
      have hw : l3W bs j (i + 1) (blkWrite e i (ET.str.at l3s (pickV bs q 5).toNat)) (q + 1) = l3a bs p := hw
      have hts : ET.str.at l3s (pickV bs q 5).toNat = ([⟨#[97]⟩, ⟨#[98, 98]⟩, ⟨#[120, 32, 121]⟩, ⟨#[97]⟩, ⟨#[]⟩] : List ByteArray).getD (pickV bs q 5).toNat ET.str.dflt := rfl
      refine goh trivial ?_
      refine ⟨6 - (i + 1), [some 0, some 1, some 2, some 7, some 8, some 9], sgDraw bs (q + 1) (i + 1) (blkWrite e i (ET.str.at l3s (pickV bs q 5).toNat)), by omega, ?_, i + 1, q + 1, _, rfl, by omega, by omega, few_mono (few_blk ⟨f1, f2, f3⟩ _ _) (by omega), by omega, by rw [show 6 - (i + 1) = j by omega]; exact hw, rfl⟩
      rw [hts]
      exact leh trivial
    · obtain rfl : i = 6 := by omega
      have hwe : e = l3a bs p := hw
      obtain rfl : q = p + 5 := by omega
      have g0 : p + 5 + 1 = p + 6 := by omega
      have g1 : p + 6 + 1 = p + 7 := by omega
      have h8 := pickV_in bs (p + 6) 3 (by omega) (by omega) (by omega)
      refine goh trivial ?_
      refine @merge _ ?X (fun key => ?_) ?_
      rotate_left
      · refine W_cond _ (by exact rfl) (by exact trivial) ?_ ?_ <;> intro hc
        · have c0 : pickV bs (p + 5) 2 = 0 := by simpa using hc
          have e2 : l3b bs p = dkFlush e := by unfold l3b; rw [if_pos c0, hwe]
          refine goh (And.intro g0 g1) ?_
          refine W_le (σ' := sgB3 bs (p + 7) (pickV bs (p + 6) 3).toNat (l3b bs p)) [some 0, some 1, some 2, some 6, some 7, some 8] (by
            rw [e2]
            simp only [go_sem, inj_r, ↓reduceIte, reduceCtorEq, Nat.reduceAdd, Nat.reduceLT, Nat.reduceLeDiff, Nat.reduceEqDiff, Int.reduceEq]
            all_goals (repeat' refine And.intro ?_ ?_) <;> try exact shut7
            ) ?_
          exact key.1
        · have c0 : ¬ pickV bs (p + 5) 2 = 0 := by simpa using hc
          have e2 : l3b bs p = e := by unfold l3b; rw [if_neg c0, hwe]
          refine goh (And.intro g0 g1) ?_
          refine W_le (σ' := sgB3 bs (p + 7) (pickV bs (p + 6) 3).toNat (l3b bs p)) [some 0, some 1, some 2, some 3, some 4, some 5] (by
            rw [e2]
            simp only [go_sem, inj_r, ↓reduceIte, reduceCtorEq, Nat.reduceAdd, Nat.reduceLT, Nat.reduceLeDiff, Nat.reduceEqDiff, Int.reduceEq]
            all_goals (repeat' refine And.intro ?_ ?_) <;> try exact shut7
            ) ?_
          exact key.1
      · obtain ⟨d, hd⟩ : ∃ d, d = l3c bs p := ⟨_, rfl⟩
        refine W_loop (fun n σ => ∃ (i : Nat) (q : Int) (e : Dk), n = i ∧ i ≤ 2 ∧ e.few (12 - i) ∧ 0 ≤ q ∧ q + 10 * i ≤ 750000 ∧ l3V bs i e q = d ∧ σ = sgB3 bs q i e) (pickV bs (p + 6) 3).toNat
          ⟨_, _, _, rfl, by omega, ⟨b1, b2, by omega⟩, by omega, by omega, hd.symm, rfl⟩ ?_
        clear hi1 hi f1 f2 f3 hlt hw hwe hq
        rintro n σ ⟨i, q, e, rfl, hi, he, hq, hq2, hds, rfl⟩
        obtain ⟨f1, f2, f3⟩ := he
        unfold sgB3
        refine goh trivial ?_
        refine W_cnd ?_ ?_ <;> (try simp only [cnd_r]) <;> intro hlt
        · obtain ⟨j, rfl⟩ : ∃ j, n = j + 1 := ⟨n - 1, by omega⟩
          have g1 : q + 1 + 1 = q + 2 := by omega
          have g2 : rdOk bs (q + 2) := ⟨by omega, by omega, h3⟩
          have g3 := textP_in bs (q + 2) g2
          have hds : l3V bs j (dstep1 bs e q) (textP bs (q + 2)) = d := hds
          have e1 : dkWrite e (pickV bs q 2) (pickV bs (q + 1) 6) (textV bs (q + 2)) = dstep1 bs e q := rfl
          have g9 : (dstep1 bs e q).few (12 - (j + 1) + 1) := Dk.few_write ⟨f1, f2, f3⟩ _ _ _
          obtain ⟨k1, k2, k3⟩ := g9
          refine goh (And.intro g1 e1) ?_
          refine ⟨j, [some 0, some 1, some 2, some 6, some 7, some 8], sgB3 bs (textP bs (q + 2)) j (dstep1 bs e q), by omega, ?_, j, _, _, rfl, by omega, ⟨k1, k2, by omega⟩, by omega, by omega, hds, rfl⟩
          exact leh trivial
        · have hn0 : n = 0 := by omega
          subst hn0
          have hds : (e, q) = d := hds
          have hc1 : (l3c bs p).1 = e := by rw [← hd, ← hds]
          have hc2 : (l3c bs p).2 = q := by rw [← hd, ← hds]
          refine goh trivial ?_
          refine W_cond _ (by exact rfl) (by exact trivial) ?_ ?_ <;> intro hc
          · have c0 : pickV bs q 16 = 0 := by simpa using hc
            have e2 : blkDisk bs p = (⟨[], e.b, e.l⟩, q + 1) := by unfold blkDisk; rw [hc1, hc2, if_pos c0]
            refine goh trivial ?_
            exact finh [some 0, none, some 4, some 5] e2
          · have c0 : ¬ pickV bs q 16 = 0 := by simpa using hc
            have e2 : blkDisk bs p = (e, q + 1) := by unfold blkDisk; rw [hc1, hc2, if_neg c0]
            refine goh trivial ?_
            exact finh [some 0, some 3, some 4, some 5] e2
  · simp [no] at hp
end Go.Proofs.YtjedcphhajlnoaaGreatDoor
/- Functions: what is drawn to fall, to be written. -/
namespace Go.Proofs.YtjedcphhajlnoaaGreatDoor
open Go.RowKit

def fallF (code : List UInt8) : List Int := fateV (code.take 2000) 0
def fallD (code : List UInt8) : Dk := (drawDisk (code.take 2000) (fateP (code.take 2000) 0)).1
theorem take2000 (code : List UInt8) : (code.take 2000).length ≤ 2000 := by rw [List.length_take]; omega
theorem fall_all (code : List UInt8) : ((fallD code).a.length ≤ 7 ∧ (fallD code).b.length ≤ 7 ∧ (fallD code).l.length ≤ 14) ∧ (fallF code).length ≤ 15 := by
  have h := fateP_in (code.take 2000) 0 ⟨by omega, by omega, take2000 code⟩
  exact ⟨(drawDisk_all (code.take 2000) _ ⟨by omega, by omega, take2000 code⟩).1, fateV_len _ _ ⟨by omega, by omega, take2000 code⟩⟩
@[go_sem] def ctDrawFall : Ct := ⟨false, [[some .byte]], fun args os => match args, os with
  | [.one (.isl .byte code)], [] => ⟨code.length ≤ 1048576, .tup [(fallD code).v 0, .one (.osl .int 3 0 (fallF code).length)], [], (fallD code).objs ++ [.arr .int (fallF code)]⟩
  | _, _ => no⟩
def wrP (code : List UInt8) : Int := (drawDisk (code.take 2000) 0).2
def wrD (code : List UInt8) : Dk := (drawDisk (code.take 2000) 0).1
def wrS (code : List UInt8) : Int := ET.int.at [0, 0, 1, 1, -1, 2] (pickV (code.take 2000) (wrP code) 6).toNat
def wrA (code : List UInt8) : Int := pickV (code.take 2000) (wrP code + 1) 8 - 1
def wrT (code : List UInt8) : ByteArray := if pickV (code.take 2000) (wrP code + 2) 20 = 0 then many ⟨#[120]⟩ (420 + pickV (code.take 2000) (wrP code + 3) 2).toNat else textV (code.take 2000) (wrP code + 3)
theorem wr_all (code : List UInt8) : ((wrD code).a.length ≤ 7 ∧ (wrD code).b.length ≤ 7 ∧ (wrD code).l.length ≤ 14) ∧ 0 ≤ wrP code ∧ wrP code ≤ 503 ∧ (wrT code).size ≤ 421 := by
  obtain ⟨h1, h2, h3⟩ := drawDisk_all (code.take 2000) 0 ⟨by omega, by omega, take2000 code⟩
  have h2' : 0 ≤ wrP code := h2
  have h3' : wrP code ≤ 0 + 503 := h3
  refine ⟨h1, h2', by omega, ?_⟩
  unfold wrT
  split
  · have := pickV_in (code.take 2000) (wrP code + 3) 2 (by omega) (by omega) (by omega)
    rw [many_size _ _ (by omega)]
    show _ * 1 ≤ _
    omega
  · have := textV_size (code.take 2000) (wrP code + 3) ⟨by omega, by omega, take2000 code⟩
    omega
@[go_sem] def ctDrawWrite : Ct := ⟨false, [[some .byte]], fun args os => match args, os with
  | [.one (.isl .byte code)], [] => ⟨code.length ≤ 1048576, .tup [(wrD code).v 0, vi (wrS code), vi (wrA code), vs (wrT code)], [], (wrD code).objs⟩
  | _, _ => no⟩
end Go.Proofs.YtjedcphhajlnoaaGreatDoor
/- Functions: a block that is drawn to be written. -/
namespace Go.Proofs.YtjedcphhajlnoaaGreatDoor
open Go.RowKit

def bwP (code : List UInt8) : Int := (blkDisk (code.take 2000) 0).2
def bwD (code : List UInt8) : Dk := (blkDisk (code.take 2000) 0).1
def bwA (code : List UInt8) : Int := pickV (code.take 2000) (bwP code) 8 - 1
def bwT (code : List UInt8) : ByteArray := textV (code.take 2000) (bwP code + 1)
theorem bw_all (code : List UInt8) : ((bwD code).a.length ≤ 6 ∧ (bwD code).b.length ≤ 6 ∧ (bwD code).l.length ≤ 12) ∧ 0 ≤ bwP code ∧ bwP code ≤ 30 ∧ (bwT code).size ≤ 421 ∧ -1 ≤ bwA code ∧ bwA code ≤ 6 := by
  obtain ⟨-, ⟨h1, h2, h3⟩, h4, h5⟩ := blkDisk_all (code.take 2000) 0 ⟨by omega, by omega, take2000 code⟩
  have e : bwP code = (l3c (code.take 2000) 0).2 + 1 := rfl
  have hp := pickV_in (code.take 2000) (bwP code) 8 (by omega) (by omega) (by omega)
  have ht := textV_size (code.take 2000) (bwP code + 1) ⟨by omega, by omega, take2000 code⟩
  refine ⟨?_, by omega, by omega, by unfold bwT; omega, by unfold bwA; omega, by unfold bwA; omega⟩
  unfold bwD blkDisk
  split
  · exact ⟨Nat.zero_le _, h2, h3⟩
  · exact ⟨h1, h2, h3⟩
@[go_sem] def ctDrawBlk : Ct := ⟨false, [[some .byte]], fun args os => match args, os with
  | [.one (.isl .byte code)], [] => ⟨code.length ≤ 1048576, .tup [(bwD code).v 0, vi (bwA code), vs (bwT code)], [], (bwD code).objs⟩
  | _, _ => no⟩
end Go.Proofs.YtjedcphhajlnoaaGreatDoor
/- Functions: a disk and a pointer that are drawn. -/
namespace Go.Proofs.YtjedcphhajlnoaaGreatDoor
open Go.RowKit

theorem ptrOk_real' {p : Ptr} (h : realB p = true) : 1 ≤ p.at_ ∧ ptrOkB p = true := by
  have h2 := h
  unfold realB ptrOkB at h
  unfold realB at h2
  rw [Bool.and_eq_true] at h2
  simp only [Bool.and_eq_true, Bool.or_eq_true, decide_eq_true_eq, Bool.not_eq_true', beq_eq_false_iff_ne, ne_eq] at h
  exact ⟨by omega, h2.1⟩
theorem s_specBlkTo_e : EnterOk Tryz.prog 171 := ⟨_, Tryz.func171, rfl, by decide⟩
@[go_sem] def s_specBlkTo_lv : List (List Nat) := [[0, 1, 2, 6], [0, 6, 7], [6, 7, 19], [6], [6]]
@[go_sem] noncomputable def s_specBlkTo_K : Known := ((Known.nil).cons 169 ctSumOf s_specSum s_specSum_e).cons 25 ctPtrOk s_specPtrOk s_specPtrOk_e
set_option maxHeartbeats 8000000 in
theorem s_specBlkTo : Sound Tryz.prog 171 ctBlkTo := by
  have ke := s_specBlkTo_K.env []
  have kl : Lives s_specBlkTo_lv := trivial
  refine sound_intro (E := ⟨ti, s_specBlkTo_K.Γ, []⟩) ke Tryz.func171 Tryz.ntmps171 rfl (rs := [.cell 6 55]) rfl ?_
  intro args os hp
  unfold ctBlkTo at hp ⊢
  dsimp only at hp ⊢
  split at hp
  · rename_i a t b
    refine ⟨by simp, fun φ0 w0 => ?_⟩
    have hlen : t.size ≤ 1000000000 := hp
    clear hp
    have nt : (!true) = false := rfl
    have nf : (!false) = true := rfl
    have e : blkTo a t b = if 1 ≤ a ∧ ptrOkB ⟨a, (sumOf t : Nat), b⟩ = true then ⟨a, (sumOf t : Nat), b⟩ else ptr0 := by
      unfold blkTo
      by_cases h : realB ⟨a, (sumOf t : Nat), b⟩ = true
      · rw [if_pos h, if_pos]
        have := ptrOk_real' h
        exact this
      · rw [if_neg h, if_neg]
        rintro ⟨h1, h2⟩
        apply h
        unfold realB
        rw [h2]
        simp only [Bool.true_and, Bool.not_eq_true', beq_eq_false_iff_ne, ne_eq]
        omega
    by_cases ha : 1 ≤ a
    · have c : decide (a < 1) = false := by simp; omega
      cases hk : ptrOkB ⟨a, (sumOf t : Nat), b⟩ with
      | true =>
        rw [if_pos ⟨ha, hk⟩] at e
        refine goh (And.intro c (And.intro hk nt)) ?_
        refine W_cnd ?_ ?_ <;> intro hlit <;> try (cases hlit; done)
        refine goh trivial ?_
        exact finh [] e
      | false =>
        rw [if_neg (fun h => by rw [hk] at h; cases h.2)] at e
        refine goh (And.intro c (And.intro hk nf)) ?_
        refine W_cnd ?_ ?_ <;> intro hlit <;> try (cases hlit; done)
        refine goh trivial ?_
        refine ⟨by (simp only [go_sem, e, ptr0, ↓reduceIte, reduceCtorEq, Nat.reduceAdd, Nat.reduceLT, Nat.reduceLeDiff, Nat.reduceEqDiff]) <;> trivial, [], ?_⟩
        all_goals try simp only [go_sem, e, ptr0, inj_r, ↓reduceIte, reduceCtorEq, Nat.reduceAdd, Nat.reduceLT, Nat.reduceLeDiff, Nat.reduceEqDiff, Int.reduceEq]
        all_goals (repeat' refine And.intro ?_ ?_) <;> try exact shut7
    · have c : decide (a < 1) = true := by simp; omega
      rw [if_neg (fun h => ha h.1)] at e
      refine goh c ?_
      refine W_cnd ?_ ?_ <;> intro hlit <;> try (cases hlit; done)
      refine goh trivial ?_
      refine ⟨by (simp only [go_sem, e, ptr0, ↓reduceIte, reduceCtorEq, Nat.reduceAdd, Nat.reduceLT, Nat.reduceLeDiff, Nat.reduceEqDiff]) <;> trivial, [], ?_⟩
      all_goals try simp only [go_sem, e, ptr0, inj_r, ↓reduceIte, reduceCtorEq, Nat.reduceAdd, Nat.reduceLT, Nat.reduceLeDiff, Nat.reduceEqDiff, Int.reduceEq]
      all_goals (repeat' refine And.intro ?_ ?_) <;> try exact shut7
  · simp [no, ifp] at hp
def ptr1 (bs : List UInt8) (d : Dk) (p : Int) : Ptr := blkTo (pickV bs p 7) (dkRead d (pickV bs (p + 1) 2) (pickV bs p 7)) (pickV bs (p + 2) 9)
/-- A pointer that is drawn, and where the reader goes on. -/
def ptrD (bs : List UInt8) (d : Dk) (p : Int) : Ptr × Int :=
  if pickV bs (p + 3) 12 = 0 then (⟨(ptr1 bs d p).at_, IntKind.i64.wrap ((ptr1 bs d p).sum + ET.int.at [1, -1, 65521] (pickV bs (p + 4) 3).toNat), (ptr1 bs d p).birth⟩, p + 5)
  else if pickV bs (p + 3) 12 = 1 then (⟨ET.int.at [0, 119, 120, -1] (pickV bs (p + 4) 4).toNat, (ptr1 bs d p).sum, (ptr1 bs d p).birth⟩, p + 5)
  else if pickV bs (p + 3) 12 = 2 then (⟨(ptr1 bs d p).at_, (ptr1 bs d p).sum, ET.int.at [-1, 1000000, 1000001] (pickV bs (p + 4) 3).toNat⟩, p + 5)
  else if pickV bs (p + 3) 12 = 3 then (ptr0, p + 4) else (ptr1 bs d p, p + 4)
@[go_sem] def ctPtrD : Ct := ⟨true, [], fun args os => match args, os with
  | [.one (.ptr 0 0), .agg [.osl .str 1 0 na, .osl .str 2 0 nb, .osl .late 3 0 nl]], [.cells [.isl .byte bs, .val (.int .i64 p)], .arr .str a, .arr .str b, .arr .late l] => ⟨(0 ≤ p ∧ p ≤ 1000 ∧ bs.length ≤ 2000) ∧ (na = a.length ∧ nb = b.length ∧ nl = l.length) ∧ (Dk.mk a b l).small, (ptrD bs ⟨a, b, l⟩ p).1.tv, [(0, some (rdO bs (ptrD bs ⟨a, b, l⟩ p).2))], []⟩
  | _, _ => no⟩
theorem s_ptrD_e : EnterOk Tryz.prog 98 := ⟨_, Tryz.func98, rfl, by decide⟩
@[go_sem] def s_ptrD_lv : List (List Nat) := [[0, 3, 4], [0, 3, 4, 5], [0, 4, 5, 6], [0, 4, 8], [0, 4, 8, 25], [0, 4, 8, 25, 26], [4, 8], [0, 4, 8, 25, 35], [4, 8], [0, 4, 8, 25, 41], [4, 8], [4, 8, 47], [4], [4]]
@[go_sem] noncomputable def s_ptrD_K : Known := ((((Known.nil).cons 170 ctPick s_pick s_pick_e).cons 111 ctDiskRead s_specRead s_specRead_e).cons 171 ctBlkTo s_specBlkTo s_specBlkTo_e).cons 97 ctNum s_num s_num_e
set_option maxHeartbeats 8000000 in
theorem s_ptrD : Sound Tryz.prog 98 ctPtrD := by
  have ke := s_ptrD_K.env []
  have kl : Lives s_ptrD_lv := trivial
  refine sound_intro (E := ⟨ti, s_ptrD_K.Γ, []⟩) ke Tryz.func98 Tryz.ntmps98 rfl (rs := [.cell 4 55]) rfl ?_
  intro args os hp
  unfold ctPtrD at hp ⊢
  dsimp only at hp ⊢
  split at hp
  · rename_i na nb nl bs p a b l
    obtain ⟨⟨h1, h2, h3⟩, ⟨rfl, rfl, rfl⟩, hsm⟩ : (0 ≤ p ∧ p ≤ 1000 ∧ bs.length ≤ 2000) ∧ (na = a.length ∧ nb = b.length ∧ nl = l.length) ∧ (Dk.mk a b l).small := hp
    obtain ⟨s1, s2, s3⟩ : a.length ≤ 4000000 ∧ b.length ≤ 4000000 ∧ l.length ≤ 4000000 := hsm
    refine ⟨by simp, fun φ0 w0 => ?_⟩
    have g1 : p + 1 + 1 = p + 2 := by omega
    have g2 : p + 2 + 1 = p + 3 := by omega
    have g3 : p + 3 + 1 = p + 4 := by omega
    have g4 : p + 4 + 1 = p + 5 := by omega
    have v1 := pickV_in bs p 7 (by omega) (by omega) (by omega)
    have v2 := pickV_in bs (p + 4) 3 (by omega) (by omega) (by omega)
    have v3 := pickV_in bs (p + 4) 4 (by omega) (by omega) (by omega)
    have hz := dkRead_size ⟨a, b, l⟩ (pickV bs (p + 1) 2) (pickV bs p 7)
    obtain ⟨q, hq⟩ : ∃ q, blkTo (pickV bs p 7) (dkRead ⟨a, b, l⟩ (pickV bs (p + 1) 2) (pickV bs p 7)) (pickV bs (p + 2) 9) = q := ⟨_, rfl⟩
    have hq1 : ptr1 bs ⟨a, b, l⟩ p = q := hq
    obtain ⟨qa, qs, qb⟩ := q
    have eV : ∀ z, (if pickV bs (p + 3) 12 = 0 then (⟨qa, IntKind.i64.wrap (qs + ET.int.at [1, -1, 65521] (pickV bs (p + 4) 3).toNat), qb⟩, p + 5) else if pickV bs (p + 3) 12 = 1 then (⟨ET.int.at [0, 119, 120, -1] (pickV bs (p + 4) 4).toNat, qs, qb⟩, p + 5)
      else if pickV bs (p + 3) 12 = 2 then (⟨qa, qs, ET.int.at [-1, 1000000, 1000001] (pickV bs (p + 4) 3).toNat⟩, p + 5) else if pickV bs (p + 3) 12 = 3 then (ptr0, p + 4) else (⟨qa, qs, qb⟩, p + 4)) = z → ptrD bs ⟨a, b, l⟩ p = z := by
      intro z hz; unfold ptrD; rw [hq1]; exact hz
    refine goh (And.intro g1 (And.intro g2 (And.intro g3 hq))) ?_
    refine W_cnd ?_ ?_ <;> (try simp only [cnd_r]) <;> intro c0
    · have e := eV _ (if_pos c0)
      refine goh (And.intro g3 g4) ?_
      exact finh [some 0, some 1, some 2, some 3] e
    · simp only [beq_eq_false_iff_ne, ne_eq] at c0
      rw [if_neg c0] at eV
      refine goh trivial ?_
      refine W_cnd ?_ ?_ <;> (try simp only [cnd_r]) <;> intro c1
      · have e := eV _ (if_pos c1)
        refine goh (And.intro g3 g4) ?_
        exact finh [some 0, some 1, some 2, some 3] e
      · simp only [beq_eq_false_iff_ne, ne_eq] at c1
        rw [if_neg c1] at eV
        refine goh trivial ?_
        refine W_cnd ?_ ?_ <;> (try simp only [cnd_r]) <;> intro c2
        · have e := eV _ (if_pos c2)
          refine goh (And.intro g3 g4) ?_
          exact finh [some 0, some 1, some 2, some 3] e
        · simp only [beq_eq_false_iff_ne, ne_eq] at c2
          rw [if_neg c2] at eV
          refine goh trivial ?_
          refine W_cnd ?_ ?_ <;> (try simp only [cnd_r]) <;> intro c3
          · have e := eV _ (if_pos c3)
            refine goh trivial ?_
            refine ⟨by (simp only [go_sem, e, ptr0, ↓reduceIte, reduceCtorEq, Nat.reduceAdd, Nat.reduceLT, Nat.reduceLeDiff, Nat.reduceEqDiff]) <;> trivial, [some 0, some 1, some 2, some 3], ?_⟩
            all_goals try simp only [go_sem, e, ptr0, inj_r, ↓reduceIte, reduceCtorEq, Nat.reduceAdd, Nat.reduceLT, Nat.reduceLeDiff, Nat.reduceEqDiff, Int.reduceEq]
            all_goals (repeat' refine And.intro ?_ ?_) <;> try exact shut7
          · simp only [beq_eq_false_iff_ne, ne_eq] at c3
            rw [if_neg c3] at eV
            have e := eV _ rfl
            refine goh trivial ?_
            exact finh [some 0, some 1, some 2, some 3] e
  · simp [no] at hp
def hdP (code : List UInt8) : Ptr := (ptrD (code.take 2000) (bwD code) (bwP code)).1
@[go_sem] def ctDrawHeal : Ct := ⟨false, [[some .byte]], fun args os => match args, os with
  | [.one (.isl .byte code)], [] => ⟨code.length ≤ 1048576, .tup [(bwD code).v 0, (hdP code).tv], [], (bwD code).objs⟩
  | _, _ => no⟩
theorem s_drawBlkRead_e : EnterOk Tryz.prog 79 := ⟨_, Tryz.func79, rfl, by decide⟩
@[go_sem] def s_drawBlkRead_lv : List (List Nat) := [[0, 2, 3], [2, 3, 4], [2, 3, 4, 5], [2, 3]]
@[go_sem] noncomputable def s_drawBlkRead_K : Known := (((Known.nil).cons 96 ctOpen s_open s_open_e).cons 99 ctBlkDisk s_blkDisk s_blkDisk_e).cons 98 ctPtrD s_ptrD s_ptrD_e
set_option maxHeartbeats 8000000 in
theorem s_drawBlkRead : Sound Tryz.prog 79 ctDrawHeal := by
  have ke := s_drawBlkRead_K.env []
  have kl : Lives s_drawBlkRead_lv := trivial
  refine sound_intro (E := ⟨ti, s_drawBlkRead_K.Γ, []⟩) ke Tryz.func79 Tryz.ntmps79 rfl (rs := [.cell 2 39, .cell 3 55]) rfl ?_
  intro args os hp
  unfold ctDrawHeal at hp ⊢
  dsimp only at hp ⊢
  split at hp
  · rename_i code
    refine ⟨by simp, fun φ0 w0 => ?_⟩
    have hlen : code.length ≤ 1048576 := hp
    obtain ⟨⟨d1, d2, d3⟩, h1, h2, -⟩ := bw_all code
    have hr : rdOk2 (code.take 2000) 0 := ⟨by omega, by omega, take2000 code⟩
    have e1 : (blkDisk (code.take 2000) 0).2 = bwP code := rfl
    have e2 : (blkDisk (code.take 2000) 0).1 = bwD code := rfl
    have hb := take2000 code
    clear hp
    refine goh (And.intro e1 e2) ?_
    refine ⟨by (simp only [go_sem, hdP, ↓reduceIte, reduceCtorEq, Nat.reduceAdd, Nat.reduceLT, Nat.reduceLeDiff, Nat.reduceEqDiff]) <;> trivial, [some 3, some 4, some 5], ?_⟩
    all_goals try simp only [go_sem, hdP, inj_r, ↓reduceIte, reduceCtorEq, Nat.reduceAdd, Nat.reduceLT, Nat.reduceLeDiff, Nat.reduceEqDiff, Int.reduceEq]
    all_goals (repeat' refine And.intro ?_ ?_) <;> try exact shut7
  · simp [no] at hp
theorem s_drawBlkHeal_e : EnterOk Tryz.prog 20 := ⟨_, Tryz.func20, rfl, by decide⟩
@[go_sem] def s_drawBlkHeal_lv : List (List Nat) := [[0, 2, 3], [2, 3]]
@[go_sem] noncomputable def s_drawBlkHeal_K : Known := (Known.nil).cons 79 ctDrawHeal s_drawBlkRead s_drawBlkRead_e
set_option maxHeartbeats 8000000 in
theorem s_drawBlkHeal : Sound Tryz.prog 20 ctDrawHeal := by
  have ke := s_drawBlkHeal_K.env []
  have kl : Lives s_drawBlkHeal_lv := trivial
  refine sound_intro (E := ⟨ti, s_drawBlkHeal_K.Γ, []⟩) ke Tryz.func20 Tryz.ntmps20 rfl (rs := [.cell 2 39, .cell 3 55]) rfl ?_
  intro args os hp
  unfold ctDrawHeal at hp ⊢
  dsimp only at hp ⊢
  split at hp
  · rename_i code
    refine ⟨by simp, fun φ0 w0 => ?_⟩
    have hlen : code.length ≤ 1048576 := hp
    refine goh trivial ?_
    exact finh [some 2, some 3, some 4] trivial
  · simp [no] at hp
end Go.Proofs.YtjedcphhajlnoaaGreatDoor
/-
  DERIVED: THE SHELF's CONTRACTS AT THIS DUMP, IN PLAIN WORDS (tools/lay-plain.mjs out of 'YtjedcphhajlnoaaGreatDoorTSh3Q.lean', which tools/lay-shelf.mjs wrote): THE SAME DECLARATIONS UNDER THE SAME NAMES: 'import', 'namespace', 'open', 'def', 'theorem' AND NOTHING ELSE: no command of the shelf's: FOR A HAND-IN. Each laying: the table of numbers ('.._ren') and one theorem, a field a fact of the dump's own or the kernel's comparison; each contract: ONE APPLICATION.
-/
namespace Go.Proofs
open Go.Shelf
def Tryz.lays171_ren : Go.Shelf.Ren := ⟨fun | 171 => 100 | 243 => 176 | 246 => 231 | 283 => 267 | 284 => 268 | 285 => 269 | 286 => 270 | 129 => 291 | 317 => 290 | 318 => 292 | 319 => 293 | 320 => 294 | 337 => 301 | 338 => 302 | n => n, fun | 3 => 3 | 9 => 9 | 2 => 2 | 4 => 4 | 171 => 276 | 0 => 0 | 53 => 277 | 37 => 53 | 5 => 5 | 173 => 280 | 212 => 298 | 51 => 299 | 20 => 20 | 213 => 300 | 46 => 221 | 232 => 315 | 233 => 316 | n => n, fun | 17 => 3 | 18 => 6 | 19 => 7 | n => n⟩
theorem Tryz.lays171 : Go.Proofs.LaysM.n171 Tryz.prog Tryz.lays171_ren := {
  mixed := by kernel_rfl
  f129 := Tryz.func291.trans (congrArg some (by kernel_rfl))
  f171 := Tryz.func100.trans (congrArg some (by kernel_rfl))
  f243 := Tryz.func176.trans (congrArg some (by kernel_rfl))
  f246 := Tryz.func231.trans (congrArg some (by kernel_rfl))
  f283 := Tryz.func267.trans (congrArg some (by kernel_rfl))
  f284 := Tryz.func268.trans (congrArg some (by kernel_rfl))
  f285 := Tryz.func269.trans (congrArg some (by kernel_rfl))
  f286 := Tryz.func270.trans (congrArg some (by kernel_rfl))
  f317 := Tryz.func290.trans (congrArg some (by kernel_rfl))
  f318 := Tryz.func292.trans (congrArg some (by kernel_rfl))
  f319 := Tryz.func293.trans (congrArg some (by kernel_rfl))
  f320 := Tryz.func294.trans (congrArg some (by kernel_rfl))
  f337 := Tryz.func301.trans (congrArg some (by kernel_rfl))
  f338 := Tryz.func302.trans (congrArg some (by kernel_rfl))
  t0 := Tryz.underlying0
  a0 := Tryz.isAgg0
  z0 := Tryz.sizeOf0
  v0 := Tryz.zeroValue0
  t2 := Tryz.underlying2
  a2 := Tryz.isAgg2
  z2 := Tryz.sizeOf2
  v2 := Tryz.zeroValue2
  t3 := Tryz.underlying3
  a3 := Tryz.isAgg3
  z3 := Tryz.sizeOf3
  v3 := Tryz.zeroValue3
  t4 := Tryz.underlying4
  a4 := Tryz.isAgg4
  z4 := Tryz.sizeOf4
  v4 := Tryz.zeroValue4
  t5 := Tryz.underlying5
  a5 := Tryz.isAgg5
  z5 := Tryz.sizeOf5
  v5 := Tryz.zeroValue5
  t9 := Tryz.underlying9
  a9 := Tryz.isAgg9
  z9 := Tryz.sizeOf9
  v9 := Tryz.zeroValue9
  t20 := Tryz.underlying20
  a20 := Tryz.isAgg20
  z20 := Tryz.sizeOf20
  v20 := Tryz.zeroValue20
  t37 := Tryz.underlying53
  a37 := Tryz.isAgg53
  z37 := Tryz.sizeOf53
  v37 := Tryz.zeroValue53
  t46 := Tryz.underlying221
  a46 := Tryz.isAgg221
  z46 := Tryz.sizeOf221
  v46 := Tryz.zeroValue221
  t51 := Tryz.underlying299
  a51 := Tryz.isAgg299
  z51 := Tryz.sizeOf299
  v51 := Tryz.zeroValue299
  t53 := Tryz.underlying277
  a53 := Tryz.isAgg277
  z53 := Tryz.sizeOf277
  v53 := Tryz.zeroValue277
  t171 := Tryz.underlying276
  a171 := Tryz.isAgg276
  z171 := Tryz.sizeOf276
  v171 := Tryz.zeroValue276
  t173 := Tryz.underlying280
  a173 := Tryz.isAgg280
  z173 := Tryz.sizeOf280
  v173 := Tryz.zeroValue280
  t212 := Tryz.underlying298
  a212 := Tryz.isAgg298
  z212 := Tryz.sizeOf298
  v212 := Tryz.zeroValue298
  t213 := Tryz.underlying300
  a213 := Tryz.isAgg300
  z213 := Tryz.sizeOf300
  t232 := Tryz.underlying315
  a232 := Tryz.isAgg315
  z232 := Tryz.sizeOf315
  v232 := Tryz.zeroValue315
  t233 := Tryz.underlying316
  a233 := Tryz.isAgg316
  z233 := Tryz.sizeOf316
  v233 := Tryz.zeroValue316
  g17 := by kernel_rfl
  g18 := by kernel_rfl
  g19 := by kernel_rfl
  i0 := by kernel_rfl
  i2 := by kernel_rfl
  i3 := by kernel_rfl
  i4 := by kernel_rfl
  i5 := by kernel_rfl
  i9 := by kernel_rfl
  i20 := by kernel_rfl
  i37 := by kernel_rfl
  i46 := by kernel_rfl
  i51 := by kernel_rfl
  i53 := by kernel_rfl
  i171 := by kernel_rfl
  i173 := by kernel_rfl
  i212 := by kernel_rfl
  i232 := by kernel_rfl
  i233 := by kernel_rfl
  m17 := by kernel_rfl
  m18 := by kernel_rfl
  m19 := by kernel_rfl }
end Go.Proofs
/- Functions: numerals. -/
namespace Go.Proofs.YtjedcphhajlnoaaGreatDoor
open Go.RowKit

/-- The table of tens lies where it is looked for. -/
theorem glo_tab {w : World} (h : GloOk0 w) : Lib.TabIs Tryz.prog w "internal/strconv.uint64pow10" .u64 Lib.pow10Tab := by
  obtain ⟨c, e, f, h1, h2⟩ := h _ (List.mem_cons_self ..)
  have h2 : c = (Lib.pow10Tab.map fun z => Value.int .u64 z).toArray := h2
  subst h2
  unfold Lib.TabIs World.var?
  rw [show Tryz.prog.globalNamed "internal/strconv.uint64pow10" = some _ from by kernel_rfl]
  simp only [Option.bind_some]
  rw [h1]
def decS (n : Int) : ByteArray := ⟨(Lib.itoa n).toArray⟩
def decB (u : Nat) : ByteArray := ⟨(Lib.decDigits u).toArray⟩
theorem wrap_u8 {n : Nat} (h : n < 256) : IntKind.u8.wrap (n : Int) = n := IntWalk.u8_in _ ⟨by omega, by omega⟩
theorem ofNat_u8 {n : Nat} (h : n < 256) : (UInt8.ofNat n).toNat = n := by rw [UInt8.toNat_ofNat']; omega
theorem decS_nat (u : Nat) : decS u = decB u := by
  unfold decS decB Lib.itoa
  rw [if_neg (by omega), Int.toNat_natCast]
theorem decS_neg {n : Int} (h : n < 0) : decS n = ⟨#[45]⟩ ++ decB n.natAbs := by
  unfold decS decB Lib.itoa
  rw [if_pos h]
  apply ByteArray.ext
  simp
theorem decB_small {u : Nat} (h : u < 10) : decB u = ⟨#[UInt8.ofNat (48 + u)]⟩ := by unfold decB; rw [Lib.decDigits, dif_pos h]
theorem decB_big {u : Nat} (h : ¬ u < 10) : decB u = decB (u / 10) ++ ⟨#[UInt8.ofNat (48 + u % 10)]⟩ := by
  unfold decB
  rw [Lib.decDigits, dif_neg h]
  apply ByteArray.ext
  simp
theorem decB_size (k : Nat) : ∀ u : Nat, u < 10 ^ (k + 1) → (decB u).size ≤ k + 1 := by
  induction k with
  | zero => intro u hu; rw [decB_small (by omega)]; exact Nat.le_refl _
  | succ k ih =>
    intro u hu
    by_cases h : u < 10
    · rw [decB_small h]; show 1 ≤ _; omega
    · rw [decB_big h, ByteArray.size_append]
      have := ih (u / 10) (by rw [Nat.pow_succ] at hu; omega)
      have h1 : (⟨#[UInt8.ofNat (48 + u % 10)]⟩ : ByteArray).size = 1 := rfl
      omega
theorem decS_size {n : Int} (h0 : -9223372036854775808 ≤ n) (h1 : n ≤ 9223372036854775807) : (decS n).size ≤ 20 := by
  rcases Int.lt_or_le n 0 with h | h
  · rw [decS_neg h, ByteArray.size_append]
    have := decB_size 18 n.natAbs (by omega)
    have h1 : (⟨#[45]⟩ : ByteArray).size = 1 := rfl
    omega
  · obtain ⟨u, rfl⟩ := Int.eq_ofNat_of_zero_le h
    rw [decS_nat]
    have := decB_size 18 u (by omega)
    omega
@[go_sem] def ctItoa : Ct := ⟨false, [], fun args os => match args, os with
  | [.one (.val (.int .i64 n))], [] => ifp (-9223372036854775808 ≤ n ∧ n ≤ 9223372036854775807) (vs (decS n))
  | _, _ => no⟩
theorem s_itoa_e : EnterOk Tryz.prog 100 := ⟨_, Tryz.func100, rfl, by decide⟩
theorem s_itoa : Sound Tryz.prog 100 ctItoa := by
  refine sound_plain fun args os hp => ?_
  unfold ctItoa at hp ⊢
  dsimp only at hp ⊢
  split at hp
  · rename_i n
    obtain ⟨h0, h1⟩ : -9223372036854775808 ≤ n ∧ n ≤ 9223372036854775807 := hp
    refine ⟨rfl, [.int .i64 n], .string (decS n), rfl, rfl, fun w hw => ?_⟩
    refine (Any.strconv_Itoa Tryz.lays171 n h0 h1 w (glo_tab hw)).mono ?_
    rintro e w' ⟨he, k, os, rfl⟩
    refine ⟨he, rfl, rfl, rfl, ?_, fun j hj => ?_⟩
    · show w.heap.size ≤ (w.heap ++ os).size
      rw [Array.size_append]; omega
    · show (w.heap ++ os)[j]? = w.heap[j]?
      rw [Array.getElem?_append_left hj]
  · exact hp.elim
/-- The reference's numeral: for a number that is not negative n is 1, for all of them n is 2. -/
@[go_sem] def ctDec (k : Nat) : Ct := ⟨false, [], fun args os => match args, os with
  | [.one (.val (.int .i64 n))], [] => ifp (-9223372036854775808 ≤ n ∧ n ≤ 9223372036854775807 ∧ (0 ≤ n ∧ 1 ≤ k ∨ 2 ≤ k)) (vs (decS n))
  | _, _ => no⟩
theorem s_dec_e : EnterOk Tryz.prog 103 := ⟨_, Tryz.func103, rfl, by decide⟩
@[go_sem] def s_dec_lv : List (List Nat) := [[0], [0, 5], [2], [0, 7], [2], [0, 3], [0, 3, 13], [0, 3], [0, 3], [2]]
@[go_sem] noncomputable def s_dec_K (n : Nat) (ih : Sound Tryz.prog 103 (ctDec n)) : Known := (Known.nil).cons 103 (ctDec n) ih s_dec_e
set_option maxHeartbeats 8000000 in
theorem s_dec_step (n : Nat) (ih : Sound Tryz.prog 103 (ctDec n)) : Sound Tryz.prog 103 (ctDec (n + 1)) := by
  have ke := (s_dec_K n ih).env []
  have kl : Lives s_dec_lv := trivial
  refine sound_intro (E := ⟨ti, (s_dec_K n ih).Γ, []⟩) ke Tryz.func103 Tryz.ntmps103 rfl (rs := [.tmp 2]) rfl ?_
  intro args os hp
  unfold ctDec at hp ⊢
  dsimp only at hp ⊢
  split at hp
  · rename_i z
    refine ⟨by simp, fun φ0 w0 => ?_⟩
    obtain ⟨h0, h1, h2⟩ : -9223372036854775808 ≤ z ∧ z ≤ 9223372036854775807 ∧ (0 ≤ z ∧ 1 ≤ n + 1 ∨ 2 ≤ n + 1) := hp
    refine goh trivial ?_
    refine W_cnd ?_ ?_ <;> (try simp only [cnd_r]) <;> intro hc
    · obtain rfl : z = -9223372036854775808 := by omega
      have e : decS (-9223372036854775808) = ⟨#[45, 57, 50, 50, 51, 51, 55, 50, 48, 51, 54, 56, 53, 52, 55, 55, 53, 56, 48, 56]⟩ := by decide +kernel
      refine goh trivial ?_
      exact finh [] e
    · refine goh trivial ?_
      refine W_cnd ?_ ?_ <;> (try simp only [cnd_r]) <;> intro hn
      · have hw : IntKind.i64.wrap (0 - z) = -z := by rw [Int.zero_sub]; exact wrap_id _ (by omega) (by omega)
        obtain ⟨u, hu⟩ := Int.eq_ofNat_of_zero_le (show 0 ≤ -z by omega)
        have e : decS z = ⟨#[45]⟩ ++ decS (-z) := by
          rw [decS_neg hn, hu, decS_nat, show z.natAbs = u by omega]
        have hs := decS_size (n := -z) (by omega) (by omega)
        refine goh hw ?_
        exact finh [] e
      · obtain ⟨u, rfl⟩ := Int.eq_ofNat_of_zero_le (show 0 ≤ z by omega)
        have hsz := decB_size 18 u (by omega)
        refine goh trivial ?_
        refine W_le (σ' := ⟨[(0, vi u), (3, vs ⟨#[]⟩)], [], []⟩) [] (leh trivial) ?_
        refine W_loop (fun q σ => ∃ (m : Nat) (out : ByteArray), q = m ∧ m ≤ u ∧ decB m ++ out = decB u ∧ σ = ⟨[(0, vi m), (3, vs out)], [], []⟩) u ⟨u, ⟨#[]⟩, rfl, Nat.le_refl _, ByteArray.append_empty, rfl⟩ ?_
        rintro q σ ⟨m, out, rfl, hm, hd, rfl⟩
        have hos : out.size ≤ 20 := by
          have := congrArg ByteArray.size hd
          rw [ByteArray.size_append] at this
          omega
        refine goh trivial ?_
        refine W_cnd ?_ ?_ <;> (try simp only [cnd_r]) <;> intro hlt
        · have hr : ((q : Int)).tmod 10 = ((q % 10 : Nat) : Int) := (Int.ofNat_tmod q 10).symm
          have hv : ((q : Int)).tdiv 10 = ((q / 10 : Nat) : Int) := (Int.ofNat_tdiv q 10).symm
          have w1 : IntKind.i64.wrap ((q % 10 : Nat) : Int) = ((q % 10 : Nat) : Int) := wrap_id _ (by omega) (by omega)
          have w2 : IntKind.i64.wrap ((q / 10 : Nat) : Int) = ((q / 10 : Nat) : Int) := wrap_id _ (by omega) (by omega)
          have w3 : IntKind.i64.wrap (48 + ((q % 10 : Nat) : Int)) = ((48 + q % 10 : Nat) : Int) := wrap_id _ (by omega) (by omega)
          have w4 : IntKind.u8.wrap ((48 + q % 10 : Nat) : Int) = ((48 + q % 10 : Nat) : Int) := wrap_u8 (by omega)
          have hd2 : decB (q / 10) ++ (⟨#[UInt8.ofNat (48 + q % 10)]⟩ ++ out) = decB u := by
            rw [← ByteArray.append_assoc, ← decB_big (by omega), hd]
          have w5 : (UInt8.ofNat (48 + q % 10)).toNat = 48 + q % 10 := ofNat_u8 (by omega)
          refine goh (And.intro hr (And.intro hv (And.intro w1 (And.intro w2 (And.intro w3 (And.intro w4 w5)))))) ?_
          exact ⟨q / 10, [], ⟨[(0, vi (q / 10 : Nat)), (3, vs (⟨#[UInt8.ofNat (48 + q % 10)]⟩ ++ out))], [], []⟩, by omega, leh trivial, q / 10, _, rfl, by omega, hd2, rfl⟩
        · have w3 : IntKind.i64.wrap (48 + (q : Int)) = ((48 + q : Nat) : Int) := wrap_id _ (by omega) (by omega)
          have w4 : IntKind.u8.wrap ((48 + q : Nat) : Int) = ((48 + q : Nat) : Int) := wrap_u8 (by omega)
          have w5 : (UInt8.ofNat (48 + q)).toNat = 48 + q := ofNat_u8 (by omega)
          have e : decS u = ⟨#[UInt8.ofNat (48 + q)]⟩ ++ out := by rw [decS_nat, ← hd, decB_small (by omega)]
          refine goh (And.intro w3 (And.intro w4 w5)) ?_
          exact finh [] e
  · simp [no, ifp] at hp
theorem s_dec_all : ∀ n, Sound Tryz.prog 103 (ctDec n)
  | 0 => fun args os hp => by
    unfold ctDec at hp
    dsimp only at hp
    split at hp
    · obtain ⟨-, -, h⟩ : _ ∧ _ ∧ (_ ∧ 1 ≤ 0 ∨ 2 ≤ 0) := hp
      omega
    · exact hp.elim
  | n + 1 => s_dec_step n (s_dec_all n)
@[go_sem] def ctDecV : Ct := ⟨false, [], fun args os => match args, os with
  | [.one (.val (.int .i64 n))], [] => ifp (-9223372036854775808 ≤ n ∧ n ≤ 9223372036854775807) (vs (decS n))
  | _, _ => no⟩
theorem s_dec2 : Sound Tryz.prog 103 ctDecV := by
  intro args os hp
  unfold ctDecV at hp ⊢
  dsimp only at hp ⊢
  split at hp
  · rename_i n
    have h : -9223372036854775808 ≤ n ∧ n ≤ 9223372036854775807 := hp
    exact s_dec_all 2 [.one (.val (.int .i64 n))] [] (show _ ∧ _ ∧ _ from ⟨h.1, h.2, .inr (Nat.le_refl _)⟩)
  · exact hp.elim
theorem s_dec2_e : EnterOk Tryz.prog 103 := s_dec_e
end Go.Proofs.YtjedcphhajlnoaaGreatDoor
