import Derived.Test.YtmnbgppmfbnamaaGreatDoorM8
import Derived.Test.YtmnbgppmfbnamaaGreatDoorM10
import Derived.Test.YtmnbgppmfbnamaaGreatDoorM11
import Derived.Test.YtmnbgppmfbnamaaGreatDoorM15
set_option linter.unusedSimpArgs false
set_option linter.unusedVariables false
set_option linter.unusedSectionVars false
/- Functions: one of a list; texts that are drawn. -/
namespace Go.Proofs.YtmnbgppmfbnamaaGreatDoor
open Go.RowKit

/-- May the reader go on from here? -/
def rdOk (bs : List UInt8) (p : Int) : Prop := 0 ≤ p ∧ p ≤ 900000 ∧ bs.length ≤ 2000
@[go_sem] def ctNum : Ct := ⟨true, [], fun args os => match args, os with
  | [.one (.ptr 0 0), .one (.osl .int 1 0 n)], [.cells [.isl .byte bs, .val (.int .i64 p)], .arr .int xs] => ⟨(0 ≤ p ∧ p ≤ 1000000 ∧ bs.length ≤ 2000) ∧ n = xs.length ∧ 0 < n ∧ n ≤ 1000, vi (ET.int.at xs (pickV bs p n).toNat), [(0, some (rdO bs (p + 1)))], []⟩
  | _, _ => no⟩
theorem s_num_e : EnterOk Tryz.prog 120 := ⟨_, Tryz.func120, rfl, by decide⟩
@[go_sem] def s_num_lv : List (List Nat) := [[0, 1], [4]]
@[go_sem] noncomputable def s_num_K : Known := (Known.nil).cons 117 ctPick s_pick s_pick_e
set_option maxHeartbeats 8000000 in
theorem s_num : Sound Tryz.prog 120 ctNum := by
  have ke := s_num_K.env []
  have kl : Lives s_num_lv := trivial
  refine sound_intro (E := ⟨ti, s_num_K.Γ, []⟩) ke Tryz.func120 Tryz.ntmps120 rfl (rs := [.tmp 4]) rfl ?_
  intro args os hp
  unfold ctNum at hp ⊢
  dsimp only at hp ⊢
  split at hp
  · rename_i n bs p xs
    refine ⟨by simp, fun φ0 w0 => ?_⟩
    obtain ⟨⟨h1, h2, h3⟩, h4, h5, h6⟩ : (0 ≤ p ∧ p ≤ 1000000 ∧ bs.length ≤ 2000) ∧ n = xs.length ∧ 0 < n ∧ n ≤ 1000 := hp
    have h7 := pickV_in bs p n h1 h2 (by omega)
    refine goh trivial ?_
    exact finh [some 0, some 1] trivial
  · simp [no] at hp
@[go_sem] def ctOf : Ct := ⟨true, [], fun args os => match args, os with
  | [.one (.ptr 0 0), .one (.osl .str 1 0 n)], [.cells [.isl .byte bs, .val (.int .i64 p)], .arr .str xs] => ⟨(0 ≤ p ∧ p ≤ 1000000 ∧ bs.length ≤ 2000) ∧ n = xs.length ∧ 0 < n ∧ n ≤ 1000, vs (ET.str.at xs (pickV bs p n).toNat), [(0, some (rdO bs (p + 1)))], []⟩
  | _, _ => no⟩
theorem s_of_e : EnterOk Tryz.prog 121 := ⟨_, Tryz.func121, rfl, by decide⟩
@[go_sem] def s_of_lv : List (List Nat) := [[0, 1], [4]]
@[go_sem] noncomputable def s_of_K : Known := (Known.nil).cons 117 ctPick s_pick s_pick_e
set_option maxHeartbeats 8000000 in
theorem s_of : Sound Tryz.prog 121 ctOf := by
  have ke := s_of_K.env []
  have kl : Lives s_of_lv := trivial
  refine sound_intro (E := ⟨ti, s_of_K.Γ, []⟩) ke Tryz.func121 Tryz.ntmps121 rfl (rs := [.tmp 4]) rfl ?_
  intro args os hp
  unfold ctOf at hp ⊢
  dsimp only at hp ⊢
  split at hp
  · rename_i n bs p xs
    refine ⟨by simp, fun φ0 w0 => ?_⟩
    obtain ⟨⟨h1, h2, h3⟩, h4, h5, h6⟩ : (0 ≤ p ∧ p ≤ 1000000 ∧ bs.length ≤ 2000) ∧ n = xs.length ∧ 0 < n ∧ n ≤ 1000 := hp
    have h7 := pickV_in bs p n h1 h2 (by omega)
    refine goh trivial ?_
    exact finh [some 0, some 1] trivial
  · simp [no] at hp
def txts : List ByteArray := [⟨#[97]⟩, ⟨#[98]⟩, ⟨#[32]⟩, ⟨#[58]⟩, ⟨#[10]⟩, ⟨#[49, 50]⟩, ⟨#[255]⟩, ⟨#[0]⟩, ⟨#[120, 121, 122]⟩]
theorem at_size {xs : List ByteArray} {m : Nat} (h : ∀ s ∈ xs, s.size ≤ m) (i : Nat) : (ET.str.at xs i).size ≤ m := by
  unfold ET.at
  rcases Nat.lt_or_ge i xs.length with hi | hi
  · rw [List.getD_eq_getElem?_getD, List.getElem?_eq_getElem hi]; exact h _ (List.getElem_mem hi)
  · rw [List.getD_eq_getElem?_getD, List.getElem?_eq_none hi]; exact Nat.zero_le _
theorem txts_size (i : Nat) : (ET.str.at txts i).size ≤ 3 := at_size (by decide) i
def l1T (bs : List UInt8) : Nat → Int → ByteArray → ByteArray
  | 0, _, out => out
  | i + 1, p, out => l1T bs i (p + 1) (out ++ ET.str.at txts (pickV bs p 9).toNat)
theorem l1T_size (bs : List UInt8) : ∀ (i : Nat) (p : Int) (out : ByteArray), (l1T bs i p out).size ≤ out.size + 3 * i
  | 0, p, out => by simp [l1T]
  | i + 1, p, out => by
    have h1 := l1T_size bs i (p + 1) (out ++ ET.str.at txts (pickV bs p 9).toNat)
    have h2 := txts_size (pickV bs p 9).toNat
    rw [ByteArray.size_append] at h1
    unfold l1T; omega
/-- A text that is drawn, and where the reader goes on. -/
def textV (bs : List UInt8) (p : Int) : ByteArray := l1T bs (pickV bs p 7).toNat (p + 1) ⟨#[]⟩
def textP (bs : List UInt8) (p : Int) : Int := p + 1 + pickV bs p 7
theorem textV_size (bs : List UInt8) (p : Int) (h : rdOk bs p) : (textV bs p).size ≤ 18 := by
  have h1 := pickV_in bs p 7 h.1 (by have := h.2.1; omega) (by omega)
  have h2 := l1T_size bs (pickV bs p 7).toNat (p + 1) ⟨#[]⟩
  have h3 : (⟨#[]⟩ : ByteArray).size = 0 := rfl
  unfold textV; omega
theorem textP_in (bs : List UInt8) (p : Int) (h : rdOk bs p) : p + 1 ≤ textP bs p ∧ textP bs p ≤ p + 7 := by
  have h1 := pickV_in bs p 7 h.1 (by have := h.2.1; omega) (by omega)
  unfold textP; omega
@[go_sem] def ctText : Ct := ⟨true, [], fun args os => match args, os with
  | [.one (.ptr 0 0)], [.cells [.isl .byte bs, .val (.int .i64 p)]] => ⟨rdOk bs p, vs (textV bs p), [(0, some (rdO bs (textP bs p)))], []⟩
  | _, _ => no⟩
@[go_sem] def sgText (bs : List UInt8) (p : Int) (i : Nat) (out : ByteArray) : Sg := ⟨[(0, .one (.ptr 0 0)), (3, vs out), (4, vi i)], [some (rdO bs p)], [0]⟩
theorem s_text_e : EnterOk Tryz.prog 119 := ⟨_, Tryz.func119, rfl, by decide⟩
@[go_sem] def s_text_lv : List (List Nat) := [[0], [0, 3], [0, 3, 4], [0, 3, 4, 8], [0, 3, 4], [0, 3, 4], [2]]
@[go_sem] noncomputable def s_text_K : Known := ((Known.nil).cons 117 ctPick s_pick s_pick_e).cons 121 ctOf s_of s_of_e
set_option maxHeartbeats 8000000 in
theorem s_text : Sound Tryz.prog 119 ctText := by
  have ke := s_text_K.env []
  have kl : Lives s_text_lv := trivial
  refine sound_intro (E := ⟨ti, s_text_K.Γ, []⟩) ke Tryz.func119 Tryz.ntmps119 rfl (rs := [.tmp 2]) rfl ?_
  intro args os hp
  unfold ctText at hp ⊢
  dsimp only at hp ⊢
  split at hp
  · rename_i bs p
    refine ⟨by simp, fun φ0 w0 => ?_⟩
    have hr : rdOk bs p := hp
    obtain ⟨h1, h2, h3⟩ := hr
    have h7 := pickV_in bs p 7 h1 (by omega) (by omega)
    have hT : textP bs p = p + 1 + pickV bs p 7 := rfl
    have hV : textV bs p = l1T bs (pickV bs p 7).toNat (p + 1) ⟨#[]⟩ := rfl
    refine goh trivial ?_
    refine W_le (σ' := sgText bs (p + 1) (pickV bs p 7).toNat ⟨#[]⟩) [some 0] (by
      simp only [go_sem, inj_r, ↓reduceIte, reduceCtorEq, Nat.reduceAdd, Nat.reduceLT, Nat.reduceLeDiff, Nat.reduceEqDiff, Int.reduceEq]
      all_goals (repeat' refine And.intro ?_ ?_) <;> try exact shut7
      ) ?_
    refine W_loop (fun n σ => ∃ (i : Nat) (q : Int) (out : ByteArray), n = i ∧ i ≤ 6 ∧ out.size ≤ 3 * (6 - i) ∧ 0 ≤ q ∧ q + i = textP bs p ∧ l1T bs i q out = textV bs p ∧ σ = sgText bs q i out) (pickV bs p 7).toNat ⟨_, _, _, rfl, by omega, Nat.zero_le _, by omega, by omega, hV.symm, rfl⟩ ?_
    rintro n σ ⟨i, q, out, rfl, hi, ho, hq, hqi, hl, rfl⟩
    unfold sgText
    refine goh trivial ?_
    refine W_cnd ?_ ?_ <;> (try simp only [cnd_r]) <;> intro hlt
    · obtain ⟨j, rfl⟩ : ∃ j, n = j + 1 := ⟨n - 1, by omega⟩
      have h9 := pickV_in bs q 9 hq (by omega) (by omega)
      have ht := txts_size (pickV bs q 9).toNat
      simp only [ET.at, txts] at ht
      refine goh trivial ?_
      refine ⟨j, [some 0], sgText bs (q + 1) j (out ++ ET.str.at txts (pickV bs q 9).toNat), by omega, ?_, j, q + 1, _, rfl, by omega, ?_, by omega, by omega, hl, rfl⟩
      · exact leh trivial
      · simp only [ET.at, txts, ByteArray.size_append]; omega
    · refine goh trivial ?_
      refine ⟨by (simp only [go_sem, ↓reduceIte, reduceCtorEq, Nat.reduceAdd, Nat.reduceLT, Nat.reduceLeDiff, Nat.reduceEqDiff]) <;> trivial, [some 0], ?_⟩
      all_goals try simp only [go_sem, inj_r, ↓reduceIte, reduceCtorEq, Nat.reduceAdd, Nat.reduceLT, Nat.reduceLeDiff, Nat.reduceEqDiff, Int.reduceEq]
      all_goals (repeat' refine And.intro ?_ ?_) <;> try exact shut7
      · have : n = 0 := by omega
        subst this
        exact hl
  · simp [no] at hp
def fates : List Int := [0, 1, 1, 1, 2, 3]
def l2F (bs : List UInt8) : Nat → Int → List Int → List Int
  | 0, _, out => out
  | i + 1, p, out => l2F bs i (p + 1) (out ++ [ET.int.at fates (pickV bs p 6).toNat])
theorem l2F_len (bs : List UInt8) : ∀ (i : Nat) (p : Int) (out : List Int), (l2F bs i p out).length = out.length + i
  | 0, p, out => by simp [l2F]
  | i + 1, p, out => by
    have h1 := l2F_len bs i (p + 1) (out ++ [ET.int.at fates (pickV bs p 6).toNat])
    rw [List.length_append] at h1
    simp only [List.length_cons, List.length_nil] at h1
    unfold l2F; omega
/-- What becomes of writes, as it is drawn. -/
def fateV (bs : List UInt8) (p : Int) : List Int := l2F bs (pickV bs p 16).toNat (p + 1) []
def fateP (bs : List UInt8) (p : Int) : Int := p + 1 + pickV bs p 16
theorem fateV_len (bs : List UInt8) (p : Int) (h : rdOk bs p) : (fateV bs p).length ≤ 15 := by
  have h1 := pickV_in bs p 16 h.1 (by have := h.2.1; omega) (by omega)
  unfold fateV; rw [l2F_len]; simp only [List.length_nil]; omega
theorem fateP_in (bs : List UInt8) (p : Int) (h : rdOk bs p) : p + 1 ≤ fateP bs p ∧ fateP bs p ≤ p + 16 := by
  have h1 := pickV_in bs p 16 h.1 (by have := h.2.1; omega) (by omega)
  unfold fateP; omega
@[go_sem] def ctFate : Ct := ⟨true, [], fun args os => match args, os with
  | [.one (.ptr 0 0)], [.cells [.isl .byte bs, .val (.int .i64 p)]] => ⟨rdOk bs p, .one (.osl .int 1 0 (fateV bs p).length), [(0, some (rdO bs (fateP bs p)))], [.arr .int (fateV bs p)]⟩
  | _, _ => no⟩
@[go_sem] def sgFate (bs : List UInt8) (p : Int) (i : Nat) (out : List Int) : Sg := ⟨[(0, .one (.ptr 0 0)), (3, .one (.osl .int 1 0 out.length)), (4, vi i)], [some (rdO bs p), some (.arr .int out)], [0]⟩
/-- A text n times. -/
def manyL : Nat → ByteArray → Nat → ByteArray → ByteArray
  | 0, _, _, out => out
  | f + 1, s, n, out => if n = 0 then out else manyL f (s ++ s) (n / 2) (if n % 2 = 1 then out ++ s else out)
theorem manyL_size : ∀ (f : Nat) (s : ByteArray) (n : Nat) (out : ByteArray), n < 2 ^ f → (manyL f s n out).size = out.size + n * s.size
  | 0, s, n, out, h => by
    have : n = 0 := by simp at h; exact h
    subst this; simp [manyL]
  | f + 1, s, n, out, h => by
    unfold manyL
    split
    · rename_i h0; subst h0; simp
    · rw [manyL_size f _ _ _ (by rw [Nat.pow_succ] at h; omega), ByteArray.size_append]
      have e : n * s.size = (n / 2) * (s.size + s.size) + (n % 2) * s.size := by
        have : n = 2 * (n / 2) + n % 2 := by omega
        rw [Nat.mul_add, ← Nat.add_mul, ← Nat.add_mul]; congr 1; omega
      split
      · rename_i h1; rw [e, h1, ByteArray.size_append]; omega
      · rename_i h1
        have : n % 2 = 0 := by omega
        rw [e, this]; omega
theorem manyL_enough : ∀ (f : Nat) (s : ByteArray) (n : Nat) (out : ByteArray), n < 2 ^ f → manyL (f + 1) s n out = manyL f s n out
  | 0, s, n, out, h => by
    have : n = 0 := by simp at h; exact h
    subst this; simp [manyL]
  | f + 1, s, n, out, h => by
    have h2 : n / 2 < 2 ^ f := by rw [Nat.pow_succ] at h; omega
    conv => lhs; unfold manyL
    conv => rhs; unfold manyL
    rw [manyL_enough f _ _ _ h2]
def many (s : ByteArray) (n : Nat) : ByteArray := manyL 10 s n ⟨#[]⟩
theorem many_size (s : ByteArray) (n : Nat) (h : n ≤ 1000) : (many s n).size = n * s.size := by
  unfold many; rw [manyL_size _ _ _ _ (by omega)]; exact Nat.zero_add _
theorem manyL_step (s : ByteArray) (n : Nat) (out : ByteArray) (h : n ≤ 1000) (h0 : n ≠ 0) : manyL 10 s n out = manyL 10 (s ++ s) (n / 2) (if n % 2 = 1 then out ++ s else out) := by
  conv => lhs; unfold manyL
  rw [if_neg h0, ← manyL_enough 9 _ _ _ (by omega)]
@[go_sem] def ctMany : Ct := ⟨false, [], fun args os => match args, os with
  | [.one (.val (.string s)), .one (.val (.int .i64 n))], [] => ifp (0 ≤ n ∧ n ≤ 1000 ∧ s.size ≤ 100) (vs (many s n.toNat))
  | _, _ => no⟩
@[go_sem] def sgMany (s : ByteArray) (n : Nat) (out : ByteArray) : Sg := ⟨[(0, vs s), (1, vi n), (5, vs out)], [], []⟩
theorem s_many_e : EnterOk Tryz.prog 122 := ⟨_, Tryz.func122, rfl, by decide⟩
@[go_sem] def s_many_lv : List (List Nat) := [[0, 1], [0, 1, 5], [0, 1, 5, 7], [0, 1, 5, 10], [0, 1, 5], [0, 1, 5], [0, 1, 5], [4]]
@[go_sem] noncomputable def s_many_K : Known := Known.nil
set_option maxHeartbeats 8000000 in
theorem s_many : Sound Tryz.prog 122 ctMany := by
  have ke := s_many_K.env []
  have kl : Lives s_many_lv := trivial
  refine sound_intro (E := ⟨ti, s_many_K.Γ, []⟩) ke Tryz.func122 Tryz.ntmps122 rfl (rs := [.tmp 4]) rfl ?_
  intro args os hp
  unfold ctMany at hp ⊢
  dsimp only at hp ⊢
  split at hp
  · rename_i s0 n0
    refine ⟨by simp, fun φ0 w0 => ?_⟩
    obtain ⟨h1, h2, h3⟩ : 0 ≤ n0 ∧ n0 ≤ 1000 ∧ s0.size ≤ 100 := hp
    obtain ⟨n0, rfl⟩ := Int.eq_ofNat_of_zero_le h1
    have hb : n0 * s0.size ≤ 100000 := Nat.mul_le_mul (show n0 ≤ 1000 by omega) h3
    have hn0 : (n0 : Int).toNat = n0 := Int.toNat_natCast n0
    refine goh trivial ?_
    refine W_le (σ' := sgMany s0 n0 ⟨#[]⟩) [] (by
      simp only [go_sem, inj_r, ↓reduceIte, reduceCtorEq, Nat.reduceAdd, Nat.reduceLT, Nat.reduceLeDiff, Nat.reduceEqDiff, Int.reduceEq]
      all_goals (repeat' refine And.intro ?_ ?_) <;> try exact shut7
      ) ?_
    refine W_loop (fun n σ => ∃ (s : ByteArray) (i : Nat) (out : ByteArray), n = i ∧ i ≤ 1000 ∧ out.size + i * s.size ≤ 100000 ∧ s.size ≤ 200000 ∧ manyL 10 s i out = many s0 n0 ∧ σ = sgMany s i out) n0 ⟨_, _, _, rfl, by omega, by rw [show (⟨#[]⟩ : ByteArray).size = 0 from rfl]; omega, by omega, rfl, rfl⟩ ?_
    rintro n σ ⟨s, i, out, rfl, hi, ho, hs, hm, rfl⟩
    unfold sgMany
    refine goh trivial ?_
    refine W_cnd ?_ ?_ <;> (try simp only [cnd_r]) <;> intro hlt
    · have hr : ((n : Int)).tmod 2 = ((n % 2 : Nat) : Int) := (Int.ofNat_tmod _ _).symm
      have hq : IntKind.i64.wrap (((n : Int)).tdiv 2) = ((n / 2 : Nat) : Int) := by
        have : (n : Int).tdiv 2 = ((n / 2 : Nat) : Int) := (Int.ofNat_tdiv _ _).symm
        rw [this]; exact wrap_id _ (by omega) (by omega)
      have hst := manyL_step s n out (by omega) (by omega)
      have hs1 : s.size ≤ 100000 := by have := Nat.mul_le_mul_right s.size (show 1 ≤ n by omega); omega
      have e : n * s.size = (n / 2) * (s.size + s.size) + (n % 2) * s.size := by
        have : n = 2 * (n / 2) + n % 2 := by omega
        rw [Nat.mul_add, ← Nat.add_mul, ← Nat.add_mul]; congr 1; omega
      refine goh hr ?_
      refine W_cond _ (by exact rfl) (by exact trivial) ?_ ?_ <;> intro hc
      · have h1 : n % 2 = 1 := by simp only [beq_iff_eq] at hc; omega
        rw [if_pos h1] at hst
        rw [h1] at e
        refine goh hq ?_
        refine ⟨n / 2, [], sgMany (s ++ s) (n / 2) (out ++ s), by omega, ?_, _, _, _, rfl, by omega, ?_, ?_, hst ▸ hm, rfl⟩
        · exact leh trivial
        · rw [ByteArray.size_append, ByteArray.size_append]; omega
        · rw [ByteArray.size_append]; omega
      · have h1 : n % 2 = 0 := by
          have : ¬ (((n % 2 : Nat) : Int) = 1) := by simpa using hc
          omega
        rw [if_neg (by omega)] at hst
        rw [h1] at e
        refine goh hq ?_
        refine ⟨n / 2, [], sgMany (s ++ s) (n / 2) out, by omega, ?_, _, _, _, rfl, by omega, ?_, ?_, hst ▸ hm, rfl⟩
        · exact leh trivial
        · rw [ByteArray.size_append]; omega
        · rw [ByteArray.size_append]; omega
    · refine goh trivial ?_
      have : n = 0 := by omega
      subst this
      have hm : out = many s0 n0 := hm
      subst hm
      exact finh [] trivial
  · simp [no, ifp] at hp
end Go.Proofs.YtmnbgppmfbnamaaGreatDoor
/- Functions: a disk that is drawn. -/
namespace Go.Proofs.YtmnbgppmfbnamaaGreatDoor
open Go.RowKit

@[go_sem] theorem Dk.eta (d : Dk) : Dk.mk d.a d.b d.l = d := rfl
def dstep1 (bs : List UInt8) (d : Dk) (p : Int) : Dk := dkWrite d (pickV bs p 2) (pickV bs (p + 1) 6) (textV bs (p + 2))
def dstep (bs : List UInt8) (d : Dk) (p : Int) : Dk × Int :=
  if pickV bs (textP bs (p + 2)) 8 = 0 then (dkFlush (dstep1 bs d p), textP bs (p + 2) + 1)
  else if pickV bs (textP bs (p + 2)) 8 = 1 then (dkFall (dstep1 bs d p) (fateV bs (textP bs (p + 2) + 1)), fateP bs (textP bs (p + 2) + 1))
  else (dstep1 bs d p, textP bs (p + 2) + 1)
def dsteps (bs : List UInt8) : Nat → Dk → Int → Dk × Int
  | 0, d, p => (d, p)
  | i + 1, d, p => dsteps bs i (dstep bs d p).1 (dstep bs d p).2
def bend (bs : List UInt8) (d : Dk) (p : Int) : Dk × Int :=
  if pickV bs p 24 = 0 then (⟨d.a, d.b ++ [⟨#[]⟩], d.l⟩, p + 1)
  else if pickV bs p 24 = 1 then (⟨d.a, d.b, d.l ++ [⟨ET.int.at [-1, 2, 0] (pickV bs (p + 1) 3).toNat, ET.int.at [-1, 6, 0] (pickV bs (p + 2) 3).toNat, ⟨#[]⟩⟩]⟩, p + 3)
  else if pickV bs p 24 = 2 then (⟨[], d.b, d.l⟩, p + 1)
  else (d, p + 1)
def drawDisk0 (bs : List UInt8) (p : Int) : Dk × Int := dsteps bs (pickV bs (p + 1) 14).toNat (dkOpen (1 + pickV bs p 6)) (p + 2)
/-- A disk that is drawn, and where the reader goes on. -/
def drawDisk (bs : List UInt8) (p : Int) : Dk × Int := bend bs (drawDisk0 bs p).1 (drawDisk0 bs p).2
/-- Few sectors, few writes. -/
def Dk.few (d : Dk) (n : Nat) : Prop := d.a.length ≤ 6 ∧ d.b.length ≤ 6 ∧ d.l.length ≤ n
theorem Dk.few_write {d : Dk} {n : Nat} (h : d.few n) (s k : Int) (t : ByteArray) : (dkWrite d s k t).few (n + 1) := by
  obtain ⟨h1, h2, h3⟩ := h
  unfold dkWrite
  split
  · split
    · refine ⟨h1, h2, ?_⟩
      show (d.l ++ [_]).length ≤ n + 1
      rw [List.length_append]; simp only [List.length_cons, List.length_nil]; omega
    · exact ⟨h1, h2, by omega⟩
  · exact ⟨Nat.zero_le _, Nat.zero_le _, Nat.zero_le _⟩
theorem Dk.few_flush {d : Dk} {n : Nat} (h : d.few n) : (dkFlush d).few n := by
  obtain ⟨h1, h2, h3⟩ := h
  unfold dkFlush
  split
  · have := d.done_len d.l.length
    exact ⟨by show (d.done _).1.length ≤ 6; omega, by show (d.done _).2.length ≤ 6; omega, Nat.zero_le _⟩
  · exact ⟨Nat.zero_le _, Nat.zero_le _, Nat.zero_le _⟩
theorem Dk.few_fall {d : Dk} {n : Nat} (h : d.few n) (f : List Int) : (dkFall d f).few n := by
  obtain ⟨h1, h2, h3⟩ := h
  unfold dkFall
  split
  · have := d.fallN_len f (min d.l.length f.length)
    exact ⟨by show (d.fallN f _).1.length ≤ 6; omega, by show (d.fallN f _).2.length ≤ 6; omega, Nat.zero_le _⟩
  · exact ⟨Nat.zero_le _, Nat.zero_le _, Nat.zero_le _⟩
theorem dstep_few (bs : List UInt8) (d : Dk) (p : Int) {n : Nat} (h : d.few n) : (dstep bs d p).1.few (n + 1) := by
  have h1 : (dstep1 bs d p).few (n + 1) := Dk.few_write h _ _ _
  unfold dstep
  split
  · exact Dk.few_flush h1
  · split
    · exact Dk.few_fall h1 _
    · exact h1
theorem dstep_p (bs : List UInt8) (d : Dk) (p : Int) (hp : 0 ≤ p) (hp2 : p ≤ 800000) (hb : bs.length ≤ 2000) : p + 1 ≤ (dstep bs d p).2 ∧ (dstep bs d p).2 ≤ p + 30 := by
  have h1 := textP_in bs (p + 2) ⟨by omega, by omega, hb⟩
  have h2 := fateP_in bs (textP bs (p + 2) + 1) ⟨by omega, by omega, hb⟩
  unfold dstep
  split
  · simp only; omega
  · split
    · simp only; omega
    · simp only; omega
theorem dkOpen_few (n : Int) (h : n ≤ 6) : (dkOpen n).few 0 := by
  unfold dkOpen
  split
  · exact ⟨by show (List.replicate _ _).length ≤ 6; rw [List.length_replicate]; omega, by show (List.replicate _ _).length ≤ 6; rw [List.length_replicate]; omega, Nat.zero_le _⟩
  · exact ⟨Nat.zero_le _, Nat.zero_le _, Nat.zero_le _⟩
theorem dsteps_all (bs : List UInt8) (hb : bs.length ≤ 2000) : ∀ (i : Nat) (d : Dk) (p : Int) (n : Nat), 0 ≤ p → p + 30 * i ≤ 800000 → d.few n → (dsteps bs i d p).1.few (n + i) ∧ p ≤ (dsteps bs i d p).2 ∧ (dsteps bs i d p).2 ≤ p + 30 * i
  | 0, d, p, n, h0, h1, h2 => by
    refine ⟨h2, Int.le_refl _, ?_⟩
    show p ≤ _
    omega
  | i + 1, d, p, n, h0, h1, h2 => by
    have hs := dstep_p bs d p h0 (by omega) hb
    obtain ⟨k1, k2, k3⟩ := dsteps_all bs hb i (dstep bs d p).1 (dstep bs d p).2 (n + 1) (by omega) (by omega) (dstep_few bs d p h2)
    refine ⟨?_, ?_, ?_⟩
    · have : n + (i + 1) = n + 1 + i := by omega
      rw [this]; exact k1
    · show p ≤ (dsteps bs i _ _).2; omega
    · show (dsteps bs i _ _).2 ≤ _; omega
def rdOk2 (bs : List UInt8) (p : Int) : Prop := 0 ≤ p ∧ p ≤ 700000 ∧ bs.length ≤ 2000
theorem drawDisk0_all (bs : List UInt8) (p : Int) (h : rdOk2 bs p) : (drawDisk0 bs p).1.few 13 ∧ p ≤ (drawDisk0 bs p).2 ∧ (drawDisk0 bs p).2 ≤ p + 500 := by
  obtain ⟨h1, h2, h3⟩ := h
  have h7 := pickV_in bs p 6 h1 (by omega) (by omega)
  have h8 := pickV_in bs (p + 1) 14 (by omega) (by omega) (by omega)
  obtain ⟨k1, k2, k3⟩ := dsteps_all bs h3 (pickV bs (p + 1) 14).toNat (dkOpen (1 + pickV bs p 6)) (p + 2) 0 (by omega) (by omega) (dkOpen_few _ (by omega))
  unfold drawDisk0
  refine ⟨⟨k1.1, k1.2.1, Nat.le_trans k1.2.2 (by omega)⟩, by omega, by omega⟩
theorem drawDisk_all (bs : List UInt8) (p : Int) (h : rdOk2 bs p) : ((drawDisk bs p).1.a.length ≤ 7 ∧ (drawDisk bs p).1.b.length ≤ 7 ∧ (drawDisk bs p).1.l.length ≤ 14) ∧ p ≤ (drawDisk bs p).2 ∧ (drawDisk bs p).2 ≤ p + 503 := by
  obtain ⟨⟨k1, k2, k3⟩, k4, k5⟩ := drawDisk0_all bs p h
  unfold drawDisk bend
  split
  · refine ⟨⟨by simp only; omega, ?_, by simp only; omega⟩, by simp only; omega, by simp only; omega⟩
    simp only [List.length_append, List.length_cons, List.length_nil]; omega
  · split
    · refine ⟨⟨by simp only; omega, by simp only; omega, ?_⟩, by simp only; omega, by simp only; omega⟩
      simp only [List.length_append, List.length_cons, List.length_nil]; omega
    · split
      · exact ⟨⟨Nat.zero_le _, by simp only; omega, by simp only; omega⟩, by simp only; omega, by simp only; omega⟩
      · exact ⟨⟨by simp only; omega, by simp only; omega, by simp only; omega⟩, by simp only; omega, by simp only; omega⟩
@[go_sem] def ctDrawDisk : Ct := ⟨true, [], fun args os => match args, os with
  | [.one (.ptr 0 0)], [.cells [.isl .byte bs, .val (.int .i64 p)]] => ⟨rdOk2 bs p, (drawDisk bs p).1.v 1, [(0, some (rdO bs (drawDisk bs p).2))], (drawDisk bs p).1.objs⟩
  | _, _ => no⟩
@[go_sem] def sgDraw (bs : List UInt8) (p : Int) (i : Nat) (d : Dk) : Sg := ⟨[(0, .one (.ptr 0 0)), (2, .one (.ptr 1 0)), (3, .one (.ptr 2 0)), (4, vi i)],
  [some (rdO bs p), some (.cells [.val (.slice none 0 0), .val (.slice none 0 0), .val (.slice none 0 0)]), some (.cells [.osl .str 3 0 d.a.length, .osl .str 4 0 d.b.length, .osl .late 5 0 d.l.length]), some (.arr .str d.a), some (.arr .str d.b), some (.arr .late d.l)], [0]⟩
end Go.Proofs.YtmnbgppmfbnamaaGreatDoor
/- Functions: a disk of blocks that is drawn. -/
namespace Go.Proofs.YtmnbgppmfbnamaaGreatDoor
open Go.RowKit

def l3s : List ByteArray := [⟨#[97]⟩, ⟨#[98, 98]⟩, ⟨#[120, 32, 121]⟩, ⟨#[97]⟩, ⟨#[]⟩]
/-- n blocks written, from place i on. -/
def l3W (bs : List UInt8) : Nat → Int → Dk → Int → Dk
  | 0, _, d, _ => d
  | n + 1, i, d, p => l3W bs n (i + 1) (blkWrite d i (ET.str.at l3s (pickV bs p 5).toNat)) (p + 1)
/-- n writes. -/
def l3V (bs : List UInt8) : Nat → Dk → Int → Dk × Int
  | 0, d, p => (d, p)
  | n + 1, d, p => l3V bs n (dstep1 bs d p) (textP bs (p + 2))
def l3a (bs : List UInt8) (p : Int) : Dk := l3W bs 5 1 (dkOpen 6) p
def l3b (bs : List UInt8) (p : Int) : Dk := if pickV bs (p + 5) 2 = 0 then dkFlush (l3a bs p) else l3a bs p
def l3c (bs : List UInt8) (p : Int) : Dk × Int := l3V bs (pickV bs (p + 6) 3).toNat (l3b bs p) (p + 7)
def blkDisk (bs : List UInt8) (p : Int) : Dk × Int := (if pickV bs (l3c bs p).2 16 = 0 then ⟨[], (l3c bs p).1.b, (l3c bs p).1.l⟩ else (l3c bs p).1, (l3c bs p).2 + 1)
theorem few_blk {d : Dk} {n : Nat} (h : d.few n) (k : Int) (t : ByteArray) : (blkWrite d k t).few (n + 2) := by
  obtain ⟨h1, h2, h3⟩ := h
  unfold blkWrite
  split
  · split
    · refine ⟨h1, h2, ?_⟩
      show (d.l ++ [_] ++ [_]).length ≤ n + 2
      simp only [List.length_append, List.length_cons, List.length_nil]; omega
    · exact ⟨h1, h2, by omega⟩
  · exact ⟨Nat.zero_le _, Nat.zero_le _, Nat.zero_le _⟩
theorem few_mono {d : Dk} {n m : Nat} (h : d.few n) (hm : n ≤ m) : d.few m := ⟨h.1, h.2.1, Nat.le_trans h.2.2 hm⟩
theorem l3W_few (bs : List UInt8) : ∀ (n : Nat) (i : Int) (d : Dk) (p : Int) (m : Nat), d.few m → (l3W bs n i d p).few (m + 2 * n)
  | 0, _, _, _, _, h => h
  | n + 1, i, d, p, m, h => few_mono (l3W_few bs n (i + 1) _ (p + 1) (m + 2) (few_blk h _ _)) (by omega)
theorem l3V_all (bs : List UInt8) (hb : bs.length ≤ 2000) : ∀ (n : Nat) (d : Dk) (p : Int) (m : Nat), 0 ≤ p → p + 10 * n ≤ 800000 → d.few m → (l3V bs n d p).1.few (m + n) ∧ p ≤ (l3V bs n d p).2 ∧ (l3V bs n d p).2 ≤ p + 10 * n
  | 0, d, p, m, h0, h1, h2 => ⟨h2, Int.le_refl _, by show p ≤ _; omega⟩
  | n + 1, d, p, m, h0, h1, h2 => by
    have ht := textP_in bs (p + 2) ⟨by omega, by omega, hb⟩
    obtain ⟨k1, k2, k3⟩ := l3V_all bs hb n (dstep1 bs d p) (textP bs (p + 2)) (m + 1) (by omega) (by omega) (Dk.few_write h2 _ _ _)
    refine ⟨few_mono k1 (by omega), ?_, ?_⟩
    · show p ≤ (l3V bs n _ _).2; omega
    · show (l3V bs n _ _).2 ≤ _; omega
theorem l3s_size (i : Nat) : (ET.str.at l3s i).size ≤ 3 := at_size (by decide) i
theorem blkDisk_all (bs : List UInt8) (p : Int) (h : rdOk2 bs p) : ((l3b bs p).few 10 ∧ (l3c bs p).1.few 12 ∧ p + 7 ≤ (l3c bs p).2 ∧ (l3c bs p).2 ≤ p + 27) := by
  obtain ⟨h1, h2, h3⟩ := h
  have ha : (l3a bs p).few 10 := few_mono (l3W_few bs 5 1 _ p 0 (dkOpen_few 6 (by omega))) (by omega)
  have hb : (l3b bs p).few 10 := by
    unfold l3b; split
    · exact Dk.few_flush ha
    · exact ha
  have hp := pickV_in bs (p + 6) 3 (by omega) (by omega) (by omega)
  obtain ⟨k1, k2, k3⟩ := l3V_all bs h3 (pickV bs (p + 6) 3).toNat (l3b bs p) (p + 7) 10 (by omega) (by omega) hb
  refine ⟨hb, few_mono k1 (by omega), by unfold l3c; omega, by unfold l3c; omega⟩
@[go_sem] def ctBlkDisk : Ct := ⟨true, [], fun args os => match args, os with
  | [.one (.ptr 0 0)], [.cells [.isl .byte bs, .val (.int .i64 p)]] => ⟨rdOk2 bs p, (blkDisk bs p).1.v 1, [(0, some (rdO bs (blkDisk bs p).2))], (blkDisk bs p).1.objs⟩
  | _, _ => no⟩
@[go_sem] def sgB3 (bs : List UInt8) (p : Int) (i : Nat) (d : Dk) : Sg := ⟨[(0, .one (.ptr 0 0)), (2, .one (.ptr 1 0)), (3, .one (.ptr 2 0)), (5, vi i)], (sgDraw bs p i d).tab, [0]⟩
structure Box (X : Prop) : Prop where
  out : X
theorem merge {A X : Prop} (h : Box X → A) (x : X) : A := h ⟨x⟩
end Go.Proofs.YtmnbgppmfbnamaaGreatDoor
/- Functions: what is drawn to fall, to be written. -/
namespace Go.Proofs.YtmnbgppmfbnamaaGreatDoor
open Go.RowKit

def fallF (code : List UInt8) : List Int := fateV (code.take 2000) 0
def fallD (code : List UInt8) : Dk := (drawDisk (code.take 2000) (fateP (code.take 2000) 0)).1
theorem take2000 (code : List UInt8) : (code.take 2000).length ≤ 2000 := by rw [List.length_take]; omega
theorem fall_all (code : List UInt8) : ((fallD code).a.length ≤ 7 ∧ (fallD code).b.length ≤ 7 ∧ (fallD code).l.length ≤ 14) ∧ (fallF code).length ≤ 15 := by
  have h := fateP_in (code.take 2000) 0 ⟨by omega, by omega, take2000 code⟩
  exact ⟨(drawDisk_all (code.take 2000) _ ⟨by omega, by omega, take2000 code⟩).1, fateV_len _ _ ⟨by omega, by omega, take2000 code⟩⟩
@[go_sem] def ctDrawFall : Ct := ⟨false, [[some .byte]], fun args os => match args, os with
  | [.one (.isl .byte code)], [] => ⟨code.length ≤ 1048576, .tup [(fallD code).v 0, .one (.osl .int 3 0 (fallF code).length)], [], (fallD code).objs ++ [.arr .int (fallF code)]⟩
  | _, _ => no⟩
def wrP (code : List UInt8) : Int := (drawDisk (code.take 2000) 0).2
def wrD (code : List UInt8) : Dk := (drawDisk (code.take 2000) 0).1
def wrS (code : List UInt8) : Int := ET.int.at [0, 0, 1, 1, -1, 2] (pickV (code.take 2000) (wrP code) 6).toNat
def wrA (code : List UInt8) : Int := pickV (code.take 2000) (wrP code + 1) 8 - 1
def wrT (code : List UInt8) : ByteArray := if pickV (code.take 2000) (wrP code + 2) 20 = 0 then many ⟨#[120]⟩ (420 + pickV (code.take 2000) (wrP code + 3) 2).toNat else textV (code.take 2000) (wrP code + 3)
theorem wr_all (code : List UInt8) : ((wrD code).a.length ≤ 7 ∧ (wrD code).b.length ≤ 7 ∧ (wrD code).l.length ≤ 14) ∧ 0 ≤ wrP code ∧ wrP code ≤ 503 ∧ (wrT code).size ≤ 421 := by
  obtain ⟨h1, h2, h3⟩ := drawDisk_all (code.take 2000) 0 ⟨by omega, by omega, take2000 code⟩
  have h2' : 0 ≤ wrP code := h2
  have h3' : wrP code ≤ 0 + 503 := h3
  refine ⟨h1, h2', by omega, ?_⟩
  unfold wrT
  split
  · have := pickV_in (code.take 2000) (wrP code + 3) 2 (by omega) (by omega) (by omega)
    rw [many_size _ _ (by omega)]
    show _ * 1 ≤ _
    omega
  · have := textV_size (code.take 2000) (wrP code + 3) ⟨by omega, by omega, take2000 code⟩
    omega
@[go_sem] def ctDrawWrite : Ct := ⟨false, [[some .byte]], fun args os => match args, os with
  | [.one (.isl .byte code)], [] => ⟨code.length ≤ 1048576, .tup [(wrD code).v 0, vi (wrS code), vi (wrA code), vs (wrT code)], [], (wrD code).objs⟩
  | _, _ => no⟩
end Go.Proofs.YtmnbgppmfbnamaaGreatDoor
/- Functions: a block that is drawn to be written. -/
namespace Go.Proofs.YtmnbgppmfbnamaaGreatDoor
open Go.RowKit

def bwP (code : List UInt8) : Int := (blkDisk (code.take 2000) 0).2
def bwD (code : List UInt8) : Dk := (blkDisk (code.take 2000) 0).1
def bwA (code : List UInt8) : Int := pickV (code.take 2000) (bwP code) 8 - 1
def bwT (code : List UInt8) : ByteArray := textV (code.take 2000) (bwP code + 1)
theorem bw_all (code : List UInt8) : ((bwD code).a.length ≤ 6 ∧ (bwD code).b.length ≤ 6 ∧ (bwD code).l.length ≤ 12) ∧ 0 ≤ bwP code ∧ bwP code ≤ 30 ∧ (bwT code).size ≤ 421 ∧ -1 ≤ bwA code ∧ bwA code ≤ 6 := by
  obtain ⟨-, ⟨h1, h2, h3⟩, h4, h5⟩ := blkDisk_all (code.take 2000) 0 ⟨by omega, by omega, take2000 code⟩
  have e : bwP code = (l3c (code.take 2000) 0).2 + 1 := rfl
  have hp := pickV_in (code.take 2000) (bwP code) 8 (by omega) (by omega) (by omega)
  have ht := textV_size (code.take 2000) (bwP code + 1) ⟨by omega, by omega, take2000 code⟩
  refine ⟨?_, by omega, by omega, by unfold bwT; omega, by unfold bwA; omega, by unfold bwA; omega⟩
  unfold bwD blkDisk
  split
  · exact ⟨Nat.zero_le _, h2, h3⟩
  · exact ⟨h1, h2, h3⟩
@[go_sem] def ctDrawBlk : Ct := ⟨false, [[some .byte]], fun args os => match args, os with
  | [.one (.isl .byte code)], [] => ⟨code.length ≤ 1048576, .tup [(bwD code).v 0, vi (bwA code), vs (bwT code)], [], (bwD code).objs⟩
  | _, _ => no⟩
end Go.Proofs.YtmnbgppmfbnamaaGreatDoor
/- Functions: a disk and a pointer that are drawn. -/
namespace Go.Proofs.YtmnbgppmfbnamaaGreatDoor
open Go.RowKit

theorem ptrOk_real' {p : Ptr} (h : realB p = true) : 1 ≤ p.at_ ∧ ptrOkB p = true := by
  have h2 := h
  unfold realB ptrOkB at h
  unfold realB at h2
  rw [Bool.and_eq_true] at h2
  simp only [Bool.and_eq_true, Bool.or_eq_true, decide_eq_true_eq, Bool.not_eq_true', beq_eq_false_iff_ne, ne_eq] at h
  exact ⟨by omega, h2.1⟩
theorem s_specBlkTo_e : EnterOk Tryz.prog 297 := ⟨_, Tryz.func297, rfl, by decide⟩
@[go_sem] def s_specBlkTo_lv : List (List Nat) := [[0, 1, 2, 6], [0, 6, 7], [6, 7, 19], [6], [6]]
@[go_sem] noncomputable def s_specBlkTo_K : Known := ((Known.nil).cons 135 ctSumOf s_specSum s_specSum_e).cons 158 ctPtrOk s_specPtrOk s_specPtrOk_e
set_option maxHeartbeats 8000000 in
theorem s_specBlkTo : Sound Tryz.prog 297 ctBlkTo := by
  have ke := s_specBlkTo_K.env []
  have kl : Lives s_specBlkTo_lv := trivial
  refine sound_intro (E := ⟨ti, s_specBlkTo_K.Γ, []⟩) ke Tryz.func297 Tryz.ntmps297 rfl (rs := [.cell 6 187]) rfl ?_
  intro args os hp
  unfold ctBlkTo at hp ⊢
  dsimp only at hp ⊢
  split at hp
  · rename_i a t b
    refine ⟨by simp, fun φ0 w0 => ?_⟩
    have hlen : t.size ≤ 1000000000 := hp
    clear hp
    have nt : (!true) = false := rfl
    have nf : (!false) = true := rfl
    have e : blkTo a t b = if 1 ≤ a ∧ ptrOkB ⟨a, (sumOf t : Nat), b⟩ = true then ⟨a, (sumOf t : Nat), b⟩ else ptr0 := by
      unfold blkTo
      by_cases h : realB ⟨a, (sumOf t : Nat), b⟩ = true
      · rw [if_pos h, if_pos]
        have := ptrOk_real' h
        exact this
      · rw [if_neg h, if_neg]
        rintro ⟨h1, h2⟩
        apply h
        unfold realB
        rw [h2]
        simp only [Bool.true_and, Bool.not_eq_true', beq_eq_false_iff_ne, ne_eq]
        omega
    by_cases ha : 1 ≤ a
    · have c : decide (a < 1) = false := by simp; omega
      cases hk : ptrOkB ⟨a, (sumOf t : Nat), b⟩ with
      | true =>
        rw [if_pos ⟨ha, hk⟩] at e
        refine goh (And.intro c (And.intro hk nt)) ?_
        refine W_cnd ?_ ?_ <;> intro hlit <;> try (cases hlit; done)
        refine goh trivial ?_
        exact finh [] e
      | false =>
        rw [if_neg (fun h => by rw [hk] at h; cases h.2)] at e
        refine goh (And.intro c (And.intro hk nf)) ?_
        refine W_cnd ?_ ?_ <;> intro hlit <;> try (cases hlit; done)
        refine goh trivial ?_
        refine ⟨by (simp only [go_sem, e, ptr0, ↓reduceIte, reduceCtorEq, Nat.reduceAdd, Nat.reduceLT, Nat.reduceLeDiff, Nat.reduceEqDiff]) <;> trivial, [], ?_⟩
        all_goals try simp only [go_sem, e, ptr0, inj_r, ↓reduceIte, reduceCtorEq, Nat.reduceAdd, Nat.reduceLT, Nat.reduceLeDiff, Nat.reduceEqDiff, Int.reduceEq]
        all_goals (repeat' refine And.intro ?_ ?_) <;> try exact shut7
    · have c : decide (a < 1) = true := by simp; omega
      rw [if_neg (fun h => ha h.1)] at e
      refine goh c ?_
      refine W_cnd ?_ ?_ <;> intro hlit <;> try (cases hlit; done)
      refine goh trivial ?_
      refine ⟨by (simp only [go_sem, e, ptr0, ↓reduceIte, reduceCtorEq, Nat.reduceAdd, Nat.reduceLT, Nat.reduceLeDiff, Nat.reduceEqDiff]) <;> trivial, [], ?_⟩
      all_goals try simp only [go_sem, e, ptr0, inj_r, ↓reduceIte, reduceCtorEq, Nat.reduceAdd, Nat.reduceLT, Nat.reduceLeDiff, Nat.reduceEqDiff, Int.reduceEq]
      all_goals (repeat' refine And.intro ?_ ?_) <;> try exact shut7
  · simp [no, ifp] at hp
def ptr1 (bs : List UInt8) (d : Dk) (p : Int) : Ptr := blkTo (pickV bs p 7) (dkRead d (pickV bs (p + 1) 2) (pickV bs p 7)) (pickV bs (p + 2) 9)
/-- A pointer that is drawn, and where the reader goes on. -/
def ptrD (bs : List UInt8) (d : Dk) (p : Int) : Ptr × Int :=
  if pickV bs (p + 3) 12 = 0 then (⟨(ptr1 bs d p).at_, IntKind.i64.wrap ((ptr1 bs d p).sum + ET.int.at [1, -1, 65521] (pickV bs (p + 4) 3).toNat), (ptr1 bs d p).birth⟩, p + 5)
  else if pickV bs (p + 3) 12 = 1 then (⟨ET.int.at [0, 119, 120, -1] (pickV bs (p + 4) 4).toNat, (ptr1 bs d p).sum, (ptr1 bs d p).birth⟩, p + 5)
  else if pickV bs (p + 3) 12 = 2 then (⟨(ptr1 bs d p).at_, (ptr1 bs d p).sum, ET.int.at [-1, 1000000, 1000001] (pickV bs (p + 4) 3).toNat⟩, p + 5)
  else if pickV bs (p + 3) 12 = 3 then (ptr0, p + 4) else (ptr1 bs d p, p + 4)
@[go_sem] def ctPtrD : Ct := ⟨true, [], fun args os => match args, os with
  | [.one (.ptr 0 0), .agg [.osl .str 1 0 na, .osl .str 2 0 nb, .osl .late 3 0 nl]], [.cells [.isl .byte bs, .val (.int .i64 p)], .arr .str a, .arr .str b, .arr .late l] => ⟨(0 ≤ p ∧ p ≤ 1000 ∧ bs.length ≤ 2000) ∧ (na = a.length ∧ nb = b.length ∧ nl = l.length) ∧ (Dk.mk a b l).small, (ptrD bs ⟨a, b, l⟩ p).1.tv, [(0, some (rdO bs (ptrD bs ⟨a, b, l⟩ p).2))], []⟩
  | _, _ => no⟩
def hdP (code : List UInt8) : Ptr := (ptrD (code.take 2000) (bwD code) (bwP code)).1
@[go_sem] def ctDrawHeal : Ct := ⟨false, [[some .byte]], fun args os => match args, os with
  | [.one (.isl .byte code)], [] => ⟨code.length ≤ 1048576, .tup [(bwD code).v 0, (hdP code).tv], [], (bwD code).objs⟩
  | _, _ => no⟩
end Go.Proofs.YtmnbgppmfbnamaaGreatDoor
/- Functions: texts of commits. -/
namespace Go.Proofs.YtmnbgppmfbnamaaGreatDoor
open Go.RowKit

@[go_sem] noncomputable def ctUber : Ct := ⟨false, [], fun args os => match args, os with
  | [.one (.val (.int .i64 k)), .agg [.val (.int .i64 a), .val (.int .i64 s), .val (.int .i64 b)]], [] => is (vs (uberT k ⟨a, s, b⟩))
  | _, _ => no⟩
theorem uber_yes {k : Int} {r : Ptr} (h1 : 1 ≤ k) (h2 : k ≤ 1000000) (h3 : realB r = true) : uberOk k r := ⟨h1, h2, h3⟩
theorem uber_no {k : Int} {r : Ptr} (h : ¬ uberOk k r) : uberT k r = ⟨#[]⟩ := by unfold uberT; rw [if_neg h]
theorem s_uber_e : EnterOk Tryz.prog 241 := ⟨_, Tryz.func241, rfl, by decide⟩
@[go_sem] def s_uber_lv : List (List Nat) := [[0, 3], [0, 3, 13], [4], [3, 5], [4]]
@[go_sem] noncomputable def s_uber_K : Known := (((((Known.nil).cons 46 ctWithin s_within s_within_e).cons 171 ctReal s_isReal s_isReal_e).cons 53 ctItoa s_itoa s_itoa_e).cons 280 ctPtrText s_ptrText s_ptrText_e).cons 51 ctSeal s_seal s_seal_e
set_option maxHeartbeats 8000000 in
theorem s_uber : Sound Tryz.prog 241 ctUber := by
  have ke := s_uber_K.env []
  have kl : Lives s_uber_lv := trivial
  refine sound_intro (E := ⟨ti, s_uber_K.Γ, []⟩) ke Tryz.func241 Tryz.ntmps241 rfl (rs := [.tmp 4]) rfl ?_
  intro args os hp
  unfold ctUber at hp ⊢
  dsimp only at hp ⊢
  split at hp
  · rename_i k a s b
    refine ⟨by simp, fun φ0 w0 => ?_⟩
    clear hp
    have nt : (!true) = false := rfl
    have nf : (!false) = true := rfl
    by_cases hk : 1 ≤ k ∧ k ≤ 1000000
    · have c1 : decide (1 ≤ k) = true := by simp [hk.1]
      have c2 : decide (k ≤ 1000000) = true := by simp [hk.2]
      cases hr : realB ⟨a, s, b⟩ with
      | false =>
        have e := uber_no (k := k) (r := ⟨a, s, b⟩) (fun h => by have := h.2.2; rw [hr] at this; cases this)
        repeat' first
          | with_reducible refine red ?_
          | refine W_seq ?_
          | (refine W_reg (s_uber_K.env []) s_uber_lv fun K' hK' => ?_
             simp only [go_sem, c1, c2, hr, nt, nf, Bool.and_self, ↓reduceIte, ↓reduceDIte, reduceCtorEq, Nat.reduceAdd, Nat.reduceMul, Nat.reduceSub, Nat.reduceDiv, Nat.reduceMod, Nat.reduceLT, Nat.reduceLeDiff, Nat.reduceEqDiff, Nat.reduceBEq, Int.reduceToNat, Int.reduceLE, Int.reduceLT, Int.reduceEq, Int.reduceNe, Int.reduceNeg]
             (repeat' refine And.intro ?_ ?_) <;> try first | with_reducible refine hK' ?_ | exact shut6)
          | with_reducible refine blockG_o (by decide) ?_
        refine W_cnd ?_ ?_ <;> intro hlit <;> try (cases hlit; done)
        refine goh trivial ?_
        exact finh [] e
      | true =>
        have hok : uberOk k ⟨a, s, b⟩ := ⟨hk.1, hk.2, hr⟩
        have e : uberT k ⟨a, s, b⟩ = sealV (decS k ++ ⟨#[32]⟩ ++ ptrT ⟨a, s, b⟩ ++ ⟨#[32]⟩ ++ decS k) := by unfold uberT; rw [if_pos hok]; rfl
        have h1 := decS_size (n := k) (by omega) (by omega)
        have h2 := ptrT_size ⟨a, s, b⟩
        have h3 : (⟨#[32]⟩ : ByteArray).size = 1 := rfl
        obtain ⟨k1, k2⟩ := hk
        repeat' first
          | with_reducible refine red ?_
          | refine W_seq ?_
          | (refine W_reg (s_uber_K.env []) s_uber_lv fun K' hK' => ?_
             simp only [go_sem, c1, c2, hr, nt, nf, Bool.and_self, ↓reduceIte, ↓reduceDIte, reduceCtorEq, Nat.reduceAdd, Nat.reduceMul, Nat.reduceSub, Nat.reduceDiv, Nat.reduceMod, Nat.reduceLT, Nat.reduceLeDiff, Nat.reduceEqDiff, Nat.reduceBEq, Int.reduceToNat, Int.reduceLE, Int.reduceLT, Int.reduceEq, Int.reduceNe, Int.reduceNeg]
             (repeat' refine And.intro ?_ ?_) <;> try first | with_reducible refine hK' ?_ | exact shut6)
          | with_reducible refine blockG_o (by decide) ?_
        refine W_cnd ?_ ?_ <;> intro hlit <;> try (cases hlit; done)
        refine goh trivial ?_
        exact finh [] e
    · have e := uber_no (k := k) (r := ⟨a, s, b⟩) (fun h => hk ⟨h.1, h.2.1⟩)
      have c : (decide (1 ≤ k) && decide (k ≤ 1000000)) = false := by
        rw [Bool.and_eq_false_iff, decide_eq_false_iff_not, decide_eq_false_iff_not]; omega
      refine goh (And.intro c nf) ?_
      refine W_cnd ?_ ?_ <;> intro hlit <;> try (cases hlit; done)
      refine goh trivial ?_
      exact finh [] e
  · exact hp.elim
theorem s_specUber_e : EnterOk Tryz.prog 272 := ⟨_, Tryz.func272, rfl, by decide⟩
@[go_sem] def s_specUber_lv : List (List Nat) := [[0, 3], [0, 3, 20], [4], [4]]
@[go_sem] noncomputable def s_specUber_K : Known := ((((Known.nil).cons 158 ctPtrOk s_specPtrOk s_specPtrOk_e).cons 61 ctDecV s_dec2 s_dec2_e).cons 298 ctPtrText s_specPtrText s_specPtrText_e).cons 62 ctSeal s_specSeal s_specSeal_e
set_option maxHeartbeats 8000000 in
theorem s_specUber : Sound Tryz.prog 272 ctUber := by
  have ke := s_specUber_K.env []
  have kl : Lives s_specUber_lv := trivial
  refine sound_intro (E := ⟨ti, s_specUber_K.Γ, []⟩) ke Tryz.func272 Tryz.ntmps272 rfl (rs := [.tmp 4]) rfl ?_
  intro args os hp
  unfold ctUber at hp ⊢
  dsimp only at hp ⊢
  split at hp
  · rename_i k a s b
    refine ⟨by simp, fun φ0 w0 => ?_⟩
    clear hp
    have nt : (!true) = false := rfl
    have nf : (!false) = true := rfl
    by_cases hk : 1 ≤ k ∧ k ≤ 1000000
    · have c1 : decide (k < 1) = false := by simp; omega
      have c2 : decide (k > 1000000) = false := by simp; omega
      cases hr : ptrOkB ⟨a, s, b⟩ with
      | false =>
        have e := uber_no (k := k) (r := ⟨a, s, b⟩) (fun h => by have := (ptrOk_real h.2.2).1; rw [hr] at this; cases this)
        refine goh (And.intro c1 (And.intro c2 (And.intro hr (And.intro nt nf)))) ?_
        refine W_cnd ?_ ?_ <;> intro hlit <;> try (cases hlit; done)
        refine goh trivial ?_
        exact finh [] e
      | true =>
        by_cases ha : a = 0
        · have c3 : (a == 0) = true := by simp [ha]
          have e := uber_no (k := k) (r := ⟨a, s, b⟩) (fun h => (ptrOk_real h.2.2).2.1 ha)
          refine goh (And.intro c1 (And.intro c2 (And.intro hr (And.intro c3 (And.intro nt nf))))) ?_
          refine W_cnd ?_ ?_ <;> intro hlit <;> try (cases hlit; done)
          refine goh trivial ?_
          exact finh [] e
        · have c3 : (a == 0) = false := by simp [ha]
          have hok : uberOk k ⟨a, s, b⟩ := ⟨hk.1, hk.2, by unfold realB; rw [hr]; simpa using ha⟩
          have e : uberT k ⟨a, s, b⟩ = sealV (decS k ++ ⟨#[32]⟩ ++ ptrT ⟨a, s, b⟩ ++ ⟨#[32]⟩ ++ decS k) := by unfold uberT; rw [if_pos hok]; rfl
          have h1 := decS_size (n := k) (by omega) (by omega)
          have h2 := ptrT_size ⟨a, s, b⟩
          have h3 : (⟨#[32]⟩ : ByteArray).size = 1 := rfl
          obtain ⟨k1, k2⟩ := hk
          refine goh (And.intro c1 (And.intro c2 (And.intro hr (And.intro c3 (And.intro nt nf))))) ?_
          refine W_cnd ?_ ?_ <;> intro hlit <;> try (cases hlit; done)
          refine goh trivial ?_
          exact finh [] e
    · have e := uber_no (k := k) (r := ⟨a, s, b⟩) (fun h => hk ⟨h.1, h.2.1⟩)
      by_cases h1 : k < 1
      · have c1 : decide (k < 1) = true := by simp [h1]
        refine goh c1 ?_
        refine W_cnd ?_ ?_ <;> intro hlit <;> try (cases hlit; done)
        refine goh trivial ?_
        exact finh [] e
      · have c1 : decide (k < 1) = false := by simp; omega
        have c2 : decide (k > 1000000) = true := by simp; omega
        refine goh (And.intro c1 c2) ?_
        refine W_cnd ?_ ?_ <;> intro hlit <;> try (cases hlit; done)
        refine goh trivial ?_
        exact finh [] e
  · exact hp.elim
theorem cutV_size (c : UInt8) (s : ByteArray) : (cutV c s).2.1.size ≤ s.size := by
  unfold cutV Lib.cut bytesL
  split
  · show (List.drop _ s.data.toList).toArray.size ≤ s.data.size
    simp
  · exact Nat.zero_le _
theorem openV_size (s : ByteArray) : (openV s).1.size ≤ s.size := by
  unfold openV
  split
  · exact cutV_size 58 s
  · exact Nat.zero_le _
@[go_sem] noncomputable def ctUberRead : Ct := ⟨false, [], fun args os => match args, os with
  | [.one (.val (.string t))], [] => ifp (t.size ≤ 1000000) (match uberP t with | some (k, p) => .tup [vi k, .agg [.val (.int .i64 p.at_), .val (.int .i64 p.sum), .val (.int .i64 p.birth)], vb true] | none => .tup [vi 0, .agg [.val (.int .i64 0), .val (.int .i64 0), .val (.int .i64 0)], vb false])
  | _, _ => no⟩
end Go.Proofs.YtmnbgppmfbnamaaGreatDoor
/- Functions: the reference reads. -/
namespace Go.Proofs.YtmnbgppmfbnamaaGreatDoor
open Go.RowKit

theorem byte_eq (a : UInt8) {c : Int} (h0 : 0 ≤ c) (h1 : c ≤ 255) : ((a.toNat : Int) = c) ↔ a = UInt8.ofNat c.toNat := by
  constructor
  · intro h
    apply UInt8.toNat_inj.1
    rw [ofNat_u8 (by omega)]; omega
  · rintro rfl
    rw [ofNat_u8 (by omega)]; omega
@[go_sem] def ctFind : Ct := ⟨false, [], fun args os => match args, os with
  | [.one (.val (.string s)), .one (.val (.int .u8 c))], [] => ifp (s.size ≤ 1000000 ∧ 0 ≤ c ∧ c ≤ 255) (vi (findV (UInt8.ofNat c.toNat) s))
  | _, _ => no⟩
theorem s_find_e : EnterOk Tryz.prog 136 := ⟨_, Tryz.func136, rfl, by decide⟩
@[go_sem] def s_find_lv : List (List Nat) := [[0, 1], [0, 1, 5], [0, 1, 5, 9], [0, 1, 5], [0, 1, 5, 16], [4], [4]]
@[go_sem] noncomputable def s_find_K : Known := Known.nil
set_option maxHeartbeats 8000000 in
theorem s_find : Sound Tryz.prog 136 ctFind := by
  have ke := s_find_K.env []
  have kl : Lives s_find_lv := trivial
  refine sound_intro (E := ⟨ti, s_find_K.Γ, []⟩) ke Tryz.func136 Tryz.ntmps136 rfl (rs := [.tmp 4]) rfl ?_
  intro args os hp
  unfold ctFind at hp ⊢
  dsimp only at hp ⊢
  split at hp
  · rename_i s c
    obtain ⟨hlen, c0, c1⟩ : s.size ≤ 1000000 ∧ 0 ≤ c ∧ c ≤ 255 := hp
    refine ⟨by simp, fun φ0 w0 => ?_⟩
    have hll : s.data.toList.length = s.size := rfl
    refine goh trivial ?_
    refine W_for s.size (fun i => UInt8.ofNat c.toNat ∉ s.data.toList.take i) (fun i => ⟨[(0, vs s), (1, .one (.val (.int .u8 c))), (5, vi i)], [], []⟩) [] (leh trivial) (by simp) fun i hi hI => ?_
    refine goh trivial ?_
    refine W_cnd ?_ ?_ <;> (try simp only [cnd_r]) <;> intro hlt
    · have hil : i < s.data.toList.length := by omega
      have hg := getD_list s hil
      refine goh trivial ?_
      refine W_cnd ?_ ?_ <;> (try simp only [cnd_r]) <;> intro hc
      · have hb := (byte_eq (s.data.getD i 0) c0 c1).1 hc
        rw [hg] at hb
        have e := (find_at hil hI hb).1
        refine goh trivial ?_
        exact finh [] e
      · simp only [beq_eq_false_iff_ne, ne_eq] at hc
        have hb : ¬ s.data.getD i 0 = UInt8.ofNat c.toNat := fun h => hc ((byte_eq _ c0 c1).2 h)
        rw [hg] at hb
        refine goh trivial ?_
        refine ⟨[], by omega, leh trivial, ?_⟩
        rw [List.take_succ_eq_append_getElem hil, List.mem_append, List.mem_singleton]
        rintro (h | h)
        · exact hI h
        · exact hb h.symm
    · have hI2 : UInt8.ofNat c.toNat ∉ s.data.toList := by
        rw [List.take_of_length_le (by omega)] at hI; exact hI
      have e := find_not hI2
      refine goh trivial ?_
      exact finh [] e
  · simp [no, ifp] at hp
@[go_sem] def ctCutB : Ct := ⟨false, [], fun args os => match args, os with
  | [.one (.val (.string s)), .one (.val (.int .u8 c))], [] => ⟨s.size ≤ 1000000 ∧ 0 ≤ c ∧ c ≤ 255, .one (.osl .str 0 0 (splitV (UInt8.ofNat c.toNat) s).length), [], [.arr .str (splitV (UInt8.ofNat c.toNat) s)]⟩
  | _, _ => no⟩
theorem s_cutB_e : EnterOk Tryz.prog 65 := ⟨_, Tryz.func65, rfl, by decide⟩
@[go_sem] def s_cutB_lv : List (List Nat) := [[0, 1], [0, 1, 5], [0, 1, 5, 6], [0, 1, 5, 6, 7], [0, 1, 5, 6, 7, 12], [0, 1, 5, 6, 7], [0, 1, 5, 6, 7, 25], [0, 1, 5, 7], [0, 1, 5, 6, 7], [4]]
@[go_sem] noncomputable def s_cutB_K : Known := Known.nil
set_option maxHeartbeats 8000000 in
theorem s_cutB : Sound Tryz.prog 65 ctCutB := by
  have ke := s_cutB_K.env []
  have kl : Lives s_cutB_lv := trivial
  refine sound_intro (E := ⟨ti, s_cutB_K.Γ, []⟩) ke Tryz.func65 Tryz.ntmps65 rfl (rs := [.tmp 4]) rfl ?_
  intro args os hp
  unfold ctCutB at hp ⊢
  dsimp only at hp ⊢
  split at hp
  · rename_i s c
    obtain ⟨hlen, c0, c1⟩ : s.size ≤ 1000000 ∧ 0 ≤ c ∧ c ≤ 255 := hp
    refine ⟨by simp, fun φ0 w0 => ?_⟩
    have hll : s.data.toList.length = s.size := rfl
    obtain ⟨b, hb⟩ : ∃ b, UInt8.ofNat c.toNat = b := ⟨_, rfl⟩
    rw [hb]
    have hsl := splitV_len b s
    refine goh trivial ?_
    refine W_le (σ' := ⟨[(0, vs s), (1, .one (.val (.int .u8 c))), (5, .one (.osl .str 0 0 ([] : List ByteArray).length)), (6, vi (0 : Nat)), (7, vi (0 : Nat))], [some (.arr .str ([] : List ByteArray))], []⟩) [some 0] (leh (show (((0 : Nat) : Int)) = 0 from rfl)) ?_
    refine W_loop (fun q σ => ∃ (i f : Nat) (out : List ByteArray), q = s.size + 1 - i ∧ i ≤ s.size + 1 ∧ out.length ≤ i ∧ (i ≤ s.size → f ≤ i ∧ b ∉ (s.data.toList.drop f).take (i - f) ∧ out ++ (cutL b (s.data.toList.drop f)).map bytesL = splitV b s) ∧ (i = s.size + 1 → out = splitV b s) ∧ σ = ⟨[(0, vs s), (1, .one (.val (.int .u8 c))), (5, .one (.osl .str 0 0 out.length)), (6, vi f), (7, vi i)], [some (.arr .str out)], []⟩) (s.size + 1) ⟨0, 0, [], rfl, by omega, by simp, fun _ => ⟨Nat.le_refl _, by simp, by simp [splitV]⟩, fun h => by omega, rfl⟩ ?_
    rintro q σ ⟨i, f, out, rfl, hi, hol, hI, hE, rfl⟩
    refine goh trivial ?_
    refine W_cnd ?_ ?_ <;> (try simp only [cnd_r]) <;> intro hlt
    · have hi2 : i ≤ s.size := by omega
      obtain ⟨hf, hn, ho⟩ := hI hi2
      have hex := extract_list s f i
      by_cases hz : i = s.size
      · have cz : ((i : Int) == (s.size : Int)) = true := by simp [hz]
        have hnn : b ∉ s.data.toList.drop f := by
          rw [List.take_of_length_le (by rw [List.length_drop]; omega)] at hn; exact hn
        have ho2 : out ++ [s.extract f i] = splitV b s := by
          rw [cut_none _ _ hnn] at ho
          rw [hex, List.take_of_length_le (by rw [List.length_drop]; omega)]; exact ho
        refine goh cz ?_
        refine W_cnd ?_ ?_ <;> intro hlit <;> try (cases hlit; done)
        refine goh trivial ?_
        refine ⟨s.size + 1 - (i + 1), [some 2], ⟨[(0, vs s), (1, .one (.val (.int .u8 c))), (5, .one (.osl .str 0 0 (out ++ [s.extract f i]).length)), (6, vi (i + 1 : Nat)), (7, vi (i + 1 : Nat))], [some (.arr .str (out ++ [s.extract f i]))], []⟩, by omega, leh trivial, i + 1, i + 1, _, rfl, by omega, ?_, fun h => by omega, fun _ => ho2, rfl⟩
        rw [List.length_append]; simp only [List.length_cons, List.length_nil]; omega
      · have cz : ((i : Int) == (s.size : Int)) = false := by simp; omega
        have hil : i < s.data.toList.length := by omega
        have hg := getD_list s hil
        by_cases hc : s.data.getD i 0 = b
        · have cc : (((s.data.getD i 0).toNat : Int) == c) = true := by
            rw [beq_iff_eq]; exact (byte_eq _ c0 c1).2 (hc.trans hb.symm)
          rw [hg] at hc
          have hd := drop_at hil hf
          rw [hc] at hd
          have ho2 : out ++ [s.extract f i] ++ (cutL b (s.data.toList.drop (i + 1))).map bytesL = splitV b s := by
            rw [hd, cut_app _ _ _ hn] at ho
            rw [← ho, hex, List.append_assoc]; rfl
          refine goh (And.intro cz cc) ?_
          refine W_cnd ?_ ?_ <;> intro hlit <;> try (cases hlit; done)
          refine goh trivial ?_
          refine ⟨s.size + 1 - (i + 1), [some 2], ⟨[(0, vs s), (1, .one (.val (.int .u8 c))), (5, .one (.osl .str 0 0 (out ++ [s.extract f i]).length)), (6, vi (i + 1 : Nat)), (7, vi (i + 1 : Nat))], [some (.arr .str (out ++ [s.extract f i]))], []⟩, by omega, leh trivial, i + 1, i + 1, _, rfl, by omega, ?_, fun _ => ⟨Nat.le_refl _, by simp, ho2⟩, fun h => by omega, rfl⟩
          rw [List.length_append]; simp only [List.length_cons, List.length_nil]; omega
        · have cc : (((s.data.getD i 0).toNat : Int) == c) = false := by
            rw [beq_eq_false_iff_ne]; exact fun h => hc (((byte_eq _ c0 c1).1 h).trans hb)
          rw [hg] at hc
          have hn2 : b ∉ (s.data.toList.drop f).take (i + 1 - f) := by
            rw [take_at hil hf, List.mem_append, List.mem_singleton]
            rintro (h | h)
            · exact hn h
            · exact hc h.symm
          refine goh (And.intro cz cc) ?_
          refine W_cnd ?_ ?_ <;> intro hlit <;> try (cases hlit; done)
          refine goh trivial ?_
          exact ⟨s.size + 1 - (i + 1), [some 0], ⟨[(0, vs s), (1, .one (.val (.int .u8 c))), (5, .one (.osl .str 0 0 out.length)), (6, vi f), (7, vi (i + 1 : Nat))], [some (.arr .str out)], []⟩, by omega, leh trivial, i + 1, f, out, rfl, by omega, by omega, fun _ => ⟨by omega, hn2, ho⟩, fun h => by omega, rfl⟩
    · have hz : i = s.size + 1 := by omega
      have e := hE hz
      refine goh trivial ?_
      exact finh [some 0] e
  · simp [no] at hp
@[go_sem] noncomputable def ctSpecOpenS : Ct := ⟨false, [], fun args os => match args, os with
  | [.one (.val (.string s))], [] => ifp (s.size ≤ 1000000) (.tup [vs (openV s).1, vb (openV s).2])
  | _, _ => no⟩
theorem s_specSumOpen_e : EnterOk Tryz.prog 64 := ⟨_, Tryz.func64, rfl, by decide⟩
@[go_sem] def s_specSumOpen_lv : List (List Nat) := [[0], [0, 4], [0, 4, 17], [2, 3], [2, 3]]
@[go_sem] noncomputable def s_specSumOpen_K : Known := ((Known.nil).cons 136 ctFind s_find s_find_e).cons 62 ctSeal s_specSeal s_specSeal_e
set_option maxHeartbeats 8000000 in
theorem s_specSumOpen : Sound Tryz.prog 64 ctSpecOpenS := by
  have ke := s_specSumOpen_K.env []
  have kl : Lives s_specSumOpen_lv := trivial
  refine sound_intro (E := ⟨ti, s_specSumOpen_K.Γ, []⟩) ke Tryz.func64 Tryz.ntmps64 rfl (rs := [.tmp 2, .tmp 3]) rfl ?_
  intro args os hp
  unfold ctSpecOpenS at hp ⊢
  dsimp only at hp ⊢
  split at hp
  · rename_i s
    refine ⟨by simp, fun φ0 w0 => ?_⟩
    have hlen : s.size ≤ 1000000 := hp
    have nt : (!true) = false := rfl
    have nf : (!false) = true := rfl
    have h58 : UInt8.ofNat 58 = 58 := rfl
    by_cases hm : (58 : UInt8) ∈ s.data.toList
    · obtain ⟨i, hi, hc, hn⟩ : ∃ i, ∃ hi : i < s.data.toList.length, s.data.toList[i] = 58 ∧ (58 : UInt8) ∉ s.data.toList.take i := by
        obtain ⟨w, r, hw, hnw⟩ := List.eq_append_cons_of_mem hm
        refine ⟨w.length, by rw [hw]; simp, by simp [hw], by rw [hw]; simpa using hnw⟩
      obtain ⟨f1, f2, f3⟩ := find_at hi hn hc
      have hil : i < s.size := hi
      have e : openV s = if same (sealV (s.extract (i + 1) s.size)) s = true then (s.extract (i + 1) s.size, true) else (⟨#[]⟩, false) := by
        unfold openV
        rw [f2, f3]
        simp only [true_and]
      have hw : IntKind.i64.wrap ((i : Int) + 1) = ((i + 1 : Nat) : Int) := wrap_id _ (by omega) (by omega)
      have c : decide ((i : Int) < 0) = false := by simp
      cases hs : same (sealV (s.extract (i + 1) s.size)) s with
      | false =>
        rw [hs, if_neg (by decide)] at e
        refine goh (And.intro h58 (And.intro f1 (And.intro hw (And.intro c (And.intro hs nf))))) ?_
        refine W_cnd ?_ ?_ <;> intro hlit <;> try (cases hlit; done)
        refine goh trivial ?_
        exact finh [] e
      | true =>
        rw [hs, if_pos rfl] at e
        refine goh (And.intro h58 (And.intro f1 (And.intro hw (And.intro c (And.intro hs nt))))) ?_
        refine W_cnd ?_ ?_ <;> intro hlit <;> try (cases hlit; done)
        refine goh hw ?_
        exact finh [] e
    · have f1 := find_not hm
      have e : openV s = (⟨#[]⟩, false) := by
        unfold openV
        rw [cutV_not hm, if_neg (by rintro ⟨h, -⟩; cases h)]
      refine goh (And.intro h58 f1) ?_
      refine W_cnd ?_ ?_ <;> intro hlit <;> try (cases hlit; done)
      refine goh trivial ?_
      exact finh [] e
  · simp [no, ifp] at hp
end Go.Proofs.YtmnbgppmfbnamaaGreatDoor
