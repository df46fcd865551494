import Derived.Lib.ItoaNum
import Derived.Lib.AtoiAll
import Derived.Lib.AtoiTie
import Derived.Lib.SplitLaws
import Derived.Lib.Join
import Derived.Test.YtjedcphhajlnoaaGreatDoorProg
import Derived.WalkKit
import Derived.Ground.NamesProg
import Derived.Shelf.Strings.SplitShaped
import Derived.Shelf.Strings.Shaped
import Derived.Shelf.Strings.OnBuilder
import Derived.Shelf.Strconv.ErrVarAll
import Derived.Test.YtjedcphhajlnoaaGreatDoorM8
import Derived.Test.YtjedcphhajlnoaaGreatDoorM9
import Derived.Test.YtjedcphhajlnoaaGreatDoorM12
set_option linter.unusedSimpArgs false
set_option linter.unusedVariables false
set_option linter.unusedSectionVars false
/- Functions: the digits of bytes, sealed texts. -/
namespace Go.Proofs.YtjedcphhajlnoaaGreatDoor
open Go.RowKit

def hexs : ByteArray := ⟨#[48, 49, 50, 51, 52, 53, 54, 55, 56, 57, 97, 98, 99, 100, 101, 102]⟩
def hexd (k : Nat) : UInt8 := hexs.data.getD k 0
def hexN (s : ByteArray) : Nat → List UInt8
  | 0 => []
  | i + 1 => hexN s i ++ [hexd ((s.data.getD i 0).toNat / 16), hexd ((s.data.getD i 0).toNat % 16)]
theorem hexN_len (s : ByteArray) : ∀ i, (hexN s i).length = 2 * i
  | 0 => rfl
  | i + 1 => by unfold hexN; rw [List.length_append, hexN_len s i]; simp only [List.length_cons, List.length_nil]; omega
def hexV (s : ByteArray) : ByteArray := ⟨(hexN s s.size).toArray⟩
theorem nib_hi (b : UInt8) : ((b.toNat : Int)).fdiv (2 ^ min 4 8) = ((b.toNat / 16 : Nat) : Int) := by
  rw [Int.fdiv_eq_ediv_of_nonneg _ (by decide)]
  show (b.toNat : Int) / 16 = _
  omega
theorem nib_lo (b : UInt8) : IntKind.u8.wrap (andZ .u8 b.toNat 15) = ((b.toNat % 16 : Nat) : Int) := by
  have h : ∀ k : Fin 256, IntKind.u8.wrap (andZ .u8 ((k.val : Nat) : Int) 15) = ((k.val % 16 : Nat) : Int) := by decide +kernel
  exact h ⟨b.toNat, b.toNat_lt⟩
theorem hexd_at (k : Nat) : (#[48, 49, 50, 51, 52, 53, 54, 55, 56, 57, 97, 98, 99, 100, 101, 102] : Array UInt8).getD k 0 = hexd k := rfl
@[go_sem] def ctHex : Ct := ⟨false, [], fun args os => match args, os with
  | [.one (.val (.string s))], [] => ifp (s.size ≤ 1000000000) (vs (hexV s))
  | _, _ => no⟩
theorem s_hex_e : EnterOk Tryz.prog 128 := ⟨_, Tryz.func128, rfl, by decide⟩
@[go_sem] def s_hex_lv : List (List Nat) := [[0], [0, 3], [0, 3, 6, 7], [0, 3, 6, 7, 8], [0, 3, 4, 6, 7], [0, 3, 6, 7], [0, 3, 6, 7], [2]]
@[go_sem] noncomputable def s_hex_K : Known := Known.nil
set_option maxHeartbeats 8000000 in
theorem s_hex : Sound Tryz.prog 128 ctHex := by
  have ke := s_hex_K.env []
  have kl : Lives s_hex_lv := trivial
  refine sound_intro (E := ⟨ti, s_hex_K.Γ, []⟩) ke Tryz.func128 Tryz.ntmps128 rfl (rs := [.tmp 2]) rfl ?_
  intro args os hp
  unfold ctHex at hp ⊢
  dsimp only at hp ⊢
  split at hp
  · rename_i s
    have hlen : s.size ≤ 1000000000 := hp
    refine ⟨by simp, fun φ0 w0 => ?_⟩
    refine goh trivial ?_
    refine W_for s.size (fun i => True) (fun i => ⟨[(0, vs s), (3, .one (.osl .byte 0 0 (hexN s i).length)), (6, vi s.size), (7, vi i)], [some (.arr .byte (hexN s i))], []⟩) [none] (leh trivial) trivial fun i hi _ => ?_
    have hl := hexN_len s i
    refine goh trivial ?_
    refine W_cnd ?_ ?_ <;> (try simp only [cnd_r]) <;> intro hlt
    · have h1 := nib_hi (s.data.getD i 0)
      have h2 := nib_lo (s.data.getD i 0)
      have hb := (s.data.getD i 0).toNat_lt
      have hs : hexN s (i + 1) = hexN s i ++ [hexd ((s.data.getD i 0).toNat / 16), hexd ((s.data.getD i 0).toNat % 16)] := rfl
      have hda : ∀ k : Nat, (#[48, 49, 50, 51, 52, 53, 54, 55, 56, 57, 97, 98, 99, 100, 101, 102] : Array UInt8).getD k 0 = hexd k := hexd_at
      have hof : ∀ x : UInt8, UInt8.ofNat x.toNat = x := fun x => UInt8.ofNat_toNat
      refine goh (And.intro h1 (And.intro h2 (And.intro hda hof))) ?_
      exact ⟨[some 2], by omega, leh hs, trivial⟩
    · obtain rfl : i = s.size := by omega
      have e : hexV s = ⟨(hexN s s.size).toArray⟩ := rfl
      refine goh trivial ?_
      exact finh [] e
  · simp [no, ifp] at hp
@[go_sem] def ctDigit : Ct := ⟨false, [], fun args os => match args, os with
  | [.one (.val (.int .i64 n))], [] => ifp (0 ≤ n ∧ n < 16) (.one (.val (.int .u8 (hexd n.toNat).toNat)))
  | _, _ => no⟩
theorem s_digit_e : EnterOk Tryz.prog 207 := ⟨_, Tryz.func207, rfl, by decide⟩
@[go_sem] def s_digit_lv : List (List Nat) := [[0], [2]]
@[go_sem] noncomputable def s_digit_K : Known := Known.nil
set_option maxHeartbeats 8000000 in
theorem s_digit : Sound Tryz.prog 207 ctDigit := by
  have ke := s_digit_K.env []
  have kl : Lives s_digit_lv := trivial
  refine sound_intro (E := ⟨ti, s_digit_K.Γ, []⟩) ke Tryz.func207 Tryz.ntmps207 rfl (rs := [.tmp 2]) rfl ?_
  intro args os hp
  unfold ctDigit at hp ⊢
  dsimp only at hp ⊢
  split at hp
  · rename_i n
    obtain ⟨h1, h2⟩ : 0 ≤ n ∧ n < 16 := hp
    refine ⟨by simp, fun φ0 w0 => ?_⟩
    have hda : ∀ k : Nat, (#[48, 49, 50, 51, 52, 53, 54, 55, 56, 57, 97, 98, 99, 100, 101, 102] : Array UInt8).getD k 0 = hexd k := hexd_at
    refine goh hda ?_
    exact finh [] trivial
  · simp [no, ifp] at hp
theorem s_specHex_e : EnterOk Tryz.prog 133 := ⟨_, Tryz.func133, rfl, by decide⟩
@[go_sem] def s_specHex_lv : List (List Nat) := [[0], [0, 3], [0, 3, 4], [0, 3, 4, 9], [0, 3, 4], [0, 3, 4], [2]]
@[go_sem] noncomputable def s_specHex_K : Known := (Known.nil).cons 207 ctDigit s_digit s_digit_e
set_option maxHeartbeats 8000000 in
theorem s_specHex : Sound Tryz.prog 133 ctHex := by
  have ke := s_specHex_K.env []
  have kl : Lives s_specHex_lv := trivial
  refine sound_intro (E := ⟨ti, s_specHex_K.Γ, []⟩) ke Tryz.func133 Tryz.ntmps133 rfl (rs := [.tmp 2]) rfl ?_
  intro args os hp
  unfold ctHex at hp ⊢
  dsimp only at hp ⊢
  split at hp
  · rename_i s
    have hlen : s.size ≤ 1000000000 := hp
    refine ⟨by simp, fun φ0 w0 => ?_⟩
    refine goh trivial ?_
    refine W_for s.size (fun i => True) (fun i => ⟨[(0, vs s), (3, .one (.osl .byte 0 0 (hexN s i).length)), (4, vi i)], [some (.arr .byte (hexN s i))], []⟩) [some 0] (leh trivial) trivial fun i hi _ => ?_
    have hl := hexN_len s i
    refine goh trivial ?_
    refine W_cnd ?_ ?_ <;> (try simp only [cnd_r]) <;> intro hlt
    · have h1 : ((s.data.getD i 0).toNat : Int).tdiv 16 = (((s.data.getD i 0).toNat / 16 : Nat) : Int) := (Int.ofNat_tdiv _ 16).symm
      have h2 : ((s.data.getD i 0).toNat : Int).tmod 16 = (((s.data.getD i 0).toNat % 16 : Nat) : Int) := (Int.ofNat_tmod _ 16).symm
      have hb := (s.data.getD i 0).toNat_lt
      have w2 : IntKind.i64.wrap ((s.data.getD i 0).toNat : Int) = ((s.data.getD i 0).toNat : Int) := wrap_id _ (by omega) (by omega)
      have w1 : IntKind.i64.wrap (((s.data.getD i 0).toNat / 16 : Nat) : Int) = (((s.data.getD i 0).toNat / 16 : Nat) : Int) := wrap_id _ (by omega) (by omega)
      have hs : hexN s (i + 1) = hexN s i ++ [hexd ((s.data.getD i 0).toNat / 16), hexd ((s.data.getD i 0).toNat % 16)] := rfl
      have hof : ∀ x : UInt8, UInt8.ofNat x.toNat = x := fun x => UInt8.ofNat_toNat
      refine goh (And.intro w2 (And.intro h1 (And.intro h2 (And.intro w1 hof)))) ?_
      exact ⟨[some 2], by omega, leh hs, trivial⟩
    · obtain rfl : i = s.size := by omega
      have e : hexV s = ⟨(hexN s s.size).toArray⟩ := rfl
      refine goh trivial ?_
      exact finh [] e
  · simp [no, ifp] at hp
theorem hexV_size (s : ByteArray) : (hexV s).size = 2 * s.size := by
  show (hexN s s.size).toArray.size = _
  rw [List.size_toArray, hexN_len]
noncomputable def sealV (s : ByteArray) : ByteArray := if 400 < s.size then ⟨#[]⟩ else decS (sumOf s) ++ ⟨#[58]⟩ ++ s
@[go_sem] noncomputable def ctSeal : Ct := ⟨false, [], fun args os => match args, os with
  | [.one (.val (.string s))], [] => is (vs (sealV s))
  | _, _ => no⟩
theorem s_seal_e : EnterOk Tryz.prog 101 := ⟨_, Tryz.func101, rfl, by decide⟩
@[go_sem] def s_seal_lv : List (List Nat) := [[0], [0, 5], [2], [2]]
@[go_sem] noncomputable def s_seal_K : Known := ((Known.nil).cons 168 ctSumOf s_sumOf s_sumOf_e).cons 100 ctItoa s_itoa s_itoa_e
set_option maxHeartbeats 8000000 in
theorem s_seal : Sound Tryz.prog 101 ctSeal := by
  have ke := s_seal_K.env []
  have kl : Lives s_seal_lv := trivial
  refine sound_intro (E := ⟨ti, s_seal_K.Γ, []⟩) ke Tryz.func101 Tryz.ntmps101 rfl (rs := [.tmp 2]) rfl ?_
  intro args os hp
  unfold ctSeal at hp ⊢
  dsimp only at hp ⊢
  split at hp
  · rename_i s
    refine ⟨by simp, fun φ0 w0 => ?_⟩
    refine goh trivial ?_
    refine W_cnd ?_ ?_ <;> (try simp only [cnd_r]) <;> intro hc
    · have e : sealV s = ⟨#[]⟩ := by unfold sealV; rw [if_pos (by omega)]
      refine goh trivial ?_
      exact finh [] e
    · have e : sealV s = decS (sumOf s) ++ ⟨#[58]⟩ ++ s := by unfold sealV; rw [if_neg (by omega)]
      have h1 := sumAt_lt s s.size
      have h2 : sumAt s s.size = sumOf s := rfl
      have h3 := decS_size (n := sumOf s) (by omega) (by omega)
      have h4 : (⟨#[58]⟩ : ByteArray).size = 1 := rfl
      refine goh trivial ?_
      exact finh [] e
  · simp [no, is, ifp] at hp
theorem s_specSeal_e : EnterOk Tryz.prog 102 := ⟨_, Tryz.func102, rfl, by decide⟩
@[go_sem] def s_specSeal_lv : List (List Nat) := [[0], [0, 5], [2], [2]]
@[go_sem] noncomputable def s_specSeal_K : Known := ((Known.nil).cons 169 ctSumOf s_specSum s_specSum_e).cons 103 ctDecV s_dec2 s_dec2_e
set_option maxHeartbeats 8000000 in
theorem s_specSeal : Sound Tryz.prog 102 ctSeal := by
  have ke := s_specSeal_K.env []
  have kl : Lives s_specSeal_lv := trivial
  refine sound_intro (E := ⟨ti, s_specSeal_K.Γ, []⟩) ke Tryz.func102 Tryz.ntmps102 rfl (rs := [.tmp 2]) rfl ?_
  intro args os hp
  unfold ctSeal at hp ⊢
  dsimp only at hp ⊢
  split at hp
  · rename_i s
    refine ⟨by simp, fun φ0 w0 => ?_⟩
    refine goh trivial ?_
    refine W_cnd ?_ ?_ <;> (try simp only [cnd_r]) <;> intro hc
    · have e : sealV s = ⟨#[]⟩ := by unfold sealV; rw [if_pos (by omega)]
      refine goh trivial ?_
      exact finh [] e
    · have e : sealV s = decS (sumOf s) ++ ⟨#[58]⟩ ++ s := by unfold sealV; rw [if_neg (by omega)]
      have h1 := sumAt_lt s s.size
      have h2 : sumAt s s.size = sumOf s := rfl
      have h3 := decS_size (n := sumOf s) (by omega) (by omega)
      have h4 : (⟨#[58]⟩ : ByteArray).size = 1 := rfl
      refine goh trivial ?_
      exact finh [] e
  · simp [no, is, ifp] at hp
end Go.Proofs.YtjedcphhajlnoaaGreatDoor
/- Functions: falls, the program's. -/
namespace Go.Proofs.YtjedcphhajlnoaaGreatDoor
open Go.RowKit

theorem s_diskFlush_e : EnterOk Tryz.prog 36 := ⟨_, Tryz.func36, rfl, by decide⟩
@[go_sem] def s_diskFlush_lv : List (List Nat) := [[1, 2], [1, 2, 6], [2], [2, 3], [2, 3], [2]]
@[go_sem] noncomputable def s_diskFlush_K : Known := (((Known.nil).cons 80 ctDiskOk s_diskOk s_diskOk_e).cons 81 ctOwn s_own s_own_e).cons 105 ctFlush s_flush s_flush_e
set_option maxHeartbeats 8000000 in
theorem s_diskFlush : Sound Tryz.prog 36 ctDiskFlush := by
  have ke := s_diskFlush_K.env []
  have kl : Lives s_diskFlush_lv := trivial
  refine sound_intro (E := ⟨ti, s_diskFlush_K.Γ, []⟩) ke Tryz.func36 Tryz.ntmps36 rfl (rs := [.cell 2 39]) rfl ?_
  intro args os hp
  unfold ctDiskFlush at hp ⊢
  dsimp only at hp ⊢
  split at hp
  · rename_i a b l
    refine ⟨by simp, fun φ0 w0 => ?_⟩
    obtain ⟨h1, h2, h3⟩ : a.length ≤ 4000000 ∧ b.length ≤ 4000000 ∧ l.length ≤ 4000000 := hp
    refine goh trivial ?_
    refine W_cnd ?_ ?_ <;> (try simp only [cnd_r]) <;> intro hok
    · have e1 : dkFlush ⟨a, b, l⟩ = .nil := by unfold dkFlush; rw [hok]; rfl
      refine goh trivial ?_
      refine ⟨by (simp only [go_sem, e1, Dk.nil, ↓reduceIte, reduceCtorEq, Nat.reduceAdd, Nat.reduceLT, Nat.reduceLeDiff, Nat.reduceEqDiff]) <;> trivial, [none, none, none], ?_⟩
      all_goals try simp only [go_sem, e1, Dk.nil, inj_r, ↓reduceIte, reduceCtorEq, Nat.reduceAdd, Nat.reduceLT, Nat.reduceLeDiff, Nat.reduceEqDiff, Int.reduceEq]
      all_goals (repeat' refine And.intro ?_ ?_) <;> try exact shut7
    · have e1 : dkFlush ⟨a, b, l⟩ = (Dk.mk a b l).flushed := by unfold dkFlush; rw [hok]; rfl
      have e2 : (Dk.mk a b l).flushed.l = [] := rfl
      have e3 := (Dk.mk a b l).done_len l.length
      have e4 : (Dk.mk a b l).flushed.a.length = a.length := e3.1
      have e5 : (Dk.mk a b l).flushed.b.length = b.length := e3.2
      refine goh trivial ?_
      exact finh [some 2, some 3, none] (And.intro e1 (And.intro e2 (And.intro e4 e5)))
  · simp [no] at hp

theorem torn_min (old now : ByteArray) : torn old now = now.extract 0 (now.size / 2) ++ old.extract (min (now.size / 2) old.size) old.size := by
  unfold torn
  split
  · rename_i h; rw [Nat.min_eq_left (by omega)]
  · rename_i h
    rw [Nat.min_eq_right (by omega)]
    have h0 : (old.extract old.size old.size).size = 0 := by rw [ByteArray.size_extract]; omega
    have : old.extract old.size old.size = ByteArray.empty := ByteArray.ext (Array.eq_empty_of_size_eq_zero h0)
    rw [this, ByteArray.append_empty]
@[go_sem] def sgFa (a b : List ByteArray) (l : List Late) (fate : List Int) (x : Two) (i : Nat) : Sg := ⟨[(1, .one (.isl .int fate)), (4, .one (.ptr 1 0)), (5, .one (.ptr 5 0)), (18, .one (.isl .late l)), (19, vi l.length), (20, vi i)],
  [some (.cells [.isl .str a, .isl .str b, .isl .late l]), some (.cells [.val (.slice none 0 0), .val (.slice none 0 0), .val (.slice none 0 0)]), some (.arr .str x.1), some (.arr .str x.2), some (.arr .late l), some (.cells [.osl .str 2 0 x.1.length, .osl .str 3 0 x.2.length, .osl .late 4 0 l.length])], []⟩
theorem s_diskFall_e : EnterOk Tryz.prog 38 := ⟨_, Tryz.func38, rfl, by decide⟩
@[go_sem] def s_diskFall_lv : List (List Nat) := [[1, 2, 4], [1, 2, 4, 13], [4], [1, 2, 4, 5], [1, 4, 5, 18, 19, 20], [1, 4, 5, 18, 19, 20, 21], [1, 4, 5, 6, 7, 18, 19, 20], [1, 4, 5, 6, 7, 18, 19, 20, 28], [1, 4, 5, 6, 7, 8, 18, 19, 20], [1, 4, 5, 7, 8, 18, 19, 20, 40], [1, 4, 5, 7, 8, 18, 19, 20, 40, 41], [1, 4, 5, 18, 19, 20], [1, 4, 5, 7, 8, 18, 19, 20, 47], [1, 4, 5, 7, 8, 9, 18, 19, 20], [1, 4, 5, 7, 8, 9, 10, 18, 19, 20], [1, 4, 5, 18, 19, 20], [1, 4, 5, 18, 19, 20], [4, 5], [4]]
@[go_sem] noncomputable def s_diskFall_K : Known := ((Known.nil).cons 80 ctDiskOk s_diskOk s_diskOk_e).cons 81 ctOwn s_own s_own_e
set_option maxHeartbeats 8000000 in
theorem s_diskFall : Sound Tryz.prog 38 ctDiskFall := by
  have ke := s_diskFall_K.env []
  have kl : Lives s_diskFall_lv := trivial
  refine sound_intro (E := ⟨ti, s_diskFall_K.Γ, []⟩) ke Tryz.func38 Tryz.ntmps38 rfl (rs := [.cell 4 39]) rfl ?_
  intro args os hp
  unfold ctDiskFall at hp ⊢
  dsimp only at hp ⊢
  split at hp
  · rename_i a b l fate
    refine ⟨by simp, fun φ0 w0 => ?_⟩
    obtain ⟨⟨h1, h2, h3⟩, h4⟩ : (a.length ≤ 4000000 ∧ b.length ≤ 4000000 ∧ l.length ≤ 4000000) ∧ fate.length ≤ 4000000 := hp
    refine goh trivial ?_
    refine W_cnd ?_ ?_ <;> (try simp only [cnd_r]) <;> intro hok
    · have e1 : dkFall ⟨a, b, l⟩ fate = .nil := by unfold dkFall; rw [hok]; rfl
      refine goh trivial ?_
      refine ⟨by (simp only [go_sem, e1, Dk.nil, ↓reduceIte, reduceCtorEq, Nat.reduceAdd, Nat.reduceLT, Nat.reduceLeDiff, Nat.reduceEqDiff]) <;> trivial, [none, none, none], ?_⟩
      all_goals try simp only [go_sem, e1, Dk.nil, inj_r, ↓reduceIte, reduceCtorEq, Nat.reduceAdd, Nat.reduceLT, Nat.reduceLeDiff, Nat.reduceEqDiff, Int.reduceEq]
      all_goals (repeat' refine And.intro ?_ ?_) <;> try exact shut7
    · have e1 : dkFall ⟨a, b, l⟩ fate = (Dk.mk a b l).fallen fate := by unfold dkFall; rw [hok]; rfl
      refine goh trivial ?_
      refine W_le (σ' := sgFa a b l fate ((Dk.mk a b l).fallN fate 0) 0) [some 0, some 1, some 2, some 3, some 4, some 5] (by
        simp only [go_sem, Dk.fallN, inj_r, ↓reduceIte, reduceCtorEq, Nat.reduceAdd, Nat.reduceLT, Nat.reduceLeDiff, Nat.reduceEqDiff, Int.reduceEq]
        all_goals (repeat' refine And.intro ?_ ?_) <;> try exact shut7
        ) ?_
      refine W_loop (fun n σ => ∃ i : Nat, i ≤ min l.length fate.length ∧ n = l.length - i ∧ σ = sgFa a b l fate ((Dk.mk a b l).fallN fate i) i) l.length ⟨0, by omega, by omega, rfl⟩ ?_
      rintro n σ ⟨i, hi, rfl, rfl⟩
      obtain ⟨hl1, hl2⟩ := (Dk.mk a b l).fallN_len fate i
      simp only at hl1 hl2
      unfold sgFa
      refine goh trivial ?_
      refine W_cnd ?_ ?_ <;> (try simp only [cnd_r]) <;> intro hlt
      · have hi1 : i < l.length := by omega
        obtain ⟨ws, w1, w2, w3⟩ := Dk.ok_late hok i hi1
        have hsm := Dk.fallN_sm hok fate i (show i ≤ l.length by omega)
        have hd : (Dk.mk a b l).fallN fate (i + 1) = fell (fate.getD i ET.int.dflt) ((Dk.mk a b l).fallN fate i) (l.getD i ET.late.dflt) := rfl
        obtain ⟨-, -, hab, -⟩ := (Dk.ok_iff _).1 hok
        simp only at ws w1 w2 w3 hd hab
        generalize hw : l.getD i ET.late.dflt = w at *
        generalize hf : fate.getD i ET.int.dflt = f at *
        obtain ⟨s, k, t⟩ := w
        simp only at ws w1 w2 w3
        refine goh hw ?_
        refine W_cnd ?_ ?_ <;> (try simp only [cnd_r]) <;> intro hfa
        · have : i = min l.length fate.length := by omega
          subst this
          refine goh trivial ?_
          refine ⟨by (simp only [go_sem, e1, Dk.fallen, ↓reduceIte, reduceCtorEq, Nat.reduceAdd, Nat.reduceLT, Nat.reduceLeDiff, Nat.reduceEqDiff]) <;> trivial, [some 2, some 3, none], ?_⟩
          all_goals try simp only [go_sem, e1, Dk.fallen, inj_r, ↓reduceIte, reduceCtorEq, Nat.reduceAdd, Nat.reduceLT, Nat.reduceLeDiff, Nat.reduceEqDiff, Int.reduceEq]
          all_goals (repeat' refine And.intro ?_ ?_) <;> try exact shut7
        · generalize hx : (Dk.mk a b l).fallN fate i = x at *
          have hz := hsm.sec s k
          unfold sec at hz
          rcases ws with rfl | rfl
          all_goals
            simp only [↓reduceIte, Int.reduceEq, ET.at] at hz
            refine goh (And.intro hw hf) ?_
            refine W_cond _ (by exact rfl) (by exact trivial) ?_ ?_ <;> intro hc
            · have hf1 : f = 1 := by simpa using hc
              refine goh (And.intro hw hf) ?_
              refine ⟨l.length - (i + 1), [some 0, some 1, some 2, some 3, some 4, some 5], sgFa a b l fate ((Dk.mk a b l).fallN fate (i + 1)) (i + 1), by omega, ?_, i + 1, by omega, rfl, rfl⟩
              rw [hd]
              simp only [go_sem, fell, putW, List.length_set, hf1, inj_r, ↓reduceIte, reduceCtorEq, Nat.reduceAdd, Nat.reduceLT, Nat.reduceLeDiff, Nat.reduceEqDiff, Int.reduceEq]
              all_goals (repeat' refine And.intro ?_ ?_) <;> try exact shut7
            · have hf1 : ¬ f = 1 := by simpa using hc
              refine goh (And.intro hw hf) ?_
              refine W_cond _ (by exact rfl) (by exact trivial) ?_ ?_ <;> intro hc2
              · have hf2 : f = 2 := by simpa using hc2
                have hq : IntKind.i64.wrap ((t.size : Int).tdiv 2) = ((t.size / 2 : Nat) : Int) := by
                  have : (t.size : Int).tdiv 2 = ((t.size / 2 : Nat) : Int) := (Int.ofNat_tdiv _ _).symm
                  rw [this]; exact wrap_id _ (by omega) (by omega)
                have hmin : ∀ z : ByteArray, (if (z.size : Int) < ((t.size / 2 : Nat) : Int) then (z.size : Int) else ((t.size / 2 : Nat) : Int)) = ((min (t.size / 2) z.size : Nat) : Int) := fun z => by split <;> omega
                repeat' first
                  | with_reducible refine red ?_
                  | refine W_seq ?_
                  | (refine W_reg (s_diskFall_K.env []) s_diskFall_lv fun K' hK' => ?_
                     simp only [go_sem, hw, hf, hq, hmin, ↓reduceIte, ↓reduceDIte, reduceCtorEq, Nat.reduceAdd, Nat.reduceMul, Nat.reduceSub, Nat.reduceDiv, Nat.reduceMod, Nat.reduceLT, Nat.reduceLeDiff, Nat.reduceEqDiff, Nat.reduceBEq, Int.reduceToNat, Int.reduceLE, Int.reduceLT, Int.reduceEq, Int.reduceNe, Int.reduceNeg]
                     (repeat' refine And.intro ?_ ?_) <;> try first | with_reducible refine hK' ?_ | exact shut6)
                  | with_reducible refine blockG_o (by decide) ?_
                · simp only [ByteArray.size_extract]; omega
                · refine ⟨l.length - (i + 1), [some 0, some 1, some 2, some 3, some 4, some 5], sgFa a b l fate ((Dk.mk a b l).fallN fate (i + 1)) (i + 1), by omega, ?_, i + 1, by omega, rfl, rfl⟩
                  rw [hd]
                  simp only [go_sem, fell, hf1, hf2, putW, sec, torn_min, List.length_set, inj_r, ↓reduceIte, reduceCtorEq, Nat.reduceAdd, Nat.reduceLT, Nat.reduceLeDiff, Nat.reduceEqDiff, Int.reduceEq]
                  all_goals (repeat' refine And.intro ?_ ?_) <;> try exact shut7
              · have hf2 : ¬ f = 2 := by simpa using hc2
                refine goh (And.intro hw hf) ?_
                refine ⟨l.length - (i + 1), [some 0, some 1, some 2, some 3, some 4, some 5], sgFa a b l fate ((Dk.mk a b l).fallN fate (i + 1)) (i + 1), by omega, ?_, i + 1, by omega, rfl, rfl⟩
                rw [hd]
                simp only [go_sem, fell, hf1, hf2, inj_r, ↓reduceIte, reduceCtorEq, Nat.reduceAdd, Nat.reduceLT, Nat.reduceLeDiff, Nat.reduceEqDiff, Int.reduceEq]
                all_goals (repeat' refine And.intro ?_ ?_) <;> try exact shut7
      · have : i = min l.length fate.length := by omega
        subst this
        refine goh trivial ?_
        refine ⟨by (simp only [go_sem, e1, Dk.fallen, ↓reduceIte, reduceCtorEq, Nat.reduceAdd, Nat.reduceLT, Nat.reduceLeDiff, Nat.reduceEqDiff]) <;> trivial, [some 2, some 3, none], ?_⟩
        all_goals try simp only [go_sem, e1, Dk.fallen, inj_r, ↓reduceIte, reduceCtorEq, Nat.reduceAdd, Nat.reduceLT, Nat.reduceLeDiff, Nat.reduceEqDiff, Int.reduceEq]
        all_goals (repeat' refine And.intro ?_ ?_) <;> try exact shut7
  · simp [no] at hp
end Go.Proofs.YtjedcphhajlnoaaGreatDoor
/- Plain facts: texts cut at a byte, numerals. -/
namespace Go.Proofs.YtjedcphhajlnoaaGreatDoor
open Go

abbrev Bs := List UInt8
/-- The pieces of a text between bytes c. -/
def cutL (c : UInt8) : Bs → List Bs
  | [] => [[]]
  | b :: r => if b = c then [] :: cutL c r else match cutL c r with
    | w :: ws => (b :: w) :: ws
    | [] => [[b]]
/-- Texts with a text between them. -/
def joinL (s : Bs) : List Bs → Bs
  | [] => []
  | [w] => w
  | w :: ws => w ++ s ++ joinL s ws
theorem cutL_ne (c : UInt8) : ∀ l, cutL c l ≠ []
  | [] => by simp [cutL]
  | b :: r => by
    unfold cutL
    split
    · simp
    · split <;> simp
theorem joinL_cons (s w : Bs) {ws : List Bs} (h : ws ≠ []) : joinL s (w :: ws) = w ++ s ++ joinL s ws := by
  cases ws with
  | nil => exact absurd rfl h
  | cons => rfl
theorem join_cut (c : UInt8) : ∀ l, joinL [c] (cutL c l) = l
  | [] => rfl
  | b :: r => by
    have ih := join_cut c r
    unfold cutL
    split
    · rename_i h
      rw [joinL_cons _ _ (cutL_ne c r), ih, h]; rfl
    · cases hc : cutL c r with
      | nil => exact absurd hc (cutL_ne c r)
      | cons w ws =>
        rw [hc] at ih
        cases ws with
        | nil => simpa [joinL] using ih
        | cons v vs =>
          simp only [joinL] at ih ⊢
          rw [← ih]; rfl
theorem cut_hit (c : UInt8) (r : Bs) : cutL c (c :: r) = [] :: cutL c r := by
  conv => lhs; unfold cutL
  rw [if_pos rfl]
theorem cut_miss {b c : UInt8} (h : ¬ b = c) {r w : Bs} {ws : List Bs} (hr : cutL c r = w :: ws) : cutL c (b :: r) = (b :: w) :: ws := by
  conv => lhs; unfold cutL
  rw [if_neg h, hr]
theorem cut_none (c : UInt8) : ∀ l : Bs, c ∉ l → cutL c l = [l]
  | [], _ => rfl
  | b :: r, h => by
    rw [List.mem_cons, not_or] at h
    exact cut_miss (fun e => h.1 e.symm) (cut_none c r h.2)
theorem cut_app (c : UInt8) : ∀ (w : Bs) (r : Bs), c ∉ w → cutL c (w ++ c :: r) = w :: cutL c r
  | [], r, _ => cut_hit c r
  | b :: w, r, h => by
    rw [List.mem_cons, not_or] at h
    exact cut_miss (fun e => h.1 e.symm) (cut_app c w r h.2)
theorem cut_join (c : UInt8) : ∀ ws : List Bs, ws ≠ [] → (∀ w ∈ ws, c ∉ w) → cutL c (joinL [c] ws) = ws
  | [], h, _ => absurd rfl h
  | [w], _, h => cut_none c w (h w (by simp))
  | w :: v :: ws, _, h => by
    show cutL c (w ++ [c] ++ joinL [c] (v :: ws)) = _
    rw [List.append_assoc, List.singleton_append, cut_app c w _ (h w (by simp)), cut_join c (v :: ws) (by simp) fun x hx => h x (List.mem_cons_of_mem _ hx)]
theorem cut_mem (c : UInt8) : ∀ (l : Bs), ∀ w ∈ cutL c l, c ∉ w
  | [], w, hw => by simp [cutL] at hw; subst hw; simp
  | b :: r, w, hw => by
    unfold cutL at hw
    split at hw
    · rcases List.mem_cons.1 hw with rfl | hw
      · simp
      · exact cut_mem c r w hw
    · rename_i hb
      cases hc : cutL c r with
      | nil => exact absurd hc (cutL_ne c r)
      | cons v vs =>
        rw [hc] at hw
        have h2 := cut_mem c r
        rw [hc] at h2
        simp only [List.mem_cons] at hw
        rcases hw with rfl | hw
        · rw [List.mem_cons, not_or]
          exact ⟨fun e => hb e.symm, h2 v (by simp)⟩
        · exact h2 w (List.mem_cons_of_mem _ hw)
theorem cut_len (c : UInt8) : ∀ l : Bs, (cutL c l).length ≤ l.length + 1
  | [] => by simp [cutL]
  | b :: r => by
    have ih := cut_len c r
    unfold cutL
    split
    · simpa using ih
    · split
      · rename_i h; rw [h] at ih; simp at ih ⊢; omega
      · simp

/-! Numerals. -/
def isDig (b : UInt8) : Prop := 48 ≤ b.toNat ∧ b.toNat ≤ 57
instance (b : UInt8) : Decidable (isDig b) := inferInstanceAs (Decidable (_ ∧ _))
theorem dig_of {k : Nat} (h : k < 10) : (UInt8.ofNat (48 + k)).toNat = 48 + k := by
  rw [UInt8.toNat_ofNat']; omega
theorem decD_small {u : Nat} (h : u < 10) : Lib.decDigits u = [UInt8.ofNat (48 + u)] := by rw [Lib.decDigits, dif_pos h]
theorem decD_big {u : Nat} (h : ¬ u < 10) : Lib.decDigits u = Lib.decDigits (u / 10) ++ [UInt8.ofNat (48 + u % 10)] := by rw [Lib.decDigits, dif_neg h]
theorem decD_dig (u : Nat) : ∀ b ∈ Lib.decDigits u, isDig b := by
  induction u using Nat.strongRecOn with
  | _ u ih =>
    intro b hb
    by_cases h : u < 10
    · rw [decD_small h] at hb
      simp only [List.mem_singleton] at hb
      subst hb
      unfold isDig; rw [dig_of h]; omega
    · rw [decD_big h, List.mem_append] at hb
      rcases hb with hb | hb
      · exact ih _ (by omega) b hb
      · simp only [List.mem_singleton] at hb
        subst hb
        unfold isDig; rw [dig_of (by omega)]; omega
theorem decD_ne (u : Nat) : Lib.decDigits u ≠ [] := by
  by_cases h : u < 10
  · rw [decD_small h]; simp
  · rw [decD_big h]; simp
theorem decD_len (k : Nat) : ∀ u : Nat, u < 10 ^ (k + 1) → (Lib.decDigits u).length ≤ k + 1 := by
  induction k with
  | zero => intro u hu; rw [decD_small (by omega)]; exact Nat.le_refl _
  | succ k ih =>
    intro u hu
    by_cases h : u < 10
    · rw [decD_small h]; simp
    · rw [decD_big h, List.length_append]
      have := ih (u / 10) (by rw [Nat.pow_succ] at hu; omega)
      simp; omega
/-- No leading zero, but of zero itself. -/
theorem decD_head (u : Nat) : 0 < u → ∃ b r, Lib.decDigits u = b :: r ∧ b.toNat ≠ 48 := by
  induction u using Nat.strongRecOn with
  | _ u ih =>
    intro hu
    by_cases h : u < 10
    · exact ⟨_, _, decD_small h, by rw [dig_of h]; omega⟩
    · obtain ⟨b, r, hb, h2⟩ := ih (u / 10) (by omega) (by omega)
      exact ⟨b, r ++ [_], by rw [decD_big h, hb]; rfl, h2⟩
theorem decFrom_app : ∀ (l : Bs) (acc : Nat) (m : Bs), Lib.decFrom acc (l ++ m) = (Lib.decFrom acc l).bind fun a => Lib.decFrom a m
  | [], acc, m => by simp [Lib.decFrom]
  | b :: l, acc, m => by
    simp only [List.cons_append, Lib.decFrom]
    cases h : Lib.digitVal b with
    | none => rfl
    | some d => exact decFrom_app l _ m
theorem digitVal_of {k : Nat} (h : k < 10) : Lib.digitVal (UInt8.ofNat (48 + k)) = some k := by
  unfold Lib.digitVal
  rw [dig_of h, if_pos (by omega)]
  congr 1; omega
theorem decFrom_decD (u : Nat) : Lib.decFrom 0 (Lib.decDigits u) = some u := by
  induction u using Nat.strongRecOn with
  | _ u ih =>
    by_cases h : u < 10
    · rw [decD_small h]
      simp only [Lib.decFrom, digitVal_of h]
      congr 1; omega
    · rw [decD_big h, decFrom_app, ih (u / 10) (by omega)]
      simp only [Option.bind_some, Lib.decFrom, digitVal_of (show u % 10 < 10 by omega)]
      congr 1; omega
theorem decD_inj {u v : Nat} (h : Lib.decDigits u = Lib.decDigits v) : u = v := by
  have h1 := decFrom_decD u
  rw [h, decFrom_decD] at h1
  exact (Option.some.inj h1).symm
end Go.Proofs.YtjedcphhajlnoaaGreatDoor
/- Plain facts: the library's words are texts cut at a byte. -/
namespace Go.Proofs.YtjedcphhajlnoaaGreatDoor
open Go

def bytesL (l : Bs) : ByteArray := ⟨l.toArray⟩
theorem bytesL_data (s : ByteArray) : bytesL s.data.toList = s := by
  cases s; simp [bytesL]
theorem bytesL_list (l : Bs) : (bytesL l).data.toList = l := by simp [bytesL]
theorem bytesL_app (l m : Bs) : bytesL (l ++ m) = bytesL l ++ bytesL m := by
  apply ByteArray.ext; simp [bytesL]
theorem bytesL_inj {l m : Bs} (h : bytesL l = bytesL m) : l = m := by
  have := congrArg (fun s : ByteArray => s.data.toList) h
  simpa [bytesL_list] using this
theorem index_not (c : UInt8) : ∀ l : Bs, c ∉ l → Lib.index l [c] = -1
  | [], _ => rfl
  | b :: l, h => by
    rw [List.mem_cons, not_or] at h
    have h1 : List.isPrefixOf [c] (b :: l) = false := by simp [List.isPrefixOf, h.1]
    unfold Lib.index
    rw [h1, index_not c l h.2]; rfl
theorem index_at (c : UInt8) : ∀ (w r : Bs), c ∉ w → Lib.index (w ++ c :: r) [c] = (w.length : Int)
  | [], r, _ => by
    have h1 : List.isPrefixOf [c] (c :: r) = true := by simp [List.isPrefixOf]
    show Lib.index (c :: r) [c] = 0
    unfold Lib.index
    rw [if_pos h1]
  | b :: w, r, h => by
    rw [List.mem_cons, not_or] at h
    have h1 : List.isPrefixOf [c] (b :: (w ++ c :: r)) = false := by simp [List.isPrefixOf, h.1]
    show Lib.index (b :: (w ++ c :: r)) [c] = _
    unfold Lib.index
    rw [h1, index_at c w r h.2]
    have : (((w.length : Int)) == -1) = false := by rw [beq_eq_false_iff_ne]; omega
    rw [this]
    simp
theorem split_cut (c : UInt8) : ∀ (n : Nat) (l : Bs), l.length ≤ n → Lib.splitK [c] 0 (Lib.count l [c]) l = cutL c l
  | n, l, hn => by
    by_cases hc : c ∈ l
    · obtain ⟨w, r, rfl, hw⟩ := List.eq_append_cons_of_mem hc
      have hi := index_at c w r hw
      rw [Lib.count_hit (by simp) hi, cut_app c w r hw, Nat.add_comm]
      have hm : ¬ (Lib.index (w ++ c :: r) [c] == -1) = true := fun e => by have := beq_iff_eq.1 e; omega
      rw [Lib.splitK, if_neg hm, hi]
      have e1 : (w ++ c :: r).drop ((w.length : Int).toNat + [c].length) = r := by
        rw [Int.toNat_natCast, List.length_singleton, show w ++ c :: r = (w ++ [c]) ++ r by simp]
        rw [List.drop_append, List.drop_eq_nil_of_le (by simp)]
        simp
      have e3 : (w ++ c :: r).drop (w.length + [c].length) = r := e1
      have e2 : (w ++ c :: r).take ((w.length : Int).toNat + 0) = w := by simp
      rw [e1, e2, e3]
      cases n with
      | zero => simp at hn
      | succ n =>
        rw [split_cut c n r (by simp at hn; omega)]
    · rw [Lib.count_miss (index_not c l hc), cut_none c l hc]
      rfl
def splitV (c : UInt8) (s : ByteArray) : List ByteArray := (cutL c s.data.toList).map bytesL
theorem split_lib (c : UInt8) (s : ByteArray) : Lib.splitB ⟨#[c]⟩ 0 (Lib.countB s ⟨#[c]⟩) s = splitV c s := by
  have h := Lib.splitB_data ⟨#[c]⟩ 0 (Lib.countB s ⟨#[c]⟩) s
  have h2 : Lib.splitK [c] 0 (Lib.count s.data.toList [c]) s.data.toList = cutL c s.data.toList := split_cut c _ _ (Nat.le_refl _)
  have h3 : (Lib.splitB ⟨#[c]⟩ 0 (Lib.countB s ⟨#[c]⟩) s).map (·.data.toList) = cutL c s.data.toList := h.trans h2
  unfold splitV
  rw [← h3, List.map_map]
  conv => lhs; rw [← List.map_id (Lib.splitB ⟨#[c]⟩ 0 (Lib.countB s ⟨#[c]⟩) s)]
  apply List.map_congr_left
  intro x _
  exact (bytesL_data x).symm
theorem splitV_len (c : UInt8) (s : ByteArray) : (splitV c s).length ≤ s.size + 1 := by
  unfold splitV
  rw [List.length_map]
  exact cut_len c _
/-- What stands before the first c, and behind it; is there one? -/
def cutV (c : UInt8) (s : ByteArray) : ByteArray × ByteArray × Bool :=
  (bytesL (Lib.cut s.data.toList [c]).1, bytesL (Lib.cut s.data.toList [c]).2.1, (Lib.cut s.data.toList [c]).2.2)
theorem cutV_not {c : UInt8} {s : ByteArray} (h : c ∉ s.data.toList) : cutV c s = (s, ⟨#[]⟩, false) := by
  unfold cutV Lib.cut
  rw [index_not c _ h, if_neg (by decide)]
  simp only [bytesL_data]; rfl
theorem cutV_at {c : UInt8} {s : ByteArray} {w r : Bs} (h : s.data.toList = w ++ c :: r) (hw : c ∉ w) : cutV c s = (bytesL w, bytesL r, true) := by
  unfold cutV Lib.cut
  rw [h, index_at c w r hw, if_pos (by omega)]
  have e1 : (w ++ c :: r).drop ((w.length : Int).toNat + [c].length) = r := by
    rw [Int.toNat_natCast, List.length_singleton, show w ++ c :: r = (w ++ [c]) ++ r by simp]
    rw [List.drop_append, List.drop_eq_nil_of_le (by simp)]
    simp
  have e2 : (w ++ c :: r).take (w.length : Int).toNat = w := by simp
  rw [e1, e2]
def joinV (sep : ByteArray) (xs : List ByteArray) : ByteArray := bytesL (Lib.join (xs.map (·.data.toList)) sep.data.toList)
theorem lib_join (sep : Bs) : ∀ xs : List Bs, Lib.join xs sep = joinL sep xs
  | [] => rfl
  | [x] => Lib.join_one x sep
  | x :: y :: r => by
    rw [joinL_cons _ _ (by simp), ← lib_join sep (y :: r)]
    simp [Lib.join, List.intercalate]
theorem splitV_join {c : UInt8} {ws : List ByteArray} (hn : ws ≠ []) (h : ∀ w ∈ ws, c ∉ w.data.toList) : splitV c (joinV ⟨#[c]⟩ ws) = ws := by
  unfold splitV joinV
  rw [bytesL_list, lib_join]
  have e : (⟨#[c]⟩ : ByteArray).data.toList = [c] := rfl
  rw [e, cut_join c _ (by simpa using hn) (by
    intro w hw
    obtain ⟨x, hx, rfl⟩ := List.mem_map.1 hw
    exact h x hx), List.map_map]
  conv => rhs; rw [← List.map_id ws]
  apply List.map_congr_left
  intro x _
  exact bytesL_data x
theorem joinV_split (c : UInt8) (s : ByteArray) : joinV ⟨#[c]⟩ (splitV c s) = s := by
  unfold splitV joinV
  rw [lib_join, List.map_map]
  have e : (cutL c s.data.toList).map ((fun x : ByteArray => x.data.toList) ∘ bytesL) = cutL c s.data.toList := by
    conv => rhs; rw [← List.map_id (cutL c s.data.toList)]
    apply List.map_congr_left
    intro x _
    exact bytesL_list x
  rw [e]
  have e2 : (⟨#[c]⟩ : ByteArray).data.toList = [c] := rfl
  rw [e2, join_cut, bytesL_data]
theorem joinV_three (c : UInt8) (x y z : ByteArray) : joinV ⟨#[c]⟩ [x, y, z] = x ++ ⟨#[c]⟩ ++ y ++ ⟨#[c]⟩ ++ z := by
  unfold joinV
  rw [lib_join]
  show bytesL (x.data.toList ++ [c] ++ (y.data.toList ++ [c] ++ z.data.toList)) = _
  rw [bytesL_app, bytesL_app, bytesL_app, bytesL_app, bytesL_data, bytesL_data, bytesL_data]
  have e : bytesL [c] = ⟨#[c]⟩ := rfl
  rw [e]
  simp only [ByteArray.append_assoc]
end Go.Proofs.YtjedcphhajlnoaaGreatDoor
/-
  DERIVED: THE SHELF's CONTRACTS AT THIS DUMP, IN PLAIN WORDS (tools/lay-plain.mjs out of 'YtjedcphhajlnoaaGreatDoorTSh4Q.lean', which tools/lay-shelf.mjs wrote): THE SAME DECLARATIONS UNDER THE SAME NAMES: 'import', 'namespace', 'open', 'def', 'theorem' AND NOTHING ELSE: no command of the shelf's: FOR A HAND-IN. Each laying: the table of numbers ('.._ren') and one theorem, a field a fact of the dump's own or the kernel's comparison; each contract: ONE APPLICATION.
-/
namespace Go.Proofs
open Go.Shelf
def Tryz.lays146_ren : Go.Shelf.Ren := ⟨fun | 146 => 107 | 221 => 177 | 268 => 232 | 138 => 233 | 143 => 234 | 195 => 271 | 197 => 272 | 218 => 273 | 219 => 255 | 260 => 295 | 217 => 256 | 225 => 282 | 224 => 283 | 267 => 284 | 266 => 285 | 314 => 300 | n => n, fun | 9 => 9 | 31 => 22 | 3 => 3 | 4 => 4 | 0 => 0 | 105 => 282 | 21 => 21 | 5 => 5 | 46 => 221 | 119 => 310 | 139 => 313 | 138 => 312 | 146 => 307 | 51 => 299 | n => n, fun | 1 => 2 | 3 => 4 | 4 => 5 | n => n⟩
theorem Tryz.lays146 : Go.Proofs.LaysM.n146 Tryz.prog Tryz.lays146_ren := {
  mixed := by kernel_rfl
  f138 := Tryz.func233.trans (congrArg some (by kernel_rfl))
  f143 := Tryz.func234.trans (congrArg some (by kernel_rfl))
  f146 := Tryz.func107.trans (congrArg some (by kernel_rfl))
  f195 := Tryz.func271.trans (congrArg some (by kernel_rfl))
  f197 := Tryz.func272.trans (congrArg some (by kernel_rfl))
  f217 := Tryz.func256.trans (congrArg some (by kernel_rfl))
  f218 := Tryz.func273.trans (congrArg some (by kernel_rfl))
  f219 := Tryz.func255.trans (congrArg some (by kernel_rfl))
  f221 := Tryz.func177.trans (congrArg some (by kernel_rfl))
  f224 := Tryz.func283.trans (congrArg some (by kernel_rfl))
  f225 := Tryz.func282.trans (congrArg some (by kernel_rfl))
  f260 := Tryz.func295.trans (congrArg some (by kernel_rfl))
  f266 := Tryz.func285.trans (congrArg some (by kernel_rfl))
  f267 := Tryz.func284.trans (congrArg some (by kernel_rfl))
  f268 := Tryz.func232.trans (congrArg some (by kernel_rfl))
  f314 := Tryz.func300.trans (congrArg some (by kernel_rfl))
  t0 := Tryz.underlying0
  a0 := Tryz.isAgg0
  z0 := Tryz.sizeOf0
  v0 := Tryz.zeroValue0
  t3 := Tryz.underlying3
  a3 := Tryz.isAgg3
  z3 := Tryz.sizeOf3
  v3 := Tryz.zeroValue3
  t4 := Tryz.underlying4
  a4 := Tryz.isAgg4
  z4 := Tryz.sizeOf4
  v4 := Tryz.zeroValue4
  t5 := Tryz.underlying5
  a5 := Tryz.isAgg5
  z5 := Tryz.sizeOf5
  v5 := Tryz.zeroValue5
  t9 := Tryz.underlying9
  a9 := Tryz.isAgg9
  z9 := Tryz.sizeOf9
  v9 := Tryz.zeroValue9
  t21 := Tryz.underlying21
  a21 := Tryz.isAgg21
  z21 := Tryz.sizeOf21
  v21 := Tryz.zeroValue21
  t31 := Tryz.underlying22
  a31 := Tryz.isAgg22
  z31 := Tryz.sizeOf22
  v31 := Tryz.zeroValue22
  t46 := Tryz.underlying221
  a46 := Tryz.isAgg221
  z46 := Tryz.sizeOf221
  v46 := Tryz.zeroValue221
  t51 := Tryz.underlying299
  a51 := Tryz.isAgg299
  z51 := Tryz.sizeOf299
  v51 := Tryz.zeroValue299
  t105 := Tryz.underlying282
  a105 := Tryz.isAgg282
  z105 := Tryz.sizeOf282
  v105 := Tryz.zeroValue282
  t119 := Tryz.underlying310
  a119 := Tryz.isAgg310
  z119 := Tryz.sizeOf310
  t138 := Tryz.underlying312
  a138 := Tryz.isAgg312
  z138 := Tryz.sizeOf312
  v138 := Tryz.zeroValue312
  t139 := Tryz.underlying313
  a139 := Tryz.isAgg313
  z139 := Tryz.sizeOf313
  v139 := Tryz.zeroValue313
  t146 := Tryz.underlying307
  a146 := Tryz.isAgg307
  z146 := Tryz.sizeOf307
  v146 := Tryz.zeroValue307
  g1 := by kernel_rfl
  g3 := by kernel_rfl
  g4 := by kernel_rfl
  i0 := by kernel_rfl
  i3 := by kernel_rfl
  i4 := by kernel_rfl
  i5 := by kernel_rfl
  i9 := by kernel_rfl
  i21 := by kernel_rfl
  i31 := by kernel_rfl
  i46 := by kernel_rfl
  i51 := by kernel_rfl
  i105 := by kernel_rfl
  i138 := by kernel_rfl
  i139 := by kernel_rfl
  i146 := by kernel_rfl
  m1 := by kernel_rfl
  s1_3 := fun w h => Go.Proofs.cell_of_shapedOpen_int (zero := #[.int .i64 0]) (t := 3) h (of_decide_eq_true (by kernel_rfl)) (by kernel_rfl) rfl (by kernel_rfl) (by kernel_rfl) Tryz.underlying3
  m3 := by kernel_rfl
  m4 := by kernel_rfl }
end Go.Proofs
/-
  DERIVED: THE SHELF's CONTRACTS AT THIS DUMP, IN PLAIN WORDS (tools/lay-plain.mjs out of 'YtjedcphhajlnoaaGreatDoorTSh5Q.lean', which tools/lay-shelf.mjs wrote): THE SAME DECLARATIONS UNDER THE SAME NAMES: 'import', 'namespace', 'open', 'def', 'theorem' AND NOTHING ELSE: no command of the shelf's: FOR A HAND-IN. Each laying: the table of numbers ('.._ren') and one theorem, a field a fact of the dump's own or the kernel's comparison; each contract: ONE APPLICATION.
-/
namespace Go.Proofs
open Go.Shelf
def Tryz.lays145_ren : Go.Shelf.Ren := ⟨fun | 145 => 130 | 220 => 205 | 219 => 255 | 217 => 256 | 225 => 282 | 224 => 283 | 267 => 284 | 266 => 285 | 314 => 300 | n => n, fun | 9 => 9 | 4 => 4 | 59 => 167 | 3 => 3 | 5 => 5 | 46 => 221 | 146 => 307 | 51 => 299 | n => n, fun | 1 => 2 | n => n⟩
theorem Tryz.lays145 : Go.Proofs.LaysM.n145 Tryz.prog Tryz.lays145_ren := {
  mixed := by kernel_rfl
  f145 := Tryz.func130.trans (congrArg some (by kernel_rfl))
  f217 := Tryz.func256.trans (congrArg some (by kernel_rfl))
  f219 := Tryz.func255.trans (congrArg some (by kernel_rfl))
  f220 := Tryz.func205.trans (congrArg some (by kernel_rfl))
  f224 := Tryz.func283.trans (congrArg some (by kernel_rfl))
  f225 := Tryz.func282.trans (congrArg some (by kernel_rfl))
  f266 := Tryz.func285.trans (congrArg some (by kernel_rfl))
  f267 := Tryz.func284.trans (congrArg some (by kernel_rfl))
  f314 := Tryz.func300.trans (congrArg some (by kernel_rfl))
  t3 := Tryz.underlying3
  a3 := Tryz.isAgg3
  z3 := Tryz.sizeOf3
  v3 := Tryz.zeroValue3
  t4 := Tryz.underlying4
  a4 := Tryz.isAgg4
  z4 := Tryz.sizeOf4
  v4 := Tryz.zeroValue4
  t5 := Tryz.underlying5
  a5 := Tryz.isAgg5
  z5 := Tryz.sizeOf5
  v5 := Tryz.zeroValue5
  t9 := Tryz.underlying9
  a9 := Tryz.isAgg9
  z9 := Tryz.sizeOf9
  v9 := Tryz.zeroValue9
  t46 := Tryz.underlying221
  a46 := Tryz.isAgg221
  z46 := Tryz.sizeOf221
  v46 := Tryz.zeroValue221
  t51 := Tryz.underlying299
  a51 := Tryz.isAgg299
  z51 := Tryz.sizeOf299
  v51 := Tryz.zeroValue299
  t59 := Tryz.underlying167
  a59 := Tryz.isAgg167
  z59 := Tryz.sizeOf167
  v59 := Tryz.zeroValue167
  t146 := Tryz.underlying307
  a146 := Tryz.isAgg307
  z146 := Tryz.sizeOf307
  v146 := Tryz.zeroValue307
  g1 := by kernel_rfl
  i3 := by kernel_rfl
  i4 := by kernel_rfl
  i5 := by kernel_rfl
  i9 := by kernel_rfl
  i46 := by kernel_rfl
  i51 := by kernel_rfl
  i59 := by kernel_rfl
  i146 := by kernel_rfl
  m1 := by kernel_rfl
  s1_3 := fun w h => Go.Proofs.cell_of_shapedOpen_int (zero := #[.int .i64 0]) (t := 3) h (of_decide_eq_true (by kernel_rfl)) (by kernel_rfl) rfl (by kernel_rfl) (by kernel_rfl) Tryz.underlying3 }
end Go.Proofs
/-
  DERIVED: THE SHELF's CONTRACTS AT THIS DUMP, IN PLAIN WORDS (tools/lay-plain.mjs out of 'YtjedcphhajlnoaaGreatDoorTSh6Q.lean', which tools/lay-shelf.mjs wrote): THE SAME DECLARATIONS UNDER THE SAME NAMES: 'import', 'namespace', 'open', 'def', 'theorem' AND NOTHING ELSE: no command of the shelf's: FOR A HAND-IN. Each laying: the table of numbers ('.._ren') and one theorem, a field a fact of the dump's own or the kernel's comparison; each contract: ONE APPLICATION.
-/
namespace Go.Proofs
open Go.Shelf
def Tryz.lays156_ren : Go.Shelf.Ren := ⟨fun | 156 => 129 | 165 => 202 | 166 => 203 | 169 => 204 | 240 => 253 | 241 => 254 | 276 => 280 | 277 => 281 | n => n, fun | 31 => 22 | 9 => 9 | 3 => 3 | 4 => 4 | 0 => 0 | 20 => 20 | 72 => 224 | 76 => 153 | 70 => 222 | 37 => 53 | 75 => 152 | 127 => 270 | 164 => 291 | 5 => 5 | 80 => 226 | n => n, fun | n => n⟩
theorem Tryz.lays156 : Go.Proofs.Lays.n156 Tryz.prog Tryz.lays156_ren := {
  mixed := by kernel_rfl
  f156 := Tryz.func129.trans (congrArg some (by kernel_rfl))
  f165 := Tryz.func202.trans (congrArg some (by kernel_rfl))
  f166 := Tryz.func203.trans (congrArg some (by kernel_rfl))
  f169 := Tryz.func204.trans (congrArg some (by kernel_rfl))
  f240 := Tryz.func253.trans (congrArg some (by kernel_rfl))
  f241 := Tryz.func254.trans (congrArg some (by kernel_rfl))
  f276 := Tryz.func280.trans (congrArg some (by kernel_rfl))
  f277 := Tryz.func281.trans (congrArg some (by kernel_rfl))
  t0 := Tryz.underlying0
  a0 := Tryz.isAgg0
  z0 := Tryz.sizeOf0
  v0 := Tryz.zeroValue0
  t3 := Tryz.underlying3
  a3 := Tryz.isAgg3
  z3 := Tryz.sizeOf3
  v3 := Tryz.zeroValue3
  t4 := Tryz.underlying4
  a4 := Tryz.isAgg4
  z4 := Tryz.sizeOf4
  v4 := Tryz.zeroValue4
  t9 := Tryz.underlying9
  a9 := Tryz.isAgg9
  z9 := Tryz.sizeOf9
  v9 := Tryz.zeroValue9
  t20 := Tryz.underlying20
  a20 := Tryz.isAgg20
  z20 := Tryz.sizeOf20
  v20 := Tryz.zeroValue20
  t31 := Tryz.underlying22
  a31 := Tryz.isAgg22
  z31 := Tryz.sizeOf22
  v31 := Tryz.zeroValue22
  t37 := Tryz.underlying53
  a37 := Tryz.isAgg53
  z37 := Tryz.sizeOf53
  v37 := Tryz.zeroValue53
  t70 := Tryz.underlying222
  a70 := Tryz.isAgg222
  z70 := Tryz.sizeOf222
  v70 := Tryz.zeroValue222
  t72 := Tryz.underlying224
  a72 := Tryz.isAgg224
  z72 := Tryz.sizeOf224
  v72 := Tryz.zeroValue224
  t75 := Tryz.underlying152
  a75 := Tryz.isAgg152
  z75 := Tryz.sizeOf152
  v75 := Tryz.zeroValue152
  t76 := Tryz.underlying153
  a76 := Tryz.isAgg153
  z76 := Tryz.sizeOf153
  v76 := Tryz.zeroValue153
  t127 := Tryz.underlying270
  a127 := Tryz.isAgg270
  z127 := Tryz.sizeOf270
  v127 := Tryz.zeroValue270
  t164 := Tryz.underlying291
  a164 := Tryz.isAgg291
  z164 := Tryz.sizeOf291
  v164 := Tryz.zeroValue291 }
end Go.Proofs
/-
  DERIVED: THE SHELF's CONTRACTS AT THIS DUMP, IN PLAIN WORDS (tools/lay-plain.mjs out of 'YtjedcphhajlnoaaGreatDoorTSh7Q.lean', which tools/lay-shelf.mjs wrote): THE SAME DECLARATIONS UNDER THE SAME NAMES: 'import', 'namespace', 'open', 'def', 'theorem' AND NOTHING ELSE: no command of the shelf's: FOR A HAND-IN. Each laying: the table of numbers ('.._ren') and one theorem, a field a fact of the dump's own or the kernel's comparison; each contract: ONE APPLICATION.
-/
namespace Go.Proofs
open Go.Shelf
def Tryz.lays172_ren : Go.Shelf.Ren := ⟨fun | 172 => 108 | 244 => 178 | 245 => 179 | 247 => 235 | 279 => 236 | 280 => 237 | 281 => 238 | 282 => 239 | 287 => 274 | 316 => 275 | 171 => 100 | 205 => 276 | 321 => 296 | 322 => 297 | 243 => 176 | 246 => 231 | 283 => 267 | 284 => 268 | 285 => 269 | 286 => 270 | 129 => 291 | 317 => 290 | 318 => 292 | 319 => 293 | 320 => 294 | 337 => 301 | 338 => 302 | n => n, fun | 9 => 9 | 3 => 3 | 75 => 152 | 76 => 153 | 4 => 4 | 5 => 5 | 167 => 254 | 37 => 53 | 0 => 0 | 85 => 255 | 2 => 2 | 168 => 257 | 53 => 277 | 175 => 284 | 46 => 221 | 210 => 287 | 127 => 270 | 145 => 305 | 143 => 303 | 21 => 21 | 171 => 276 | 173 => 280 | 212 => 298 | 51 => 299 | 20 => 20 | 213 => 300 | 232 => 315 | 233 => 316 | 80 => 226 | n => n, fun | 15 => 0 | 16 => 1 | 17 => 3 | 18 => 6 | 19 => 7 | n => n⟩
theorem Tryz.lays172 : Go.Proofs.LaysC.n172 Tryz.prog Tryz.lays172_ren := {
  mixed := by kernel_rfl
  f129 := Tryz.func291.trans (congrArg some (by kernel_rfl))
  f171 := Tryz.func100.trans (congrArg some (by kernel_rfl))
  f172 := Tryz.func108.trans (congrArg some (by kernel_rfl))
  f205 := Tryz.func276.trans (congrArg some (by kernel_rfl))
  f243 := Tryz.func176.trans (congrArg some (by kernel_rfl))
  f244 := Tryz.func178.trans (congrArg some (by kernel_rfl))
  f245 := Tryz.func179.trans (congrArg some (by kernel_rfl))
  f246 := Tryz.func231.trans (congrArg some (by kernel_rfl))
  f247 := Tryz.func235.trans (congrArg some (by kernel_rfl))
  f279 := Tryz.func236.trans (congrArg some (by kernel_rfl))
  f280 := Tryz.func237.trans (congrArg some (by kernel_rfl))
  f281 := Tryz.func238.trans (congrArg some (by kernel_rfl))
  f282 := Tryz.func239.trans (congrArg some (by kernel_rfl))
  f283 := Tryz.func267.trans (congrArg some (by kernel_rfl))
  f284 := Tryz.func268.trans (congrArg some (by kernel_rfl))
  f285 := Tryz.func269.trans (congrArg some (by kernel_rfl))
  f286 := Tryz.func270.trans (congrArg some (by kernel_rfl))
  f287 := Tryz.func274.trans (congrArg some (by kernel_rfl))
  f316 := Tryz.func275.trans (congrArg some (by kernel_rfl))
  f317 := Tryz.func290.trans (congrArg some (by kernel_rfl))
  f318 := Tryz.func292.trans (congrArg some (by kernel_rfl))
  f319 := Tryz.func293.trans (congrArg some (by kernel_rfl))
  f320 := Tryz.func294.trans (congrArg some (by kernel_rfl))
  f321 := Tryz.func296.trans (congrArg some (by kernel_rfl))
  f322 := Tryz.func297.trans (congrArg some (by kernel_rfl))
  f337 := Tryz.func301.trans (congrArg some (by kernel_rfl))
  f338 := Tryz.func302.trans (congrArg some (by kernel_rfl))
  t0 := Tryz.underlying0
  a0 := Tryz.isAgg0
  z0 := Tryz.sizeOf0
  v0 := Tryz.zeroValue0
  t2 := Tryz.underlying2
  a2 := Tryz.isAgg2
  z2 := Tryz.sizeOf2
  v2 := Tryz.zeroValue2
  t3 := Tryz.underlying3
  a3 := Tryz.isAgg3
  z3 := Tryz.sizeOf3
  v3 := Tryz.zeroValue3
  t4 := Tryz.underlying4
  a4 := Tryz.isAgg4
  z4 := Tryz.sizeOf4
  v4 := Tryz.zeroValue4
  t5 := Tryz.underlying5
  a5 := Tryz.isAgg5
  z5 := Tryz.sizeOf5
  v5 := Tryz.zeroValue5
  t9 := Tryz.underlying9
  a9 := Tryz.isAgg9
  z9 := Tryz.sizeOf9
  v9 := Tryz.zeroValue9
  t20 := Tryz.underlying20
  a20 := Tryz.isAgg20
  z20 := Tryz.sizeOf20
  v20 := Tryz.zeroValue20
  t21 := Tryz.underlying21
  a21 := Tryz.isAgg21
  z21 := Tryz.sizeOf21
  v21 := Tryz.zeroValue21
  t37 := Tryz.underlying53
  a37 := Tryz.isAgg53
  z37 := Tryz.sizeOf53
  v37 := Tryz.zeroValue53
  t46 := Tryz.underlying221
  a46 := Tryz.isAgg221
  z46 := Tryz.sizeOf221
  v46 := Tryz.zeroValue221
  t51 := Tryz.underlying299
  a51 := Tryz.isAgg299
  z51 := Tryz.sizeOf299
  v51 := Tryz.zeroValue299
  t53 := Tryz.underlying277
  a53 := Tryz.isAgg277
  z53 := Tryz.sizeOf277
  v53 := Tryz.zeroValue277
  t75 := Tryz.underlying152
  a75 := Tryz.isAgg152
  z75 := Tryz.sizeOf152
  v75 := Tryz.zeroValue152
  t76 := Tryz.underlying153
  a76 := Tryz.isAgg153
  z76 := Tryz.sizeOf153
  v76 := Tryz.zeroValue153
  t85 := Tryz.underlying255
  a85 := Tryz.isAgg255
  z85 := Tryz.sizeOf255
  v85 := Tryz.zeroValue255
  t127 := Tryz.underlying270
  a127 := Tryz.isAgg270
  z127 := Tryz.sizeOf270
  v127 := Tryz.zeroValue270
  t143 := Tryz.underlying303
  a143 := Tryz.isAgg303
  z143 := Tryz.sizeOf303
  v143 := Tryz.zeroValue303
  t145 := Tryz.underlying305
  a145 := Tryz.isAgg305
  z145 := Tryz.sizeOf305
  v145 := Tryz.zeroValue305
  t167 := Tryz.underlying254
  a167 := Tryz.isAgg254
  z167 := Tryz.sizeOf254
  v167 := Tryz.zeroValue254
  t168 := Tryz.underlying257
  a168 := Tryz.isAgg257
  z168 := Tryz.sizeOf257
  v168 := Tryz.zeroValue257
  t171 := Tryz.underlying276
  a171 := Tryz.isAgg276
  z171 := Tryz.sizeOf276
  v171 := Tryz.zeroValue276
  t173 := Tryz.underlying280
  a173 := Tryz.isAgg280
  z173 := Tryz.sizeOf280
  v173 := Tryz.zeroValue280
  t175 := Tryz.underlying284
  a175 := Tryz.isAgg284
  z175 := Tryz.sizeOf284
  v175 := Tryz.zeroValue284
  t210 := Tryz.underlying287
  a210 := Tryz.isAgg287
  z210 := Tryz.sizeOf287
  v210 := Tryz.zeroValue287
  t212 := Tryz.underlying298
  a212 := Tryz.isAgg298
  z212 := Tryz.sizeOf298
  v212 := Tryz.zeroValue298
  t213 := Tryz.underlying300
  a213 := Tryz.isAgg300
  z213 := Tryz.sizeOf300
  t232 := Tryz.underlying315
  a232 := Tryz.isAgg315
  z232 := Tryz.sizeOf315
  v232 := Tryz.zeroValue315
  t233 := Tryz.underlying316
  a233 := Tryz.isAgg316
  z233 := Tryz.sizeOf316
  v233 := Tryz.zeroValue316
  g15 := by kernel_rfl
  g16 := by kernel_rfl
  g17 := by kernel_rfl
  g18 := by kernel_rfl
  g19 := by kernel_rfl
  t80 := Tryz.underlying226
  a80 := Tryz.isAgg226
  z80 := Tryz.sizeOf226
  v80 := Tryz.zeroValue226
  i0 := by kernel_rfl
  i2 := by kernel_rfl
  i3 := by kernel_rfl
  i4 := by kernel_rfl
  i5 := by kernel_rfl
  i9 := by kernel_rfl
  i20 := by kernel_rfl
  i21 := by kernel_rfl
  i37 := by kernel_rfl
  i46 := by kernel_rfl
  i51 := by kernel_rfl
  i53 := by kernel_rfl
  i75 := by kernel_rfl
  i76 := by kernel_rfl
  i80 := by kernel_rfl
  i85 := by kernel_rfl
  i127 := by kernel_rfl
  i143 := by kernel_rfl
  i145 := by kernel_rfl
  i167 := by kernel_rfl
  i168 := by kernel_rfl
  i171 := by kernel_rfl
  i173 := by kernel_rfl
  i175 := by kernel_rfl
  i210 := by kernel_rfl
  i212 := by kernel_rfl
  i232 := by kernel_rfl
  i233 := by kernel_rfl
  m15 := by kernel_rfl
  m16 := by kernel_rfl
  m17 := by kernel_rfl
  m18 := by kernel_rfl
  m19 := by kernel_rfl
  c0 := by kernel_rfl
  c2 := by kernel_rfl
  c3 := by kernel_rfl
  c4 := by kernel_rfl
  c5 := by kernel_rfl
  c9 := by kernel_rfl
  c20 := by kernel_rfl
  c21 := by kernel_rfl
  c37 := by kernel_rfl
  c46 := by kernel_rfl
  c51 := by kernel_rfl
  c53 := by kernel_rfl
  c75 := by kernel_rfl
  c76 := by kernel_rfl
  c80 := by kernel_rfl
  c85 := by kernel_rfl
  c127 := by kernel_rfl
  c143 := by kernel_rfl
  c145 := by kernel_rfl
  c167 := by kernel_rfl
  c168 := by kernel_rfl
  c171 := by kernel_rfl
  c173 := by kernel_rfl
  c175 := by kernel_rfl
  c210 := by kernel_rfl
  c212 := by kernel_rfl
  c213 := by kernel_rfl
  c232 := by kernel_rfl
  c233 := by kernel_rfl }
end Go.Proofs
