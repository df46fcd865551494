import Derived.Test.YtjedcphhajlnoaaDoorProg
import Derived.WalkKit
import Derived.Ground.NamesProg
import Derived.Shelf.Strings.SlTrimAscii
import Derived.Sort.Walk0
import Derived.Test.YtjedcphhajlnoaaDoorM5
import Derived.Test.YtjedcphhajlnoaaDoorM6
import Derived.Test.YtjedcphhajlnoaaDoorM7
set_option linter.unusedSimpArgs false
set_option linter.unusedVariables false
set_option linter.unusedSectionVars false
/- Functions: numerals. -/
namespace Go.Proofs.YtjedcphhajlnoaaDoor
open Go.RowKit

/-- The table of tens lies where it is looked for. -/
theorem glo_tab {w : World} (h : GloOk0 w) : Lib.TabIs Tryd.prog w "internal/strconv.uint64pow10" .u64 Lib.pow10Tab := by
  obtain ⟨c, e, f, h1, h2⟩ := h _ (List.mem_cons_self ..)
  have h2 : c = (Lib.pow10Tab.map fun z => Value.int .u64 z).toArray := h2
  subst h2
  unfold Lib.TabIs World.var?
  rw [show Tryd.prog.globalNamed "internal/strconv.uint64pow10" = some _ from by kernel_rfl]
  simp only [Option.bind_some]
  rw [h1]
def decS (n : Int) : ByteArray := ⟨(Lib.itoa n).toArray⟩
def decB (u : Nat) : ByteArray := ⟨(Lib.decDigits u).toArray⟩
theorem wrap_u8 {n : Nat} (h : n < 256) : IntKind.u8.wrap (n : Int) = n := IntWalk.u8_in _ ⟨by omega, by omega⟩
theorem ofNat_u8 {n : Nat} (h : n < 256) : (UInt8.ofNat n).toNat = n := by rw [UInt8.toNat_ofNat']; omega
theorem decS_nat (u : Nat) : decS u = decB u := by
  unfold decS decB Lib.itoa
  rw [if_neg (by omega), Int.toNat_natCast]
theorem decS_neg {n : Int} (h : n < 0) : decS n = ⟨#[45]⟩ ++ decB n.natAbs := by
  unfold decS decB Lib.itoa
  rw [if_pos h]
  apply ByteArray.ext
  simp
theorem decB_small {u : Nat} (h : u < 10) : decB u = ⟨#[UInt8.ofNat (48 + u)]⟩ := by unfold decB; rw [Lib.decDigits, dif_pos h]
theorem decB_big {u : Nat} (h : ¬ u < 10) : decB u = decB (u / 10) ++ ⟨#[UInt8.ofNat (48 + u % 10)]⟩ := by
  unfold decB
  rw [Lib.decDigits, dif_neg h]
  apply ByteArray.ext
  simp
theorem decB_size (k : Nat) : ∀ u : Nat, u < 10 ^ (k + 1) → (decB u).size ≤ k + 1 := by
  induction k with
  | zero => intro u hu; rw [decB_small (by omega)]; exact Nat.le_refl _
  | succ k ih =>
    intro u hu
    by_cases h : u < 10
    · rw [decB_small h]; show 1 ≤ _; omega
    · rw [decB_big h, ByteArray.size_append]
      have := ih (u / 10) (by rw [Nat.pow_succ] at hu; omega)
      have h1 : (⟨#[UInt8.ofNat (48 + u % 10)]⟩ : ByteArray).size = 1 := rfl
      omega
theorem decS_size {n : Int} (h0 : -9223372036854775808 ≤ n) (h1 : n ≤ 9223372036854775807) : (decS n).size ≤ 20 := by
  rcases Int.lt_or_le n 0 with h | h
  · rw [decS_neg h, ByteArray.size_append]
    have := decB_size 18 n.natAbs (by omega)
    have h1 : (⟨#[45]⟩ : ByteArray).size = 1 := rfl
    omega
  · obtain ⟨u, rfl⟩ := Int.eq_ofNat_of_zero_le h
    rw [decS_nat]
    have := decB_size 18 u (by omega)
    omega
@[go_sem] def ctItoa : Ct := ⟨false, [], fun args os => match args, os with
  | [.one (.val (.int .i64 n))], [] => ifp (-9223372036854775808 ≤ n ∧ n ≤ 9223372036854775807) (vs (decS n))
  | _, _ => no⟩
theorem s_itoa_e : EnterOk Tryd.prog 36 := ⟨_, Tryd.func36, rfl, by decide⟩
theorem s_itoa : Sound Tryd.prog 36 ctItoa := by
  refine sound_plain fun args os hp => ?_
  unfold ctItoa at hp ⊢
  dsimp only at hp ⊢
  split at hp
  · rename_i n
    obtain ⟨h0, h1⟩ : -9223372036854775808 ≤ n ∧ n ≤ 9223372036854775807 := hp
    refine ⟨rfl, [.int .i64 n], .string (decS n), rfl, rfl, fun w hw => ?_⟩
    refine (Any.strconv_Itoa Tryd.lays171 n h0 h1 w (glo_tab hw)).mono ?_
    rintro e w' ⟨he, k, os, rfl⟩
    refine ⟨he, rfl, rfl, rfl, ?_, fun j hj => ?_⟩
    · show w.heap.size ≤ (w.heap ++ os).size
      rw [Array.size_append]; omega
    · show (w.heap ++ os)[j]? = w.heap[j]?
      rw [Array.getElem?_append_left hj]
  · exact hp.elim
/-- The reference's numeral: for a number that is not negative n is 1, for all of them n is 2. -/
@[go_sem] def ctDec (k : Nat) : Ct := ⟨false, [], fun args os => match args, os with
  | [.one (.val (.int .i64 n))], [] => ifp (-9223372036854775808 ≤ n ∧ n ≤ 9223372036854775807 ∧ (0 ≤ n ∧ 1 ≤ k ∨ 2 ≤ k)) (vs (decS n))
  | _, _ => no⟩
theorem s_dec_e : EnterOk Tryd.prog 30 := ⟨_, Tryd.func30, rfl, by decide⟩
@[go_sem] def s_dec_lv : List (List Nat) := [[0], [0, 5], [2], [0, 7], [2], [0, 3], [0, 3, 13], [0, 3], [0, 3], [2]]
@[go_sem] noncomputable def s_dec_K (n : Nat) (ih : Sound Tryd.prog 30 (ctDec n)) : Known := (Known.nil).cons 30 (ctDec n) ih s_dec_e
set_option maxHeartbeats 8000000 in
theorem s_dec_step (n : Nat) (ih : Sound Tryd.prog 30 (ctDec n)) : Sound Tryd.prog 30 (ctDec (n + 1)) := by
  have ke := (s_dec_K n ih).env []
  have kl : Lives s_dec_lv := trivial
  refine sound_intro (E := ⟨ti, (s_dec_K n ih).Γ, []⟩) ke Tryd.func30 Tryd.ntmps30 rfl (rs := [.tmp 2]) rfl ?_
  intro args os hp
  unfold ctDec at hp ⊢
  dsimp only at hp ⊢
  split at hp
  · rename_i z
    refine ⟨by simp, fun φ0 w0 => ?_⟩
    obtain ⟨h0, h1, h2⟩ : -9223372036854775808 ≤ z ∧ z ≤ 9223372036854775807 ∧ (0 ≤ z ∧ 1 ≤ n + 1 ∨ 2 ≤ n + 1) := hp
    refine goh trivial ?_
    refine W_cnd ?_ ?_ <;> (try simp only [cnd_r]) <;> intro hc
    · obtain rfl : z = -9223372036854775808 := by omega
      have e : decS (-9223372036854775808) = ⟨#[45, 57, 50, 50, 51, 51, 55, 50, 48, 51, 54, 56, 53, 52, 55, 55, 53, 56, 48, 56]⟩ := by decide +kernel
      refine goh trivial ?_
      exact finh [] e
    · refine goh trivial ?_
      refine W_cnd ?_ ?_ <;> (try simp only [cnd_r]) <;> intro hn
      · have hw : IntKind.i64.wrap (0 - z) = -z := by rw [Int.zero_sub]; exact wrap_id _ (by omega) (by omega)
        obtain ⟨u, hu⟩ := Int.eq_ofNat_of_zero_le (show 0 ≤ -z by omega)
        have e : decS z = ⟨#[45]⟩ ++ decS (-z) := by
          rw [decS_neg hn, hu, decS_nat, show z.natAbs = u by omega]
        have hs := decS_size (n := -z) (by omega) (by omega)
        refine goh hw ?_
        exact finh [] e
      · obtain ⟨u, rfl⟩ := Int.eq_ofNat_of_zero_le (show 0 ≤ z by omega)
        have hsz := decB_size 18 u (by omega)
        refine goh trivial ?_
        refine W_le (σ' := ⟨[(0, vi u), (3, vs ⟨#[]⟩)], [], []⟩) [] (leh trivial) ?_
        refine W_loop (fun q σ => ∃ (m : Nat) (out : ByteArray), q = m ∧ m ≤ u ∧ decB m ++ out = decB u ∧ σ = ⟨[(0, vi m), (3, vs out)], [], []⟩) u ⟨u, ⟨#[]⟩, rfl, Nat.le_refl _, ByteArray.append_empty, rfl⟩ ?_
        rintro q σ ⟨m, out, rfl, hm, hd, rfl⟩
        have hos : out.size ≤ 20 := by
          have := congrArg ByteArray.size hd
          rw [ByteArray.size_append] at this
          omega
        refine goh trivial ?_
        refine W_cnd ?_ ?_ <;> (try simp only [cnd_r]) <;> intro hlt
        · have hr : ((q : Int)).tmod 10 = ((q % 10 : Nat) : Int) := (Int.ofNat_tmod q 10).symm
          have hv : ((q : Int)).tdiv 10 = ((q / 10 : Nat) : Int) := (Int.ofNat_tdiv q 10).symm
          have w1 : IntKind.i64.wrap ((q % 10 : Nat) : Int) = ((q % 10 : Nat) : Int) := wrap_id _ (by omega) (by omega)
          have w2 : IntKind.i64.wrap ((q / 10 : Nat) : Int) = ((q / 10 : Nat) : Int) := wrap_id _ (by omega) (by omega)
          have w3 : IntKind.i64.wrap (48 + ((q % 10 : Nat) : Int)) = ((48 + q % 10 : Nat) : Int) := wrap_id _ (by omega) (by omega)
          have w4 : IntKind.u8.wrap ((48 + q % 10 : Nat) : Int) = ((48 + q % 10 : Nat) : Int) := wrap_u8 (by omega)
          have hd2 : decB (q / 10) ++ (⟨#[UInt8.ofNat (48 + q % 10)]⟩ ++ out) = decB u := by
            rw [← ByteArray.append_assoc, ← decB_big (by omega), hd]
          have w5 : (UInt8.ofNat (48 + q % 10)).toNat = 48 + q % 10 := ofNat_u8 (by omega)
          refine goh (And.intro hr (And.intro hv (And.intro w1 (And.intro w2 (And.intro w3 (And.intro w4 w5)))))) ?_
          exact ⟨q / 10, [], ⟨[(0, vi (q / 10 : Nat)), (3, vs (⟨#[UInt8.ofNat (48 + q % 10)]⟩ ++ out))], [], []⟩, by omega, leh trivial, q / 10, _, rfl, by omega, hd2, rfl⟩
        · have w3 : IntKind.i64.wrap (48 + (q : Int)) = ((48 + q : Nat) : Int) := wrap_id _ (by omega) (by omega)
          have w4 : IntKind.u8.wrap ((48 + q : Nat) : Int) = ((48 + q : Nat) : Int) := wrap_u8 (by omega)
          have w5 : (UInt8.ofNat (48 + q)).toNat = 48 + q := ofNat_u8 (by omega)
          have e : decS u = ⟨#[UInt8.ofNat (48 + q)]⟩ ++ out := by rw [decS_nat, ← hd, decB_small (by omega)]
          refine goh (And.intro w3 (And.intro w4 w5)) ?_
          exact finh [] e
  · simp [no, ifp] at hp
theorem s_dec_all : ∀ n, Sound Tryd.prog 30 (ctDec n)
  | 0 => fun args os hp => by
    unfold ctDec at hp
    dsimp only at hp
    split at hp
    · obtain ⟨-, -, h⟩ : _ ∧ _ ∧ (_ ∧ 1 ≤ 0 ∨ 2 ≤ 0) := hp
      omega
    · exact hp.elim
  | n + 1 => s_dec_step n (s_dec_all n)
theorem s_dec2 : Sound Tryd.prog 30 (ctDec 2) := s_dec_all 2
theorem s_dec2_e : EnterOk Tryd.prog 30 := s_dec_e
end Go.Proofs.YtjedcphhajlnoaaDoor
/- Functions: the digits of bytes, sealed texts. -/
namespace Go.Proofs.YtjedcphhajlnoaaDoor
open Go.RowKit

def hexs : ByteArray := ⟨#[48, 49, 50, 51, 52, 53, 54, 55, 56, 57, 97, 98, 99, 100, 101, 102]⟩
def hexd (k : Nat) : UInt8 := hexs.data.getD k 0
def hexN (s : ByteArray) : Nat → List UInt8
  | 0 => []
  | i + 1 => hexN s i ++ [hexd ((s.data.getD i 0).toNat / 16), hexd ((s.data.getD i 0).toNat % 16)]
theorem hexN_len (s : ByteArray) : ∀ i, (hexN s i).length = 2 * i
  | 0 => rfl
  | i + 1 => by unfold hexN; rw [List.length_append, hexN_len s i]; simp only [List.length_cons, List.length_nil]; omega
def hexV (s : ByteArray) : ByteArray := ⟨(hexN s s.size).toArray⟩
theorem nib_hi (b : UInt8) : ((b.toNat : Int)).fdiv (2 ^ min 4 8) = ((b.toNat / 16 : Nat) : Int) := by
  rw [Int.fdiv_eq_ediv_of_nonneg _ (by decide)]
  show (b.toNat : Int) / 16 = _
  omega
theorem nib_lo (b : UInt8) : IntKind.u8.wrap (andZ .u8 b.toNat 15) = ((b.toNat % 16 : Nat) : Int) := by
  have h : ∀ k : Fin 256, IntKind.u8.wrap (andZ .u8 ((k.val : Nat) : Int) 15) = ((k.val % 16 : Nat) : Int) := by decide +kernel
  exact h ⟨b.toNat, b.toNat_lt⟩
theorem hexd_at (k : Nat) : (#[48, 49, 50, 51, 52, 53, 54, 55, 56, 57, 97, 98, 99, 100, 101, 102] : Array UInt8).getD k 0 = hexd k := rfl
@[go_sem] def ctHex : Ct := ⟨false, [], fun args os => match args, os with
  | [.one (.val (.string s))], [] => ifp (s.size ≤ 1000000000) (vs (hexV s))
  | _, _ => no⟩
theorem s_hex_e : EnterOk Tryd.prog 37 := ⟨_, Tryd.func37, rfl, by decide⟩
@[go_sem] def s_hex_lv : List (List Nat) := [[0], [0, 3], [0, 3, 6, 7], [0, 3, 6, 7, 8], [0, 3, 4, 6, 7], [0, 3, 6, 7], [0, 3, 6, 7], [2]]
@[go_sem] noncomputable def s_hex_K : Known := Known.nil
set_option maxHeartbeats 8000000 in
theorem s_hex : Sound Tryd.prog 37 ctHex := by
  have ke := s_hex_K.env []
  have kl : Lives s_hex_lv := trivial
  refine sound_intro (E := ⟨ti, s_hex_K.Γ, []⟩) ke Tryd.func37 Tryd.ntmps37 rfl (rs := [.tmp 2]) rfl ?_
  intro args os hp
  unfold ctHex at hp ⊢
  dsimp only at hp ⊢
  split at hp
  · rename_i s
    have hlen : s.size ≤ 1000000000 := hp
    refine ⟨by simp, fun φ0 w0 => ?_⟩
    refine goh trivial ?_
    refine W_for s.size (fun i => True) (fun i => ⟨[(0, vs s), (3, .one (.osl .byte 0 0 (hexN s i).length)), (6, vi s.size), (7, vi i)], [some (.arr .byte (hexN s i))], []⟩) [none] (leh trivial) trivial fun i hi _ => ?_
    have hl := hexN_len s i
    refine goh trivial ?_
    refine W_cnd ?_ ?_ <;> (try simp only [cnd_r]) <;> intro hlt
    · have h1 := nib_hi (s.data.getD i 0)
      have h2 := nib_lo (s.data.getD i 0)
      have hb := (s.data.getD i 0).toNat_lt
      have hs : hexN s (i + 1) = hexN s i ++ [hexd ((s.data.getD i 0).toNat / 16), hexd ((s.data.getD i 0).toNat % 16)] := rfl
      have hda : ∀ k : Nat, (#[48, 49, 50, 51, 52, 53, 54, 55, 56, 57, 97, 98, 99, 100, 101, 102] : Array UInt8).getD k 0 = hexd k := hexd_at
      have hof : ∀ x : UInt8, UInt8.ofNat x.toNat = x := fun x => UInt8.ofNat_toNat
      refine goh (And.intro h1 (And.intro h2 (And.intro hda hof))) ?_
      exact ⟨[some 2], by omega, leh hs, trivial⟩
    · obtain rfl : i = s.size := by omega
      have e : hexV s = ⟨(hexN s s.size).toArray⟩ := rfl
      refine goh trivial ?_
      exact finh [] e
  · simp [no, ifp] at hp
@[go_sem] def ctDigit : Ct := ⟨false, [], fun args os => match args, os with
  | [.one (.val (.int .i64 n))], [] => ifp (0 ≤ n ∧ n < 16) (.one (.val (.int .u8 (hexd n.toNat).toNat)))
  | _, _ => no⟩
theorem s_digit_e : EnterOk Tryd.prog 55 := ⟨_, Tryd.func55, rfl, by decide⟩
@[go_sem] def s_digit_lv : List (List Nat) := [[0], [2]]
@[go_sem] noncomputable def s_digit_K : Known := Known.nil
set_option maxHeartbeats 8000000 in
theorem s_digit : Sound Tryd.prog 55 ctDigit := by
  have ke := s_digit_K.env []
  have kl : Lives s_digit_lv := trivial
  refine sound_intro (E := ⟨ti, s_digit_K.Γ, []⟩) ke Tryd.func55 Tryd.ntmps55 rfl (rs := [.tmp 2]) rfl ?_
  intro args os hp
  unfold ctDigit at hp ⊢
  dsimp only at hp ⊢
  split at hp
  · rename_i n
    obtain ⟨h1, h2⟩ : 0 ≤ n ∧ n < 16 := hp
    refine ⟨by simp, fun φ0 w0 => ?_⟩
    have hda : ∀ k : Nat, (#[48, 49, 50, 51, 52, 53, 54, 55, 56, 57, 97, 98, 99, 100, 101, 102] : Array UInt8).getD k 0 = hexd k := hexd_at
    refine goh hda ?_
    exact finh [] trivial
  · simp [no, ifp] at hp
theorem s_specHex_e : EnterOk Tryd.prog 31 := ⟨_, Tryd.func31, rfl, by decide⟩
@[go_sem] def s_specHex_lv : List (List Nat) := [[0], [0, 3], [0, 3, 4], [0, 3, 4, 9], [0, 3, 4], [0, 3, 4], [2]]
@[go_sem] noncomputable def s_specHex_K : Known := (Known.nil).cons 55 ctDigit s_digit s_digit_e
set_option maxHeartbeats 8000000 in
theorem s_specHex : Sound Tryd.prog 31 ctHex := by
  have ke := s_specHex_K.env []
  have kl : Lives s_specHex_lv := trivial
  refine sound_intro (E := ⟨ti, s_specHex_K.Γ, []⟩) ke Tryd.func31 Tryd.ntmps31 rfl (rs := [.tmp 2]) rfl ?_
  intro args os hp
  unfold ctHex at hp ⊢
  dsimp only at hp ⊢
  split at hp
  · rename_i s
    have hlen : s.size ≤ 1000000000 := hp
    refine ⟨by simp, fun φ0 w0 => ?_⟩
    refine goh trivial ?_
    refine W_for s.size (fun i => True) (fun i => ⟨[(0, vs s), (3, .one (.osl .byte 0 0 (hexN s i).length)), (4, vi i)], [some (.arr .byte (hexN s i))], []⟩) [some 0] (leh trivial) trivial fun i hi _ => ?_
    have hl := hexN_len s i
    refine goh trivial ?_
    refine W_cnd ?_ ?_ <;> (try simp only [cnd_r]) <;> intro hlt
    · have h1 : ((s.data.getD i 0).toNat : Int).tdiv 16 = (((s.data.getD i 0).toNat / 16 : Nat) : Int) := (Int.ofNat_tdiv _ 16).symm
      have h2 : ((s.data.getD i 0).toNat : Int).tmod 16 = (((s.data.getD i 0).toNat % 16 : Nat) : Int) := (Int.ofNat_tmod _ 16).symm
      have hb := (s.data.getD i 0).toNat_lt
      have w2 : IntKind.i64.wrap ((s.data.getD i 0).toNat : Int) = ((s.data.getD i 0).toNat : Int) := wrap_id _ (by omega) (by omega)
      have w1 : IntKind.i64.wrap (((s.data.getD i 0).toNat / 16 : Nat) : Int) = (((s.data.getD i 0).toNat / 16 : Nat) : Int) := wrap_id _ (by omega) (by omega)
      have hs : hexN s (i + 1) = hexN s i ++ [hexd ((s.data.getD i 0).toNat / 16), hexd ((s.data.getD i 0).toNat % 16)] := rfl
      have hof : ∀ x : UInt8, UInt8.ofNat x.toNat = x := fun x => UInt8.ofNat_toNat
      refine goh (And.intro w2 (And.intro h1 (And.intro h2 (And.intro w1 hof)))) ?_
      exact ⟨[some 2], by omega, leh hs, trivial⟩
    · obtain rfl : i = s.size := by omega
      have e : hexV s = ⟨(hexN s s.size).toArray⟩ := rfl
      refine goh trivial ?_
      exact finh [] e
  · simp [no, ifp] at hp
theorem hexV_size (s : ByteArray) : (hexV s).size = 2 * s.size := by
  show (hexN s s.size).toArray.size = _
  rw [List.size_toArray, hexN_len]
noncomputable def sealV (s : ByteArray) : ByteArray := if 400 < s.size then ⟨#[]⟩ else decS (sumOf s) ++ ⟨#[58]⟩ ++ s
@[go_sem] noncomputable def ctSeal : Ct := ⟨false, [], fun args os => match args, os with
  | [.one (.val (.string s))], [] => is (vs (sealV s))
  | _, _ => no⟩
theorem s_seal_e : EnterOk Tryd.prog 38 := ⟨_, Tryd.func38, rfl, by decide⟩
@[go_sem] def s_seal_lv : List (List Nat) := [[0], [0, 5], [2], [2]]
@[go_sem] noncomputable def s_seal_K : Known := ((Known.nil).cons 59 ctSumOf s_sumOf s_sumOf_e).cons 36 ctItoa s_itoa s_itoa_e
set_option maxHeartbeats 8000000 in
theorem s_seal : Sound Tryd.prog 38 ctSeal := by
  have ke := s_seal_K.env []
  have kl : Lives s_seal_lv := trivial
  refine sound_intro (E := ⟨ti, s_seal_K.Γ, []⟩) ke Tryd.func38 Tryd.ntmps38 rfl (rs := [.tmp 2]) rfl ?_
  intro args os hp
  unfold ctSeal at hp ⊢
  dsimp only at hp ⊢
  split at hp
  · rename_i s
    refine ⟨by simp, fun φ0 w0 => ?_⟩
    refine goh trivial ?_
    refine W_cnd ?_ ?_ <;> (try simp only [cnd_r]) <;> intro hc
    · have e : sealV s = ⟨#[]⟩ := by unfold sealV; rw [if_pos (by omega)]
      refine goh trivial ?_
      exact finh [] e
    · have e : sealV s = decS (sumOf s) ++ ⟨#[58]⟩ ++ s := by unfold sealV; rw [if_neg (by omega)]
      have h1 := sumAt_lt s s.size
      have h2 : sumAt s s.size = sumOf s := rfl
      have h3 := decS_size (n := sumOf s) (by omega) (by omega)
      have h4 : (⟨#[58]⟩ : ByteArray).size = 1 := rfl
      refine goh trivial ?_
      exact finh [] e
  · simp [no, is, ifp] at hp
theorem s_specSeal_e : EnterOk Tryd.prog 32 := ⟨_, Tryd.func32, rfl, by decide⟩
@[go_sem] def s_specSeal_lv : List (List Nat) := [[0], [0, 5], [2], [2]]
@[go_sem] noncomputable def s_specSeal_K : Known := ((Known.nil).cons 56 ctSumOf s_specSum s_specSum_e).cons 30 (ctDec 2) s_dec2 s_dec2_e
set_option maxHeartbeats 8000000 in
theorem s_specSeal : Sound Tryd.prog 32 ctSeal := by
  have ke := s_specSeal_K.env []
  have kl : Lives s_specSeal_lv := trivial
  refine sound_intro (E := ⟨ti, s_specSeal_K.Γ, []⟩) ke Tryd.func32 Tryd.ntmps32 rfl (rs := [.tmp 2]) rfl ?_
  intro args os hp
  unfold ctSeal at hp ⊢
  dsimp only at hp ⊢
  split at hp
  · rename_i s
    refine ⟨by simp, fun φ0 w0 => ?_⟩
    refine goh trivial ?_
    refine W_cnd ?_ ?_ <;> (try simp only [cnd_r]) <;> intro hc
    · have e : sealV s = ⟨#[]⟩ := by unfold sealV; rw [if_pos (by omega)]
      refine goh trivial ?_
      exact finh [] e
    · have e : sealV s = decS (sumOf s) ++ ⟨#[58]⟩ ++ s := by unfold sealV; rw [if_neg (by omega)]
      have h1 := sumAt_lt s s.size
      have h2 : sumAt s s.size = sumOf s := rfl
      have h3 := decS_size (n := sumOf s) (by omega) (by omega)
      have h4 : (⟨#[58]⟩ : ByteArray).size = 1 := rfl
      refine goh trivial ?_
      exact finh [] e
  · simp [no, is, ifp] at hp
end Go.Proofs.YtjedcphhajlnoaaDoor
/-
  DERIVED: THE SHELF's CONTRACTS AT THIS DUMP, IN PLAIN WORDS (tools/lay-plain.mjs out of 'YtjedcphhajlnoaaDoorTSh1Q.lean', which tools/lay-shelf.mjs wrote): THE SAME DECLARATIONS UNDER THE SAME NAMES: 'import', 'namespace', 'open', 'def', 'theorem' AND NOTHING ELSE: no command of the shelf's: FOR A HAND-IN. Each laying: the table of numbers ('.._ren') and one theorem, a field a fact of the dump's own or the kernel's comparison; each contract: ONE APPLICATION.
-/
namespace Go.Proofs
open Go.Shelf
def Tryd.lays160_ren : Go.Shelf.Ren := ⟨fun | 160 => 65 | 232 => 78 | 231 => 77 | 227 => 79 | 234 => 81 | 233 => 80 | 236 => 83 | 235 => 82 | 228 => 94 | 271 => 97 | 151 => 96 | 197 => 95 | 120 => 105 | 152 => 104 | 260 => 103 | 137 => 108 | 119 => 109 | 224 => 110 | 225 => 111 | 217 => 112 | 266 => 113 | n => n, fun | 9 => 9 | 4 => 4 | 3 => 3 | 5 => 5 | 117 => 101 | 116 => 100 | 0 => 0 | 124 => 104 | 21 => 21 | 105 => 117 | 46 => 77 | 119 => 128 | 139 => 131 | 138 => 130 | n => n, fun | 3 => 2 | 4 => 3 | n => n⟩
theorem Tryd.lays160 : Go.Proofs.Lays.n160 Tryd.prog Tryd.lays160_ren := {
  mixed := by kernel_rfl
  f119 := Tryd.func109.trans (congrArg some (by kernel_rfl))
  f120 := Tryd.func105.trans (congrArg some (by kernel_rfl))
  f137 := Tryd.func108.trans (congrArg some (by kernel_rfl))
  f151 := Tryd.func96.trans (congrArg some (by kernel_rfl))
  f152 := Tryd.func104.trans (congrArg some (by kernel_rfl))
  f160 := Tryd.func65.trans (congrArg some (by kernel_rfl))
  f197 := Tryd.func95.trans (congrArg some (by kernel_rfl))
  f217 := Tryd.func112.trans (congrArg some (by kernel_rfl))
  f224 := Tryd.func110.trans (congrArg some (by kernel_rfl))
  f225 := Tryd.func111.trans (congrArg some (by kernel_rfl))
  f227 := Tryd.func79.trans (congrArg some (by kernel_rfl))
  f228 := Tryd.func94.trans (congrArg some (by kernel_rfl))
  f231 := Tryd.func77.trans (congrArg some (by kernel_rfl))
  f232 := Tryd.func78.trans (congrArg some (by kernel_rfl))
  f233 := Tryd.func80.trans (congrArg some (by kernel_rfl))
  f234 := Tryd.func81.trans (congrArg some (by kernel_rfl))
  f235 := Tryd.func82.trans (congrArg some (by kernel_rfl))
  f236 := Tryd.func83.trans (congrArg some (by kernel_rfl))
  f260 := Tryd.func103.trans (congrArg some (by kernel_rfl))
  f266 := Tryd.func113.trans (congrArg some (by kernel_rfl))
  f271 := Tryd.func97.trans (congrArg some (by kernel_rfl))
  t0 := Tryd.underlying0
  a0 := Tryd.isAgg0
  z0 := Tryd.sizeOf0
  v0 := Tryd.zeroValue0
  t3 := Tryd.underlying3
  a3 := Tryd.isAgg3
  z3 := Tryd.sizeOf3
  v3 := Tryd.zeroValue3
  t4 := Tryd.underlying4
  a4 := Tryd.isAgg4
  z4 := Tryd.sizeOf4
  v4 := Tryd.zeroValue4
  t5 := Tryd.underlying5
  a5 := Tryd.isAgg5
  z5 := Tryd.sizeOf5
  v5 := Tryd.zeroValue5
  t9 := Tryd.underlying9
  a9 := Tryd.isAgg9
  z9 := Tryd.sizeOf9
  v9 := Tryd.zeroValue9
  t21 := Tryd.underlying21
  a21 := Tryd.isAgg21
  z21 := Tryd.sizeOf21
  v21 := Tryd.zeroValue21
  t46 := Tryd.underlying77
  a46 := Tryd.isAgg77
  z46 := Tryd.sizeOf77
  v46 := Tryd.zeroValue77
  t105 := Tryd.underlying117
  a105 := Tryd.isAgg117
  z105 := Tryd.sizeOf117
  v105 := Tryd.zeroValue117
  t116 := Tryd.underlying100
  a116 := Tryd.isAgg100
  z116 := Tryd.sizeOf100
  t117 := Tryd.underlying101
  a117 := Tryd.isAgg101
  z117 := Tryd.sizeOf101
  v117 := Tryd.zeroValue101
  t119 := Tryd.underlying128
  a119 := Tryd.isAgg128
  z119 := Tryd.sizeOf128
  t124 := Tryd.underlying104
  a124 := Tryd.isAgg104
  z124 := Tryd.sizeOf104
  v124 := Tryd.zeroValue104
  t138 := Tryd.underlying130
  a138 := Tryd.isAgg130
  z138 := Tryd.sizeOf130
  v138 := Tryd.zeroValue130
  t139 := Tryd.underlying131
  a139 := Tryd.isAgg131
  z139 := Tryd.sizeOf131
  v139 := Tryd.zeroValue131
  g3 := by kernel_rfl
  g4 := by kernel_rfl }
end Go.Proofs
/- strings.Trim at the small letters. -/
namespace Go.Proofs.YtjedcphhajlnoaaDoor
open Go.RowKit

def small : ByteArray := ⟨#[97, 98, 99, 100, 101, 102, 103, 104, 105, 106, 107, 108, 109, 110, 111, 112, 113, 114, 115, 116, 117, 118, 119, 120, 121, 122]⟩
def trimmed (s : ByteArray) : ByteArray := ⟨(Lib.trimS s.data.toList small.data.toList).toArray⟩
@[go_sem] def ctTrim : Ct := ⟨false, [], fun args os => match args, os with
  | [.one (.val (.string s)), .one (.val (.string c))], [] => ifp (s.size ≤ 9223372036854775807 ∧ c = small) (vs (trimmed s))
  | _, _ => no⟩
theorem s_trim_e : EnterOk Tryd.prog 65 := ⟨_, Tryd.func65, rfl, by decide⟩
theorem s_trim : Sound Tryd.prog 65 ctTrim := by
  refine sound_plain fun args os hp => ?_
  unfold ctTrim at hp ⊢
  dsimp only at hp ⊢
  split at hp
  · rename_i s c
    obtain ⟨hs, rfl⟩ : s.size ≤ 9223372036854775807 ∧ c = small := hp
    refine ⟨rfl, [.string s, .string small], .string (trimmed s), rfl, rfl, fun w _ => ?_⟩
    exact Any.strings_Trim_laid Tryd.lays160 (by kernel_rfl) s small w hs (by decide) (ascii_of_all (by decide))
  · exact hp.elim
end Go.Proofs.YtjedcphhajlnoaaDoor
/- Plain facts: names. -/
namespace Go.Proofs.YtjedcphhajlnoaaDoor
open Go.RowKit

def isLow (b : UInt8) : Bool := decide (97 ≤ b.toNat) && decide (b.toNat ≤ 122)
/-- Is it a name: one to six small letters. -/
def nameB (s : ByteArray) : Bool := (decide (1 ≤ s.size) && decide (s.size ≤ 6)) && s.data.toList.all isLow
theorem small_low : ∀ n : Fin 256, small.data.toList.contains (UInt8.ofNat n.val) = isLow (UInt8.ofNat n.val) := by decide +kernel
theorem small_low' (b : UInt8) : small.data.toList.contains b = isLow b := by
  have h := small_low ⟨b.toNat, b.toNat_lt⟩
  simpa using h
theorem dropWhile_nil {α : Type} (p : α → Bool) : ∀ l : List α, l.dropWhile p = [] ↔ l.all p = true
  | [] => by simp
  | a :: l => by
    rw [List.dropWhile_cons, List.all_cons]
    cases h : p a
    · simp
    · simpa using dropWhile_nil p l
theorem trimmed_nil (s : ByteArray) : trimmed s = ⟨#[]⟩ ↔ s.data.toList.all isLow = true := by
  have hp : (fun b => small.data.toList.contains b) = isLow := funext small_low'
  have hsub : ∀ l : List UInt8, (l.reverse.dropWhile isLow).reverse.all isLow = true → l.all isLow = true := by
    intro l h
    rw [List.all_reverse] at h
    have h2 : l.reverse.all isLow = true := by
      rw [← List.takeWhile_append_dropWhile (p := isLow) (l := l.reverse), List.all_append, h, Bool.and_true]
      exact List.all_takeWhile
    rwa [List.all_reverse] at h2
  have hback : ∀ l : List UInt8, l.all isLow = true → l.reverse.dropWhile isLow = [] := fun l h => (dropWhile_nil _ _).2 (by rwa [List.all_reverse])
  unfold trimmed Lib.trimS Lib.trimLeftS Lib.trimRightS
  rw [hp]
  constructor
  · intro h
    have h1 : ((s.data.toList.reverse.dropWhile isLow).reverse.dropWhile isLow) = [] := by
      have h2 := congrArg (fun x : ByteArray => x.data.toList) h
      simpa using h2
    exact hsub _ ((dropWhile_nil _ _).1 h1)
  · intro h
    rw [hback _ h]
    rfl
theorem all_low (s : ByteArray) : s.data.toList.all isLow = true ↔ ∀ j, j < s.size → isLow (s.data.getD j 0) = true := by
  rw [List.all_eq_true]
  constructor
  · intro h j hj
    have hj2 : j < s.data.size := hj
    have : s.data.getD j 0 = s.data[j] := dif_pos hj2
    rw [this]
    exact h _ (by simp)
  · intro h b hb
    obtain ⟨j, hj, rfl⟩ := List.getElem_of_mem hb
    have hj2 : j < s.data.size := by simpa using hj
    have h3 := h j hj2
    rw [show s.data.getD j 0 = s.data[j] from dif_pos hj2] at h3
    simpa using h3
theorem nameB_same (s : ByteArray) : nameB s = (if 1 ≤ (s.size : Int) ∧ (s.size : Int) ≤ 6 then same (trimmed s) ⟨#[]⟩ else false) := by
  have e : same (trimmed s) ⟨#[]⟩ = s.data.toList.all isLow := by
    rw [Bool.eq_iff_iff, same_true, trimmed_nil]
  unfold nameB
  rw [e]
  by_cases h : 1 ≤ (s.size : Int) ∧ (s.size : Int) ≤ 6
  · rw [if_pos h, decide_eq_true (show 1 ≤ s.size by omega), decide_eq_true (show s.size ≤ 6 by omega)]; rfl
  · rw [if_neg h, Bool.and_eq_false_iff]
    left
    rw [Bool.and_eq_false_iff, decide_eq_false_iff_not, decide_eq_false_iff_not]
    omega
theorem nameB_false {s : ByteArray} {i : Nat} (hi : i < s.size) (h : isLow (s.data.getD i 0) = false) : nameB s = false := by
  unfold nameB
  have : s.data.toList.all isLow = false := by
    rw [← Bool.not_eq_true, all_low]
    intro h2
    rw [h2 i hi] at h; cases h
  rw [this, Bool.and_false]
theorem nameB_low {s : ByteArray} (h : ∀ j, j < s.size → isLow (s.data.getD j 0) = true) : nameB s = (if (s.size : Int) > 0 then decide ((s.size : Int) ≤ 6) else false) := by
  unfold nameB
  rw [(all_low s).2 h, Bool.and_true]
  by_cases h1 : (s.size : Int) > 0
  · rw [if_pos h1, decide_eq_true (show 1 ≤ s.size by omega), Bool.true_and, decide_eq_decide]; omega
  · rw [if_neg h1, decide_eq_false (show ¬ 1 ≤ s.size by omega)]; rfl
end Go.Proofs.YtjedcphhajlnoaaDoor
/- Functions: names. -/
namespace Go.Proofs.YtjedcphhajlnoaaDoor
open Go.RowKit

@[go_sem] def ctName : Ct := ⟨false, [], fun args os => match args, os with
  | [.one (.val (.string s))], [] => ifp (s.size ≤ 9223372036854775807) (vb (nameB s))
  | _, _ => no⟩
theorem s_bookName_e : EnterOk Tryd.prog 44 := ⟨_, Tryd.func44, rfl, by decide⟩
@[go_sem] def s_bookName_lv : List (List Nat) := [[0], [2]]
@[go_sem] noncomputable def s_bookName_K : Known := ((Known.nil).cons 64 ctWithin s_within s_within_e).cons 65 ctTrim s_trim s_trim_e
set_option maxHeartbeats 8000000 in
theorem s_bookName : Sound Tryd.prog 44 ctName := by
  have ke := s_bookName_K.env []
  have kl : Lives s_bookName_lv := trivial
  refine sound_intro (E := ⟨ti, s_bookName_K.Γ, []⟩) ke Tryd.func44 Tryd.ntmps44 rfl (rs := [.tmp 2]) rfl ?_
  intro args os hp
  unfold ctName at hp ⊢
  dsimp only at hp ⊢
  split at hp
  · rename_i s
    refine ⟨by simp, fun φ0 w0 => ?_⟩
    have hs : s.size ≤ 9223372036854775807 := hp
    clear hp
    repeat' first
      | with_reducible refine red ?_
      | refine W_seq ?_
      | (refine W_reg (s_bookName_K.env []) s_bookName_lv fun K' hK' => ?_
         simp only [go_sem, small, ↓reduceIte, ↓reduceDIte, reduceCtorEq, Nat.reduceAdd, Nat.reduceMul, Nat.reduceSub, Nat.reduceDiv, Nat.reduceMod, Nat.reduceLT, Nat.reduceLeDiff, Nat.reduceEqDiff, Nat.reduceBEq, Int.reduceToNat, Int.reduceLE, Int.reduceLT, Int.reduceEq, Int.reduceNe, Int.reduceNeg]
         (repeat' refine And.intro ?_ ?_) <;> try first | with_reducible refine hK' ?_ | exact shut6)
      | with_reducible refine blockG_o (by decide) ?_
    refine ⟨by (simp only [go_sem, ↓reduceIte, reduceCtorEq, Nat.reduceAdd, Nat.reduceLT, Nat.reduceLeDiff, Nat.reduceEqDiff]) <;> trivial, [], ?_⟩
    all_goals try simp only [go_sem, inj_r, ↓reduceIte, reduceCtorEq, Nat.reduceAdd, Nat.reduceLT, Nat.reduceLeDiff, Nat.reduceEqDiff, Int.reduceEq]
    all_goals (repeat' refine And.intro ?_ ?_) <;> try exact shut7
    exact (nameB_same s).symm
  · simp [no, ifp] at hp
@[go_sem] def sgName (s : ByteArray) (i : Nat) : Sg := ⟨[(0, vs s), (3, vi i)], [], []⟩
theorem s_specName_e : EnterOk Tryd.prog 25 := ⟨_, Tryd.func25, rfl, by decide⟩
@[go_sem] def s_specName_lv : List (List Nat) := [[0], [0, 3], [0, 3, 7], [0, 3], [0, 3, 19], [2], [2]]
@[go_sem] noncomputable def s_specName_K : Known := Known.nil
set_option maxHeartbeats 8000000 in
theorem s_specName : Sound Tryd.prog 25 ctName := by
  have ke := s_specName_K.env []
  have kl : Lives s_specName_lv := trivial
  refine sound_intro (E := ⟨ti, s_specName_K.Γ, []⟩) ke Tryd.func25 Tryd.ntmps25 rfl (rs := [.tmp 2]) rfl ?_
  intro args os hp
  unfold ctName at hp ⊢
  dsimp only at hp ⊢
  split at hp
  · rename_i s
    refine ⟨by simp, fun φ0 w0 => ?_⟩
    have hs : s.size ≤ 9223372036854775807 := hp
    clear hp
    refine goh trivial ?_
    refine W_le (σ' := sgName s 0) [] (by
      simp only [go_sem, inj_r, ↓reduceIte, reduceCtorEq, Nat.reduceAdd, Nat.reduceLT, Nat.reduceLeDiff, Nat.reduceEqDiff, Int.reduceEq]
      all_goals (repeat' refine And.intro ?_ ?_) <;> try exact shut7
      ) ?_
    refine W_loop (fun q σ => ∃ i : Nat, i ≤ s.size ∧ q = s.size - i ∧ (∀ j, j < i → isLow (s.data.getD j 0) = true) ∧ σ = sgName s i) s.size ⟨0, by omega, by omega, by omega, rfl⟩ ?_
    rintro q σ ⟨i, hi, rfl, hbef, rfl⟩
    unfold sgName
    refine goh trivial ?_
    refine W_cnd ?_ ?_ <;> (try simp only [cnd_r]) <;> intro hlt
    · refine goh trivial ?_
      refine W_cnd ?_ ?_ <;> (try simp only [cnd_r]) <;> intro hc
      · have hl : isLow (s.data.getD i 0) = false := by
          unfold isLow
          rw [Bool.and_eq_false_iff, decide_eq_false_iff_not, decide_eq_false_iff_not]; omega
        have e := nameB_false (by omega) hl
        refine goh trivial ?_
        exact finh [] e
      · have hl : isLow (s.data.getD i 0) = true := by
          unfold isLow
          rw [Bool.and_eq_true, decide_eq_true_eq, decide_eq_true_eq]; omega
        refine goh trivial ?_
        refine ⟨s.size - (i + 1), [], sgName s (i + 1), by omega, ?_, i + 1, by omega, rfl, fun j hj => ?_, rfl⟩
        · exact leh trivial
        · rcases Nat.lt_succ_iff_lt_or_eq.1 hj with h | rfl
          · exact hbef j h
          · exact hl
    · have e := nameB_low (s := s) fun j hj => hbef j (by omega)
      refine goh trivial ?_
      exact finh [] e
  · simp [no, ifp] at hp
end Go.Proofs.YtjedcphhajlnoaaDoor
/- Plain facts: books. -/
namespace Go.Proofs.YtjedcphhajlnoaaDoor
open Go.RowKit

def long24 (t : ByteArray) : Bool := decide ((t.size : Int) > 24)
noncomputable def atB (xs : List BSet) (name : ByteArray) : Int := firstAt (fun x => same x.name name) xs
/-- The set of that name, or none. -/
noncomputable def setOf (xs : List BSet) (name : ByteArray) : BSet := xs.getD (atB xs name).toNat ET.bset.dflt
/-- Does following From lead to a volume without one, in so many rounds? -/
noncomputable def leadsN (xs : List BSet) : Nat → BSet → Bool
  | 0, _ => false
  | n + 1, s => if same s.from_ ⟨#[]⟩ = true then s.kind == 1 else if atB xs s.from_ < 0 ∨ (setOf xs s.from_).kind = s.kind then false else leadsN xs n (setOf xs s.from_)
def big8 (x : BSet) : Bool := [x.blocks.x0, x.blocks.x1, x.blocks.x2, x.blocks.x3, x.blocks.x4, x.blocks.x5, x.blocks.x6, x.blocks.x7].any long24
def lessB (a b : ByteArray) : Bool := Op.bytesLess a.toList b.toList
/-- The set of place i is well formed. -/
structure SetOk (xs : List BSet) (i : Nat) : Prop where
  name : nameB (xs.getD i ET.bset.dflt).name = true
  less : 0 < i → lessB (xs.getD (i - 1) ET.bset.dflt).name (xs.getD i ET.bset.dflt).name = true
  kind : (xs.getD i ET.bset.dflt).kind = 1 ∨ (xs.getD i ET.bset.dflt).kind = 2
  small : big8 (xs.getD i ET.bset.dflt) = false
structure BookP (xs : List BSet) : Prop where
  few : xs.length ≤ 6
  each : ∀ i, i < xs.length → SetOk xs i
  leads : xs.any (fun s => !leadsN xs xs.length s) = false
noncomputable def bookB (xs : List BSet) : Bool := @decide (BookP xs) (Classical.propDecidable _)
theorem bookB_true {xs : List BSet} : bookB xs = true ↔ BookP xs := by simp [bookB]
theorem bookB_false {xs : List BSet} : bookB xs = false ↔ ¬ BookP xs := by simp [bookB]
theorem bad_expr (A B k1 k2 G : Bool) (P : Prop) [Decidable P] : (if (if (if (!A) = true then true else if P then !B else false) = true then true else if k1 = true then k2 else false) = true then true else G) = false ↔ A = true ∧ (P → B = true) ∧ (k1 = false ∨ k2 = false) ∧ G = false := by
  by_cases h : P <;> cases A <;> cases B <;> cases k1 <;> cases k2 <;> cases G <;> simp [h]
end Go.Proofs.YtjedcphhajlnoaaDoor
/- Plain facts: books in order. -/
namespace Go.Proofs.YtjedcphhajlnoaaDoor
open Go.RowKit

theorem bl_irrefl : ∀ x : List UInt8, Op.bytesLess x x = false
  | [] => rfl
  | a :: x => by
    show (decide (a < a) || (a == a && Op.bytesLess x x)) = false
    rw [bl_irrefl x]; simp
theorem bl_trans : ∀ x y z : List UInt8, Op.bytesLess x y = true → Op.bytesLess y z = true → Op.bytesLess x z = true
  | [], [], z, h, _ => by simp [Op.bytesLess] at h
  | [], b :: y, [], _, h => by simp [Op.bytesLess] at h
  | [], b :: y, c :: z, _, _ => rfl
  | a :: x, [], z, h, _ => by simp [Op.bytesLess] at h
  | a :: x, b :: y, [], _, h => by simp [Op.bytesLess] at h
  | a :: x, b :: y, c :: z, h1, h2 => by
    simp only [Op.bytesLess, Bool.or_eq_true, Bool.and_eq_true, decide_eq_true_eq, beq_iff_eq] at h1 h2 ⊢
    rcases h1 with h1 | ⟨rfl, h1⟩
    · rcases h2 with h2 | ⟨rfl, h2⟩
      · exact .inl (by rw [UInt8.lt_iff_toNat_lt] at *; omega)
      · exact .inl h1
    · rcases h2 with h2 | ⟨rfl, h2⟩
      · exact .inl h2
      · exact .inr ⟨rfl, bl_trans x y z h1 h2⟩
theorem bl_total : ∀ x y : List UInt8, Op.bytesLess x y = true ∨ x = y ∨ Op.bytesLess y x = true
  | [], [] => .inr (.inl rfl)
  | [], _ :: _ => .inl rfl
  | _ :: _, [] => .inr (.inr rfl)
  | a :: x, b :: y => by
    simp only [Op.bytesLess, Bool.or_eq_true, Bool.and_eq_true, decide_eq_true_eq, beq_iff_eq]
    by_cases h : a < b
    · exact .inl (.inl h)
    · by_cases h2 : b < a
      · exact .inr (.inr (.inl h2))
      · have e : a = b := by
          rw [UInt8.lt_iff_toNat_lt] at h h2
          exact UInt8.toNat_inj.1 (by omega)
        subst e
        rcases bl_total x y with h3 | rfl | h3
        · exact .inl (.inr ⟨rfl, h3⟩)
        · exact .inr (.inl rfl)
        · exact .inr (.inr (.inr ⟨rfl, h3⟩))
theorem toList_inj {a b : ByteArray} (h : a.toList = b.toList) : a = b := by
  have := toList_same a b
  rw [h, beq_self_eq_true] at this
  exact same_true.1 this.symm
theorem less_irrefl (a : ByteArray) : lessB a a = false := bl_irrefl _
theorem less_trans {a b c : ByteArray} (h1 : lessB a b = true) (h2 : lessB b c = true) : lessB a c = true := bl_trans _ _ _ h1 h2
theorem less_total (a b : ByteArray) : lessB a b = true ∨ a = b ∨ lessB b a = true := by
  rcases bl_total a.toList b.toList with h | h | h
  · exact .inl h
  · exact .inr (.inl (toList_inj h))
  · exact .inr (.inr h)
/-- One name after the other. -/
structure Sorted (xs : List BSet) : Prop where
  next : ∀ i, 0 < i → i < xs.length → lessB (xs.getD (i - 1) ET.bset.dflt).name (xs.getD i ET.bset.dflt).name = true
theorem Sorted.lt {xs : List BSet} (h : Sorted xs) (i : Nat) : ∀ d, i + d + 1 < xs.length → lessB (xs.getD i ET.bset.dflt).name (xs.getD (i + d + 1) ET.bset.dflt).name = true
  | 0, hd => h.next (i + 1) (by omega) hd
  | d + 1, hd => less_trans (h.lt i d (by omega)) (h.next (i + (d + 1) + 1) (by omega) hd)
/-- How many names stand ahead. -/
def lowN (xs : List BSet) (name : ByteArray) : Nat := xs.findIdx fun s => !lessB s.name name
noncomputable def thereB (xs : List BSet) (name : ByteArray) : Bool := decide (lowN xs name < xs.length) && same (xs.getD (lowN xs name) ET.bset.dflt).name name
theorem lowN_le (xs : List BSet) (name : ByteArray) : lowN xs name ≤ xs.length := List.findIdx_le_length
theorem lowN_before {xs : List BSet} {name : ByteArray} {i : Nat} (h : i < lowN xs name) : lessB (xs.getD i ET.bset.dflt).name name = true := by
  have hl := lowN_le xs name
  have h1 := List.not_of_lt_findIdx (p := fun s : BSet => !lessB s.name name) h
  have h2 : xs.getD i ET.bset.dflt = xs[i]'(by omega) := by simp [show i < xs.length by omega]
  rw [h2]; simpa using h1
theorem lowN_at {xs : List BSet} {name : ByteArray} (h : lowN xs name < xs.length) : lessB (xs.getD (lowN xs name) ET.bset.dflt).name name = false := by
  have h1 := List.findIdx_getElem (p := fun s : BSet => !lessB s.name name) (w := h)
  have h2 : xs.getD (lowN xs name) ET.bset.dflt = xs[lowN xs name]'h := by simp [h]
  rw [h2]
  have h3 : (!lessB (xs[lowN xs name]'h).name name) = true := h1
  simpa using h3
theorem lowN_eq {xs : List BSet} {name : ByteArray} {i : Nat} (hi : i ≤ xs.length) (hb : ∀ j, j < i → lessB (xs.getD j ET.bset.dflt).name name = true) (hs : i = xs.length ∨ lessB (xs.getD i ET.bset.dflt).name name = false) : lowN xs name = i := by
  have hl := lowN_le xs name
  rcases Nat.lt_trichotomy (lowN xs name) i with h | h | h
  · have h1 := hb _ h
    rw [lowN_at (by omega)] at h1; cases h1
  · exact h
  · have h1 := lowN_before h
    rcases hs with hs | hs
    · omega
    · rw [hs] at h1; cases h1
/-- In order: the two ways to look a name up agree. -/
theorem at_low {xs : List BSet} (h : Sorted xs) (name : ByteArray) : (thereB xs name = true → atB xs name = lowN xs name) ∧ (thereB xs name = false → atB xs name < 0) := by
  have hl := lowN_le xs name
  constructor
  · intro ht
    unfold thereB at ht
    rw [Bool.and_eq_true, decide_eq_true_eq, same_true] at ht
    refine firstAt_some (d := ET.bset.dflt) ht.1 (fun j hj => ?_) (same_true.2 ht.2)
    rw [same_false]
    intro he
    have := lowN_before hj
    rw [he, less_irrefl] at this; cases this
  · intro ht
    have e : atB xs name = -1 := firstAt_none (d := ET.bset.dflt) fun j hj => by
      rw [same_false]
      intro he
      rcases Nat.lt_trichotomy j (lowN xs name) with hlt | hlt | hlt
      · have := lowN_before hlt
        rw [he, less_irrefl] at this; cases this
      · subst hlt
        have : thereB xs name = true := by
          unfold thereB
          rw [Bool.and_eq_true, decide_eq_true_eq, same_true]; exact ⟨hj, he⟩
        rw [this] at ht; cases ht
      · have h1 := lowN_at (xs := xs) (name := name) (by omega)
        have h2 := h.lt (lowN xs name) (j - lowN xs name - 1) (by omega)
        rw [show lowN xs name + (j - lowN xs name - 1) + 1 = j by omega, he] at h2
        rw [h2] at h1; cases h1
    rw [e]; decide
theorem pigeon : ∀ (n : Nat) (l : List Nat), l.Nodup → (∀ j ∈ l, j < n) → l.length ≤ n
  | 0, l, _, h => by
    cases l with
    | nil => exact Nat.le_refl _
    | cons a r => exact absurd (h a (by simp)) (Nat.not_lt_zero _)
  | n + 1, l, hd, h => by
    have h1 := pigeon n (l.erase n) (hd.erase n) (fun j hj => by
      have h2 := h j (List.mem_of_mem_erase hj)
      have h3 : j ≠ n := fun e => by subst e; exact hd.not_mem_erase hj
      omega)
    have h2 := List.length_erase (a := n) (l := l)
    split at h2 <;> omega
theorem leads_mono (xs : List BSet) : ∀ (n : Nat) (s : BSet), leadsN xs n s = true → leadsN xs (n + 1) s = true
  | 0, s, h => by simp [leadsN] at h
  | n + 1, s, h => by
    unfold leadsN at h ⊢
    split
    · rename_i hf; rw [if_pos hf] at h; exact h
    · rename_i hf
      rw [if_neg hf] at h
      split
      · rename_i hk; rw [if_pos hk] at h; exact h
      · rename_i hk
        rw [if_neg hk] at h
        exact leads_mono xs n _ h
theorem setOf_at (xs : List BSet) (name : ByteArray) (h : ¬ atB xs name < 0) : (atB xs name).toNat < xs.length := by
  unfold atB firstAt at h ⊢
  split at h
  · rename_i i hi
    rw [List.findIdx?_eq_some_iff_getElem] at hi
    obtain ⟨hi, -⟩ := hi
    simpa using hi
  · exact absurd (by decide) h
/-- Who needs so many rounds has so many sets ahead. -/
theorem leads_chain (xs : List BSet) : ∀ (m k : Nat), k < xs.length → leadsN xs (m + 1) (xs.getD k ET.bset.dflt) = true → leadsN xs m (xs.getD k ET.bset.dflt) = false →
    ∃ l : List Nat, l.length = m + 1 ∧ l.Nodup ∧ ∀ j ∈ l, j < xs.length ∧ leadsN xs (m + 1) (xs.getD j ET.bset.dflt) = true
  | 0, k, hk, h1, _ => ⟨[k], rfl, by simp, fun j hj => by rw [List.mem_singleton] at hj; subst hj; exact ⟨hk, h1⟩⟩
  | m + 1, k, hk, h1, h2 => by
    have h1' := h1
    have h2' := h2
    unfold leadsN at h1 h2
    by_cases hf : same (xs.getD k ET.bset.dflt).from_ ⟨#[]⟩ = true
    · rw [if_pos hf] at h1 h2
      rw [h1] at h2; cases h2
    · rw [if_neg hf] at h1 h2
      by_cases hc : atB xs (xs.getD k ET.bset.dflt).from_ < 0 ∨ (setOf xs (xs.getD k ET.bset.dflt).from_).kind = (xs.getD k ET.bset.dflt).kind
      · rw [if_pos hc] at h1; cases h1
      · rw [if_neg hc] at h1 h2
        have hj := setOf_at xs (xs.getD k ET.bset.dflt).from_ fun h => hc (.inl h)
        obtain ⟨l, l1, l2, l3⟩ := leads_chain xs m (atB xs (xs.getD k ET.bset.dflt).from_).toNat hj h1 h2
        refine ⟨k :: l, by simp [l1], ?_, fun j hj => ?_⟩
        · rw [List.nodup_cons]
          refine ⟨fun hm => ?_, l2⟩
          have := (l3 k hm).2
          rw [h2'] at this; cases this
        · rcases List.mem_cons.1 hj with rfl | hm
          · exact ⟨hk, h1'⟩
          · exact ⟨(l3 j hm).1, leads_mono xs _ _ (l3 j hm).2⟩
/-- One round more says no more. -/
theorem leads_more (xs : List BSet) (k : Nat) (hk : k < xs.length) : leadsN xs (xs.length + 1) (xs.getD k ET.bset.dflt) = leadsN xs xs.length (xs.getD k ET.bset.dflt) := by
  cases h : leadsN xs xs.length (xs.getD k ET.bset.dflt) with
  | true => exact leads_mono xs _ _ h
  | false =>
    rw [← Bool.not_eq_true]
    intro h2
    obtain ⟨l, l1, l2, l3⟩ := leads_chain xs xs.length k hk h2 h
    have := pigeon xs.length l l2 fun j hj => (l3 j hj).1
    omega
theorem there_lt {xs : List BSet} {name : ByteArray} (h : thereB xs name = true) : lowN xs name < xs.length ∧ (xs.getD (lowN xs name) ET.bset.dflt).name = name := by
  unfold thereB at h
  rw [Bool.and_eq_true, decide_eq_true_eq, same_true] at h
  exact h
theorem book_sorted {xs : List BSet} (h : BookP xs) : Sorted xs := ⟨fun i h0 hi => (h.each i hi).less h0⟩
end Go.Proofs.YtjedcphhajlnoaaDoor
