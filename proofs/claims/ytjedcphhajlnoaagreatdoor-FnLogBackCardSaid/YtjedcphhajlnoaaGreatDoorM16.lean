import Derived.Test.YtjedcphhajlnoaaGreatDoorM5
import Derived.Test.YtjedcphhajlnoaaGreatDoorM8
import Derived.Test.YtjedcphhajlnoaaGreatDoorM13
import Derived.Test.YtjedcphhajlnoaaGreatDoorM14
import Derived.Test.YtjedcphhajlnoaaGreatDoorM15
set_option linter.unusedSimpArgs false
set_option linter.unusedVariables false
set_option linter.unusedSectionVars false
/- Functions: bytes of digits. -/
namespace Go.Proofs.YtjedcphhajlnoaaGreatDoor
open Go.RowKit

@[go_sem] def ctIndexB : Ct := ⟨false, [], fun args os => match args, os with
  | [.one (.val (.string s)), .one (.val (.int .u8 c))], [] => is (vi (Lib.indexByte s.data.toList (UInt8.ofNat c.toNat)))
  | _, _ => no⟩
theorem s_indexB_e : EnterOk Tryz.prog 206 := ⟨_, Tryz.func206, rfl, by decide⟩
theorem s_indexB : Sound Tryz.prog 206 ctIndexB := by
  refine sound_plain fun args os hp => ?_
  unfold ctIndexB at hp ⊢
  dsimp only at hp ⊢
  split at hp
  · rename_i s c
    refine ⟨rfl, [.string s, .int .u8 c], .int .i64 (Lib.indexByte s.data.toList (UInt8.ofNat c.toNat)), rfl, rfl, fun w _ => ?_⟩
    refine (Any.strings_IndexByte Tryz.lays137 s c w).mono ?_
    rintro e w' ⟨he, rfl⟩
    exact ⟨he, Below.refl _ _⟩
  · exact hp.elim
/-- A digit's number, or -1. -/
def hexI (b : UInt8) : Int := Lib.indexByte hexs.data.toList b
theorem hexI_in (b : UInt8) : -1 ≤ hexI b ∧ hexI b ≤ 15 := by
  have h : ∀ k : Fin 256, -1 ≤ hexI (UInt8.ofNat k.val) ∧ hexI (UInt8.ofNat k.val) ≤ 15 := by decide +kernel
  have := h ⟨b.toNat, b.toNat_lt⟩
  simpa using this
theorem hexI_dig {k : Nat} (h : k < 16) : hexI (hexd k) = k := by
  have h2 : ∀ k : Fin 16, hexI (hexd k.val) = (k.val : Int) := by decide +kernel
  exact h2 ⟨k, h⟩
theorem find_hex (b : UInt8) : findV b hexs = hexI b := by
  have h : ∀ k : Fin 256, findV (UInt8.ofNat k.val) hexs = hexI (UInt8.ofNat k.val) := by decide +kernel
  have := h ⟨b.toNat, b.toNat_lt⟩
  simpa using this
def unhexL (s : ByteArray) : Nat → List UInt8
  | 0 => []
  | i + 1 => unhexL s i ++ [UInt8.ofNat (16 * hexI (s.data.getD (2 * i) 0) + hexI (s.data.getD (2 * i + 1) 0)).toNat]
def unhexB (s : ByteArray) : Nat → Bool
  | 0 => true
  | i + 1 => unhexB s i && (decide (0 ≤ hexI (s.data.getD (2 * i) 0)) && decide (0 ≤ hexI (s.data.getD (2 * i + 1) 0)))
theorem unhexL_len (s : ByteArray) : ∀ i, (unhexL s i).length = i
  | 0 => rfl
  | i + 1 => by unfold unhexL; rw [List.length_append, unhexL_len s i]; rfl
theorem unhexB_down {s : ByteArray} : ∀ (n i : Nat), unhexB s i = false → i ≤ n → unhexB s n = false
  | 0, i, h, hi => by obtain rfl : i = 0 := by omega
                      exact h
  | n + 1, i, h, hi => by
    rcases Nat.lt_or_ge i (n + 1) with h1 | h1
    · unfold unhexB; rw [unhexB_down n i h (by omega)]; rfl
    · obtain rfl : i = n + 1 := by omega
      exact h
def unhexV (s : ByteArray) : Option ByteArray := if s.size % 2 = 0 ∧ unhexB s (s.size / 2) = true then some (bytesL (unhexL s (s.size / 2))) else none
theorem getD_left {α : Type} {l m : List α} {d : α} {i : Nat} (h : i < l.length) : (l ++ m).getD i d = l.getD i d := by
  rw [List.getD_eq_getElem?_getD, List.getD_eq_getElem?_getD, List.getElem?_append_left h]
theorem getD_right {α : Type} {l m : List α} {d : α} {i : Nat} (h : l.length ≤ i) : (l ++ m).getD i d = m.getD (i - l.length) d := by
  rw [List.getD_eq_getElem?_getD, List.getD_eq_getElem?_getD, List.getElem?_append_right h]
theorem hexN_at (s : ByteArray) : ∀ (n i : Nat), i < n → (hexN s n).getD (2 * i) 0 = hexd ((s.data.getD i 0).toNat / 16) ∧ (hexN s n).getD (2 * i + 1) 0 = hexd ((s.data.getD i 0).toNat % 16)
  | n + 1, i, h => by
    have hl := hexN_len s n
    unfold hexN
    rcases Nat.lt_or_ge i n with h1 | h1
    · have := hexN_at s n i h1
      rw [getD_left (by omega), getD_left (by omega)]
      exact this
    · obtain rfl : i = n := by omega
      rw [getD_right (by omega), getD_right (by omega), hl, show 2 * i - 2 * i = 0 by omega, show 2 * i + 1 - 2 * i = 1 by omega]
      exact ⟨rfl, rfl⟩
theorem unhex_hex (s : ByteArray) : unhexV (hexV s) = some s := by
  have hs := hexV_size s
  have hg : ∀ j, (hexV s).data.getD j 0 = (hexN s s.size).getD j 0 := fun j => by
    show ((hexN s s.size).toArray).getD j 0 = _
    simp
  have key : ∀ i, i ≤ s.size → unhexL (hexV s) i = s.data.toList.take i ∧ unhexB (hexV s) i = true := by
    intro i
    induction i with
    | zero => intro _; exact ⟨rfl, rfl⟩
    | succ i ih =>
      intro hi
      obtain ⟨h1, h2⟩ := ih (by omega)
      obtain ⟨a1, a2⟩ := hexN_at s s.size i (by omega)
      have hb := (s.data.getD i 0).toNat_lt
      have hil : i < s.data.toList.length := by show i < s.size; omega
      unfold unhexL unhexB
      rw [hg, hg, a1, a2, hexI_dig (by omega), hexI_dig (by omega), h1, h2]
      refine ⟨?_, by rw [decide_eq_true (by omega), decide_eq_true (by omega)]; rfl⟩
      rw [List.take_succ_eq_append_getElem hil, ← getD_list s hil]
      congr 2
      have : (16 * ((((s.data.getD i 0).toNat / 16 : Nat)) : Int) + ((((s.data.getD i 0).toNat % 16 : Nat)) : Int)).toNat = (s.data.getD i 0).toNat := by omega
      rw [this, UInt8.ofNat_toNat]
  have hh : (hexV s).size / 2 = s.size := by omega
  obtain ⟨k1, k2⟩ := key s.size (Nat.le_refl _)
  unfold unhexV
  rw [hh, if_pos ⟨by omega, k2⟩, k1, List.take_of_length_le (by show s.size ≤ s.size; omega), bytesL_data]
@[go_sem] def ctUnhex : Ct := ⟨false, [], fun args os => match args, os with
  | [.one (.val (.string s))], [] => ifp (s.size ≤ 1000000) (match unhexV s with | some t => .tup [vs t, vb true] | none => .tup [vs ⟨#[]⟩, vb false])
  | _, _ => no⟩
theorem s_unhex_e : EnterOk Tryz.prog 131 := ⟨_, Tryz.func131, rfl, by decide⟩
@[go_sem] def s_unhex_lv : List (List Nat) := [[0], [0, 11], [2, 3], [0, 4], [0, 4, 5], [0, 4, 5, 15], [0, 4, 5], [0, 4, 5, 6, 7], [0, 4, 5, 6, 7, 32], [2, 3], [0, 4, 5], [2, 3]]
@[go_sem] noncomputable def s_unhex_K : Known := (Known.nil).cons 206 ctIndexB s_indexB s_indexB_e
set_option maxHeartbeats 8000000 in
theorem s_unhex : Sound Tryz.prog 131 ctUnhex := by
  have ke := s_unhex_K.env []
  have kl : Lives s_unhex_lv := trivial
  refine sound_intro (E := ⟨ti, s_unhex_K.Γ, []⟩) ke Tryz.func131 Tryz.ntmps131 rfl (rs := [.tmp 2, .tmp 3]) rfl ?_
  intro args os hp
  unfold ctUnhex at hp ⊢
  dsimp only at hp ⊢
  split at hp
  · rename_i s
    refine ⟨by simp, fun φ0 w0 => ?_⟩
    have hlen : s.size ≤ 1000000 := hp
    have hof : ∀ x : UInt8, UInt8.ofNat x.toNat = x := fun x => UInt8.ofNat_toNat
    have hix : ∀ b : UInt8, Lib.indexByte [48, 49, 50, 51, 52, 53, 54, 55, 56, 57, 97, 98, 99, 100, 101, 102] b = hexI b := fun _ => rfl
    have hm : ((s.size : Int)).tmod 2 = ((s.size % 2 : Nat) : Int) := (Int.ofNat_tmod s.size 2).symm
    refine goh hm ?_
    refine W_cnd ?_ ?_ <;> (try simp only [cnd_r]) <;> intro hc
    · have e : unhexV s = none := by unfold unhexV; rw [if_neg (fun h => by rw [h.1] at hc; exact absurd hc (by decide))]
      refine goh trivial ?_
      exact finh [] e
    · have he : s.size % 2 = 0 := by omega
      refine goh trivial ?_
      refine W_for (s.size / 2) (fun k => unhexB s k = true) (fun k => ⟨[(0, vs s), (4, .one (.osl .byte 0 0 (unhexL s k).length)), (5, vi (2 * k : Nat))], [some (.arr .byte (unhexL s k))], []⟩) [none] (leh (show ((2 * 0 : Nat) : Int) = 0 from rfl)) rfl fun k hk hI => ?_
      have hl := unhexL_len s k
      refine goh trivial ?_
      refine W_cnd ?_ ?_ <;> (try simp only [cnd_r]) <;> intro hlt
      · have w1 : IntKind.i64.wrap (((2 * k : Nat) : Int) + 1) = ((2 * k + 1 : Nat) : Int) := wrap_id _ (by omega) (by omega)
        have w2 : IntKind.i64.wrap (((2 * k : Nat) : Int) + 2) = ((2 * (k + 1) : Nat) : Int) := wrap_id _ (by omega) (by omega)
        have r1 := hexI_in (s.data.getD (2 * k) 0)
        have r2 := hexI_in (s.data.getD (2 * k + 1) 0)
        have hL : unhexL s (k + 1) = unhexL s k ++ [UInt8.ofNat (16 * hexI (s.data.getD (2 * k) 0) + hexI (s.data.getD (2 * k + 1) 0)).toNat] := rfl
        have hB : unhexB s (k + 1) = (unhexB s k && (decide (0 ≤ hexI (s.data.getD (2 * k) 0)) && decide (0 ≤ hexI (s.data.getD (2 * k + 1) 0)))) := rfl
        obtain ⟨x, hx⟩ : ∃ x, hexI (s.data.getD (2 * k) 0) = x := ⟨_, rfl⟩
        obtain ⟨y, hy⟩ : ∃ y, hexI (s.data.getD (2 * k + 1) 0) = y := ⟨_, rfl⟩
        rw [hx] at r1 hL hB
        rw [hy] at r2 hL hB
        by_cases hbad : x < 0 ∨ y < 0
        · have hf : unhexB s (k + 1) = false := by rw [hB]; simp; omega
          have e : unhexV s = none := by unfold unhexV; rw [if_neg (fun h => by rw [unhexB_down (s.size / 2) (k + 1) hf (by omega)] at h; cases h.2)]
          by_cases hx0 : x < 0
          · have c1 : decide (x < 0) = true := by simp [hx0]
            refine goh (And.intro hof (And.intro hix (And.intro hx (And.intro hy (And.intro w1 c1))))) ?_
            refine W_cnd ?_ ?_ <;> intro hlit <;> try (cases hlit; done)
            refine goh trivial ?_
            exact finh [] e
          · have c1 : decide (x < 0) = false := by simp; omega
            have c2 : decide (y < 0) = true := by simp; omega
            refine goh (And.intro hof (And.intro hix (And.intro hx (And.intro hy (And.intro w1 (And.intro c1 c2)))))) ?_
            refine W_cnd ?_ ?_ <;> intro hlit <;> try (cases hlit; done)
            refine goh trivial ?_
            exact finh [] e
        · have c1 : decide (x < 0) = false := by simp; omega
          have c2 : decide (y < 0) = false := by simp; omega
          have w3 : IntKind.i64.wrap (16 * x) = 16 * x := wrap_id _ (by omega) (by omega)
          have w4 : IntKind.i64.wrap (16 * x + y) = 16 * x + y := wrap_id _ (by omega) (by omega)
          have w5 : IntKind.u8.wrap (16 * x + y) = 16 * x + y := IntWalk.u8_in _ ⟨by omega, by omega⟩
          have w6 : ((UInt8.ofNat (16 * x + y).toNat).toNat : Int) = 16 * x + y := by rw [ofNat_u8 (by omega)]; omega
          refine goh (And.intro hof (And.intro hix (And.intro hx (And.intro hy (And.intro w1 (And.intro c1 c2)))))) ?_
          refine W_cnd ?_ ?_ <;> intro hlit <;> try (cases hlit; done)
          refine goh (And.intro w2 (And.intro w3 (And.intro w4 (And.intro w5 w6)))) ?_
          refine ⟨[some 2], by omega, leh hL, ?_⟩
          rw [hB, hI]; simp; omega
      · obtain rfl : k = s.size / 2 := by omega
        have e : unhexV s = some (bytesL (unhexL s (s.size / 2))) := by unfold unhexV; rw [if_pos ⟨he, hI⟩]
        have e2 : bytesL (unhexL s (s.size / 2)) = ⟨(unhexL s (s.size / 2)).toArray⟩ := rfl
        rw [e2] at e
        refine goh trivial ?_
        exact finh [] e
  · simp [no, ifp] at hp
theorem s_specUnhex_e : EnterOk Tryz.prog 138 := ⟨_, Tryz.func138, rfl, by decide⟩
@[go_sem] def s_specUnhex_lv : List (List Nat) := [[0], [0, 11], [2, 3], [0, 4], [0, 4, 5], [0, 4, 5, 16], [0, 4, 5], [0, 4, 5, 6], [0, 4, 5, 6, 7], [0, 4, 5, 6, 7, 33], [2, 3], [0, 4, 5], [2, 3]]
@[go_sem] noncomputable def s_specUnhex_K : Known := (Known.nil).cons 208 ctFind s_find s_find_e
set_option maxHeartbeats 8000000 in
theorem s_specUnhex : Sound Tryz.prog 138 ctUnhex := by
  have ke := s_specUnhex_K.env []
  have kl : Lives s_specUnhex_lv := trivial
  refine sound_intro (E := ⟨ti, s_specUnhex_K.Γ, []⟩) ke Tryz.func138 Tryz.ntmps138 rfl (rs := [.tmp 2, .tmp 3]) rfl ?_
  intro args os hp
  unfold ctUnhex at hp ⊢
  dsimp only at hp ⊢
  split at hp
  · rename_i s
    refine ⟨by simp, fun φ0 w0 => ?_⟩
    have hlen : s.size ≤ 1000000 := hp
    have hof : ∀ x : UInt8, UInt8.ofNat x.toNat = x := fun x => UInt8.ofNat_toNat
    have hix : ∀ b : UInt8, findV b ⟨#[48, 49, 50, 51, 52, 53, 54, 55, 56, 57, 97, 98, 99, 100, 101, 102]⟩ = hexI b := fun b => find_hex b
    have hby : ∀ b : UInt8, (b.toNat : Int) ≤ 255 := fun b => by have := b.toNat_lt; omega
    have hsz16 : (⟨#[48, 49, 50, 51, 52, 53, 54, 55, 56, 57, 97, 98, 99, 100, 101, 102]⟩ : ByteArray).size = 16 := rfl
    have hm : ((s.size : Int)).tmod 2 = ((s.size % 2 : Nat) : Int) := (Int.ofNat_tmod s.size 2).symm
    refine goh hm ?_
    refine W_cnd ?_ ?_ <;> (try simp only [cnd_r]) <;> intro hc
    · have e : unhexV s = none := by unfold unhexV; rw [if_neg (fun h => by rw [h.1] at hc; exact absurd hc (by decide))]
      refine goh trivial ?_
      exact finh [] e
    · have he : s.size % 2 = 0 := by omega
      refine goh trivial ?_
      refine W_for (s.size / 2) (fun k => unhexB s k = true) (fun k => ⟨[(0, vs s), (4, .one (.osl .byte 0 0 (unhexL s k).length)), (5, vi (2 * k : Nat))], [some (.arr .byte (unhexL s k))], []⟩) [some 0] (leh (show ((2 * 0 : Nat) : Int) = 0 from rfl)) rfl fun k hk hI => ?_
      have hl := unhexL_len s k
      refine goh trivial ?_
      refine W_cnd ?_ ?_ <;> (try simp only [cnd_r]) <;> intro hlt
      · have w1 : IntKind.i64.wrap (((2 * k : Nat) : Int) + 1) = ((2 * k + 1 : Nat) : Int) := wrap_id _ (by omega) (by omega)
        have w2 : IntKind.i64.wrap (((2 * k : Nat) : Int) + 2) = ((2 * (k + 1) : Nat) : Int) := wrap_id _ (by omega) (by omega)
        have r1 := hexI_in (s.data.getD (2 * k) 0)
        have r2 := hexI_in (s.data.getD (2 * k + 1) 0)
        have hL : unhexL s (k + 1) = unhexL s k ++ [UInt8.ofNat (16 * hexI (s.data.getD (2 * k) 0) + hexI (s.data.getD (2 * k + 1) 0)).toNat] := rfl
        have hB : unhexB s (k + 1) = (unhexB s k && (decide (0 ≤ hexI (s.data.getD (2 * k) 0)) && decide (0 ≤ hexI (s.data.getD (2 * k + 1) 0)))) := rfl
        obtain ⟨x, hx⟩ : ∃ x, hexI (s.data.getD (2 * k) 0) = x := ⟨_, rfl⟩
        obtain ⟨y, hy⟩ : ∃ y, hexI (s.data.getD (2 * k + 1) 0) = y := ⟨_, rfl⟩
        rw [hx] at r1 hL hB
        rw [hy] at r2 hL hB
        rw [Int.mul_comm] at hL
        by_cases hbad : x < 0 ∨ y < 0
        · have hf : unhexB s (k + 1) = false := by rw [hB]; simp; omega
          have e : unhexV s = none := by unfold unhexV; rw [if_neg (fun h => by rw [unhexB_down (s.size / 2) (k + 1) hf (by omega)] at h; cases h.2)]
          by_cases hx0 : x < 0
          · have c1 : decide (x < 0) = true := by simp [hx0]
            refine goh (And.intro hof (And.intro hix (And.intro hby (And.intro hsz16 (And.intro hx (And.intro hy (And.intro w1 c1))))))) ?_
            refine W_cnd ?_ ?_ <;> intro hlit <;> try (cases hlit; done)
            refine goh trivial ?_
            exact finh [] e
          · have c1 : decide (x < 0) = false := by simp; omega
            have c2 : decide (y < 0) = true := by simp; omega
            refine goh (And.intro hof (And.intro hix (And.intro hby (And.intro hsz16 (And.intro hx (And.intro hy (And.intro w1 (And.intro c1 c2)))))))) ?_
            refine W_cnd ?_ ?_ <;> intro hlit <;> try (cases hlit; done)
            refine goh trivial ?_
            exact finh [] e
        · have c1 : decide (x < 0) = false := by simp; omega
          have c2 : decide (y < 0) = false := by simp; omega
          have w3 : IntKind.i64.wrap (x * 16) = x * 16 := wrap_id _ (by omega) (by omega)
          have w4 : IntKind.i64.wrap (x * 16 + y) = x * 16 + y := wrap_id _ (by omega) (by omega)
          have w5 : IntKind.u8.wrap (x * 16 + y) = x * 16 + y := IntWalk.u8_in _ ⟨by omega, by omega⟩
          have w6 : ((UInt8.ofNat (x * 16 + y).toNat).toNat : Int) = x * 16 + y := by rw [ofNat_u8 (by omega)]; omega
          refine goh (And.intro hof (And.intro hix (And.intro hby (And.intro hsz16 (And.intro hx (And.intro hy (And.intro w1 (And.intro c1 c2)))))))) ?_
          refine W_cnd ?_ ?_ <;> intro hlit <;> try (cases hlit; done)
          refine goh (And.intro w2 (And.intro w3 (And.intro w4 (And.intro w5 w6)))) ?_
          refine ⟨[some 2], by omega, leh hL, ?_⟩
          rw [hB, hI]; simp; omega
      · obtain rfl : k = s.size / 2 := by omega
        have e : unhexV s = some (bytesL (unhexL s (s.size / 2))) := by unfold unhexV; rw [if_pos ⟨he, hI⟩]
        have e2 : bytesL (unhexL s (s.size / 2)) = ⟨(unhexL s (s.size / 2)).toArray⟩ := rfl
        rw [e2] at e
        refine goh trivial ?_
        exact finh [] e
  · simp [no, ifp] at hp
end Go.Proofs.YtjedcphhajlnoaaGreatDoor
/- Plain facts: records of the log as texts, and torn ones. -/
namespace Go.Proofs.YtjedcphhajlnoaaGreatDoor
open Go.RowKit

structure LRec where
  txg : Int
  seq : Int
  op : BOp
structure LogOk (r : LRec) : Prop where
  t0 : 1 ≤ r.txg
  t1 : r.txg ≤ 1000000
  s0 : 0 ≤ r.seq
  s1 : r.seq ≤ 7
  k : r.op.kind = 3
  a : nameB r.op.a = true
  b : r.op.b = ⟨#[]⟩
  i0 : 0 ≤ r.op.i
  i1 : r.op.i ≤ 7
  x : r.op.text.size ≤ 24
def logX (t : ByteArray) : ByteArray := if t.size = 0 then ⟨#[45]⟩ else hexV t
def logM (r : LRec) : ByteArray := pointsV [r.txg, r.seq]
def logI (r : LRec) : ByteArray := joinV ⟨#[32]⟩ [logM r, r.op.a, decS r.op.i, logX r.op.text, logM r]
noncomputable def logT (r : LRec) : ByteArray := open Classical in if LogOk r then sealV (logI r) else ⟨#[]⟩
theorem logT_ok {r : LRec} (h : LogOk r) : logT r = sealV (logI r) := by unfold logT; rw [if_pos h]
theorem logT_no {r : LRec} (h : ¬ LogOk r) : logT r = ⟨#[]⟩ := by unfold logT; rw [if_neg h]
theorem logX_inj {s t : ByteArray} (h : logX s = logX t) : s = t := by
  have e0 : ∀ {s : ByteArray}, s.size = 0 → s = ⟨#[]⟩ := fun {s} h => by
    apply ByteArray.ext
    exact Array.eq_empty_of_size_eq_zero h
  have he : ∀ {s t : ByteArray}, s.size = 0 → ¬ t.size = 0 → logX s = logX t → False := fun {s t} h1 h2 h3 => by
    unfold logX at h3
    rw [if_pos h1, if_neg h2] at h3
    have h4 := congrArg ByteArray.size h3
    rw [hexV_size] at h4
    have h5 : (⟨#[45]⟩ : ByteArray).size = 1 := rfl
    omega
  by_cases h1 : s.size = 0 <;> by_cases h2 : t.size = 0
  · rw [e0 h1, e0 h2]
  · exact (he h1 h2 h).elim
  · exact (he h2 h1 h.symm).elim
  · unfold logX at h
    rw [if_neg h1, if_neg h2] at h
    have h3 := unhex_hex s
    rw [h, unhex_hex] at h3
    exact (Option.some.inj h3).symm
theorem hexd_not {c : UInt8} (h : c.toNat < 48 ∨ (57 < c.toNat ∧ c.toNat < 97) ∨ 102 < c.toNat) (k : Nat) (hk : k < 16) : c ≠ hexd k := by
  have h2 : ∀ k : Fin 16, (48 ≤ (hexd k.val).toNat ∧ (hexd k.val).toNat ≤ 57) ∨ (97 ≤ (hexd k.val).toNat ∧ (hexd k.val).toNat ≤ 102) := by decide +kernel
  rintro rfl
  have := h2 ⟨k, hk⟩
  simp only at this
  omega
theorem hexN_not {c : UInt8} (h : c.toNat < 48 ∨ (57 < c.toNat ∧ c.toNat < 97) ∨ 102 < c.toNat) (s : ByteArray) : ∀ n, c ∉ hexN s n
  | 0 => by simp [hexN]
  | n + 1 => by
    have hb := (s.data.getD n 0).toNat_lt
    unfold hexN
    rw [List.mem_append]
    rintro (h1 | h1)
    · exact hexN_not h s n h1
    · simp only [List.mem_cons, List.not_mem_nil, or_false] at h1
      rcases h1 with h1 | h1
      · exact hexd_not h _ (by omega) h1
      · exact hexd_not h _ (by omega) h1
theorem logX_plain (t : ByteArray) : (32 : UInt8) ∉ (logX t).data.toList := by
  unfold logX
  split
  · decide
  · show (32 : UInt8) ∉ (hexN t t.size).toArray.toList
    exact hexN_not (.inl (by decide)) t t.size
theorem points_plain {c : UInt8} (h0 : c ≠ 46) (h1 : c.toNat ≠ 45) (h2 : c.toNat < 48 ∨ 57 < c.toNat) (zs : List Int) : c ∉ (pointsV zs).data.toList := by
  unfold pointsV joinV
  rw [bytesL_list, lib_join]
  have e : (⟨#[46]⟩ : ByteArray).data.toList = [46] := rfl
  rw [e]
  have key : ∀ ws : List Bs, (∀ w ∈ ws, c ∉ w) → c ∉ joinL [46] ws := by
    intro ws
    induction ws with
    | nil => intro _; simp [joinL]
    | cons w ws ih =>
      intro hw
      cases ws with
      | nil => exact hw w (by simp)
      | cons v vs =>
        rw [joinL_cons _ _ (by simp), List.mem_append, List.mem_append, List.mem_singleton]
        rintro ((h | h) | h)
        · exact hw w (by simp) h
        · exact h0 h
        · exact ih (fun x hx => hw x (List.mem_cons_of_mem _ hx)) h
  refine key _ fun w hw => ?_
  rw [List.map_map] at hw
  obtain ⟨z, -, rfl⟩ := List.mem_map.1 hw
  exact itoa_not h1 h2 z
theorem name_plain {c : UInt8} (h : isLow c = false) {s : ByteArray} (hs : nameB s = true) : c ∉ s.data.toList := by
  unfold nameB at hs
  rw [Bool.and_eq_true, List.all_eq_true] at hs
  intro hm
  have := hs.2 c hm
  rw [h] at this; cases this
theorem name_size {s : ByteArray} (hs : nameB s = true) : 1 ≤ s.size ∧ s.size ≤ 6 := by
  unfold nameB at hs
  simp only [Bool.and_eq_true, decide_eq_true_eq] at hs
  exact hs.1
theorem log_words5 {r : LRec} (h : LogOk r) : ∀ w ∈ [logM r, r.op.a, decS r.op.i, logX r.op.text, logM r], (32 : UInt8) ∉ w.data.toList := by
  intro w hw
  simp only [List.mem_cons, List.not_mem_nil, or_false] at hw
  rcases hw with rfl | rfl | rfl | rfl | rfl
  · exact points_plain (by decide) (by decide) (by decide) _
  · exact name_plain (by decide) h.a
  · exact no_blank _
  · exact logX_plain _
  · exact points_plain (by decide) (by decide) (by decide) _
theorem logI_split {r : LRec} (h : LogOk r) : splitV 32 (logI r) = [logM r, r.op.a, decS r.op.i, logX r.op.text, logM r] := splitV_join (by simp) (log_words5 h)
theorem logM_size {r : LRec} (h : LogOk r) : (logM r).size ≤ 42 := by
  have := pointsV_size (zs := [r.txg, r.seq]) fun z hz => by
    simp only [List.mem_cons, List.not_mem_nil, or_false] at hz
    have := h.t0; have := h.t1; have := h.s0; have := h.s1
    omega
  exact this
theorem logX_size {t : ByteArray} (h : t.size ≤ 24) : (logX t).size ≤ 48 := by
  unfold logX
  split
  · show 1 ≤ 48; omega
  · rw [hexV_size]; omega
theorem logI_size {r : LRec} (h : LogOk r) : (logI r).size ≤ 245 := by
  have := joinV_size (sep := ⟨#[32]⟩) (k := 48) (xs := [logM r, r.op.a, decS r.op.i, logX r.op.text, logM r]) fun x hx => by
    simp only [List.mem_cons, List.not_mem_nil, or_false] at hx
    have h1 := logM_size h
    have h2 := (name_size h.a).2
    have h3 := decS_size (n := r.op.i) (by have := h.i0; omega) (by have := h.i1; omega)
    have h4 := logX_size h.x
    rcases hx with rfl | rfl | rfl | rfl | rfl <;> omega
  have h9 : (⟨#[32]⟩ : ByteArray).size = 1 := rfl
  simp only [List.length_cons, List.length_nil, h9] at this
  unfold logI
  omega
theorem log_seal {r : LRec} (h : LogOk r) : logT r = decS (sumOf (logI r)) ++ ⟨#[58]⟩ ++ logI r := by
  have := logI_size h
  rw [logT_ok h]; unfold sealV
  rw [if_neg (by omega)]
theorem logT_size (r : LRec) : (logT r).size ≤ 266 := by
  by_cases h : LogOk r
  · rw [log_seal h]
    have h1 := logI_size h
    have h2 := sumAt_lt (logI r) (logI r).size
    have h4 : sumAt (logI r) (logI r).size = sumOf (logI r) := rfl
    have h3 := decS_size (n := sumOf (logI r)) (by omega) (by omega)
    have h5 : (⟨#[58]⟩ : ByteArray).size = 1 := rfl
    simp only [ByteArray.size_append]
    omega
  · rw [logT_no h]; exact Nat.zero_le _
def logF (r : LRec) : Bs := (decS (sumOf (logI r))).data.toList ++ 58 :: (logM r).data.toList
theorem logI_list (r : LRec) : (logI r).data.toList = (logM r).data.toList ++ 32 :: (r.op.a.data.toList ++ 32 :: ((decS r.op.i).data.toList ++ 32 :: ((logX r.op.text).data.toList ++ 32 :: (logM r).data.toList))) := by
  unfold logI joinV
  rw [bytesL_list, lib_join]
  have e : (⟨#[32]⟩ : ByteArray).data.toList = [32] := rfl
  rw [e]
  simp [joinL]
theorem logT_list {r : LRec} (h : LogOk r) : (logT r).data.toList = (decS (sumOf (logI r))).data.toList ++ 58 :: (logI r).data.toList := by
  rw [log_seal h]; simp [ByteArray.data_append]
theorem log_words {r : LRec} (h : LogOk r) : cutL 32 (logT r).data.toList = [logF r, r.op.a.data.toList, (decS r.op.i).data.toList, (logX r.op.text).data.toList, (logM r).data.toList] := by
  have e : (logT r).data.toList = logF r ++ 32 :: (r.op.a.data.toList ++ 32 :: ((decS r.op.i).data.toList ++ 32 :: ((logX r.op.text).data.toList ++ 32 :: (logM r).data.toList))) := by
    rw [logT_list h, logI_list]
    unfold logF
    simp
  have hM : (32 : UInt8) ∉ (logM r).data.toList := points_plain (by decide) (by decide) (by decide) _
  have hF : (32 : UInt8) ∉ logF r := by
    unfold logF
    rw [List.mem_append, List.mem_cons]
    rintro (h | h | h)
    · exact no_blank _ h
    · exact absurd h (by decide)
    · exact hM h
  rw [e, cut_app _ _ _ hF, cut_app _ _ _ (name_plain (by decide) h.a), cut_app _ _ _ (no_blank _), cut_app _ _ _ (logX_plain _), cut_none _ _ hM]
theorem logM_inj {r q : LRec} (h : (logM r).data.toList = (logM q).data.toList) : r.txg = q.txg ∧ r.seq = q.seq := by
  have h1 := pointsV_split (zs := [r.txg, r.seq]) (by simp)
  have h2 := pointsV_split (zs := [q.txg, q.seq]) (by simp)
  have h3 : pointsV [r.txg, r.seq] = pointsV [q.txg, q.seq] := data_inj h
  rw [h3, h2] at h1
  simp only [List.map_cons, List.map_nil, List.cons.injEq, and_true] at h1
  exact ⟨(decS_inj h1.1).symm, (decS_inj h1.2).symm⟩
theorem logF_inj {r q : LRec} (h : logF r = logF q) : (logM r).data.toList = (logM q).data.toList := by
  have e : ∀ r : LRec, cutL 58 (logF r) = [(decS (sumOf (logI r))).data.toList, (logM r).data.toList] := fun r => by
    unfold logF
    rw [cut_app _ _ _ (no_colon _), cut_none _ _ (show (58 : UInt8) ∉ (logM r).data.toList from points_plain (by decide) (by decide) (by decide) _)]
  have h1 := e r
  rw [h, e q] at h1
  simp only [List.cons.injEq, and_true] at h1
  exact h1.2.symm
theorem log_eq {r q : LRec} (hr : LogOk r) (hq : LogOk q) (h1 : (logM r).data.toList = (logM q).data.toList) (h2 : r.op.a.data.toList = q.op.a.data.toList) (h3 : (decS r.op.i).data.toList = (decS q.op.i).data.toList) (h4 : (logX r.op.text).data.toList = (logX q.op.text).data.toList) : r = q := by
  obtain ⟨e1, e2⟩ := logM_inj h1
  have e3 := data_inj h2
  have e4 := decS_inj (data_inj h3)
  have e5 := logX_inj (data_inj h4)
  have e6 := hr.k.trans hq.k.symm
  have e7 := hr.b.trans hq.b.symm
  cases r with | mk t s o => cases o; cases q with | mk t' s' o' => cases o'; simp only at *; subst e1 e2 e3 e4 e5 e6 e7; rfl
theorem logT_inj {r q : LRec} (hr : LogOk r) (hq : LogOk q) (h : logT r = logT q) : r = q := by
  have w := log_words hr
  rw [h, log_words hq] at w
  simp only [List.cons.injEq, and_true] at w
  exact log_eq hr hq w.2.2.2.2.symm w.2.1.symm w.2.2.1.symm w.2.2.2.1.symm
/-- A record that is read. -/
noncomputable def logP (t : ByteArray) : Option LRec := open Classical in if h : ∃ r, LogOk r ∧ logT r = t then some (Classical.choose h) else none
theorem logP_some {t : ByteArray} {r : LRec} : logP t = some r ↔ LogOk r ∧ logT r = t := by
  unfold logP
  constructor
  · intro h
    split at h
    · rename_i hx
      cases h
      exact Classical.choose_spec hx
    · cases h
  · rintro ⟨h1, h2⟩
    have hx : ∃ r, LogOk r ∧ logT r = t := ⟨r, h1, h2⟩
    rw [dif_pos hx]
    have h3 := Classical.choose_spec hx
    rw [logT_inj h3.1 h1 (h3.2.trans h2.symm)]
theorem logP_none {t : ByteArray} (h : ∀ r, LogOk r → logT r = t → False) : logP t = none := by
  unfold logP
  rw [dif_neg fun ⟨r, h1, h2⟩ => h r h1 h2]
theorem log_torn {k n m : LRec} (hk : LogOk k) (hn : LogOk n) (hm : LogOk m ∨ logT m = ⟨#[]⟩) (hnm : m.txg ≠ n.txg) (i : Nat) {z : Bs} (hz : z = (logT m).data.toList.drop i ∨ z = [])
    (h : (logT k).data.toList = (logT n).data.toList.take i ++ z) : k = n ∨ k = m := by
  have w1 := log_words hk
  have w2 := log_words hn
  obtain ⟨us, x, y, vs, a1, a2, a3⟩ := cut_append 32 ((logT n).data.toList.take i) z
  obtain ⟨us', x', y', vs', b1, b2, b3⟩ := cut_append 32 ((logT n).data.toList.take i) ((logT n).data.toList.drop i)
  rw [List.take_append_drop] at b3
  rw [h, a3] at w1
  rw [b3] at w2
  obtain ⟨rfl, hxx⟩ := List.append_inj' (a1.symm.trans b1) rfl
  -- the words behind the first one are the old text's last ones
  have hv : vs = [] ∨ (LogOk m ∧ ∃ j, vs = [logF m, m.op.a.data.toList, (decS m.op.i).data.toList, (logX m.op.text).data.toList, (logM m).data.toList].drop (j + 1)) := by
    rcases hz with hz | hz
    · rcases hm with hm | hm
      · obtain ⟨us3, x3, y3, vs3, c1, c2, c3⟩ := cut_append 32 ((logT m).data.toList.take i) ((logT m).data.toList.drop i)
        rw [List.take_append_drop, log_words hm] at c3
        rw [← hz, a2] at c2
        obtain ⟨rfl, rfl⟩ := List.cons.inj c2
        refine .inr ⟨hm, us3.length, ?_⟩
        rw [c3, List.drop_append, List.drop_eq_nil_of_le (by omega)]
        simp
      · rw [hm] at hz
        have : z = [] := by rw [hz]; simp
        rw [this] at a2
        simp [cutL] at a2
        exact .inl a2.2
    · rw [hz] at a2
      simp [cutL] at a2
      exact .inl a2.2
  match us, w1, w2 with
  | [], w1, w2 =>
    simp only [List.nil_append, List.cons.injEq] at w1
    rcases hv with hv | ⟨hm, j, hv⟩
    · rw [hv] at w1; simp at w1
    · rw [hv] at w1
      match j with
      | 0 =>
        simp only [Nat.zero_add, List.drop_succ_cons, List.drop_zero, List.cons.injEq, and_true] at w1
        right
        exact log_eq hk hm w1.2.2.2.2.symm w1.2.1.symm w1.2.2.1.symm w1.2.2.2.1.symm
      | 1 => simp at w1
      | 2 => simp at w1
      | 3 => simp at w1
      | j + 4 => simp at w1
  | F :: us, w1, w2 =>
    simp only [List.cons_append, List.cons.injEq] at w1 w2
    have hM := logF_inj (w1.1.symm.trans w2.1)
    match us, w1, w2 with
    | [A, I, X], w1, w2 =>
      simp only [List.cons_append, List.nil_append, List.cons.injEq] at w1 w2
      left
      exact log_eq hk hn hM (w1.2.1.symm.trans w2.2.1) (w1.2.2.1.symm.trans w2.2.2.1) (w1.2.2.2.1.symm.trans w2.2.2.2.1)
    | _ :: _ :: _ :: _ :: _, w1, w2 => simp at w1
    | [], w1, w2 =>
      exfalso
      simp only [List.nil_append, List.cons.injEq] at w1
      rcases hv with hv | ⟨hm, j, hv⟩
      · rw [hv] at w1; simp at w1
      · rw [hv] at w1
        match j with
        | 0 => simp at w1
        | 1 =>
          simp at w1
          exact hnm ((logM_inj (congrArg Array.toList w1.2.2.2.2)).1.trans (logM_inj hM).1)
        | 2 => simp at w1
        | 3 => simp at w1
        | j + 4 => simp at w1
    | [A], w1, w2 =>
      exfalso
      simp only [List.cons_append, List.nil_append, List.cons.injEq] at w1
      rcases hv with hv | ⟨hm, j, hv⟩
      · rw [hv] at w1; simp at w1
      · rw [hv] at w1
        match j with
        | 0 => simp at w1
        | 1 => simp at w1
        | 2 =>
          simp at w1
          exact hnm ((logM_inj (congrArg Array.toList w1.2.2.2.2)).1.trans (logM_inj hM).1)
        | 3 => simp at w1
        | j + 4 => simp at w1
    | [A, I], w1, w2 =>
      exfalso
      simp only [List.cons_append, List.nil_append, List.cons.injEq] at w1
      rcases hv with hv | ⟨hm, j, hv⟩
      · rw [hv] at w1; simp at w1
      · rw [hv] at w1
        match j with
        | 0 => simp at w1
        | 1 => simp at w1
        | 2 => simp at w1
        | 3 =>
          simp at w1
          exact hnm ((logM_inj (congrArg Array.toList w1.2.2.2.2)).1.trans (logM_inj hM).1)
        | j + 4 => simp at w1
end Go.Proofs.YtjedcphhajlnoaaGreatDoor
/- Plain facts: entries of a table, pointers of sets, valid cores. -/
namespace Go.Proofs.YtjedcphhajlnoaaGreatDoor
open Go.RowKit

def Eight.list {α : Type} (m : Eight α) : List α := [m.x0, m.x1, m.x2, m.x3, m.x4, m.x5, m.x6, m.x7]
def Eight.get {α : Type} (m : Eight α) : Nat → α
  | 0 => m.x0 | 1 => m.x1 | 2 => m.x2 | 3 => m.x3 | 4 => m.x4 | 5 => m.x5 | 6 => m.x6 | _ => m.x7

/-! Entries. -/
def entB (e : Ent) : Bool := decide (0 ≤ e.sum) && decide (e.sum ≤ 65520) && (decide (1 ≤ e.at_) && decide (e.at_ ≤ 119)) && (decide (1 ≤ e.count) && decide (e.count ≤ 1000))
theorem entB_true {e : Ent} (h : entB e = true) : (0 ≤ e.sum ∧ e.sum ≤ 65520) ∧ (1 ≤ e.at_ ∧ e.at_ ≤ 119) ∧ (1 ≤ e.count ∧ e.count ≤ 1000) := by
  unfold entB at h
  simp only [Bool.and_eq_true, decide_eq_true_eq] at h
  omega
structure EntOk (es : List Ent) (i : Nat) : Prop where
  ent : entB (es.getD i ET.ent.dflt) = true
  less : 0 < i → (es.getD (i - 1) ET.ent.dflt).at_ < (es.getD i ET.ent.dflt).at_
structure DdtP (es : List Ent) : Prop where
  few : es.length ≤ 48
  each : ∀ i, i < es.length → EntOk es i
noncomputable def ddtB (es : List Ent) : Bool := @decide (DdtP es) (Classical.propDecidable _)
theorem ddtB_true {es : List Ent} : ddtB es = true ↔ DdtP es := by simp [ddtB]
theorem ddtB_false {es : List Ent} : ddtB es = false ↔ ¬ DdtP es := by simp [ddtB]
/-- The places ascend, and are small numbers. -/
structure Asc (es : List Ent) : Prop where
  lt : ∀ i, 0 < i → i < es.length → (es.getD (i - 1) ET.ent.dflt).at_ < (es.getD i ET.ent.dflt).at_
  lo : ∀ i, i < es.length → 1 ≤ (es.getD i ET.ent.dflt).at_ ∧ (es.getD i ET.ent.dflt).at_ ≤ 119
theorem DdtP.asc {es : List Ent} (h : DdtP es) : Asc es := ⟨fun i h0 hi => (h.each i hi).less h0, fun i hi => (entB_true (h.each i hi).ent).2.1⟩
theorem Asc.all {es : List Ent} (h : Asc es) (i : Nat) : ∀ d, i + d + 1 < es.length → (es.getD i ET.ent.dflt).at_ < (es.getD (i + d + 1) ET.ent.dflt).at_
  | 0, hd => h.lt (i + 1) (by omega) hd
  | d + 1, hd => Int.lt_trans (h.all i d (by omega)) (h.lt (i + (d + 1) + 1) (by omega) hd)
theorem Asc.le {es : List Ent} (h : Asc es) {i j : Nat} (hij : i ≤ j) (hj : j < es.length) : (es.getD i ET.ent.dflt).at_ ≤ (es.getD j ET.ent.dflt).at_ := by
  rcases Nat.eq_or_lt_of_le hij with rfl | hlt
  · exact Int.le_refl _
  · have h2 := h.all i (j - i - 1) (by omega)
    rw [show i + (j - i - 1) + 1 = j by omega] at h2
    omega
def lowE (es : List Ent) (at_ : Int) : Nat := es.findIdx fun e => !decide (e.at_ < at_)
def thereE (es : List Ent) (at_ : Int) : Bool := decide (lowE es at_ < es.length) && decide ((es.getD (lowE es at_) ET.ent.dflt).at_ = at_)
theorem lowE_le (es : List Ent) (a : Int) : lowE es a ≤ es.length := List.findIdx_le_length
theorem lowE_before {es : List Ent} {a : Int} {i : Nat} (h : i < lowE es a) : (es.getD i ET.ent.dflt).at_ < a := by
  have h1 := List.not_of_lt_findIdx h
  have h2 := lowE_le es a
  simp only [Bool.not_eq_true', Bool.not_eq_false', decide_eq_true_eq, Bool.not_not] at h1
  have e : es.getD i ET.ent.dflt = es[i]'(by omega) := by simp [show i < es.length by omega]
  rw [e]
  simpa using h1
theorem lowE_at {es : List Ent} {a : Int} (h : lowE es a < es.length) : ¬ (es.getD (lowE es a) ET.ent.dflt).at_ < a := by
  have h1 := @List.findIdx_getElem _ (fun e : Ent => !decide (e.at_ < a)) es h
  have e : es.getD (lowE es a) ET.ent.dflt = es[lowE es a] := by simp [h]
  rw [e]
  rw [Bool.not_eq_true', decide_eq_false_iff_not] at h1
  exact h1
theorem lowE_eq {es : List Ent} {a : Int} {i : Nat} (hi : i ≤ es.length) (hb : ∀ j, j < i → (es.getD j ET.ent.dflt).at_ < a) (hs : i = es.length ∨ ¬ (es.getD i ET.ent.dflt).at_ < a) : lowE es a = i := by
  rcases Nat.lt_trichotomy (lowE es a) i with h | h | h
  · exact absurd (hb _ h) (lowE_at (by omega))
  · exact h
  · rcases hs with rfl | hs
    · have := lowE_le es a; omega
    · exact absurd (lowE_before h) hs
theorem thereE_at {es : List Ent} {a : Int} (h : thereE es a = true) : lowE es a < es.length ∧ (es.getD (lowE es a) ET.ent.dflt).at_ = a := by
  unfold thereE at h
  simpa using h
theorem thereE_of {es : List Ent} (h : Asc es) {i : Nat} (hi : i < es.length) : lowE es (es.getD i ET.ent.dflt).at_ = i ∧ thereE es (es.getD i ET.ent.dflt).at_ = true := by
  have e : lowE es (es.getD i ET.ent.dflt).at_ = i := lowE_eq (by omega) (fun j hj => by
    have h2 := h.all j (i - j - 1) (by omega)
    rwa [show j + (i - j - 1) + 1 = i by omega] at h2) (.inr (by omega))
  refine ⟨e, ?_⟩
  unfold thereE
  rw [e]
  simp [hi]

/-! Pointers. -/
def refsP (cs : List CSet) : List Ptr := cs.flatMap fun s => s.map.list
def cntAt (ps : List Ptr) (a : Int) : Nat := (ps.filter fun p => decide (p.at_ = a)).length
def posN (ps : List Ptr) : Nat := (ps.filter fun p => decide (0 < p.at_)).length
theorem cntAt_app (ps qs : List Ptr) (a : Int) : cntAt (ps ++ qs) a = cntAt ps a + cntAt qs a := by unfold cntAt; rw [List.filter_append, List.length_append]
theorem posN_app (ps qs : List Ptr) : posN (ps ++ qs) = posN ps + posN qs := by unfold posN; rw [List.filter_append, List.length_append]
theorem cntAt_one (p : Ptr) (a : Int) : cntAt [p] a = if p.at_ = a then 1 else 0 := by
  unfold cntAt
  by_cases h : p.at_ = a <;> simp [h]
theorem posN_one (p : Ptr) : posN [p] = if 0 < p.at_ then 1 else 0 := by
  unfold posN
  by_cases h : 0 < p.at_ <;> simp [h]
theorem refs_len : ∀ cs : List CSet, (refsP cs).length = 8 * cs.length
  | [] => rfl
  | c :: cs => by
    show (c.map.list ++ refsP cs).length = _
    rw [List.length_append, refs_len cs, List.length_cons]
    show 8 + _ = _
    omega
theorem refs_take {cs : List CSet} {i : Nat} (h : i < cs.length) : refsP (cs.take (i + 1)) = refsP (cs.take i) ++ (cs.getD i ET.cset.dflt).map.list := by
  have e : cs.getD i ET.cset.dflt = cs[i] := by simp [h]
  unfold refsP
  rw [e, List.take_add_one, List.getElem?_eq_getElem h, List.flatMap_append]
  simp
theorem list_take (m : Eight Ptr) (j : Nat) (h : j < 8) : m.list.take (j + 1) = m.list.take j ++ [m.get j] := by
  rcases (show j = 0 ∨ j = 1 ∨ j = 2 ∨ j = 3 ∨ j = 4 ∨ j = 5 ∨ j = 6 ∨ j = 7 by omega) with rfl | rfl | rfl | rfl | rfl | rfl | rfl | rfl <;> rfl
theorem list_all (m : Eight Ptr) : m.list.take 8 = m.list := rfl
theorem one_of {l : List Int} {a : Int} (h : l.Pairwise (· < ·)) (ha : a ∈ l) : (l.map fun x => if a = x then 1 else 0).sum = 1 := by
  induction l with
  | nil => cases ha
  | cons x l ih =>
    rw [List.pairwise_cons] at h
    rw [List.map_cons, List.sum_cons]
    by_cases hx : a = x
    · have : (l.map fun x => if a = x then 1 else 0).sum = 0 := by
        have h0 : ∀ l : List Int, (∀ y ∈ l, a < y) → (l.map fun x => if a = x then 1 else 0).sum = 0 := fun l => by
          induction l with
          | nil => intro _; rfl
          | cons y l ih =>
            intro hy
            rw [List.map_cons, List.sum_cons, ih fun z hz => hy z (by simp [hz]), if_neg]
            have := hy y (by simp)
            omega
        exact h0 l fun y hy => by rw [hx]; exact h.1 y hy
      rw [this, if_pos hx]
    · rw [if_neg hx, ih h.2 (by simpa [hx] using ha)]
theorem asc_pairs {es : List Ent} (h : Asc es) : (es.map (·.at_)).Pairwise (· < ·) := by
  rw [List.pairwise_iff_getElem]
  intro i j hi hj hij
  rw [List.length_map] at hi hj
  have h2 := h.all i (j - i - 1) (by omega)
  rw [show i + (j - i - 1) + 1 = j by omega] at h2
  simpa [hi, hj] using h2
/-- So many pointers point at an entry as point anywhere, if each points at an entry. -/
theorem cnt_sum {es : List Ent} (h : Asc es) : ∀ ps : List Ptr, (∀ p ∈ ps, 0 < p.at_ → thereE es p.at_ = true) → (es.map fun e => cntAt ps e.at_).sum = posN ps
  | [], _ => by
    have : ∀ l : List Ent, (l.map fun e => cntAt [] e.at_).sum = 0 := fun l => by
      induction l with
      | nil => rfl
      | cons a l ih => rw [List.map_cons, List.sum_cons, ih]; rfl
    exact this es
  | p :: ps, hp => by
    have h1 := cnt_sum h ps fun q hq => hp q (by simp [hq])
    have h2 : (es.map fun e => cntAt (p :: ps) e.at_).sum = (es.map fun e => if p.at_ = e.at_ then 1 else 0).sum + (es.map fun e => cntAt ps e.at_).sum := by
      have : ∀ l : List Ent, (l.map fun e => cntAt (p :: ps) e.at_).sum = (l.map fun e => if p.at_ = e.at_ then 1 else 0).sum + (l.map fun e => cntAt ps e.at_).sum := fun l => by
        induction l with
        | nil => rfl
        | cons a l ih =>
          rw [List.map_cons, List.sum_cons, ih, List.map_cons, List.sum_cons, List.map_cons, List.sum_cons, show p :: ps = [p] ++ ps from rfl, cntAt_app, cntAt_one]
          omega
      exact this es
    have h3 : (es.map fun e => if p.at_ = e.at_ then 1 else 0).sum = if 0 < p.at_ then 1 else 0 := by
      have e : (es.map fun e => if p.at_ = e.at_ then 1 else 0) = (es.map (·.at_)).map fun x => if p.at_ = x then 1 else 0 := by rw [List.map_map]; rfl
      rw [e]
      split
      · rename_i h0
        obtain ⟨hk, ha⟩ := thereE_at (hp p (by simp) h0)
        refine one_of (asc_pairs h) ?_
        rw [List.mem_map]
        refine ⟨es[lowE es p.at_], List.getElem_mem _, ?_⟩
        rw [show es.getD (lowE es p.at_) ET.ent.dflt = es[lowE es p.at_] by simp [hk]] at ha
        exact ha
      · rename_i h0
        have : ∀ l : List Ent, (∀ e ∈ l, 1 ≤ e.at_) → ((l.map (·.at_)).map fun x => if p.at_ = x then 1 else 0).sum = 0 := fun l => by
          induction l with
          | nil => intro _; rfl
          | cons a l ih =>
            intro hl
            rw [List.map_cons, List.map_cons, List.sum_cons, ih fun z hz => hl z (by simp [hz]), if_neg]
            have := hl a (by simp)
            omega
        refine this es fun e he => ?_
        obtain ⟨j, hj, rfl⟩ := List.getElem_of_mem he
        have h4 := (h.lo j hj).1
        rwa [show es.getD j ET.ent.dflt = es[j] by simp [hj]] at h4
    rw [h2, h3, h1, show p :: ps = [p] ++ ps from rfl, posN_app, posN_one]

theorem cnt_le (ps : List Ptr) (a : Int) : cntAt ps a ≤ ps.length := List.length_filter_le _ _
/-- The counts of the entries, by so many pointers. -/
def cnts (es : List Ent) (ps : List Ptr) : List Int := es.map fun e => (cntAt ps e.at_ : Int)
theorem cnts_len (es : List Ent) (ps : List Ptr) : (cnts es ps).length = es.length := List.length_map _
theorem cnts_get {es : List Ent} (ps : List Ptr) {i : Nat} (h : i < es.length) (h' : i < (cnts es ps).length) : (cnts es ps)[i] = (cntAt ps (es.getD i ET.ent.dflt).at_ : Int) := by
  have e : es.getD i ET.ent.dflt = es[i] := by simp [h]
  rw [e]
  exact List.getElem_map _
theorem cnts_at {es : List Ent} (ps : List Ptr) {k : Nat} (hk : k < es.length) : (cnts es ps).getD k 0 = (cntAt ps (es.getD k ET.ent.dflt).at_ : Int) := by
  unfold cnts
  simp [hk]
theorem cnts_step {es : List Ent} (h : Asc es) {ps : List Ptr} {p : Ptr} (ht : thereE es p.at_ = true) : (cnts es ps).set (lowE es p.at_) ((cnts es ps).getD (lowE es p.at_) 0 + 1) = cnts es (ps ++ [p]) := by
  obtain ⟨hk, ha⟩ := thereE_at ht
  rw [cnts_at ps hk]
  refine List.ext_getElem (by rw [List.length_set, cnts_len, cnts_len]) fun i h1 h2 => ?_
  rw [List.length_set, cnts_len] at h1
  rw [List.getElem_set]
  have e2 : (cnts es (ps ++ [p]))[i] = (cntAt (ps ++ [p]) (es.getD i ET.ent.dflt).at_ : Int) := cnts_get _ h1 _
  rw [e2, cntAt_app, cntAt_one]
  split
  · rename_i he
    subst he
    rw [ha, if_pos rfl]
    omega
  · rename_i he
    have hne : ¬ p.at_ = (es.getD i ET.ent.dflt).at_ := fun hh => by
      have := (thereE_of h h1).1
      rw [← hh] at this
      exact he this
    rw [if_neg hne, cnts_get _ h1]
    omega
theorem cnts_skip {es : List Ent} (h : Asc es) (ps : List Ptr) {p : Ptr} (hp : p.at_ = 0) : cnts es (ps ++ [p]) = cnts es ps := by
  refine List.ext_getElem (by rw [cnts_len, cnts_len]) fun i h1 h2 => ?_
  rw [cnts_len] at h2
  have h3 := (h.lo i h2).1
  have e1 : (cnts es (ps ++ [p]))[i] = (cntAt (ps ++ [p]) (es.getD i ET.ent.dflt).at_ : Int) := cnts_get _ h2 _
  have e2 : (cnts es ps)[i] = (cntAt ps (es.getD i ET.ent.dflt).at_ : Int) := cnts_get _ h2 _
  rw [e1, e2, cntAt_app, cntAt_one, if_neg (by omega)]
  omega
theorem cnts_none (es : List Ent) : cnts es [] = List.replicate es.length 0 := by
  unfold cnts
  have : ∀ l : List Ent, (l.map fun e => (cntAt [] e.at_ : Int)) = List.replicate l.length 0 := fun l => by
    induction l with
    | nil => rfl
    | cons a l ih => rw [List.map_cons, ih]; rfl
  exact this es

/-! Cores. -/
def frameOf (cs : List CSet) : List BSet := cs.map fun s => ⟨s.name, s.kind, s.from_, Eight.rep ⟨#[]⟩⟩
theorem frame_len (cs : List CSet) : (frameOf cs).length = cs.length := by unfold frameOf; rw [List.length_map]
theorem frame_take {cs : List CSet} {i : Nat} (h : i < cs.length) : frameOf (cs.take (i + 1)) = frameOf (cs.take i) ++ [⟨(cs.getD i ET.cset.dflt).name, (cs.getD i ET.cset.dflt).kind, (cs.getD i ET.cset.dflt).from_, Eight.rep ⟨#[]⟩⟩] := by
  have e : cs.getD i ET.cset.dflt = cs[i] := by simp [h]
  unfold frameOf
  rw [e, List.take_add_one, List.getElem?_eq_getElem h, List.map_append]
  rfl
theorem frame_at (cs : List CSet) (i : Nat) : (frameOf cs).getD i ET.bset.dflt = ⟨(cs.getD i ET.cset.dflt).name, (cs.getD i ET.cset.dflt).kind, (cs.getD i ET.cset.dflt).from_, Eight.rep ⟨#[]⟩⟩ := by
  unfold frameOf
  by_cases h : i < cs.length
  · simp [h]
  · simp [show ¬ i < cs.length from h, List.getElem?_eq_none (show cs.length ≤ i by omega)]
    rfl
noncomputable def csetB (s : CSet) : Bool := nameB s.name && (same s.from_ ⟨#[]⟩ || nameB s.from_) && (decide (s.kind = 1) || decide (s.kind = 2)) && ptrOkB s.home && !s.map.list.any fun p => !ptrOkB p
noncomputable def csetBad (s : CSet) : Bool := !csetB s
def partBad (p : Ptr) : Bool := !realB p
def badPtr (p : Ptr) : Bool := !ptrOkB p
theorem csetB_no {s : CSet} (h : ((nameB s.name = false ∨ ¬ s.from_ = ⟨#[]⟩ ∧ nameB s.from_ = false) ∨ ¬ s.kind = 1 ∧ ¬ s.kind = 2) ∨ ptrOkB s.home = false) : csetB s = false := by
  unfold csetB
  rcases h with ((h | ⟨h, h2⟩) | ⟨h, h2⟩) | h
  · simp [h]
  · simp [h2, same_false.2 h]
  · simp [h, h2]
  · simp [h]
theorem csetB_yes {s : CSet} (h : ((¬ nameB s.name = false ∧ (¬ s.from_ = ⟨#[]⟩ → ¬ nameB s.from_ = false)) ∧ (¬ s.kind = 1 → s.kind = 2)) ∧ ptrOkB s.home = true) : csetB s = !s.map.list.any badPtr := by
  obtain ⟨⟨⟨h1, h2⟩, h3⟩, h4⟩ := h
  have e2 : (same s.from_ ⟨#[]⟩ || nameB s.from_) = true := by
    by_cases hf : s.from_ = ⟨#[]⟩
    · rw [same_true.2 hf]; rfl
    · rw [show nameB s.from_ = true by simpa using h2 hf, Bool.or_true]
  have e3 : (decide (s.kind = 1) || decide (s.kind = 2)) = true := by
    by_cases hk : s.kind = 1
    · simp [hk]
    · simp [h3 hk]
  unfold csetB
  rw [show nameB s.name = true by simpa using h1, e2, e3, h4]
  rfl
structure Safe (zs : List Int) (i : Nat) : Prop where
  lo : 13 ≤ zs.getD i 0 ∧ zs.getD i 0 ≤ 119
  less : 0 < i → zs.getD (i - 1) 0 < zs.getD i 0
noncomputable def safeB (zs : List Int) : Bool := @decide (∀ i, i < zs.length → Safe zs i) (Classical.propDecidable _)
theorem safeB_true {zs : List Int} : safeB zs = true ↔ ∀ i, i < zs.length → Safe zs i := by simp [safeB]
theorem safeB_false {zs : List Int} : safeB zs = false ↔ ¬ ∀ i, i < zs.length → Safe zs i := by rw [← Bool.not_eq_true, safeB_true]
structure SumsP (ps : List Ptr) (es : List Ent) : Prop where
  each : ∀ p ∈ ps, p.at_ ≠ 0 → thereE es p.at_ = true ∧ (es.getD (lowE es p.at_) ET.ent.dflt).sum = p.sum
structure CountP (ps : List Ptr) (es : List Ent) : Prop where
  sums : SumsP ps es
  cnt : ∀ k, k < es.length → (es.getD k ET.ent.dflt).count = cntAt ps (es.getD k ET.ent.dflt).at_
noncomputable def countB (ps : List Ptr) (es : List Ent) : Bool := @decide (CountP ps es) (Classical.propDecidable _)
theorem countB_true {ps : List Ptr} {es : List Ent} : countB ps es = true ↔ CountP ps es := by simp [countB]
theorem countB_false {ps : List Ptr} {es : List Ent} : countB ps es = false ↔ ¬ CountP ps es := by simp [countB]
/-- How many pointers point at a place; none at no place. -/
def rcnt (ps : List Ptr) (a : Int) : Int := if 0 < a then (cntAt ps a : Int) else 0
theorem rcnt_app (ps : List Ptr) (p : Ptr) (a : Int) : rcnt (ps ++ [p]) a = rcnt ps a + if p.at_ = a ∧ a > 0 then 1 else 0 := by
  unfold rcnt
  rw [cntAt_app, cntAt_one]
  by_cases h : 0 < a <;> by_cases h2 : p.at_ = a <;> simp [h, h2]
theorem rcnt_yes {ps : List Ptr} {p : Ptr} {a : Int} (h : p.at_ = a ∧ a > 0) : rcnt (ps ++ [p]) a = rcnt ps a + 1 := by rw [rcnt_app, if_pos h]
theorem rcnt_no {ps : List Ptr} {p : Ptr} {a : Int} (h : ¬ p.at_ = a ∨ ¬ a > 0) : rcnt (ps ++ [p]) a = rcnt ps a := by rw [rcnt_app, if_neg (fun k => h.elim (fun h => h k.1) fun h => h k.2), Int.add_zero]
theorem rcnt_nil (a : Int) : rcnt (refsP []) a = 0 := by unfold rcnt; split <;> rfl
theorem rcnt_le (ps : List Ptr) (a : Int) : 0 ≤ rcnt ps a ∧ rcnt ps a ≤ ps.length := by
  unfold rcnt
  have := cnt_le ps a
  split <;> omega
theorem posN_le (ps : List Ptr) : posN ps ≤ ps.length := List.length_filter_le _ _
def sumC (es : List Ent) : Int := (es.map (·.count)).sum
theorem sumC_take {es : List Ent} {i : Nat} (h : i < es.length) : sumC (es.take (i + 1)) = sumC (es.take i) + (es.getD i ET.ent.dflt).count := by
  have e : es.getD i ET.ent.dflt = es[i] := by simp [h]
  unfold sumC
  rw [e, List.take_add_one, List.getElem?_eq_getElem h, List.map_append, List.sum_append]
  simp
/-- The pointers of the first sets, and of the next one the first. -/
def ptrsTo (cs : List CSet) (i j : Nat) : List Ptr := refsP (cs.take i) ++ (cs.getD i ET.cset.dflt).map.list.take j
theorem ptrsTo_zero (cs : List CSet) (i : Nat) : ptrsTo cs i 0 = refsP (cs.take i) := by unfold ptrsTo; rw [List.take_zero, List.append_nil]
theorem ptrsTo_next (cs : List CSet) (i : Nat) {j : Nat} (h : j < 8) : ptrsTo cs i (j + 1) = ptrsTo cs i j ++ [(cs.getD i ET.cset.dflt).map.get j] := by
  unfold ptrsTo; rw [list_take _ _ h, List.append_assoc]
theorem ptrsTo_end {cs : List CSet} {i : Nat} (h : i < cs.length) : ptrsTo cs i 8 = refsP (cs.take (i + 1)) := by
  unfold ptrsTo; rw [refs_take h, list_all]
theorem refs_end {cs : List CSet} {i : Nat} (h : cs.length ≤ i) : refsP (cs.take i) = refsP cs := by rw [List.take_of_length_le h]
theorem ptrsTo_len (cs : List CSet) (i j : Nat) : (ptrsTo cs i j).length ≤ 8 * i + 8 := by
  unfold ptrsTo
  have h1 := refs_len (cs.take i)
  have h2 := List.length_take (i := i) (l := cs)
  have h3 : ((cs.getD i ET.cset.dflt).map.list.take j).length ≤ 8 := by rw [List.length_take]; exact Nat.min_le_right _ _
  rw [List.length_append, h1, h2]
  omega
noncomputable def countsS (ps : List Ptr) (es : List Ent) : Bool := @decide ((∀ k, k < es.length → rcnt ps (es.getD k ET.ent.dflt).at_ = (es.getD k ET.ent.dflt).count) ∧ sumC es = posN ps) (Classical.propDecidable _)
theorem countsS_true {ps : List Ptr} {es : List Ent} : countsS ps es = true ↔ (∀ k, k < es.length → rcnt ps (es.getD k ET.ent.dflt).at_ = (es.getD k ET.ent.dflt).count) ∧ sumC es = posN ps := by simp [countsS]
theorem countsS_false {ps : List Ptr} {es : List Ent} : countsS ps es = false ↔ ¬ ((∀ k, k < es.length → rcnt ps (es.getD k ET.ent.dflt).at_ = (es.getD k ET.ent.dflt).count) ∧ sumC es = posN ps) := by rw [← Bool.not_eq_true, countsS_true]
noncomputable def sumsS (ps : List Ptr) (es : List Ent) : Bool := @decide (∀ p ∈ ps, p.at_ > 0 → thereE es p.at_ = true ∧ (es.getD (lowE es p.at_) ET.ent.dflt).sum = p.sum) (Classical.propDecidable _)
theorem sumsS_true {ps : List Ptr} {es : List Ent} : sumsS ps es = true ↔ ∀ p ∈ ps, p.at_ > 0 → thereE es p.at_ = true ∧ (es.getD (lowE es p.at_) ET.ent.dflt).sum = p.sum := by simp [sumsS]
theorem sumsS_false {ps : List Ptr} {es : List Ent} : sumsS ps es = false ↔ ¬ ∀ p ∈ ps, p.at_ > 0 → thereE es p.at_ = true ∧ (es.getD (lowE es p.at_) ET.ent.dflt).sum = p.sum := by rw [← Bool.not_eq_true, sumsS_true]
theorem posN_yes {ps : List Ptr} {p : Ptr} (h : p.at_ > 0) : (posN (ps ++ [p]) : Int) = posN ps + 1 := by
  rw [posN_app, posN_one, if_pos h]; omega
theorem posN_no {ps : List Ptr} {p : Ptr} (h : ¬ p.at_ > 0) : posN (ps ++ [p]) = posN ps := by rw [posN_app, posN_one, if_neg h]; rfl
theorem refs_nil : refsP [] = [] := rfl
theorem sumC_nil : sumC [] = 0 := rfl
theorem sumC_end {es : List Ent} {i : Nat} (h : es.length ≤ i) : sumC (es.take i) = sumC es := by rw [List.take_of_length_le h]
theorem sumC_le {es : List Ent} {n : Nat} {i : Nat} (hi : i ≤ es.length) (h : ∀ j, j < i → 0 ≤ (es.getD j ET.ent.dflt).count ∧ (es.getD j ET.ent.dflt).count ≤ n) : 0 ≤ sumC (es.take i) ∧ sumC (es.take i) ≤ i * n := by
  induction i with
  | zero => exact ⟨Int.le_refl _, by rw [List.take_zero]; simp [sumC]⟩
  | succ i ih =>
    obtain ⟨h1, h2⟩ := ih (by omega) fun j hj => h j (by omega)
    obtain ⟨h3, h4⟩ := h i (by omega)
    rw [sumC_take (show i < es.length by omega)]
    refine ⟨by omega, ?_⟩
    have : ((i + 1 : Nat) : Int) * n = i * n + n := by rw [Int.natCast_add, Int.add_mul]; simp
    omega
structure CoreP (c : Co) : Prop where
  txg : 0 ≤ c.txg ∧ c.txg ≤ 1000000
  ddt : DdtP c.ddt
  parts : c.parts.length ≤ 8 ∧ c.parts.any partBad = false
  logn : 0 ≤ c.logn ∧ c.logn ≤ 8
  safe : ∀ i, i < c.safe.length → Safe c.safe i
  sets : c.sets.any csetBad = false
  book : bookB (frameOf c.sets) = true
  counts : CountP (refsP c.sets) c.ddt
noncomputable def Co.ok (c : Co) : Bool := @decide (CoreP c) (Classical.propDecidable _)
theorem Co.ok_true {c : Co} : c.ok = true ↔ CoreP c := by simp [Co.ok]
theorem Co.ok_false {c : Co} : c.ok = false ↔ ¬ CoreP c := by simp [Co.ok]
theorem ptr_low {p : Ptr} (h : ptrOkB p = true) : 0 ≤ p.at_ ∧ p.at_ ≤ 119 := by
  unfold ptrOkB at h
  simp only [Bool.and_eq_true, Bool.or_eq_true, decide_eq_true_eq] at h
  omega
theorem refs_ok {cs : List CSet} (h : cs.any csetBad = false) : ∀ p ∈ refsP cs, ptrOkB p = true := by
  intro p hp
  unfold refsP at hp
  rw [List.mem_flatMap] at hp
  obtain ⟨s, hs, hp⟩ := hp
  rw [List.any_eq_false] at h
  have h1 := h s hs
  unfold csetBad csetB at h1
  simp only [Bool.not_eq_true', Bool.not_eq_false, Bool.and_eq_true, List.any_eq_false, Bool.not_eq_false', Bool.not_eq_true] at h1
  have h2 := h1.2 p hp
  simpa using h2
end Go.Proofs.YtjedcphhajlnoaaGreatDoor
/- Plain facts: halves, ascending places. -/
namespace Go.Proofs.YtjedcphhajlnoaaGreatDoor
open Go.RowKit

theorem half (i j : Nat) (hi : i ≤ 4000000) (hj : j ≤ 4000000) : IntKind.i64.wrap ((IntKind.u64.wrap (IntKind.i64.wrap ((i : Int) + (j : Int)))).fdiv (2 ^ min 1 64)) = ((i + j) / 2 : Nat) := by
  rw [wrap_id ((i : Int) + j) (by omega) (by omega)]
  have hu : IntKind.u64.wrap ((i : Int) + j) = (i : Int) + j := by
    unfold IntKind.wrap
    simp [IntKind.signed, IntKind.bits]
    omega
  rw [hu, show ((2 : Int) ^ min 1 64) = 2 from rfl, Int.fdiv_eq_ediv_of_nonneg _ (by decide), wrap_id _ (by omega) (by omega)]
  omega
end Go.Proofs.YtjedcphhajlnoaaGreatDoor
