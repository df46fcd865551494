import Derived.Test.YtmnbgppmfbnamaaGreatDoorProg
import Derived.WalkKit
import Derived.Ground.NamesProg
import Derived.Shelf.Small.Strs
import Derived.Test.YtmnbgppmfbnamaaGreatDoorM7
import Derived.Test.YtmnbgppmfbnamaaGreatDoorM10
import Derived.Test.YtmnbgppmfbnamaaGreatDoorM12
import Derived.Test.YtmnbgppmfbnamaaGreatDoorM16
set_option linter.unusedSimpArgs false
set_option linter.unusedVariables false
set_option linter.unusedSectionVars false
/- Functions: the reference reads numbers, pointers, commits. -/
namespace Go.Proofs.YtmnbgppmfbnamaaGreatDoor
open Go.RowKit

theorem digitVal_none {b : UInt8} (h : b.toNat < 48 ∨ 57 < b.toNat) : Lib.digitVal b = none := by
  unfold Lib.digitVal; rw [if_neg (by omega)]
theorem digitVal_some {b : UInt8} (h0 : 48 ≤ b.toNat) (h1 : b.toNat ≤ 57) : Lib.digitVal b = some (b.toNat - 48) := by
  unfold Lib.digitVal; rw [if_pos ⟨h0, h1⟩]
def numAt (t : ByteArray) (i : Nat) : Nat := (Lib.decFrom 0 (t.data.toList.take i)).getD 0
theorem num_step {t : ByteArray} {i : Nat} (hi : i < t.data.toList.length) (h : Lib.decFrom 0 (t.data.toList.take i) = some (numAt t i)) {d : Nat} (hd : Lib.digitVal t.data.toList[i] = some d) :
    Lib.decFrom 0 (t.data.toList.take (i + 1)) = some (numAt t (i + 1)) ∧ numAt t (i + 1) = numAt t i * 10 + d := by
  have e : Lib.decFrom 0 (t.data.toList.take (i + 1)) = some (numAt t i * 10 + d) := by
    rw [List.take_succ_eq_append_getElem hi, decFrom_app, h]
    simp only [Option.bind_some, Lib.decFrom, hd]
  have e2 : numAt t (i + 1) = numAt t i * 10 + d := by unfold numAt; rw [e]; rfl
  exact ⟨by rw [e2]; exact e, e2⟩
theorem num_stop {t : ByteArray} {i : Nat} (hi : i < t.data.toList.length) (h : Lib.decFrom 0 (t.data.toList.take i) = some (numAt t i)) (hd : Lib.digitVal t.data.toList[i] = none) :
    Lib.decFrom 0 t.data.toList = none := by
  have e := drop_at (f := 0) hi (Nat.zero_le _)
  simp only [List.drop_zero, Nat.sub_zero] at e
  rw [e, decFrom_app, h]
  simp only [Option.bind_some, Lib.decFrom, hd]
/-- Two ways meet in one state. -/
theorem W_meet {P : Program} {B : Beg} {σ : Sg} {Q : Exit → Sg → Prop} {x y : Code} (J : Sg) (hy : W P B y J Q) (h : ∀ Y : Sg → Prop, (∀ {σ' : Sg} (π : List (Option Nat)), leS B.m π σ' J → Y σ') → W P B x σ (thenG Y Q)) :
    W P B x σ (thenG (fun σ' => W P B y σ' Q) Q) := h _ fun π hle => W_le π hle hy
@[go_sem] def ctNumS : Ct := ⟨false, [], fun args os => match args, os with
  | [.one (.val (.string s))], [] => ifp (s.size ≤ 1000000) (match numV s with | some n => .tup [vi n, vb true] | none => .tup [vi 0, vb false])
  | _, _ => no⟩
theorem s_numS_e : EnterOk Tryz.prog 66 := ⟨_, Tryz.func66, rfl, by decide⟩
@[go_sem] def s_numS_lv : List (List Nat) := [[0], [0, 4], [0, 4, 15], [0, 4], [0, 4, 38], [2, 3], [0, 4, 5], [0, 4, 5, 6], [0, 4, 5, 6, 42], [0, 4, 5, 6], [0, 4, 5, 6, 54], [2, 3], [0, 4, 5, 6], [5, 63], [5], [2, 3]]
@[go_sem] noncomputable def s_numS_K : Known := Known.nil
set_option maxHeartbeats 8000000 in
theorem s_numS : Sound Tryz.prog 66 ctNumS := by
  have ke := s_numS_K.env []
  have kl : Lives s_numS_lv := trivial
  refine sound_intro (E := ⟨ti, s_numS_K.Γ, []⟩) ke Tryz.func66 Tryz.ntmps66 rfl (rs := [.tmp 2, .tmp 3]) rfl ?_
  intro args os hp
  unfold ctNumS at hp ⊢
  dsimp only at hp ⊢
  split at hp
  · rename_i s
    refine ⟨by simp, fun φ0 w0 => ?_⟩
    have hlen : s.size ≤ 1000000 := hp
    obtain ⟨neg, hneg⟩ : ∃ b, decide (s.data.getD 0 0 = 45 ∧ 0 < s.size) = b := ⟨_, rfl⟩
    obtain ⟨t, ht⟩ : ∃ t, numT s = t := ⟨_, rfl⟩
    have htn : t = if neg = true then s.extract 1 s.size else s := by
      rw [← ht]; unfold numT
      by_cases h : s.data.getD 0 0 = 45 ∧ 0 < s.size
      · rw [if_pos h, if_pos (by rw [← hneg]; exact decide_eq_true h)]
      · rw [if_neg h, if_neg (by rw [← hneg]; simpa using h)]
    have hts : t.size ≤ s.size := by
      rw [htn]; split
      · rw [ByteArray.size_extract]; omega
      · exact Nat.le_refl _
    have hb : numBad s = (decide (t.size = 0) || decide (17 < t.size) || (decide (t.data.getD 0 0 = 48) && (decide (1 < t.size) || neg))) := by
      unfold numBad; rw [ht, hneg]
    have hV : numV s = if numBad s = true then none else (Lib.decFrom 0 t.data.toList).map fun (u : Nat) => if neg = true then -(u : Int) else (u : Int) := by
      unfold numV
      rw [ht]
      have : (s.data.getD 0 0 = 45 ∧ 0 < s.size) ↔ neg = true := by rw [← hneg]; simp
      simp only [this]
    -- the rest, behind the sign
    have hll : t.data.toList.length = t.size := rfl
    have c45 : ∀ b : UInt8, ((b.toNat : Int) == 45) = decide (b = 45) := fun b => by
      rw [Bool.eq_iff_iff, beq_iff_eq, decide_eq_true_eq]
      exact byte_eq b (by decide) (by decide)
    have c48 : ∀ b : UInt8, ((b.toNat : Int) == 48) = decide (b = 48) := fun b => by
      rw [Bool.eq_iff_iff, beq_iff_eq, decide_eq_true_eq]
      exact byte_eq b (by decide) (by decide)
    have hj : ∀ z : Sg, z = ⟨[(0, vs t), (4, vb neg)], [], []⟩ → True := fun _ _ => trivial
    by_cases h0 : s.size = 0
    · have c0 : decide ((s.size : Int) > 0) = false := by simp [h0]
      have n0 : neg = false := by rw [← hneg]; simp [h0]
      have t0 : t = s := by rw [htn, n0]; rfl
      have e : numV s = none := by rw [hV, hb, t0]; simp [h0]
      have z0 : ((s.size : Int) == 0) = true := by simp [h0]
      refine goh c0 ?_
      refine W_cnd ?_ ?_ <;> intro hlit <;> try (cases hlit; done)
      refine goh z0 ?_
      refine W_cnd ?_ ?_ <;> intro hlit <;> try (cases hlit; done)
      refine goh trivial ?_
      exact finh [] e
    · have c0 : decide ((s.size : Int) > 0) = true := by simp; omega
      have hn2 : decide (s.data.getD 0 0 = 45) = neg := by rw [← hneg]; congr 1; simp; omega
      have c1 : (((s.data.getD 0 0).toNat : Int) == 45) = neg := by rw [c45]; exact hn2
      refine goh (And.intro c0 c1) ?_
      refine W_meet ⟨[(0, vs t), (4, vb neg)], [], []⟩ ?_ (fun Y hY => ?_)
      · by_cases z : t.size = 0
        · have z0 : ((t.size : Int) == 0) = true := by simp [z]
          have e : numV s = none := by rw [hV, hb]; simp [z]
          refine goh z0 ?_
          refine W_cnd ?_ ?_ <;> intro hlit <;> try (cases hlit; done)
          refine goh trivial ?_
          exact finh [] e
        · have z0 : ((t.size : Int) == 0) = false := by simp [z]
          by_cases y : 17 < t.size
          · have z1 : decide ((t.size : Int) > 17) = true := by simp; omega
            have e : numV s = none := by rw [hV, hb]; simp [y]
            refine goh (And.intro z0 z1) ?_
            refine W_cnd ?_ ?_ <;> intro hlit <;> try (cases hlit; done)
            refine goh trivial ?_
            exact finh [] e
          · have z1 : decide ((t.size : Int) > 17) = false := by simp; omega
            have z2 := c48 (t.data.getD 0 0)
            obtain ⟨b48, hb48⟩ : ∃ b, decide (t.data.getD 0 0 = 48) = b := ⟨_, rfl⟩
            obtain ⟨b1, hb1⟩ : ∃ b, decide ((t.size : Int) > 1) = b := ⟨_, rfl⟩
            have hb1' : decide (1 < t.size) = b1 := by rw [← hb1]; congr 1; simp; omega
            rw [hb48] at z2
            have hb2 : numBad s = (b48 && (b1 || neg)) := by
              rw [hb, hb48, hb1', decide_eq_false z, decide_eq_false y]; simp
            by_cases hbad : (b48 && (b1 || neg)) = true
            · have e : numV s = none := by rw [hV, hb2, if_pos hbad]
              have k1 : b48 = true ∧ (b1 = true ∨ b1 = false ∧ neg = true) := by
                revert hbad; cases b48 <;> cases b1 <;> cases neg <;> simp
              rcases k1 with ⟨k1, k2 | ⟨k2, k3⟩⟩
              · rw [k1] at z2
                rw [k2] at hb1
                refine goh (And.intro z0 (And.intro z1 (And.intro z2 hb1))) ?_
                refine W_cnd ?_ ?_ <;> intro hlit <;> try (cases hlit; done)
                refine goh trivial ?_
                exact finh [] e
              · rw [k1] at z2
                rw [k2] at hb1
                subst k3
                refine goh (And.intro z0 (And.intro z1 (And.intro z2 hb1))) ?_
                refine W_cnd ?_ ?_ <;> intro hlit <;> try (cases hlit; done)
                refine goh trivial ?_
                exact finh [] e
            · have eV : numV s = (Lib.decFrom 0 t.data.toList).map fun (u : Nat) => if neg = true then -(u : Int) else (u : Int) := by rw [hV, hb2, if_neg hbad]
              have k1 : b48 = false ∨ (b48 = true ∧ b1 = false ∧ neg = false) := by
                revert hbad; cases b48 <;> cases b1 <;> cases neg <;> simp
              have k2 : ∀ X : Prop, (b48 = false → X) → (b48 = true ∧ b1 = false ∧ neg = false → X) → X := fun X h1 h2 => k1.elim h1 h2
              refine k2 _ (fun k => ?_) (fun k => ?_)
              case refine_1 =>
                rw [k] at z2
                refine goh (And.intro z0 (And.intro z1 z2)) ?_
                refine W_cnd ?_ ?_ <;> intro hlit <;> try (cases hlit; done)
                refine W_le (σ' := ⟨[(0, vs t), (4, vb neg)], [], []⟩) [] (leh trivial) ?_
                refine goh trivial ?_
                refine W_for t.size (fun i => Lib.decFrom 0 (t.data.toList.take i) = some (numAt t i) ∧ numAt t i < 10 ^ i) (fun i => ⟨[(0, vs t), (4, vb neg), (5, vi (numAt t i)), (6, vi i)], [], []⟩) [] (leh (show numAt t 0 = 0 from rfl)) ⟨rfl, Nat.zero_lt_one⟩ fun i hi hI => ?_
                obtain ⟨hI1, hI2⟩ := hI
                refine goh trivial ?_
                refine W_cnd ?_ ?_ <;> (try simp only [cnd_r]) <;> intro hlt
                · have hil : i < t.data.toList.length := by omega
                  have hg := getD_list t hil
                  have hpw : (10 : Nat) ^ i ≤ 10 ^ 16 := Nat.pow_le_pow_right (by omega) (by omega)
                  obtain ⟨b, hbb⟩ : ∃ b, t.data.getD i 0 = b := ⟨_, rfl⟩
                  rw [hbb] at hg
                  by_cases hd : 48 ≤ b.toNat ∧ b.toNat ≤ 57
                  · obtain ⟨d1, d2⟩ := hd
                    have q1 : decide ((b.toNat : Int) < 48) = false := by simp; omega
                    have q2 : decide ((b.toNat : Int) > 57) = false := by simp; omega
                    obtain ⟨n1, n2⟩ := num_step hil hI1 (d := b.toNat - 48) (by rw [← hg]; exact digitVal_some d1 d2)
                    have w1 : IntKind.i64.wrap ((numAt t i : Int) * 10) = ((numAt t i * 10 : Nat) : Int) := wrap_id _ (by omega) (by omega)
                    have w2 : IntKind.u8.wrap ((b.toNat : Int) - 48) = ((b.toNat - 48 : Nat) : Int) := by
                      rw [show (b.toNat : Int) - 48 = ((b.toNat - 48 : Nat) : Int) by omega]; exact wrap_u8 (by omega)
                    have w3 : IntKind.i64.wrap ((b.toNat - 48 : Nat) : Int) = ((b.toNat - 48 : Nat) : Int) := wrap_id _ (by omega) (by omega)
                    have w4 : IntKind.i64.wrap (((numAt t i * 10 : Nat) : Int) + ((b.toNat - 48 : Nat) : Int)) = ((numAt t i * 10 + (b.toNat - 48) : Nat) : Int) := wrap_id _ (by omega) (by omega)
                    refine goh (And.intro hbb (And.intro q1 q2)) ?_
                    refine W_cnd ?_ ?_ <;> intro hlit <;> try (cases hlit; done)
                    refine goh (And.intro hbb (And.intro w1 (And.intro w2 (And.intro w3 w4)))) ?_
                    exact ⟨[], by omega, leh n2, ⟨n1, by rw [n2, Nat.pow_succ]; omega⟩⟩
                  · have e : numV s = none := by
                      rw [eV, num_stop hil hI1 (by rw [← hg]; exact digitVal_none (by omega))]; rfl
                    by_cases d1 : b.toNat < 48
                    · have q1 : decide ((b.toNat : Int) < 48) = true := by simp; omega
                      refine goh (And.intro hbb q1) ?_
                      refine W_cnd ?_ ?_ <;> intro hlit <;> try (cases hlit; done)
                      refine goh trivial ?_
                      exact finh [] e
                    · have q1 : decide ((b.toNat : Int) < 48) = false := by simp; omega
                      have q2 : decide ((b.toNat : Int) > 57) = true := by simp; omega
                      refine goh (And.intro hbb (And.intro q1 q2)) ?_
                      refine W_cnd ?_ ?_ <;> intro hlit <;> try (cases hlit; done)
                      refine goh trivial ?_
                      exact finh [] e
                · obtain rfl : i = t.size := by omega
                  have ht2 : t.data.toList.take t.size = t.data.toList := List.take_of_length_le (by omega)
                  rw [ht2] at hI1
                  have hpw : (10 : Nat) ^ t.size ≤ 10 ^ 17 := Nat.pow_le_pow_right (by omega) (by omega)
                  have e : numV s = some (if neg = true then -((numAt t t.size : Nat) : Int) else ((numAt t t.size : Nat) : Int)) := by rw [eV, hI1]; rfl
                  have w1 : IntKind.i64.wrap (0 - (numAt t t.size : Int)) = -((numAt t t.size : Nat) : Int) := by rw [Int.zero_sub]; exact wrap_id _ (by omega) (by omega)
                  cases neg with
                  | true =>
                    rw [if_pos rfl] at e
                    refine goh trivial ?_
                    refine W_cnd ?_ ?_ <;> intro hlit <;> try (cases hlit; done)
                    refine goh w1 ?_
                    exact finh [] e
                  | false =>
                    rw [if_neg Bool.false_ne_true] at e
                    refine goh trivial ?_
                    refine W_cnd ?_ ?_ <;> intro hlit <;> try (cases hlit; done)
                    refine goh trivial ?_
                    exact finh [] e
              case refine_2 =>
                obtain ⟨k, kb, kn⟩ := k
                rw [k] at z2
                rw [kb] at hb1
                refine goh (And.intro z0 (And.intro z1 (And.intro z2 (And.intro hb1 kn)))) ?_
                refine W_cnd ?_ ?_ <;> intro hlit <;> try (cases hlit; done)
                refine W_le (σ' := ⟨[(0, vs t), (4, vb neg)], [], []⟩) [] (leh kn) ?_
                refine goh trivial ?_
                refine W_for t.size (fun i => Lib.decFrom 0 (t.data.toList.take i) = some (numAt t i) ∧ numAt t i < 10 ^ i) (fun i => ⟨[(0, vs t), (4, vb neg), (5, vi (numAt t i)), (6, vi i)], [], []⟩) [] (leh (show numAt t 0 = 0 from rfl)) ⟨rfl, Nat.zero_lt_one⟩ fun i hi hI => ?_
                obtain ⟨hI1, hI2⟩ := hI
                refine goh trivial ?_
                refine W_cnd ?_ ?_ <;> (try simp only [cnd_r]) <;> intro hlt
                · have hil : i < t.data.toList.length := by omega
                  have hg := getD_list t hil
                  have hpw : (10 : Nat) ^ i ≤ 10 ^ 16 := Nat.pow_le_pow_right (by omega) (by omega)
                  obtain ⟨b, hbb⟩ : ∃ b, t.data.getD i 0 = b := ⟨_, rfl⟩
                  rw [hbb] at hg
                  by_cases hd : 48 ≤ b.toNat ∧ b.toNat ≤ 57
                  · obtain ⟨d1, d2⟩ := hd
                    have q1 : decide ((b.toNat : Int) < 48) = false := by simp; omega
                    have q2 : decide ((b.toNat : Int) > 57) = false := by simp; omega
                    obtain ⟨n1, n2⟩ := num_step hil hI1 (d := b.toNat - 48) (by rw [← hg]; exact digitVal_some d1 d2)
                    have w1 : IntKind.i64.wrap ((numAt t i : Int) * 10) = ((numAt t i * 10 : Nat) : Int) := wrap_id _ (by omega) (by omega)
                    have w2 : IntKind.u8.wrap ((b.toNat : Int) - 48) = ((b.toNat - 48 : Nat) : Int) := by
                      rw [show (b.toNat : Int) - 48 = ((b.toNat - 48 : Nat) : Int) by omega]; exact wrap_u8 (by omega)
                    have w3 : IntKind.i64.wrap ((b.toNat - 48 : Nat) : Int) = ((b.toNat - 48 : Nat) : Int) := wrap_id _ (by omega) (by omega)
                    have w4 : IntKind.i64.wrap (((numAt t i * 10 : Nat) : Int) + ((b.toNat - 48 : Nat) : Int)) = ((numAt t i * 10 + (b.toNat - 48) : Nat) : Int) := wrap_id _ (by omega) (by omega)
                    refine goh (And.intro hbb (And.intro q1 q2)) ?_
                    refine W_cnd ?_ ?_ <;> intro hlit <;> try (cases hlit; done)
                    refine goh (And.intro hbb (And.intro w1 (And.intro w2 (And.intro w3 w4)))) ?_
                    exact ⟨[], by omega, leh n2, ⟨n1, by rw [n2, Nat.pow_succ]; omega⟩⟩
                  · have e : numV s = none := by
                      rw [eV, num_stop hil hI1 (by rw [← hg]; exact digitVal_none (by omega))]; rfl
                    by_cases d1 : b.toNat < 48
                    · have q1 : decide ((b.toNat : Int) < 48) = true := by simp; omega
                      refine goh (And.intro hbb q1) ?_
                      refine W_cnd ?_ ?_ <;> intro hlit <;> try (cases hlit; done)
                      refine goh trivial ?_
                      exact finh [] e
                    · have q1 : decide ((b.toNat : Int) < 48) = false := by simp; omega
                      have q2 : decide ((b.toNat : Int) > 57) = true := by simp; omega
                      refine goh (And.intro hbb (And.intro q1 q2)) ?_
                      refine W_cnd ?_ ?_ <;> intro hlit <;> try (cases hlit; done)
                      refine goh trivial ?_
                      exact finh [] e
                · obtain rfl : i = t.size := by omega
                  have ht2 : t.data.toList.take t.size = t.data.toList := List.take_of_length_le (by omega)
                  rw [ht2] at hI1
                  have hpw : (10 : Nat) ^ t.size ≤ 10 ^ 17 := Nat.pow_le_pow_right (by omega) (by omega)
                  have e : numV s = some (if neg = true then -((numAt t t.size : Nat) : Int) else ((numAt t t.size : Nat) : Int)) := by rw [eV, hI1]; rfl
                  have w1 : IntKind.i64.wrap (0 - (numAt t t.size : Int)) = -((numAt t t.size : Nat) : Int) := by rw [Int.zero_sub]; exact wrap_id _ (by omega) (by omega)
                  cases neg with
                  | true =>
                    rw [if_pos rfl] at e
                    refine goh trivial ?_
                    refine W_cnd ?_ ?_ <;> intro hlit <;> try (cases hlit; done)
                    refine goh w1 ?_
                    exact finh [] e
                  | false =>
                    rw [if_neg Bool.false_ne_true] at e
                    refine goh trivial ?_
                    refine W_cnd ?_ ?_ <;> intro hlit <;> try (cases hlit; done)
                    refine goh trivial ?_
                    exact finh [] e
      · have hx : neg = true → t = s.extract 1 s.size := fun h => by rw [htn, if_pos h]
        have hx2 : neg = false → t = s := fun h => by rw [htn, h]; rfl
        cases neg with
        | true =>
          have ht1 := hx rfl
          have hp1 : 1 ≤ s.size := by omega
          refine W_cnd ?_ ?_ <;> intro hlit <;> try (cases hlit; done)
          refine goh trivial ?_
          exact hY [] (leh ht1)
        | false =>
          have ht1 := hx2 rfl
          refine W_cnd ?_ ?_ <;> intro hlit <;> try (cases hlit; done)
          refine goh trivial ?_
          exact hY [] (leh ht1)
  · simp [no, ifp] at hp
end Go.Proofs.YtmnbgppmfbnamaaGreatDoor
/-
  DERIVED: THE SHELF's CONTRACTS AT THIS DUMP, IN PLAIN WORDS (tools/lay-plain.mjs out of 'YtmnbgppmfbnamaaGreatDoorTSh8Q.lean', which tools/lay-shelf.mjs wrote): THE SAME DECLARATIONS UNDER THE SAME NAMES: 'import', 'namespace', 'open', 'def', 'theorem' AND NOTHING ELSE: no command of the shelf's: FOR A HAND-IN. Each laying: the table of numbers ('.._ren') and one theorem, a field a fact of the dump's own or the kernel's comparison; each contract: ONE APPLICATION.
-/
namespace Go.Proofs
open Go.Shelf
def Tryz.lays137_ren : Go.Shelf.Ren := ⟨fun | 137 => 133 | 217 => 211 | 266 => 261 | n => n, fun | 9 => 9 | 5 => 5 | 3 => 3 | n => n, fun | n => n⟩
theorem Tryz.lays137 : Go.Proofs.Lays.n137 Tryz.prog Tryz.lays137_ren := {
  mixed := by kernel_rfl
  f137 := Tryz.func133.trans (congrArg some (by kernel_rfl))
  f217 := Tryz.func211.trans (congrArg some (by kernel_rfl))
  f266 := Tryz.func261.trans (congrArg some (by kernel_rfl))
  t3 := Tryz.underlying3
  a3 := Tryz.isAgg3
  z3 := Tryz.sizeOf3
  v3 := Tryz.zeroValue3
  t5 := Tryz.underlying5
  a5 := Tryz.isAgg5
  z5 := Tryz.sizeOf5
  v5 := Tryz.zeroValue5
  t9 := Tryz.underlying9
  a9 := Tryz.isAgg9
  z9 := Tryz.sizeOf9
  v9 := Tryz.zeroValue9 }
end Go.Proofs
/- Functions: bytes of digits. -/
namespace Go.Proofs.YtmnbgppmfbnamaaGreatDoor
open Go.RowKit

@[go_sem] def ctIndexB : Ct := ⟨false, [], fun args os => match args, os with
  | [.one (.val (.string s)), .one (.val (.int .u8 c))], [] => is (vi (Lib.indexByte s.data.toList (UInt8.ofNat c.toNat)))
  | _, _ => no⟩
theorem s_indexB_e : EnterOk Tryz.prog 133 := ⟨_, Tryz.func133, rfl, by decide⟩
theorem s_indexB : Sound Tryz.prog 133 ctIndexB := by
  refine sound_plain fun args os hp => ?_
  unfold ctIndexB at hp ⊢
  dsimp only at hp ⊢
  split at hp
  · rename_i s c
    refine ⟨rfl, [.string s, .int .u8 c], .int .i64 (Lib.indexByte s.data.toList (UInt8.ofNat c.toNat)), rfl, rfl, fun w _ => ?_⟩
    refine (Any.strings_IndexByte Tryz.lays137 s c w).mono ?_
    rintro e w' ⟨he, rfl⟩
    exact ⟨he, Below.refl _ _⟩
  · exact hp.elim
/-- A digit's number, or -1. -/
def hexI (b : UInt8) : Int := Lib.indexByte hexs.data.toList b
theorem hexI_in (b : UInt8) : -1 ≤ hexI b ∧ hexI b ≤ 15 := by
  have h : ∀ k : Fin 256, -1 ≤ hexI (UInt8.ofNat k.val) ∧ hexI (UInt8.ofNat k.val) ≤ 15 := by decide +kernel
  have := h ⟨b.toNat, b.toNat_lt⟩
  simpa using this
theorem hexI_dig {k : Nat} (h : k < 16) : hexI (hexd k) = k := by
  have h2 : ∀ k : Fin 16, hexI (hexd k.val) = (k.val : Int) := by decide +kernel
  exact h2 ⟨k, h⟩
theorem find_hex (b : UInt8) : findV b hexs = hexI b := by
  have h : ∀ k : Fin 256, findV (UInt8.ofNat k.val) hexs = hexI (UInt8.ofNat k.val) := by decide +kernel
  have := h ⟨b.toNat, b.toNat_lt⟩
  simpa using this
def unhexL (s : ByteArray) : Nat → List UInt8
  | 0 => []
  | i + 1 => unhexL s i ++ [UInt8.ofNat (16 * hexI (s.data.getD (2 * i) 0) + hexI (s.data.getD (2 * i + 1) 0)).toNat]
def unhexB (s : ByteArray) : Nat → Bool
  | 0 => true
  | i + 1 => unhexB s i && (decide (0 ≤ hexI (s.data.getD (2 * i) 0)) && decide (0 ≤ hexI (s.data.getD (2 * i + 1) 0)))
theorem unhexL_len (s : ByteArray) : ∀ i, (unhexL s i).length = i
  | 0 => rfl
  | i + 1 => by unfold unhexL; rw [List.length_append, unhexL_len s i]; rfl
theorem unhexB_down {s : ByteArray} : ∀ (n i : Nat), unhexB s i = false → i ≤ n → unhexB s n = false
  | 0, i, h, hi => by obtain rfl : i = 0 := by omega
                      exact h
  | n + 1, i, h, hi => by
    rcases Nat.lt_or_ge i (n + 1) with h1 | h1
    · unfold unhexB; rw [unhexB_down n i h (by omega)]; rfl
    · obtain rfl : i = n + 1 := by omega
      exact h
def unhexV (s : ByteArray) : Option ByteArray := if s.size % 2 = 0 ∧ unhexB s (s.size / 2) = true then some (bytesL (unhexL s (s.size / 2))) else none
theorem getD_left {α : Type} {l m : List α} {d : α} {i : Nat} (h : i < l.length) : (l ++ m).getD i d = l.getD i d := by
  rw [List.getD_eq_getElem?_getD, List.getD_eq_getElem?_getD, List.getElem?_append_left h]
theorem getD_right {α : Type} {l m : List α} {d : α} {i : Nat} (h : l.length ≤ i) : (l ++ m).getD i d = m.getD (i - l.length) d := by
  rw [List.getD_eq_getElem?_getD, List.getD_eq_getElem?_getD, List.getElem?_append_right h]
theorem hexN_at (s : ByteArray) : ∀ (n i : Nat), i < n → (hexN s n).getD (2 * i) 0 = hexd ((s.data.getD i 0).toNat / 16) ∧ (hexN s n).getD (2 * i + 1) 0 = hexd ((s.data.getD i 0).toNat % 16)
  | n + 1, i, h => by
    have hl := hexN_len s n
    unfold hexN
    rcases Nat.lt_or_ge i n with h1 | h1
    · have := hexN_at s n i h1
      rw [getD_left (by omega), getD_left (by omega)]
      exact this
    · obtain rfl : i = n := by omega
      rw [getD_right (by omega), getD_right (by omega), hl, show 2 * i - 2 * i = 0 by omega, show 2 * i + 1 - 2 * i = 1 by omega]
      exact ⟨rfl, rfl⟩
theorem unhex_hex (s : ByteArray) : unhexV (hexV s) = some s := by
  have hs := hexV_size s
  have hg : ∀ j, (hexV s).data.getD j 0 = (hexN s s.size).getD j 0 := fun j => by
    show ((hexN s s.size).toArray).getD j 0 = _
    simp
  have key : ∀ i, i ≤ s.size → unhexL (hexV s) i = s.data.toList.take i ∧ unhexB (hexV s) i = true := by
    intro i
    induction i with
    | zero => intro _; exact ⟨rfl, rfl⟩
    | succ i ih =>
      intro hi
      obtain ⟨h1, h2⟩ := ih (by omega)
      obtain ⟨a1, a2⟩ := hexN_at s s.size i (by omega)
      have hb := (s.data.getD i 0).toNat_lt
      have hil : i < s.data.toList.length := by show i < s.size; omega
      unfold unhexL unhexB
      rw [hg, hg, a1, a2, hexI_dig (by omega), hexI_dig (by omega), h1, h2]
      refine ⟨?_, by rw [decide_eq_true (by omega), decide_eq_true (by omega)]; rfl⟩
      rw [List.take_succ_eq_append_getElem hil, ← getD_list s hil]
      congr 2
      have : (16 * ((((s.data.getD i 0).toNat / 16 : Nat)) : Int) + ((((s.data.getD i 0).toNat % 16 : Nat)) : Int)).toNat = (s.data.getD i 0).toNat := by omega
      rw [this, UInt8.ofNat_toNat]
  have hh : (hexV s).size / 2 = s.size := by omega
  obtain ⟨k1, k2⟩ := key s.size (Nat.le_refl _)
  unfold unhexV
  rw [hh, if_pos ⟨by omega, k2⟩, k1, List.take_of_length_le (by show s.size ≤ s.size; omega), bytesL_data]
@[go_sem] def ctUnhex : Ct := ⟨false, [], fun args os => match args, os with
  | [.one (.val (.string s))], [] => ifp (s.size ≤ 1000000) (match unhexV s with | some t => .tup [vs t, vb true] | none => .tup [vs ⟨#[]⟩, vb false])
  | _, _ => no⟩
theorem s_unhex_e : EnterOk Tryz.prog 58 := ⟨_, Tryz.func58, rfl, by decide⟩
@[go_sem] def s_unhex_lv : List (List Nat) := [[0], [0, 11], [2, 3], [0, 4], [0, 4, 5], [0, 4, 5, 15], [0, 4, 5], [0, 4, 5, 6, 7], [0, 4, 5, 6, 7, 32], [2, 3], [0, 4, 5], [2, 3]]
@[go_sem] noncomputable def s_unhex_K : Known := (Known.nil).cons 133 ctIndexB s_indexB s_indexB_e
set_option maxHeartbeats 8000000 in
theorem s_unhex : Sound Tryz.prog 58 ctUnhex := by
  have ke := s_unhex_K.env []
  have kl : Lives s_unhex_lv := trivial
  refine sound_intro (E := ⟨ti, s_unhex_K.Γ, []⟩) ke Tryz.func58 Tryz.ntmps58 rfl (rs := [.tmp 2, .tmp 3]) rfl ?_
  intro args os hp
  unfold ctUnhex at hp ⊢
  dsimp only at hp ⊢
  split at hp
  · rename_i s
    refine ⟨by simp, fun φ0 w0 => ?_⟩
    have hlen : s.size ≤ 1000000 := hp
    have hof : ∀ x : UInt8, UInt8.ofNat x.toNat = x := fun x => UInt8.ofNat_toNat
    have hix : ∀ b : UInt8, Lib.indexByte [48, 49, 50, 51, 52, 53, 54, 55, 56, 57, 97, 98, 99, 100, 101, 102] b = hexI b := fun _ => rfl
    have hm : ((s.size : Int)).tmod 2 = ((s.size % 2 : Nat) : Int) := (Int.ofNat_tmod s.size 2).symm
    refine goh hm ?_
    refine W_cnd ?_ ?_ <;> (try simp only [cnd_r]) <;> intro hc
    · have e : unhexV s = none := by unfold unhexV; rw [if_neg (fun h => by rw [h.1] at hc; exact absurd hc (by decide))]
      refine goh trivial ?_
      exact finh [] e
    · have he : s.size % 2 = 0 := by omega
      refine goh trivial ?_
      refine W_for (s.size / 2) (fun k => unhexB s k = true) (fun k => ⟨[(0, vs s), (4, .one (.osl .byte 0 0 (unhexL s k).length)), (5, vi (2 * k : Nat))], [some (.arr .byte (unhexL s k))], []⟩) [none] (leh (show ((2 * 0 : Nat) : Int) = 0 from rfl)) rfl fun k hk hI => ?_
      have hl := unhexL_len s k
      refine goh trivial ?_
      refine W_cnd ?_ ?_ <;> (try simp only [cnd_r]) <;> intro hlt
      · have w1 : IntKind.i64.wrap (((2 * k : Nat) : Int) + 1) = ((2 * k + 1 : Nat) : Int) := wrap_id _ (by omega) (by omega)
        have w2 : IntKind.i64.wrap (((2 * k : Nat) : Int) + 2) = ((2 * (k + 1) : Nat) : Int) := wrap_id _ (by omega) (by omega)
        have r1 := hexI_in (s.data.getD (2 * k) 0)
        have r2 := hexI_in (s.data.getD (2 * k + 1) 0)
        have hL : unhexL s (k + 1) = unhexL s k ++ [UInt8.ofNat (16 * hexI (s.data.getD (2 * k) 0) + hexI (s.data.getD (2 * k + 1) 0)).toNat] := rfl
        have hB : unhexB s (k + 1) = (unhexB s k && (decide (0 ≤ hexI (s.data.getD (2 * k) 0)) && decide (0 ≤ hexI (s.data.getD (2 * k + 1) 0)))) := rfl
        obtain ⟨x, hx⟩ : ∃ x, hexI (s.data.getD (2 * k) 0) = x := ⟨_, rfl⟩
        obtain ⟨y, hy⟩ : ∃ y, hexI (s.data.getD (2 * k + 1) 0) = y := ⟨_, rfl⟩
        rw [hx] at r1 hL hB
        rw [hy] at r2 hL hB
        by_cases hbad : x < 0 ∨ y < 0
        · have hf : unhexB s (k + 1) = false := by rw [hB]; simp; omega
          have e : unhexV s = none := by unfold unhexV; rw [if_neg (fun h => by rw [unhexB_down (s.size / 2) (k + 1) hf (by omega)] at h; cases h.2)]
          by_cases hx0 : x < 0
          · have c1 : decide (x < 0) = true := by simp [hx0]
            refine goh (And.intro hof (And.intro hix (And.intro hx (And.intro hy (And.intro w1 c1))))) ?_
            refine W_cnd ?_ ?_ <;> intro hlit <;> try (cases hlit; done)
            refine goh trivial ?_
            exact finh [] e
          · have c1 : decide (x < 0) = false := by simp; omega
            have c2 : decide (y < 0) = true := by simp; omega
            refine goh (And.intro hof (And.intro hix (And.intro hx (And.intro hy (And.intro w1 (And.intro c1 c2)))))) ?_
            refine W_cnd ?_ ?_ <;> intro hlit <;> try (cases hlit; done)
            refine goh trivial ?_
            exact finh [] e
        · have c1 : decide (x < 0) = false := by simp; omega
          have c2 : decide (y < 0) = false := by simp; omega
          have w3 : IntKind.i64.wrap (16 * x) = 16 * x := wrap_id _ (by omega) (by omega)
          have w4 : IntKind.i64.wrap (16 * x + y) = 16 * x + y := wrap_id _ (by omega) (by omega)
          have w5 : IntKind.u8.wrap (16 * x + y) = 16 * x + y := IntWalk.u8_in _ ⟨by omega, by omega⟩
          have w6 : ((UInt8.ofNat (16 * x + y).toNat).toNat : Int) = 16 * x + y := by rw [ofNat_u8 (by omega)]; omega
          refine goh (And.intro hof (And.intro hix (And.intro hx (And.intro hy (And.intro w1 (And.intro c1 c2)))))) ?_
          refine W_cnd ?_ ?_ <;> intro hlit <;> try (cases hlit; done)
          refine goh (And.intro w2 (And.intro w3 (And.intro w4 (And.intro w5 w6)))) ?_
          refine ⟨[some 2], by omega, leh hL, ?_⟩
          rw [hB, hI]; simp; omega
      · obtain rfl : k = s.size / 2 := by omega
        have e : unhexV s = some (bytesL (unhexL s (s.size / 2))) := by unfold unhexV; rw [if_pos ⟨he, hI⟩]
        have e2 : bytesL (unhexL s (s.size / 2)) = ⟨(unhexL s (s.size / 2)).toArray⟩ := rfl
        rw [e2] at e
        refine goh trivial ?_
        exact finh [] e
  · simp [no, ifp] at hp
theorem s_specUnhex_e : EnterOk Tryz.prog 67 := ⟨_, Tryz.func67, rfl, by decide⟩
@[go_sem] def s_specUnhex_lv : List (List Nat) := [[0], [0, 11], [2, 3], [0, 4], [0, 4, 5], [0, 4, 5, 16], [0, 4, 5], [0, 4, 5, 6], [0, 4, 5, 6, 7], [0, 4, 5, 6, 7, 33], [2, 3], [0, 4, 5], [2, 3]]
@[go_sem] noncomputable def s_specUnhex_K : Known := (Known.nil).cons 136 ctFind s_find s_find_e
set_option maxHeartbeats 8000000 in
theorem s_specUnhex : Sound Tryz.prog 67 ctUnhex := by
  have ke := s_specUnhex_K.env []
  have kl : Lives s_specUnhex_lv := trivial
  refine sound_intro (E := ⟨ti, s_specUnhex_K.Γ, []⟩) ke Tryz.func67 Tryz.ntmps67 rfl (rs := [.tmp 2, .tmp 3]) rfl ?_
  intro args os hp
  unfold ctUnhex at hp ⊢
  dsimp only at hp ⊢
  split at hp
  · rename_i s
    refine ⟨by simp, fun φ0 w0 => ?_⟩
    have hlen : s.size ≤ 1000000 := hp
    have hof : ∀ x : UInt8, UInt8.ofNat x.toNat = x := fun x => UInt8.ofNat_toNat
    have hix : ∀ b : UInt8, findV b ⟨#[48, 49, 50, 51, 52, 53, 54, 55, 56, 57, 97, 98, 99, 100, 101, 102]⟩ = hexI b := fun b => find_hex b
    have hby : ∀ b : UInt8, (b.toNat : Int) ≤ 255 := fun b => by have := b.toNat_lt; omega
    have hsz16 : (⟨#[48, 49, 50, 51, 52, 53, 54, 55, 56, 57, 97, 98, 99, 100, 101, 102]⟩ : ByteArray).size = 16 := rfl
    have hm : ((s.size : Int)).tmod 2 = ((s.size % 2 : Nat) : Int) := (Int.ofNat_tmod s.size 2).symm
    refine goh hm ?_
    refine W_cnd ?_ ?_ <;> (try simp only [cnd_r]) <;> intro hc
    · have e : unhexV s = none := by unfold unhexV; rw [if_neg (fun h => by rw [h.1] at hc; exact absurd hc (by decide))]
      refine goh trivial ?_
      exact finh [] e
    · have he : s.size % 2 = 0 := by omega
      refine goh trivial ?_
      refine W_for (s.size / 2) (fun k => unhexB s k = true) (fun k => ⟨[(0, vs s), (4, .one (.osl .byte 0 0 (unhexL s k).length)), (5, vi (2 * k : Nat))], [some (.arr .byte (unhexL s k))], []⟩) [some 0] (leh (show ((2 * 0 : Nat) : Int) = 0 from rfl)) rfl fun k hk hI => ?_
      have hl := unhexL_len s k
      refine goh trivial ?_
      refine W_cnd ?_ ?_ <;> (try simp only [cnd_r]) <;> intro hlt
      · have w1 : IntKind.i64.wrap (((2 * k : Nat) : Int) + 1) = ((2 * k + 1 : Nat) : Int) := wrap_id _ (by omega) (by omega)
        have w2 : IntKind.i64.wrap (((2 * k : Nat) : Int) + 2) = ((2 * (k + 1) : Nat) : Int) := wrap_id _ (by omega) (by omega)
        have r1 := hexI_in (s.data.getD (2 * k) 0)
        have r2 := hexI_in (s.data.getD (2 * k + 1) 0)
        have hL : unhexL s (k + 1) = unhexL s k ++ [UInt8.ofNat (16 * hexI (s.data.getD (2 * k) 0) + hexI (s.data.getD (2 * k + 1) 0)).toNat] := rfl
        have hB : unhexB s (k + 1) = (unhexB s k && (decide (0 ≤ hexI (s.data.getD (2 * k) 0)) && decide (0 ≤ hexI (s.data.getD (2 * k + 1) 0)))) := rfl
        obtain ⟨x, hx⟩ : ∃ x, hexI (s.data.getD (2 * k) 0) = x := ⟨_, rfl⟩
        obtain ⟨y, hy⟩ : ∃ y, hexI (s.data.getD (2 * k + 1) 0) = y := ⟨_, rfl⟩
        rw [hx] at r1 hL hB
        rw [hy] at r2 hL hB
        rw [Int.mul_comm] at hL
        by_cases hbad : x < 0 ∨ y < 0
        · have hf : unhexB s (k + 1) = false := by rw [hB]; simp; omega
          have e : unhexV s = none := by unfold unhexV; rw [if_neg (fun h => by rw [unhexB_down (s.size / 2) (k + 1) hf (by omega)] at h; cases h.2)]
          by_cases hx0 : x < 0
          · have c1 : decide (x < 0) = true := by simp [hx0]
            refine goh (And.intro hof (And.intro hix (And.intro hby (And.intro hsz16 (And.intro hx (And.intro hy (And.intro w1 c1))))))) ?_
            refine W_cnd ?_ ?_ <;> intro hlit <;> try (cases hlit; done)
            refine goh trivial ?_
            exact finh [] e
          · have c1 : decide (x < 0) = false := by simp; omega
            have c2 : decide (y < 0) = true := by simp; omega
            refine goh (And.intro hof (And.intro hix (And.intro hby (And.intro hsz16 (And.intro hx (And.intro hy (And.intro w1 (And.intro c1 c2)))))))) ?_
            refine W_cnd ?_ ?_ <;> intro hlit <;> try (cases hlit; done)
            refine goh trivial ?_
            exact finh [] e
        · have c1 : decide (x < 0) = false := by simp; omega
          have c2 : decide (y < 0) = false := by simp; omega
          have w3 : IntKind.i64.wrap (x * 16) = x * 16 := wrap_id _ (by omega) (by omega)
          have w4 : IntKind.i64.wrap (x * 16 + y) = x * 16 + y := wrap_id _ (by omega) (by omega)
          have w5 : IntKind.u8.wrap (x * 16 + y) = x * 16 + y := IntWalk.u8_in _ ⟨by omega, by omega⟩
          have w6 : ((UInt8.ofNat (x * 16 + y).toNat).toNat : Int) = x * 16 + y := by rw [ofNat_u8 (by omega)]; omega
          refine goh (And.intro hof (And.intro hix (And.intro hby (And.intro hsz16 (And.intro hx (And.intro hy (And.intro w1 (And.intro c1 c2)))))))) ?_
          refine W_cnd ?_ ?_ <;> intro hlit <;> try (cases hlit; done)
          refine goh (And.intro w2 (And.intro w3 (And.intro w4 (And.intro w5 w6)))) ?_
          refine ⟨[some 2], by omega, leh hL, ?_⟩
          rw [hB, hI]; simp; omega
      · obtain rfl : k = s.size / 2 := by omega
        have e : unhexV s = some (bytesL (unhexL s (s.size / 2))) := by unfold unhexV; rw [if_pos ⟨he, hI⟩]
        have e2 : bytesL (unhexL s (s.size / 2)) = ⟨(unhexL s (s.size / 2)).toArray⟩ := rfl
        rw [e2] at e
        refine goh trivial ?_
        exact finh [] e
  · simp [no, ifp] at hp
end Go.Proofs.YtmnbgppmfbnamaaGreatDoor
/- Plain facts: records of the log as texts, and torn ones. -/
namespace Go.Proofs.YtmnbgppmfbnamaaGreatDoor
open Go.RowKit

structure LRec where
  txg : Int
  seq : Int
  op : BOp
structure LogOk (r : LRec) : Prop where
  t0 : 1 ≤ r.txg
  t1 : r.txg ≤ 1000000
  s0 : 0 ≤ r.seq
  s1 : r.seq ≤ 7
  k : r.op.kind = 3
  a : nameB r.op.a = true
  b : r.op.b = ⟨#[]⟩
  i0 : 0 ≤ r.op.i
  i1 : r.op.i ≤ 7
  x : r.op.text.size ≤ 24
def logX (t : ByteArray) : ByteArray := if t.size = 0 then ⟨#[45]⟩ else hexV t
def logM (r : LRec) : ByteArray := pointsV [r.txg, r.seq]
def logI (r : LRec) : ByteArray := joinV ⟨#[32]⟩ [logM r, r.op.a, decS r.op.i, logX r.op.text, logM r]
noncomputable def logT (r : LRec) : ByteArray := open Classical in if LogOk r then sealV (logI r) else ⟨#[]⟩
theorem logT_ok {r : LRec} (h : LogOk r) : logT r = sealV (logI r) := by unfold logT; rw [if_pos h]
theorem logT_no {r : LRec} (h : ¬ LogOk r) : logT r = ⟨#[]⟩ := by unfold logT; rw [if_neg h]
theorem logX_inj {s t : ByteArray} (h : logX s = logX t) : s = t := by
  have e0 : ∀ {s : ByteArray}, s.size = 0 → s = ⟨#[]⟩ := fun {s} h => by
    apply ByteArray.ext
    exact Array.eq_empty_of_size_eq_zero h
  have he : ∀ {s t : ByteArray}, s.size = 0 → ¬ t.size = 0 → logX s = logX t → False := fun {s t} h1 h2 h3 => by
    unfold logX at h3
    rw [if_pos h1, if_neg h2] at h3
    have h4 := congrArg ByteArray.size h3
    rw [hexV_size] at h4
    have h5 : (⟨#[45]⟩ : ByteArray).size = 1 := rfl
    omega
  by_cases h1 : s.size = 0 <;> by_cases h2 : t.size = 0
  · rw [e0 h1, e0 h2]
  · exact (he h1 h2 h).elim
  · exact (he h2 h1 h.symm).elim
  · unfold logX at h
    rw [if_neg h1, if_neg h2] at h
    have h3 := unhex_hex s
    rw [h, unhex_hex] at h3
    exact (Option.some.inj h3).symm
theorem hexd_not {c : UInt8} (h : c.toNat < 48 ∨ (57 < c.toNat ∧ c.toNat < 97) ∨ 102 < c.toNat) (k : Nat) (hk : k < 16) : c ≠ hexd k := by
  have h2 : ∀ k : Fin 16, (48 ≤ (hexd k.val).toNat ∧ (hexd k.val).toNat ≤ 57) ∨ (97 ≤ (hexd k.val).toNat ∧ (hexd k.val).toNat ≤ 102) := by decide +kernel
  rintro rfl
  have := h2 ⟨k, hk⟩
  simp only at this
  omega
theorem hexN_not {c : UInt8} (h : c.toNat < 48 ∨ (57 < c.toNat ∧ c.toNat < 97) ∨ 102 < c.toNat) (s : ByteArray) : ∀ n, c ∉ hexN s n
  | 0 => by simp [hexN]
  | n + 1 => by
    have hb := (s.data.getD n 0).toNat_lt
    unfold hexN
    rw [List.mem_append]
    rintro (h1 | h1)
    · exact hexN_not h s n h1
    · simp only [List.mem_cons, List.not_mem_nil, or_false] at h1
      rcases h1 with h1 | h1
      · exact hexd_not h _ (by omega) h1
      · exact hexd_not h _ (by omega) h1
theorem logX_plain (t : ByteArray) : (32 : UInt8) ∉ (logX t).data.toList := by
  unfold logX
  split
  · decide
  · show (32 : UInt8) ∉ (hexN t t.size).toArray.toList
    exact hexN_not (.inl (by decide)) t t.size
theorem points_plain {c : UInt8} (h0 : c ≠ 46) (h1 : c.toNat ≠ 45) (h2 : c.toNat < 48 ∨ 57 < c.toNat) (zs : List Int) : c ∉ (pointsV zs).data.toList := by
  unfold pointsV joinV
  rw [bytesL_list, lib_join]
  have e : (⟨#[46]⟩ : ByteArray).data.toList = [46] := rfl
  rw [e]
  have key : ∀ ws : List Bs, (∀ w ∈ ws, c ∉ w) → c ∉ joinL [46] ws := by
    intro ws
    induction ws with
    | nil => intro _; simp [joinL]
    | cons w ws ih =>
      intro hw
      cases ws with
      | nil => exact hw w (by simp)
      | cons v vs =>
        rw [joinL_cons _ _ (by simp), List.mem_append, List.mem_append, List.mem_singleton]
        rintro ((h | h) | h)
        · exact hw w (by simp) h
        · exact h0 h
        · exact ih (fun x hx => hw x (List.mem_cons_of_mem _ hx)) h
  refine key _ fun w hw => ?_
  rw [List.map_map] at hw
  obtain ⟨z, -, rfl⟩ := List.mem_map.1 hw
  exact itoa_not h1 h2 z
theorem name_plain {c : UInt8} (h : isLow c = false) {s : ByteArray} (hs : nameB s = true) : c ∉ s.data.toList := by
  unfold nameB at hs
  rw [Bool.and_eq_true, List.all_eq_true] at hs
  intro hm
  have := hs.2 c hm
  rw [h] at this; cases this
theorem name_size {s : ByteArray} (hs : nameB s = true) : 1 ≤ s.size ∧ s.size ≤ 6 := by
  unfold nameB at hs
  simp only [Bool.and_eq_true, decide_eq_true_eq] at hs
  exact hs.1
theorem log_words5 {r : LRec} (h : LogOk r) : ∀ w ∈ [logM r, r.op.a, decS r.op.i, logX r.op.text, logM r], (32 : UInt8) ∉ w.data.toList := by
  intro w hw
  simp only [List.mem_cons, List.not_mem_nil, or_false] at hw
  rcases hw with rfl | rfl | rfl | rfl | rfl
  · exact points_plain (by decide) (by decide) (by decide) _
  · exact name_plain (by decide) h.a
  · exact no_blank _
  · exact logX_plain _
  · exact points_plain (by decide) (by decide) (by decide) _
theorem logI_split {r : LRec} (h : LogOk r) : splitV 32 (logI r) = [logM r, r.op.a, decS r.op.i, logX r.op.text, logM r] := splitV_join (by simp) (log_words5 h)
theorem logM_size {r : LRec} (h : LogOk r) : (logM r).size ≤ 42 := by
  have := pointsV_size (zs := [r.txg, r.seq]) fun z hz => by
    simp only [List.mem_cons, List.not_mem_nil, or_false] at hz
    have := h.t0; have := h.t1; have := h.s0; have := h.s1
    omega
  exact this
theorem logX_size {t : ByteArray} (h : t.size ≤ 24) : (logX t).size ≤ 48 := by
  unfold logX
  split
  · show 1 ≤ 48; omega
  · rw [hexV_size]; omega
theorem logI_size {r : LRec} (h : LogOk r) : (logI r).size ≤ 245 := by
  have := joinV_size (sep := ⟨#[32]⟩) (k := 48) (xs := [logM r, r.op.a, decS r.op.i, logX r.op.text, logM r]) fun x hx => by
    simp only [List.mem_cons, List.not_mem_nil, or_false] at hx
    have h1 := logM_size h
    have h2 := (name_size h.a).2
    have h3 := decS_size (n := r.op.i) (by have := h.i0; omega) (by have := h.i1; omega)
    have h4 := logX_size h.x
    rcases hx with rfl | rfl | rfl | rfl | rfl <;> omega
  have h9 : (⟨#[32]⟩ : ByteArray).size = 1 := rfl
  simp only [List.length_cons, List.length_nil, h9] at this
  unfold logI
  omega
theorem log_seal {r : LRec} (h : LogOk r) : logT r = decS (sumOf (logI r)) ++ ⟨#[58]⟩ ++ logI r := by
  have := logI_size h
  rw [logT_ok h]; unfold sealV
  rw [if_neg (by omega)]
theorem logT_size (r : LRec) : (logT r).size ≤ 266 := by
  by_cases h : LogOk r
  · rw [log_seal h]
    have h1 := logI_size h
    have h2 := sumAt_lt (logI r) (logI r).size
    have h4 : sumAt (logI r) (logI r).size = sumOf (logI r) := rfl
    have h3 := decS_size (n := sumOf (logI r)) (by omega) (by omega)
    have h5 : (⟨#[58]⟩ : ByteArray).size = 1 := rfl
    simp only [ByteArray.size_append]
    omega
  · rw [logT_no h]; exact Nat.zero_le _
def logF (r : LRec) : Bs := (decS (sumOf (logI r))).data.toList ++ 58 :: (logM r).data.toList
theorem logI_list (r : LRec) : (logI r).data.toList = (logM r).data.toList ++ 32 :: (r.op.a.data.toList ++ 32 :: ((decS r.op.i).data.toList ++ 32 :: ((logX r.op.text).data.toList ++ 32 :: (logM r).data.toList))) := by
  unfold logI joinV
  rw [bytesL_list, lib_join]
  have e : (⟨#[32]⟩ : ByteArray).data.toList = [32] := rfl
  rw [e]
  simp [joinL]
theorem logT_list {r : LRec} (h : LogOk r) : (logT r).data.toList = (decS (sumOf (logI r))).data.toList ++ 58 :: (logI r).data.toList := by
  rw [log_seal h]; simp [ByteArray.data_append]
theorem log_words {r : LRec} (h : LogOk r) : cutL 32 (logT r).data.toList = [logF r, r.op.a.data.toList, (decS r.op.i).data.toList, (logX r.op.text).data.toList, (logM r).data.toList] := by
  have e : (logT r).data.toList = logF r ++ 32 :: (r.op.a.data.toList ++ 32 :: ((decS r.op.i).data.toList ++ 32 :: ((logX r.op.text).data.toList ++ 32 :: (logM r).data.toList))) := by
    rw [logT_list h, logI_list]
    unfold logF
    simp
  have hM : (32 : UInt8) ∉ (logM r).data.toList := points_plain (by decide) (by decide) (by decide) _
  have hF : (32 : UInt8) ∉ logF r := by
    unfold logF
    rw [List.mem_append, List.mem_cons]
    rintro (h | h | h)
    · exact no_blank _ h
    · exact absurd h (by decide)
    · exact hM h
  rw [e, cut_app _ _ _ hF, cut_app _ _ _ (name_plain (by decide) h.a), cut_app _ _ _ (no_blank _), cut_app _ _ _ (logX_plain _), cut_none _ _ hM]
theorem logM_inj {r q : LRec} (h : (logM r).data.toList = (logM q).data.toList) : r.txg = q.txg ∧ r.seq = q.seq := by
  have h1 := pointsV_split (zs := [r.txg, r.seq]) (by simp)
  have h2 := pointsV_split (zs := [q.txg, q.seq]) (by simp)
  have h3 : pointsV [r.txg, r.seq] = pointsV [q.txg, q.seq] := data_inj h
  rw [h3, h2] at h1
  simp only [List.map_cons, List.map_nil, List.cons.injEq, and_true] at h1
  exact ⟨(decS_inj h1.1).symm, (decS_inj h1.2).symm⟩
theorem logF_inj {r q : LRec} (h : logF r = logF q) : (logM r).data.toList = (logM q).data.toList := by
  have e : ∀ r : LRec, cutL 58 (logF r) = [(decS (sumOf (logI r))).data.toList, (logM r).data.toList] := fun r => by
    unfold logF
    rw [cut_app _ _ _ (no_colon _), cut_none _ _ (show (58 : UInt8) ∉ (logM r).data.toList from points_plain (by decide) (by decide) (by decide) _)]
  have h1 := e r
  rw [h, e q] at h1
  simp only [List.cons.injEq, and_true] at h1
  exact h1.2.symm
theorem log_eq {r q : LRec} (hr : LogOk r) (hq : LogOk q) (h1 : (logM r).data.toList = (logM q).data.toList) (h2 : r.op.a.data.toList = q.op.a.data.toList) (h3 : (decS r.op.i).data.toList = (decS q.op.i).data.toList) (h4 : (logX r.op.text).data.toList = (logX q.op.text).data.toList) : r = q := by
  obtain ⟨e1, e2⟩ := logM_inj h1
  have e3 := data_inj h2
  have e4 := decS_inj (data_inj h3)
  have e5 := logX_inj (data_inj h4)
  have e6 := hr.k.trans hq.k.symm
  have e7 := hr.b.trans hq.b.symm
  cases r with | mk t s o => cases o; cases q with | mk t' s' o' => cases o'; simp only at *; subst e1 e2 e3 e4 e5 e6 e7; rfl
theorem logT_inj {r q : LRec} (hr : LogOk r) (hq : LogOk q) (h : logT r = logT q) : r = q := by
  have w := log_words hr
  rw [h, log_words hq] at w
  simp only [List.cons.injEq, and_true] at w
  exact log_eq hr hq w.2.2.2.2.symm w.2.1.symm w.2.2.1.symm w.2.2.2.1.symm
/-- A record that is read. -/
noncomputable def logP (t : ByteArray) : Option LRec := open Classical in if h : ∃ r, LogOk r ∧ logT r = t then some (Classical.choose h) else none
theorem logP_some {t : ByteArray} {r : LRec} : logP t = some r ↔ LogOk r ∧ logT r = t := by
  unfold logP
  constructor
  · intro h
    split at h
    · rename_i hx
      cases h
      exact Classical.choose_spec hx
    · cases h
  · rintro ⟨h1, h2⟩
    have hx : ∃ r, LogOk r ∧ logT r = t := ⟨r, h1, h2⟩
    rw [dif_pos hx]
    have h3 := Classical.choose_spec hx
    rw [logT_inj h3.1 h1 (h3.2.trans h2.symm)]
theorem logP_none {t : ByteArray} (h : ∀ r, LogOk r → logT r = t → False) : logP t = none := by
  unfold logP
  rw [dif_neg fun ⟨r, h1, h2⟩ => h r h1 h2]
theorem log_torn {k n m : LRec} (hk : LogOk k) (hn : LogOk n) (hm : LogOk m ∨ logT m = ⟨#[]⟩) (hnm : m.txg ≠ n.txg) (i : Nat) {z : Bs} (hz : z = (logT m).data.toList.drop i ∨ z = [])
    (h : (logT k).data.toList = (logT n).data.toList.take i ++ z) : k = n ∨ k = m := by
  have w1 := log_words hk
  have w2 := log_words hn
  obtain ⟨us, x, y, vs, a1, a2, a3⟩ := cut_append 32 ((logT n).data.toList.take i) z
  obtain ⟨us', x', y', vs', b1, b2, b3⟩ := cut_append 32 ((logT n).data.toList.take i) ((logT n).data.toList.drop i)
  rw [List.take_append_drop] at b3
  rw [h, a3] at w1
  rw [b3] at w2
  obtain ⟨rfl, hxx⟩ := List.append_inj' (a1.symm.trans b1) rfl
  -- the words behind the first one are the old text's last ones
  have hv : vs = [] ∨ (LogOk m ∧ ∃ j, vs = [logF m, m.op.a.data.toList, (decS m.op.i).data.toList, (logX m.op.text).data.toList, (logM m).data.toList].drop (j + 1)) := by
    rcases hz with hz | hz
    · rcases hm with hm | hm
      · obtain ⟨us3, x3, y3, vs3, c1, c2, c3⟩ := cut_append 32 ((logT m).data.toList.take i) ((logT m).data.toList.drop i)
        rw [List.take_append_drop, log_words hm] at c3
        rw [← hz, a2] at c2
        obtain ⟨rfl, rfl⟩ := List.cons.inj c2
        refine .inr ⟨hm, us3.length, ?_⟩
        rw [c3, List.drop_append, List.drop_eq_nil_of_le (by omega)]
        simp
      · rw [hm] at hz
        have : z = [] := by rw [hz]; simp
        rw [this] at a2
        simp [cutL] at a2
        exact .inl a2.2
    · rw [hz] at a2
      simp [cutL] at a2
      exact .inl a2.2
  match us, w1, w2 with
  | [], w1, w2 =>
    simp only [List.nil_append, List.cons.injEq] at w1
    rcases hv with hv | ⟨hm, j, hv⟩
    · rw [hv] at w1; simp at w1
    · rw [hv] at w1
      match j with
      | 0 =>
        simp only [Nat.zero_add, List.drop_succ_cons, List.drop_zero, List.cons.injEq, and_true] at w1
        right
        exact log_eq hk hm w1.2.2.2.2.symm w1.2.1.symm w1.2.2.1.symm w1.2.2.2.1.symm
      | 1 => simp at w1
      | 2 => simp at w1
      | 3 => simp at w1
      | j + 4 => simp at w1
  | F :: us, w1, w2 =>
    simp only [List.cons_append, List.cons.injEq] at w1 w2
    have hM := logF_inj (w1.1.symm.trans w2.1)
    match us, w1, w2 with
    | [A, I, X], w1, w2 =>
      simp only [List.cons_append, List.nil_append, List.cons.injEq] at w1 w2
      left
      exact log_eq hk hn hM (w1.2.1.symm.trans w2.2.1) (w1.2.2.1.symm.trans w2.2.2.1) (w1.2.2.2.1.symm.trans w2.2.2.2.1)
    | _ :: _ :: _ :: _ :: _, w1, w2 => simp at w1
    | [], w1, w2 =>
      exfalso
      simp only [List.nil_append, List.cons.injEq] at w1
      rcases hv with hv | ⟨hm, j, hv⟩
      · rw [hv] at w1; simp at w1
      · rw [hv] at w1
        match j with
        | 0 => simp at w1
        | 1 =>
          simp at w1
          exact hnm ((logM_inj (congrArg Array.toList w1.2.2.2.2)).1.trans (logM_inj hM).1)
        | 2 => simp at w1
        | 3 => simp at w1
        | j + 4 => simp at w1
    | [A], w1, w2 =>
      exfalso
      simp only [List.cons_append, List.nil_append, List.cons.injEq] at w1
      rcases hv with hv | ⟨hm, j, hv⟩
      · rw [hv] at w1; simp at w1
      · rw [hv] at w1
        match j with
        | 0 => simp at w1
        | 1 => simp at w1
        | 2 =>
          simp at w1
          exact hnm ((logM_inj (congrArg Array.toList w1.2.2.2.2)).1.trans (logM_inj hM).1)
        | 3 => simp at w1
        | j + 4 => simp at w1
    | [A, I], w1, w2 =>
      exfalso
      simp only [List.cons_append, List.nil_append, List.cons.injEq] at w1
      rcases hv with hv | ⟨hm, j, hv⟩
      · rw [hv] at w1; simp at w1
      · rw [hv] at w1
        match j with
        | 0 => simp at w1
        | 1 => simp at w1
        | 2 => simp at w1
        | 3 =>
          simp at w1
          exact hnm ((logM_inj (congrArg Array.toList w1.2.2.2.2)).1.trans (logM_inj hM).1)
        | j + 4 => simp at w1
end Go.Proofs.YtmnbgppmfbnamaaGreatDoor
/- Functions: a block of a store. -/
namespace Go.Proofs.YtmnbgppmfbnamaaGreatDoor
open Go.RowKit

@[go_sem] def ctIsBlock : Ct := ⟨false, [], fun args os => match args, os with
  | [.one (.val (.int .i64 i))], [] => is (vb (decide (0 ≤ i) && decide (i ≤ 7)))
  | _, _ => no⟩
theorem s_isBlock_e : EnterOk Tryz.prog 48 := ⟨_, Tryz.func48, rfl, by decide⟩
@[go_sem] def s_isBlock_lv : List (List Nat) := [[0], [2]]
@[go_sem] noncomputable def s_isBlock_K : Known := (Known.nil).cons 46 ctWithin s_within s_within_e
set_option maxHeartbeats 8000000 in
theorem s_isBlock : Sound Tryz.prog 48 ctIsBlock := by
  have ke := s_isBlock_K.env []
  have kl : Lives s_isBlock_lv := trivial
  refine sound_intro (E := ⟨ti, s_isBlock_K.Γ, []⟩) ke Tryz.func48 Tryz.ntmps48 rfl (rs := [.tmp 2]) rfl ?_
  intro args os hp
  unfold ctIsBlock at hp ⊢
  dsimp only at hp ⊢
  split at hp
  · rename_i i
    refine ⟨by simp, fun φ0 w0 => ?_⟩
    refine goh trivial ?_
    exact finh [] trivial
  · simp [no, is] at hp
@[go_sem] noncomputable def ctGetName : Ct := ⟨true, [], fun args os => match args, os with
  | [.agg cs, .one (.ptr 0 0)], [.cells [.val (.string name)]] => (match csetOf cs with | some s => is (vb (same s.name name)) | none => no)
  | _, _ => no⟩
noncomputable def atC (cs : List CSet) (name : ByteArray) : Int := firstAt (fun s => same s.name name) cs
theorem atC_frame (cs : List CSet) (name : ByteArray) : atB (frameOf cs) name = atC cs name := by
  unfold atB atC firstAt frameOf
  rw [List.findIdx?_map]
  rfl
theorem atC_lt (xs : List CSet) (name : ByteArray) : atC xs name < xs.length := by
  have h := atB_lt (frameOf xs) name
  rw [atC_frame, frame_len] at h
  exact h
/-- What is read of a store. -/
noncomputable def poolGet (p : Pl) (name : ByteArray) (i : Int) : ByteArray × Int :=
  if poolB p = true ∧ 0 ≤ i ∧ i ≤ 7 then
    if p.up = true then
      if thereB (frameOf p.core.sets) name = true then
        if (blkRead p.disk ((p.core.sets.getD (lowN (frameOf p.core.sets) name) ET.cset.dflt).map.get i.toNat)).2 = 2 then (⟨#[]⟩, 8)
        else ((blkRead p.disk ((p.core.sets.getD (lowN (frameOf p.core.sets) name) ET.cset.dflt).map.get i.toNat)).1, 0)
      else (⟨#[]⟩, 1)
    else (⟨#[]⟩, 9)
  else (⟨#[]⟩, 5)
@[go_sem] noncomputable def ctPoolGet : Ct := ⟨false, [[some .str, some .str, some .late, none, some .cset, some .ent, some .ptr, none, some .int, none, none]], fun args os => match args, os with
  | [.agg [.isl .str a, .isl .str b, .isl .late l, .val (.int .i64 txg), .isl .cset cs, .isl .ent es, .isl .ptr ps, .val (.bool dirty), .isl .int zs, .val (.int .i64 logn), .val (.bool up)], .one (.val (.string name)), .one (.val (.int .i64 i))], [] => ifp ((Dk.mk a b l).small ∧ (Co.mk txg cs es ps dirty zs logn).fit) (.tup [vs (poolGet ⟨⟨a, b, l⟩, ⟨txg, cs, es, ps, dirty, zs, logn⟩, up⟩ name i).1, vi (poolGet ⟨⟨a, b, l⟩, ⟨txg, cs, es, ps, dirty, zs, logn⟩, up⟩ name i).2])
  | _, _ => no⟩
theorem poolB_parts {p : Pl} (h : poolB p = true) : p.disk.ok = true ∧ 13 < p.disk.a.length ∧ CoreP p.core := by
  unfold poolB at h
  simp only [Bool.and_eq_true, decide_eq_true_eq] at h
  exact ⟨h.1, h.2.1, Co.ok_true.1 h.2.2⟩
end Go.Proofs.YtmnbgppmfbnamaaGreatDoor
