import Derived.Test.YtjedcphhajlnoaaGreatDoorM9
import Derived.Test.YtjedcphhajlnoaaGreatDoorM12
set_option linter.unusedSimpArgs false
set_option linter.unusedVariables false
set_option linter.unusedSectionVars false
/- Functions: the reference reads numbers, pointers, commits. -/
namespace Go.Proofs.YtjedcphhajlnoaaGreatDoor
open Go.RowKit

theorem digitVal_none {b : UInt8} (h : b.toNat < 48 ∨ 57 < b.toNat) : Lib.digitVal b = none := by
  unfold Lib.digitVal; rw [if_neg (by omega)]
theorem digitVal_some {b : UInt8} (h0 : 48 ≤ b.toNat) (h1 : b.toNat ≤ 57) : Lib.digitVal b = some (b.toNat - 48) := by
  unfold Lib.digitVal; rw [if_pos ⟨h0, h1⟩]
def numAt (t : ByteArray) (i : Nat) : Nat := (Lib.decFrom 0 (t.data.toList.take i)).getD 0
theorem num_step {t : ByteArray} {i : Nat} (hi : i < t.data.toList.length) (h : Lib.decFrom 0 (t.data.toList.take i) = some (numAt t i)) {d : Nat} (hd : Lib.digitVal t.data.toList[i] = some d) :
    Lib.decFrom 0 (t.data.toList.take (i + 1)) = some (numAt t (i + 1)) ∧ numAt t (i + 1) = numAt t i * 10 + d := by
  have e : Lib.decFrom 0 (t.data.toList.take (i + 1)) = some (numAt t i * 10 + d) := by
    rw [List.take_succ_eq_append_getElem hi, decFrom_app, h]
    simp only [Option.bind_some, Lib.decFrom, hd]
  have e2 : numAt t (i + 1) = numAt t i * 10 + d := by unfold numAt; rw [e]; rfl
  exact ⟨by rw [e2]; exact e, e2⟩
theorem num_stop {t : ByteArray} {i : Nat} (hi : i < t.data.toList.length) (h : Lib.decFrom 0 (t.data.toList.take i) = some (numAt t i)) (hd : Lib.digitVal t.data.toList[i] = none) :
    Lib.decFrom 0 t.data.toList = none := by
  have e := drop_at (f := 0) hi (Nat.zero_le _)
  simp only [List.drop_zero, Nat.sub_zero] at e
  rw [e, decFrom_app, h]
  simp only [Option.bind_some, Lib.decFrom, hd]
/-- Two ways meet in one state. -/
theorem W_meet {P : Program} {B : Beg} {σ : Sg} {Q : Exit → Sg → Prop} {x y : Code} (J : Sg) (hy : W P B y J Q) (h : ∀ Y : Sg → Prop, (∀ {σ' : Sg} (π : List (Option Nat)), leS B.m π σ' J → Y σ') → W P B x σ (thenG Y Q)) :
    W P B x σ (thenG (fun σ' => W P B y σ' Q) Q) := h _ fun π hle => W_le π hle hy
@[go_sem] def ctNumS : Ct := ⟨false, [], fun args os => match args, os with
  | [.one (.val (.string s))], [] => ifp (s.size ≤ 1000000) (match numV s with | some n => .tup [vi n, vb true] | none => .tup [vi 0, vb false])
  | _, _ => no⟩
theorem s_numS_e : EnterOk Tryz.prog 137 := ⟨_, Tryz.func137, rfl, by decide⟩
@[go_sem] def s_numS_lv : List (List Nat) := [[0], [0, 4], [0, 4, 15], [0, 4], [0, 4, 38], [2, 3], [0, 4, 5], [0, 4, 5, 6], [0, 4, 5, 6, 42], [0, 4, 5, 6], [0, 4, 5, 6, 54], [2, 3], [0, 4, 5, 6], [5, 63], [5], [2, 3]]
@[go_sem] noncomputable def s_numS_K : Known := Known.nil
set_option maxHeartbeats 8000000 in
theorem s_numS : Sound Tryz.prog 137 ctNumS := by
  have ke := s_numS_K.env []
  have kl : Lives s_numS_lv := trivial
  refine sound_intro (E := ⟨ti, s_numS_K.Γ, []⟩) ke Tryz.func137 Tryz.ntmps137 rfl (rs := [.tmp 2, .tmp 3]) rfl ?_
  intro args os hp
  unfold ctNumS at hp ⊢
  dsimp only at hp ⊢
  split at hp
  · rename_i s
    refine ⟨by simp, fun φ0 w0 => ?_⟩
    have hlen : s.size ≤ 1000000 := hp
    obtain ⟨neg, hneg⟩ : ∃ b, decide (s.data.getD 0 0 = 45 ∧ 0 < s.size) = b := ⟨_, rfl⟩
    obtain ⟨t, ht⟩ : ∃ t, numT s = t := ⟨_, rfl⟩
    have htn : t = if neg = true then s.extract 1 s.size else s := by
      rw [← ht]; unfold numT
      by_cases h : s.data.getD 0 0 = 45 ∧ 0 < s.size
      · rw [if_pos h, if_pos (by rw [← hneg]; exact decide_eq_true h)]
      · rw [if_neg h, if_neg (by rw [← hneg]; simpa using h)]
    have hts : t.size ≤ s.size := by
      rw [htn]; split
      · rw [ByteArray.size_extract]; omega
      · exact Nat.le_refl _
    have hb : numBad s = (decide (t.size = 0) || decide (17 < t.size) || (decide (t.data.getD 0 0 = 48) && (decide (1 < t.size) || neg))) := by
      unfold numBad; rw [ht, hneg]
    have hV : numV s = if numBad s = true then none else (Lib.decFrom 0 t.data.toList).map fun (u : Nat) => if neg = true then -(u : Int) else (u : Int) := by
      unfold numV
      rw [ht]
      have : (s.data.getD 0 0 = 45 ∧ 0 < s.size) ↔ neg = true := by rw [← hneg]; simp
      simp only [this]
    -- the rest, behind the sign
    have hll : t.data.toList.length = t.size := rfl
    have c45 : ∀ b : UInt8, ((b.toNat : Int) == 45) = decide (b = 45) := fun b => by
      rw [Bool.eq_iff_iff, beq_iff_eq, decide_eq_true_eq]
      exact byte_eq b (by decide) (by decide)
    have c48 : ∀ b : UInt8, ((b.toNat : Int) == 48) = decide (b = 48) := fun b => by
      rw [Bool.eq_iff_iff, beq_iff_eq, decide_eq_true_eq]
      exact byte_eq b (by decide) (by decide)
    have hj : ∀ z : Sg, z = ⟨[(0, vs t), (4, vb neg)], [], []⟩ → True := fun _ _ => trivial
    by_cases h0 : s.size = 0
    · have c0 : decide ((s.size : Int) > 0) = false := by simp [h0]
      have n0 : neg = false := by rw [← hneg]; simp [h0]
      have t0 : t = s := by rw [htn, n0]; rfl
      have e : numV s = none := by rw [hV, hb, t0]; simp [h0]
      have z0 : ((s.size : Int) == 0) = true := by simp [h0]
      refine goh c0 ?_
      refine W_cnd ?_ ?_ <;> intro hlit <;> try (cases hlit; done)
      refine goh z0 ?_
      refine W_cnd ?_ ?_ <;> intro hlit <;> try (cases hlit; done)
      refine goh trivial ?_
      exact finh [] e
    · have c0 : decide ((s.size : Int) > 0) = true := by simp; omega
      have hn2 : decide (s.data.getD 0 0 = 45) = neg := by rw [← hneg]; congr 1; simp; omega
      have c1 : (((s.data.getD 0 0).toNat : Int) == 45) = neg := by rw [c45]; exact hn2
      refine goh (And.intro c0 c1) ?_
      refine W_meet ⟨[(0, vs t), (4, vb neg)], [], []⟩ ?_ (fun Y hY => ?_)
      · by_cases z : t.size = 0
        · have z0 : ((t.size : Int) == 0) = true := by simp [z]
          have e : numV s = none := by rw [hV, hb]; simp [z]
          refine goh z0 ?_
          refine W_cnd ?_ ?_ <;> intro hlit <;> try (cases hlit; done)
          refine goh trivial ?_
          exact finh [] e
        · have z0 : ((t.size : Int) == 0) = false := by simp [z]
          by_cases y : 17 < t.size
          · have z1 : decide ((t.size : Int) > 17) = true := by simp; omega
            have e : numV s = none := by rw [hV, hb]; simp [y]
            refine goh (And.intro z0 z1) ?_
            refine W_cnd ?_ ?_ <;> intro hlit <;> try (cases hlit; done)
            refine goh trivial ?_
            exact finh [] e
          · have z1 : decide ((t.size : Int) > 17) = false := by simp; omega
            have z2 := c48 (t.data.getD 0 0)
            obtain ⟨b48, hb48⟩ : ∃ b, decide (t.data.getD 0 0 = 48) = b := ⟨_, rfl⟩
            obtain ⟨b1, hb1⟩ : ∃ b, decide ((t.size : Int) > 1) = b := ⟨_, rfl⟩
            have hb1' : decide (1 < t.size) = b1 := by rw [← hb1]; congr 1; simp; omega
            rw [hb48] at z2
            have hb2 : numBad s = (b48 && (b1 || neg)) := by
              rw [hb, hb48, hb1', decide_eq_false z, decide_eq_false y]; simp
            by_cases hbad : (b48 && (b1 || neg)) = true
            · have e : numV s = none := by rw [hV, hb2, if_pos hbad]
              have k1 : b48 = true ∧ (b1 = true ∨ b1 = false ∧ neg = true) := by
                revert hbad; cases b48 <;> cases b1 <;> cases neg <;> simp
              rcases k1 with ⟨k1, k2 | ⟨k2, k3⟩⟩
              · rw [k1] at z2
                rw [k2] at hb1
                refine goh (And.intro z0 (And.intro z1 (And.intro z2 hb1))) ?_
                refine W_cnd ?_ ?_ <;> intro hlit <;> try (cases hlit; done)
                refine goh trivial ?_
                exact finh [] e
              · rw [k1] at z2
                rw [k2] at hb1
                subst k3
                refine goh (And.intro z0 (And.intro z1 (And.intro z2 hb1))) ?_
                refine W_cnd ?_ ?_ <;> intro hlit <;> try (cases hlit; done)
                refine goh trivial ?_
                exact finh [] e
            · have eV : numV s = (Lib.decFrom 0 t.data.toList).map fun (u : Nat) => if neg = true then -(u : Int) else (u : Int) := by rw [hV, hb2, if_neg hbad]
              have k1 : b48 = false ∨ (b48 = true ∧ b1 = false ∧ neg = false) := by
                revert hbad; cases b48 <;> cases b1 <;> cases neg <;> simp
              have k2 : ∀ X : Prop, (b48 = false → X) → (b48 = true ∧ b1 = false ∧ neg = false → X) → X := fun X h1 h2 => k1.elim h1 h2
              refine k2 _ (fun k => ?_) (fun k => ?_)
              case refine_1 =>
                rw [k] at z2
                refine goh (And.intro z0 (And.intro z1 z2)) ?_
                refine W_cnd ?_ ?_ <;> intro hlit <;> try (cases hlit; done)
                refine W_le (σ' := ⟨[(0, vs t), (4, vb neg)], [], []⟩) [] (leh trivial) ?_
                refine goh trivial ?_
                refine W_for t.size (fun i => Lib.decFrom 0 (t.data.toList.take i) = some (numAt t i) ∧ numAt t i < 10 ^ i) (fun i => ⟨[(0, vs t), (4, vb neg), (5, vi (numAt t i)), (6, vi i)], [], []⟩) [] (leh (show numAt t 0 = 0 from rfl)) ⟨rfl, Nat.zero_lt_one⟩ fun i hi hI => ?_
                obtain ⟨hI1, hI2⟩ := hI
                refine goh trivial ?_
                refine W_cnd ?_ ?_ <;> (try simp only [cnd_r]) <;> intro hlt
                · have hil : i < t.data.toList.length := by omega
                  have hg := getD_list t hil
                  have hpw : (10 : Nat) ^ i ≤ 10 ^ 16 := Nat.pow_le_pow_right (by omega) (by omega)
                  obtain ⟨b, hbb⟩ : ∃ b, t.data.getD i 0 = b := ⟨_, rfl⟩
                  rw [hbb] at hg
                  by_cases hd : 48 ≤ b.toNat ∧ b.toNat ≤ 57
                  · obtain ⟨d1, d2⟩ := hd
                    have q1 : decide ((b.toNat : Int) < 48) = false := by simp; omega
                    have q2 : decide ((b.toNat : Int) > 57) = false := by simp; omega
                    obtain ⟨n1, n2⟩ := num_step hil hI1 (d := b.toNat - 48) (by rw [← hg]; exact digitVal_some d1 d2)
                    have w1 : IntKind.i64.wrap ((numAt t i : Int) * 10) = ((numAt t i * 10 : Nat) : Int) := wrap_id _ (by omega) (by omega)
                    have w2 : IntKind.u8.wrap ((b.toNat : Int) - 48) = ((b.toNat - 48 : Nat) : Int) := by
                      rw [show (b.toNat : Int) - 48 = ((b.toNat - 48 : Nat) : Int) by omega]; exact wrap_u8 (by omega)
                    have w3 : IntKind.i64.wrap ((b.toNat - 48 : Nat) : Int) = ((b.toNat - 48 : Nat) : Int) := wrap_id _ (by omega) (by omega)
                    have w4 : IntKind.i64.wrap (((numAt t i * 10 : Nat) : Int) + ((b.toNat - 48 : Nat) : Int)) = ((numAt t i * 10 + (b.toNat - 48) : Nat) : Int) := wrap_id _ (by omega) (by omega)
                    refine goh (And.intro hbb (And.intro q1 q2)) ?_
                    refine W_cnd ?_ ?_ <;> intro hlit <;> try (cases hlit; done)
                    refine goh (And.intro hbb (And.intro w1 (And.intro w2 (And.intro w3 w4)))) ?_
                    exact ⟨[], by omega, leh n2, ⟨n1, by rw [n2, Nat.pow_succ]; omega⟩⟩
                  · have e : numV s = none := by
                      rw [eV, num_stop hil hI1 (by rw [← hg]; exact digitVal_none (by omega))]; rfl
                    by_cases d1 : b.toNat < 48
                    · have q1 : decide ((b.toNat : Int) < 48) = true := by simp; omega
                      refine goh (And.intro hbb q1) ?_
                      refine W_cnd ?_ ?_ <;> intro hlit <;> try (cases hlit; done)
                      refine goh trivial ?_
                      exact finh [] e
                    · have q1 : decide ((b.toNat : Int) < 48) = false := by simp; omega
                      have q2 : decide ((b.toNat : Int) > 57) = true := by simp; omega
                      refine goh (And.intro hbb (And.intro q1 q2)) ?_
                      refine W_cnd ?_ ?_ <;> intro hlit <;> try (cases hlit; done)
                      refine goh trivial ?_
                      exact finh [] e
                · obtain rfl : i = t.size := by omega
                  have ht2 : t.data.toList.take t.size = t.data.toList := List.take_of_length_le (by omega)
                  rw [ht2] at hI1
                  have hpw : (10 : Nat) ^ t.size ≤ 10 ^ 17 := Nat.pow_le_pow_right (by omega) (by omega)
                  have e : numV s = some (if neg = true then -((numAt t t.size : Nat) : Int) else ((numAt t t.size : Nat) : Int)) := by rw [eV, hI1]; rfl
                  have w1 : IntKind.i64.wrap (0 - (numAt t t.size : Int)) = -((numAt t t.size : Nat) : Int) := by rw [Int.zero_sub]; exact wrap_id _ (by omega) (by omega)
                  cases neg with
                  | true =>
                    rw [if_pos rfl] at e
                    refine goh trivial ?_
                    refine W_cnd ?_ ?_ <;> intro hlit <;> try (cases hlit; done)
                    refine goh w1 ?_
                    exact finh [] e
                  | false =>
                    rw [if_neg Bool.false_ne_true] at e
                    refine goh trivial ?_
                    refine W_cnd ?_ ?_ <;> intro hlit <;> try (cases hlit; done)
                    refine goh trivial ?_
                    exact finh [] e
              case refine_2 =>
                obtain ⟨k, kb, kn⟩ := k
                rw [k] at z2
                rw [kb] at hb1
                refine goh (And.intro z0 (And.intro z1 (And.intro z2 (And.intro hb1 kn)))) ?_
                refine W_cnd ?_ ?_ <;> intro hlit <;> try (cases hlit; done)
                refine W_le (σ' := ⟨[(0, vs t), (4, vb neg)], [], []⟩) [] (leh kn) ?_
                refine goh trivial ?_
                refine W_for t.size (fun i => Lib.decFrom 0 (t.data.toList.take i) = some (numAt t i) ∧ numAt t i < 10 ^ i) (fun i => ⟨[(0, vs t), (4, vb neg), (5, vi (numAt t i)), (6, vi i)], [], []⟩) [] (leh (show numAt t 0 = 0 from rfl)) ⟨rfl, Nat.zero_lt_one⟩ fun i hi hI => ?_
                obtain ⟨hI1, hI2⟩ := hI
                refine goh trivial ?_
                refine W_cnd ?_ ?_ <;> (try simp only [cnd_r]) <;> intro hlt
                · have hil : i < t.data.toList.length := by omega
                  have hg := getD_list t hil
                  have hpw : (10 : Nat) ^ i ≤ 10 ^ 16 := Nat.pow_le_pow_right (by omega) (by omega)
                  obtain ⟨b, hbb⟩ : ∃ b, t.data.getD i 0 = b := ⟨_, rfl⟩
                  rw [hbb] at hg
                  by_cases hd : 48 ≤ b.toNat ∧ b.toNat ≤ 57
                  · obtain ⟨d1, d2⟩ := hd
                    have q1 : decide ((b.toNat : Int) < 48) = false := by simp; omega
                    have q2 : decide ((b.toNat : Int) > 57) = false := by simp; omega
                    obtain ⟨n1, n2⟩ := num_step hil hI1 (d := b.toNat - 48) (by rw [← hg]; exact digitVal_some d1 d2)
                    have w1 : IntKind.i64.wrap ((numAt t i : Int) * 10) = ((numAt t i * 10 : Nat) : Int) := wrap_id _ (by omega) (by omega)
                    have w2 : IntKind.u8.wrap ((b.toNat : Int) - 48) = ((b.toNat - 48 : Nat) : Int) := by
                      rw [show (b.toNat : Int) - 48 = ((b.toNat - 48 : Nat) : Int) by omega]; exact wrap_u8 (by omega)
                    have w3 : IntKind.i64.wrap ((b.toNat - 48 : Nat) : Int) = ((b.toNat - 48 : Nat) : Int) := wrap_id _ (by omega) (by omega)
                    have w4 : IntKind.i64.wrap (((numAt t i * 10 : Nat) : Int) + ((b.toNat - 48 : Nat) : Int)) = ((numAt t i * 10 + (b.toNat - 48) : Nat) : Int) := wrap_id _ (by omega) (by omega)
                    refine goh (And.intro hbb (And.intro q1 q2)) ?_
                    refine W_cnd ?_ ?_ <;> intro hlit <;> try (cases hlit; done)
                    refine goh (And.intro hbb (And.intro w1 (And.intro w2 (And.intro w3 w4)))) ?_
                    exact ⟨[], by omega, leh n2, ⟨n1, by rw [n2, Nat.pow_succ]; omega⟩⟩
                  · have e : numV s = none := by
                      rw [eV, num_stop hil hI1 (by rw [← hg]; exact digitVal_none (by omega))]; rfl
                    by_cases d1 : b.toNat < 48
                    · have q1 : decide ((b.toNat : Int) < 48) = true := by simp; omega
                      refine goh (And.intro hbb q1) ?_
                      refine W_cnd ?_ ?_ <;> intro hlit <;> try (cases hlit; done)
                      refine goh trivial ?_
                      exact finh [] e
                    · have q1 : decide ((b.toNat : Int) < 48) = false := by simp; omega
                      have q2 : decide ((b.toNat : Int) > 57) = true := by simp; omega
                      refine goh (And.intro hbb (And.intro q1 q2)) ?_
                      refine W_cnd ?_ ?_ <;> intro hlit <;> try (cases hlit; done)
                      refine goh trivial ?_
                      exact finh [] e
                · obtain rfl : i = t.size := by omega
                  have ht2 : t.data.toList.take t.size = t.data.toList := List.take_of_length_le (by omega)
                  rw [ht2] at hI1
                  have hpw : (10 : Nat) ^ t.size ≤ 10 ^ 17 := Nat.pow_le_pow_right (by omega) (by omega)
                  have e : numV s = some (if neg = true then -((numAt t t.size : Nat) : Int) else ((numAt t t.size : Nat) : Int)) := by rw [eV, hI1]; rfl
                  have w1 : IntKind.i64.wrap (0 - (numAt t t.size : Int)) = -((numAt t t.size : Nat) : Int) := by rw [Int.zero_sub]; exact wrap_id _ (by omega) (by omega)
                  cases neg with
                  | true =>
                    rw [if_pos rfl] at e
                    refine goh trivial ?_
                    refine W_cnd ?_ ?_ <;> intro hlit <;> try (cases hlit; done)
                    refine goh w1 ?_
                    exact finh [] e
                  | false =>
                    rw [if_neg Bool.false_ne_true] at e
                    refine goh trivial ?_
                    refine W_cnd ?_ ?_ <;> intro hlit <;> try (cases hlit; done)
                    refine goh trivial ?_
                    exact finh [] e
      · have hx : neg = true → t = s.extract 1 s.size := fun h => by rw [htn, if_pos h]
        have hx2 : neg = false → t = s := fun h => by rw [htn, h]; rfl
        cases neg with
        | true =>
          have ht1 := hx rfl
          have hp1 : 1 ≤ s.size := by omega
          refine W_cnd ?_ ?_ <;> intro hlit <;> try (cases hlit; done)
          refine goh trivial ?_
          exact hY [] (leh ht1)
        | false =>
          have ht1 := hx2 rfl
          refine W_cnd ?_ ?_ <;> intro hlit <;> try (cases hlit; done)
          refine goh trivial ?_
          exact hY [] (leh ht1)
  · simp [no, ifp] at hp
theorem s_specPtrRead_e : EnterOk Tryz.prog 182 := ⟨_, Tryz.func182, rfl, by decide⟩
@[go_sem] def s_specPtrRead_lv : List (List Nat) := [[0, 2], [0, 2, 13], [2, 3], [0, 2, 4], [0, 2, 4, 24], [2, 3], [0, 2, 4, 5, 6], [0, 2, 4, 5, 6, 7, 8], [0, 2, 5, 6, 7, 8, 9, 10], [0, 2, 6, 8, 10, 11], [2, 11, 66], [2, 3], [2, 3]]
@[go_sem] noncomputable def s_specPtrRead_K : Known := (((Known.nil).cons 136 ctCutB s_cutB s_cutB_e).cons 137 ctNumS s_numS s_numS_e).cons 104 ctPtrText s_specPtrText s_specPtrText_e
set_option maxHeartbeats 8000000 in
theorem s_specPtrRead : Sound Tryz.prog 182 ctPtrRead := by
  have ke := s_specPtrRead_K.env []
  have kl : Lives s_specPtrRead_lv := trivial
  refine sound_intro (E := ⟨ti, s_specPtrRead_K.Γ, []⟩) ke Tryz.func182 Tryz.ntmps182 rfl (rs := [.cell 2 55, .tmp 3]) rfl ?_
  intro args os hp
  unfold ctPtrRead at hp ⊢
  dsimp only at hp ⊢
  split at hp
  · rename_i t
    refine ⟨by simp, fun φ0 w0 => ?_⟩
    have hlen : t.size ≤ 1000000 := hp
    have nt : (!true) = false := rfl
    have nf : (!false) = true := rfl
    have h46 : UInt8.ofNat 46 = 46 := rfl
    refine goh trivial ?_
    refine W_cond _ (by exact rfl) (by exact trivial) ?_ ?_ <;> intro hc
    · obtain rfl := same_true.1 hc
      have e := ptrRead_dash
      refine goh trivial ?_
      exact finh [] e
    · have hne := same_false.1 hc
      have hwl := splitV_len 46 t
      have hms : ∀ w ∈ splitV 46 t, w.size ≤ 1000000 := fun w hw => Nat.le_trans (splitV_size hw) (by omega)
      have hrw := @read_words t hne
      obtain ⟨ws, hws⟩ : ∃ ws, splitV 46 t = ws := ⟨_, rfl⟩
      rw [hws] at hms hwl hrw
      by_cases h30 : 30 < t.size
      · have e := read_long h30
        have c1 : decide ((t.size : Int) > 30) = true := by simp; omega
        refine goh (And.intro h46 (And.intro hws c1)) ?_
        refine W_cnd ?_ ?_ <;> intro hlit <;> try (cases hlit; done)
        refine goh trivial ?_
        exact finh [] e
      · have c1 : decide ((t.size : Int) > 30) = false := by simp; omega
        by_cases h3 : ws.length = 3
        · have c2 : ((ws.length : Int) != 3) = false := by simp [h3]
          match ws, h3 with
          | [x, y, z], _ =>
          have m0 := hms x (by simp)
          have m1 := hms y (by simp)
          have m2 := hms z (by simp)
          have e := num_read hne hws
          cases hx : numV x <;> cases hy : numV y <;> cases hz : numV z
          case some.some.some a b c =>
            rw [hx, hy, hz] at e
            simp only at e
            cases hs : same (ptrT ⟨a, b, c⟩) t with
            | false =>
              rw [if_neg (fun h => by rw [same_true.2 h] at hs; cases hs)] at e
              refine goh (And.intro h46 (And.intro hws (And.intro c1 c2))) ?_
              refine W_cnd ?_ ?_ <;> intro hlit <;> try (cases hlit; done)
              refine goh (And.intro hx (And.intro hy (And.intro hz (And.intro m0 (And.intro m1 (And.intro m2 (And.intro hs (And.intro nt nf)))))))) ?_
              refine W_cnd ?_ ?_ <;> intro hlit <;> try (cases hlit; done)
              refine goh trivial ?_
              exact finh [] e
            | true =>
              rw [if_pos (same_true.1 hs)] at e
              refine goh (And.intro h46 (And.intro hws (And.intro c1 c2))) ?_
              refine W_cnd ?_ ?_ <;> intro hlit <;> try (cases hlit; done)
              refine goh (And.intro hx (And.intro hy (And.intro hz (And.intro m0 (And.intro m1 (And.intro m2 (And.intro hs (And.intro nt nf)))))))) ?_
              refine W_cnd ?_ ?_ <;> intro hlit <;> try (cases hlit; done)
              refine goh trivial ?_
              exact finh [] e
          all_goals
            rw [hx, hy, hz] at e
            simp only at e
            refine goh (And.intro h46 (And.intro hws (And.intro c1 c2))) ?_
            refine W_cnd ?_ ?_ <;> intro hlit <;> try (cases hlit; done)
            refine goh (And.intro hx (And.intro hy (And.intro hz (And.intro m0 (And.intro m1 (And.intro m2 (And.intro nt nf))))))) ?_
            refine W_cnd ?_ ?_ <;> intro hlit <;> try (cases hlit; done)
            refine goh trivial ?_
            exact finh [] e
        · have e := hrw h3
          have c2 : ((ws.length : Int) != 3) = true := by simp; omega
          refine goh (And.intro h46 (And.intro hws (And.intro c1 c2))) ?_
          refine W_cnd ?_ ?_ <;> intro hlit <;> try (cases hlit; done)
          refine goh trivial ?_
          exact finh [] e
  · simp [no, ifp] at hp
theorem s_specUberRead_e : EnterOk Tryz.prog 112 := ⟨_, Tryz.func112, rfl, by decide⟩
@[go_sem] def s_specUberRead_lv : List (List Nat) := [[0, 3], [0, 3, 5, 6], [0, 3, 6, 7], [0, 3, 7, 25], [2, 3, 4], [0, 3, 7, 8], [0, 3, 8, 10], [3, 8, 10, 45], [2, 3, 4], [2, 3, 4]]
@[go_sem] noncomputable def s_specUberRead_K : Known := (((((Known.nil).cons 135 ctSpecOpenS s_specSumOpen s_specSumOpen_e).cons 136 ctCutB s_cutB s_cutB_e).cons 137 ctNumS s_numS s_numS_e).cons 182 ctPtrRead s_specPtrRead s_specPtrRead_e).cons 33 ctUber s_specUber s_specUber_e
set_option maxHeartbeats 8000000 in
theorem s_specUberRead : Sound Tryz.prog 112 ctUberRead := by
  have ke := s_specUberRead_K.env []
  have kl : Lives s_specUberRead_lv := trivial
  refine sound_intro (E := ⟨ti, s_specUberRead_K.Γ, []⟩) ke Tryz.func112 Tryz.ntmps112 rfl (rs := [.tmp 2, .cell 3 55, .tmp 4]) rfl ?_
  intro args os hp
  unfold ctUberRead at hp ⊢
  dsimp only at hp ⊢
  split at hp
  · rename_i t
    refine ⟨by simp, fun φ0 w0 => ?_⟩
    have hlen : t.size ≤ 1000000 := hp
    have nt : (!true) = false := rfl
    have nf : (!false) = true := rfl
    have h32 : UInt8.ofNat 32 = 32 := rfl
    have hos := openV_size t
    have hcl := @uber_closed t
    have hw3 := @uber_words3 t
    have hsp := fun x y z => @uber_spec t x y z
    obtain ⟨⟨inner, ok⟩, hin⟩ : ∃ x, openV t = x := ⟨_, rfl⟩
    rw [hin] at hos hcl hw3 hsp
    simp only at hos hcl hw3 hsp
    have hwl := splitV_len 32 inner
    have hms : ∀ w ∈ splitV 32 inner, w.size ≤ 1000000 := fun w hw => Nat.le_trans (splitV_size hw) (by omega)
    obtain ⟨ws, hws⟩ : ∃ ws, splitV 32 inner = ws := ⟨_, rfl⟩
    rw [hws] at hms hwl hw3 hsp
    cases ok with
    | false =>
      have e := hcl rfl
      refine goh (And.intro h32 (And.intro hin (And.intro hws nf))) ?_
      refine W_cnd ?_ ?_ <;> intro hlit <;> try (cases hlit; done)
      refine goh trivial ?_
      exact finh [] e
    | true =>
      by_cases h3 : ws.length = 3
      · have c2 : ((ws.length : Int) != 3) = false := by simp [h3]
        match ws, h3 with
        | [x, y, z], _ =>
        have m0 := hms x (by simp)
        have m1 := hms y (by simp)
        have e := hsp x y z rfl rfl
        cases hx : numV x <;> cases hy : ptrReadV y
        all_goals
          rw [hx, hy] at e
          simp only [Option.getD_some, Option.getD_none] at e
        case none.none =>
          cases hs : same (uberT 0 ⟨0, 0, 0⟩) t with
          | false =>
            rw [if_neg (fun h => by rw [same_true.2 h] at hs; cases hs)] at e
            refine goh (And.intro h32 (And.intro hin (And.intro hws (And.intro nt c2)))) ?_
            refine W_cnd ?_ ?_ <;> intro hlit <;> try (cases hlit; done)
            refine goh (And.intro hx (And.intro hy (And.intro m0 (And.intro m1 (And.intro hs (And.intro nt nf)))))) ?_
            refine W_cnd ?_ ?_ <;> intro hlit <;> try (cases hlit; done)
            refine goh trivial ?_
            exact finh [] e
          | true =>
            rw [if_pos (same_true.1 hs)] at e
            refine goh (And.intro h32 (And.intro hin (And.intro hws (And.intro nt c2)))) ?_
            refine W_cnd ?_ ?_ <;> intro hlit <;> try (cases hlit; done)
            refine goh (And.intro hx (And.intro hy (And.intro m0 (And.intro m1 (And.intro hs (And.intro nt nf)))))) ?_
            refine W_cnd ?_ ?_ <;> intro hlit <;> try (cases hlit; done)
            refine goh trivial ?_
            exact finh [] e
        case none.some r =>
          obtain ⟨ra, rs, rb⟩ := r
          cases hs : same (uberT 0 ⟨ra, rs, rb⟩) t with
          | false =>
            rw [if_neg (fun h => by rw [same_true.2 h] at hs; cases hs)] at e
            refine goh (And.intro h32 (And.intro hin (And.intro hws (And.intro nt c2)))) ?_
            refine W_cnd ?_ ?_ <;> intro hlit <;> try (cases hlit; done)
            refine goh (And.intro hx (And.intro hy (And.intro m0 (And.intro m1 (And.intro hs (And.intro nt nf)))))) ?_
            refine W_cnd ?_ ?_ <;> intro hlit <;> try (cases hlit; done)
            refine goh trivial ?_
            exact finh [] e
          | true =>
            rw [if_pos (same_true.1 hs)] at e
            refine goh (And.intro h32 (And.intro hin (And.intro hws (And.intro nt c2)))) ?_
            refine W_cnd ?_ ?_ <;> intro hlit <;> try (cases hlit; done)
            refine goh (And.intro hx (And.intro hy (And.intro m0 (And.intro m1 (And.intro hs (And.intro nt nf)))))) ?_
            refine W_cnd ?_ ?_ <;> intro hlit <;> try (cases hlit; done)
            refine goh trivial ?_
            exact finh [] e
        case some.none k =>
          cases hs : same (uberT k ⟨0, 0, 0⟩) t with
          | false =>
            rw [if_neg (fun h => by rw [same_true.2 h] at hs; cases hs)] at e
            refine goh (And.intro h32 (And.intro hin (And.intro hws (And.intro nt c2)))) ?_
            refine W_cnd ?_ ?_ <;> intro hlit <;> try (cases hlit; done)
            refine goh (And.intro hx (And.intro hy (And.intro m0 (And.intro m1 (And.intro hs (And.intro nt nf)))))) ?_
            refine W_cnd ?_ ?_ <;> intro hlit <;> try (cases hlit; done)
            refine goh trivial ?_
            exact finh [] e
          | true =>
            rw [if_pos (same_true.1 hs)] at e
            refine goh (And.intro h32 (And.intro hin (And.intro hws (And.intro nt c2)))) ?_
            refine W_cnd ?_ ?_ <;> intro hlit <;> try (cases hlit; done)
            refine goh (And.intro hx (And.intro hy (And.intro m0 (And.intro m1 (And.intro hs (And.intro nt nf)))))) ?_
            refine W_cnd ?_ ?_ <;> intro hlit <;> try (cases hlit; done)
            refine goh trivial ?_
            exact finh [] e
        case some.some k r =>
          obtain ⟨ra, rs, rb⟩ := r
          cases hs : same (uberT k ⟨ra, rs, rb⟩) t with
          | false =>
            rw [if_neg (fun h => by rw [same_true.2 h] at hs; cases hs)] at e
            refine goh (And.intro h32 (And.intro hin (And.intro hws (And.intro nt c2)))) ?_
            refine W_cnd ?_ ?_ <;> intro hlit <;> try (cases hlit; done)
            refine goh (And.intro hx (And.intro hy (And.intro m0 (And.intro m1 (And.intro hs (And.intro nt nf)))))) ?_
            refine W_cnd ?_ ?_ <;> intro hlit <;> try (cases hlit; done)
            refine goh trivial ?_
            exact finh [] e
          | true =>
            rw [if_pos (same_true.1 hs)] at e
            refine goh (And.intro h32 (And.intro hin (And.intro hws (And.intro nt c2)))) ?_
            refine W_cnd ?_ ?_ <;> intro hlit <;> try (cases hlit; done)
            refine goh (And.intro hx (And.intro hy (And.intro m0 (And.intro m1 (And.intro hs (And.intro nt nf)))))) ?_
            refine W_cnd ?_ ?_ <;> intro hlit <;> try (cases hlit; done)
            refine goh trivial ?_
            exact finh [] e
      · have e := hw3 h3
        have c2 : ((ws.length : Int) != 3) = true := by simp; omega
        refine goh (And.intro h32 (And.intro hin (And.intro hws (And.intro nt c2)))) ?_
        refine W_cnd ?_ ?_ <;> intro hlit <;> try (cases hlit; done)
        refine goh trivial ?_
        exact finh [] e
  · simp [no, ifp] at hp
end Go.Proofs.YtjedcphhajlnoaaGreatDoor
/- Functions of the exact laws: pointers, entries and sets, one by one. -/
namespace Go.Proofs.YtjedcphhajlnoaaGreatDoor
open Go.RowKit

theorem plain_val : ∀ {cs : List TC} {vs : List Value}, plain cs = some vs → cs = vs.map .val
  | [], vs, h => by simp [plain] at h; subst h; rfl
  | c :: cs, vs, h => by
    unfold plain at h
    split at h
    · rename_i v us h1 h2
      simp only [Option.some.injEq] at h
      subst h
      rw [plain_val h2]
      cases c <;> simp [tcv] at h1
      subst h1; rfl
    · cases h
theorem kInt {ks : List TK} {vs : List Value} (h : kindsOk (.int .i64 :: ks) vs = true) : ∃ n r, vs = .int .i64 n :: r ∧ kindsOk ks r = true := by
  cases vs with
  | nil => simp [kindsOk] at h
  | cons v r => cases v with
    | int k n => cases k <;> simp [kindsOk] at h; exact ⟨n, r, rfl, h⟩
    | _ => simp [kindsOk] at h
theorem kStr {ks : List TK} {vs : List Value} (h : kindsOk (.str :: ks) vs = true) : ∃ n r, vs = .string n :: r ∧ kindsOk ks r = true := by
  cases vs with
  | nil => simp [kindsOk] at h
  | cons v r => cases v <;> simp [kindsOk] at h; exact ⟨_, r, rfl, h⟩
theorem kBool {ks : List TK} {vs : List Value} (h : kindsOk (.bool :: ks) vs = true) : ∃ n r, vs = .bool n :: r ∧ kindsOk ks r = true := by
  cases vs with
  | nil => simp [kindsOk] at h
  | cons v r => cases v <;> simp [kindsOk] at h; exact ⟨_, r, rfl, h⟩
theorem kNil {vs : List Value} (h : kindsOk [] vs = true) : vs = [] := by
  cases vs with
  | nil => rfl
  | cons v r => simp [kindsOk] at h
/-- Eight pointers. -/
@[go_sem] def P8.cells (x : Eight Ptr) : List Value := [.int .i64 x.x0.at_, .int .i64 x.x0.sum, .int .i64 x.x0.birth, .int .i64 x.x1.at_, .int .i64 x.x1.sum, .int .i64 x.x1.birth, .int .i64 x.x2.at_, .int .i64 x.x2.sum, .int .i64 x.x2.birth, .int .i64 x.x3.at_, .int .i64 x.x3.sum, .int .i64 x.x3.birth, .int .i64 x.x4.at_, .int .i64 x.x4.sum, .int .i64 x.x4.birth, .int .i64 x.x5.at_, .int .i64 x.x5.sum, .int .i64 x.x5.birth, .int .i64 x.x6.at_, .int .i64 x.x6.sum, .int .i64 x.x6.birth, .int .i64 x.x7.at_, .int .i64 x.x7.sum, .int .i64 x.x7.birth]
@[go_sem] def P8.ofCells (cs : List Value) : Eight Ptr := ⟨⟨Value.num (cell cs 0), Value.num (cell cs 1), Value.num (cell cs 2)⟩, ⟨Value.num (cell cs 3), Value.num (cell cs 4), Value.num (cell cs 5)⟩, ⟨Value.num (cell cs 6), Value.num (cell cs 7), Value.num (cell cs 8)⟩, ⟨Value.num (cell cs 9), Value.num (cell cs 10), Value.num (cell cs 11)⟩, ⟨Value.num (cell cs 12), Value.num (cell cs 13), Value.num (cell cs 14)⟩, ⟨Value.num (cell cs 15), Value.num (cell cs 16), Value.num (cell cs 17)⟩, ⟨Value.num (cell cs 18), Value.num (cell cs 19), Value.num (cell cs 20)⟩, ⟨Value.num (cell cs 21), Value.num (cell cs 22), Value.num (cell cs 23)⟩⟩
@[go_sem] theorem p8_eta (x : Eight Ptr) : (⟨⟨x.x0.at_, x.x0.sum, x.x0.birth⟩, ⟨x.x1.at_, x.x1.sum, x.x1.birth⟩, ⟨x.x2.at_, x.x2.sum, x.x2.birth⟩, ⟨x.x3.at_, x.x3.sum, x.x3.birth⟩, ⟨x.x4.at_, x.x4.sum, x.x4.birth⟩, ⟨x.x5.at_, x.x5.sum, x.x5.birth⟩, ⟨x.x6.at_, x.x6.sum, x.x6.birth⟩, ⟨x.x7.at_, x.x7.sum, x.x7.birth⟩⟩ : Eight Ptr) = x := rfl
@[go_sem] theorem cset_eta (x : CSet) : (⟨x.name, x.kind, x.from_, ⟨⟨x.map.x0.at_, x.map.x0.sum, x.map.x0.birth⟩, ⟨x.map.x1.at_, x.map.x1.sum, x.map.x1.birth⟩, ⟨x.map.x2.at_, x.map.x2.sum, x.map.x2.birth⟩, ⟨x.map.x3.at_, x.map.x3.sum, x.map.x3.birth⟩, ⟨x.map.x4.at_, x.map.x4.sum, x.map.x4.birth⟩, ⟨x.map.x5.at_, x.map.x5.sum, x.map.x5.birth⟩, ⟨x.map.x6.at_, x.map.x6.sum, x.map.x6.birth⟩, ⟨x.map.x7.at_, x.map.x7.sum, x.map.x7.birth⟩⟩, ⟨x.home.at_, x.home.sum, x.home.birth⟩, x.dirty⟩ : CSet) = x := rfl
@[go_sem] theorem cset_eta2 (x : CSet) : (⟨x.name, x.kind, x.from_, x.map, ⟨x.home.at_, x.home.sum, x.home.birth⟩, x.dirty⟩ : CSet) = x := rfl
@[go_sem] def p8Of (cs : List TC) : Option (Eight Ptr) := match plain cs with
  | some vs => if kindsOk [.int .i64, .int .i64, .int .i64, .int .i64, .int .i64, .int .i64, .int .i64, .int .i64, .int .i64, .int .i64, .int .i64, .int .i64, .int .i64, .int .i64, .int .i64, .int .i64, .int .i64, .int .i64, .int .i64, .int .i64, .int .i64, .int .i64, .int .i64, .int .i64] vs = true then some (P8.ofCells vs) else none
  | none => none
theorem p8_cells {vs : List Value} (h : kindsOk [.int .i64, .int .i64, .int .i64, .int .i64, .int .i64, .int .i64, .int .i64, .int .i64, .int .i64, .int .i64, .int .i64, .int .i64, .int .i64, .int .i64, .int .i64, .int .i64, .int .i64, .int .i64, .int .i64, .int .i64, .int .i64, .int .i64, .int .i64, .int .i64] vs = true) : P8.cells (P8.ofCells vs) = vs := by
  obtain ⟨a0, r0, rfl, h0⟩ := kInt h
  obtain ⟨a1, r1, rfl, h1⟩ := kInt h0
  obtain ⟨a2, r2, rfl, h2⟩ := kInt h1
  obtain ⟨a3, r3, rfl, h3⟩ := kInt h2
  obtain ⟨a4, r4, rfl, h4⟩ := kInt h3
  obtain ⟨a5, r5, rfl, h5⟩ := kInt h4
  obtain ⟨a6, r6, rfl, h6⟩ := kInt h5
  obtain ⟨a7, r7, rfl, h7⟩ := kInt h6
  obtain ⟨a8, r8, rfl, h8⟩ := kInt h7
  obtain ⟨a9, r9, rfl, h9⟩ := kInt h8
  obtain ⟨a10, r10, rfl, h10⟩ := kInt h9
  obtain ⟨a11, r11, rfl, h11⟩ := kInt h10
  obtain ⟨a12, r12, rfl, h12⟩ := kInt h11
  obtain ⟨a13, r13, rfl, h13⟩ := kInt h12
  obtain ⟨a14, r14, rfl, h14⟩ := kInt h13
  obtain ⟨a15, r15, rfl, h15⟩ := kInt h14
  obtain ⟨a16, r16, rfl, h16⟩ := kInt h15
  obtain ⟨a17, r17, rfl, h17⟩ := kInt h16
  obtain ⟨a18, r18, rfl, h18⟩ := kInt h17
  obtain ⟨a19, r19, rfl, h19⟩ := kInt h18
  obtain ⟨a20, r20, rfl, h20⟩ := kInt h19
  obtain ⟨a21, r21, rfl, h21⟩ := kInt h20
  obtain ⟨a22, r22, rfl, h22⟩ := kInt h21
  obtain ⟨a23, r23, rfl, h23⟩ := kInt h22
  obtain rfl := kNil h23
  rfl
theorem p8Of_some {cs : List TC} {x : Eight Ptr} (h : p8Of cs = some x) : cs = (P8.cells x).map .val := by
  unfold p8Of at h
  split at h
  · rename_i vs hv
    split at h
    · rename_i hk
      simp only [Option.some.injEq] at h
      subst h
      rw [p8_cells hk]
      exact plain_val hv
    · cases h
  · cases h
@[go_sem] def csetOf (cs : List TC) : Option (CSet) := match plain cs with
  | some vs => if kindsOk [.str, .int .i64, .str, .int .i64, .int .i64, .int .i64, .int .i64, .int .i64, .int .i64, .int .i64, .int .i64, .int .i64, .int .i64, .int .i64, .int .i64, .int .i64, .int .i64, .int .i64, .int .i64, .int .i64, .int .i64, .int .i64, .int .i64, .int .i64, .int .i64, .int .i64, .int .i64, .int .i64, .int .i64, .int .i64, .bool] vs = true then some (ET.cset.ofCells vs) else none
  | none => none
theorem cset_cells {vs : List Value} (h : kindsOk [.str, .int .i64, .str, .int .i64, .int .i64, .int .i64, .int .i64, .int .i64, .int .i64, .int .i64, .int .i64, .int .i64, .int .i64, .int .i64, .int .i64, .int .i64, .int .i64, .int .i64, .int .i64, .int .i64, .int .i64, .int .i64, .int .i64, .int .i64, .int .i64, .int .i64, .int .i64, .int .i64, .int .i64, .int .i64, .bool] vs = true) : ET.cset.cells (ET.cset.ofCells vs) = vs := by
  obtain ⟨a0, r0, rfl, h0⟩ := kStr h
  obtain ⟨a1, r1, rfl, h1⟩ := kInt h0
  obtain ⟨a2, r2, rfl, h2⟩ := kStr h1
  obtain ⟨a3, r3, rfl, h3⟩ := kInt h2
  obtain ⟨a4, r4, rfl, h4⟩ := kInt h3
  obtain ⟨a5, r5, rfl, h5⟩ := kInt h4
  obtain ⟨a6, r6, rfl, h6⟩ := kInt h5
  obtain ⟨a7, r7, rfl, h7⟩ := kInt h6
  obtain ⟨a8, r8, rfl, h8⟩ := kInt h7
  obtain ⟨a9, r9, rfl, h9⟩ := kInt h8
  obtain ⟨a10, r10, rfl, h10⟩ := kInt h9
  obtain ⟨a11, r11, rfl, h11⟩ := kInt h10
  obtain ⟨a12, r12, rfl, h12⟩ := kInt h11
  obtain ⟨a13, r13, rfl, h13⟩ := kInt h12
  obtain ⟨a14, r14, rfl, h14⟩ := kInt h13
  obtain ⟨a15, r15, rfl, h15⟩ := kInt h14
  obtain ⟨a16, r16, rfl, h16⟩ := kInt h15
  obtain ⟨a17, r17, rfl, h17⟩ := kInt h16
  obtain ⟨a18, r18, rfl, h18⟩ := kInt h17
  obtain ⟨a19, r19, rfl, h19⟩ := kInt h18
  obtain ⟨a20, r20, rfl, h20⟩ := kInt h19
  obtain ⟨a21, r21, rfl, h21⟩ := kInt h20
  obtain ⟨a22, r22, rfl, h22⟩ := kInt h21
  obtain ⟨a23, r23, rfl, h23⟩ := kInt h22
  obtain ⟨a24, r24, rfl, h24⟩ := kInt h23
  obtain ⟨a25, r25, rfl, h25⟩ := kInt h24
  obtain ⟨a26, r26, rfl, h26⟩ := kInt h25
  obtain ⟨a27, r27, rfl, h27⟩ := kInt h26
  obtain ⟨a28, r28, rfl, h28⟩ := kInt h27
  obtain ⟨a29, r29, rfl, h29⟩ := kInt h28
  obtain ⟨a30, r30, rfl, h30⟩ := kBool h29
  obtain rfl := kNil h30
  rfl
theorem csetOf_some {cs : List TC} {x : CSet} (h : csetOf cs = some x) : cs = (ET.cset.cells x).map .val := by
  unfold csetOf at h
  split at h
  · rename_i vs hv
    split at h
    · rename_i hk
      simp only [Option.some.injEq] at h
      subst h
      rw [cset_cells hk]
      exact plain_val hv
    · cases h
  · cases h
@[go_sem] def p8mix (x : Eight Ptr) (i : Nat) : List TC := ((P8.cells x).map .val).take (3 * i) ++ ((P8.cells (Eight.rep Ptr.zero)).map .val).drop (3 * i)
attribute [go_sem] Eight.rep Ptr.zero
@[go_sem] def ctToP8 : Ct := ⟨false, [], fun args os => match args, os with
  | [.agg cs], [] => (match p8Of cs with | some x => is (.agg ((P8.cells x).map .val)) | none => no)
  | _, _ => no⟩
@[go_sem] def sgP8 (x : Eight Ptr) (i : Nat) : Sg := ⟨[(1, .one (.ptr 0 0)), (2, .one (.ptr 1 0)), (3, .one (.ptr 2 0)), (4, vi i)], [some (.cells ((P8.cells x).map .val)), some (.cells ((P8.cells (Eight.rep Ptr.zero)).map .val)), some (.cells (p8mix x i))], []⟩
theorem s_toP8_e : EnterOk Tryz.prog 257 := ⟨_, Tryz.func257, rfl, by decide⟩
@[go_sem] def s_toP8_lv : List (List Nat) := [[1, 2], [1, 2, 3], [1, 2, 3, 4], [1, 2, 3, 4, 6], [1, 2, 3, 4], [1, 2, 3, 4], [2]]
@[go_sem] noncomputable def s_toP8_K : Known := (Known.nil).cons 217 ctToPtr s_toPtr s_toPtr_e
set_option maxHeartbeats 8000000 in
theorem s_toP8 : Sound Tryz.prog 257 ctToP8 := by
  have ke := s_toP8_K.env []
  have kl : Lives s_toP8_lv := trivial
  refine sound_intro (E := ⟨ti, s_toP8_K.Γ, []⟩) ke Tryz.func257 Tryz.ntmps257 rfl (rs := [.cell 2 121]) rfl ?_
  intro args os hp
  unfold ctToP8 at hp ⊢
  dsimp only at hp ⊢
  split at hp
  · rename_i cs
    split at hp
    · rename_i x hx
      obtain rfl := p8Of_some hx
      clear hx hp
      refine ⟨by simp, fun φ0 w0 => ?_⟩
      refine goh trivial ?_
      refine W_le (σ' := sgP8 x 0) [some 0, some 1, some 2] (by
        simp only [go_sem, Nat.reduceMul, inj_r, ↓reduceIte, reduceCtorEq, Nat.reduceAdd, Nat.reduceLT, Nat.reduceLeDiff, Nat.reduceEqDiff, Int.reduceEq]
        all_goals (repeat' refine And.intro ?_ ?_) <;> try exact shut7
        ) ?_
      refine W_loop (fun q σ => ∃ i : Nat, i ≤ 8 ∧ q = 8 - i ∧ σ = sgP8 x i) 8 ⟨0, by omega, by omega, rfl⟩ ?_
      rintro q σ ⟨i, hi, rfl, rfl⟩
      unfold sgP8
      rcases (show i = 0 ∨ i = 1 ∨ i = 2 ∨ i = 3 ∨ i = 4 ∨ i = 5 ∨ i = 6 ∨ i = 7 ∨ i = 8 by omega) with hc | hc | hc | hc | hc | hc | hc | hc | hc
      all_goals try (
        refine goh hc ?_
        refine W_cnd ?_ ?_ <;> intro hlit <;> try (cases hlit; done)
        refine goh hc ?_
        refine ⟨8 - (i + 1), [some 0, some 1, some 2], sgP8 x (i + 1), by omega, ?_, i + 1, by omega, rfl, rfl⟩
        simp only [go_sem, hc, Nat.reduceMul, inj_r, ↓reduceIte, reduceCtorEq, Nat.reduceAdd, Nat.reduceLT, Nat.reduceLeDiff, Nat.reduceEqDiff, Int.reduceEq]
        all_goals (repeat' refine And.intro ?_ ?_) <;> try exact shut7
        done)
      refine goh hc ?_
      refine W_cnd ?_ ?_ <;> intro hlit <;> try (cases hlit; done)
      refine goh hc ?_
      exact finh [] trivial
    · simp [no] at hp
  · simp [no] at hp
@[go_sem] def ctToCset : Ct := ⟨false, [], fun args os => match args, os with
  | [.agg cs], [] => (match csetOf cs with | some x => is (.agg ((ET.cset.cells x).map .val)) | none => no)
  | _, _ => no⟩
theorem s_toCset_e : EnterOk Tryz.prog 215 := ⟨_, Tryz.func215, rfl, by decide⟩
@[go_sem] def s_toCset_lv : List (List Nat) := [[1, 2], [1, 2, 3], [1, 2, 3], [1, 2, 3], [1, 2, 3], [1, 2, 3], [1, 2, 3], [2, 3], [2]]
@[go_sem] noncomputable def s_toCset_K : Known := ((Known.nil).cons 257 ctToP8 s_toP8 s_toP8_e).cons 217 ctToPtr s_toPtr s_toPtr_e
set_option maxHeartbeats 8000000 in
theorem s_toCset : Sound Tryz.prog 215 ctToCset := by
  have ke := s_toCset_K.env []
  have kl : Lives s_toCset_lv := trivial
  refine sound_intro (E := ⟨ti, s_toCset_K.Γ, []⟩) ke Tryz.func215 Tryz.ntmps215 rfl (rs := [.cell 2 123]) rfl ?_
  intro args os hp
  unfold ctToCset at hp ⊢
  dsimp only at hp ⊢
  split at hp
  · rename_i cs
    split at hp
    · rename_i x hx
      obtain rfl := csetOf_some hx
      clear hx hp
      refine ⟨by simp, fun φ0 w0 => ?_⟩
      refine goh trivial ?_
      exact finh [] trivial
    · simp [no] at hp
  · simp [no] at hp
@[go_sem] def ctToEnt : Ct := ctToPtr
theorem s_toEnt_e : EnterOk Tryz.prog 216 := ⟨_, Tryz.func216, rfl, by decide⟩
@[go_sem] def s_toEnt_lv : List (List Nat) := [[1, 2], [1, 2, 3], [1, 2, 3], [1, 2, 3], [2, 3], [2]]
@[go_sem] noncomputable def s_toEnt_K : Known := Known.nil
set_option maxHeartbeats 8000000 in
theorem s_toEnt : Sound Tryz.prog 216 ctToPtr := by
  have ke := s_toEnt_K.env []
  have kl : Lives s_toEnt_lv := trivial
  refine sound_intro (E := ⟨ti, s_toEnt_K.Γ, []⟩) ke Tryz.func216 Tryz.ntmps216 rfl (rs := [.cell 2 236]) rfl ?_
  intro args os hp
  unfold ctToPtr at hp ⊢
  dsimp only at hp ⊢
  split at hp
  · rename_i x y z
    refine ⟨by simp, fun φ0 w0 => ?_⟩
    refine goh trivial ?_
    exact finh [] trivial
  · simp [no, is] at hp
@[go_sem] def ctEqPtr : Ct := ⟨false, [], fun args os => match args, os with
  | [.agg [.val (.int .i64 x), .val (.int .i64 y), .val (.int .i64 z)], .agg [.val (.int .i64 x'), .val (.int .i64 y'), .val (.int .i64 z')]], [] => ifp (x = x' ∧ y = y' ∧ z = z') (vb true)
  | _, _ => no⟩
theorem s_eqPtr_e : EnterOk Tryz.prog 43 := ⟨_, Tryz.func43, rfl, by decide⟩
@[go_sem] def s_eqPtr_lv : List (List Nat) := [[2, 3], [2, 3, 9], [4], [2, 3, 14], [4], [19], [4], [4]]
@[go_sem] noncomputable def s_eqPtr_K : Known := Known.nil
set_option maxHeartbeats 8000000 in
theorem s_eqPtr : Sound Tryz.prog 43 ctEqPtr := by
  have ke := s_eqPtr_K.env []
  have kl : Lives s_eqPtr_lv := trivial
  refine sound_intro (E := ⟨ti, s_eqPtr_K.Γ, []⟩) ke Tryz.func43 Tryz.ntmps43 rfl (rs := [.tmp 4]) rfl ?_
  intro args os hp
  unfold ctEqPtr at hp ⊢
  dsimp only at hp ⊢
  split at hp
  · rename_i x y z x' y' z'
    refine ⟨by simp, fun φ0 w0 => ?_⟩
    obtain ⟨rfl, rfl, rfl⟩ : x = x' ∧ y = y' ∧ z = z' := hp
    refine goh trivial ?_
    refine W_cnd ?_ ?_ <;> intro hlit <;> try (cases hlit; done)
    refine goh trivial ?_
    refine W_cnd ?_ ?_ <;> intro hlit <;> try (cases hlit; done)
    refine goh trivial ?_
    refine W_cnd ?_ ?_ <;> intro hlit <;> try (cases hlit; done)
    refine goh trivial ?_
    exact finh [] trivial
  · simp [no, ifp] at hp
theorem s_eqEnt_e : EnterOk Tryz.prog 228 := ⟨_, Tryz.func228, rfl, by decide⟩
@[go_sem] def s_eqEnt_lv : List (List Nat) := [[2, 3], [2, 3, 9], [4], [2, 3, 14], [4], [19], [4], [4]]
@[go_sem] noncomputable def s_eqEnt_K : Known := Known.nil
set_option maxHeartbeats 8000000 in
theorem s_eqEnt : Sound Tryz.prog 228 ctEqPtr := by
  have ke := s_eqEnt_K.env []
  have kl : Lives s_eqEnt_lv := trivial
  refine sound_intro (E := ⟨ti, s_eqEnt_K.Γ, []⟩) ke Tryz.func228 Tryz.ntmps228 rfl (rs := [.tmp 4]) rfl ?_
  intro args os hp
  unfold ctEqPtr at hp ⊢
  dsimp only at hp ⊢
  split at hp
  · rename_i x y z x' y' z'
    refine ⟨by simp, fun φ0 w0 => ?_⟩
    obtain ⟨rfl, rfl, rfl⟩ : x = x' ∧ y = y' ∧ z = z' := hp
    refine goh trivial ?_
    refine W_cnd ?_ ?_ <;> intro hlit <;> try (cases hlit; done)
    refine goh trivial ?_
    refine W_cnd ?_ ?_ <;> intro hlit <;> try (cases hlit; done)
    refine goh trivial ?_
    refine W_cnd ?_ ?_ <;> intro hlit <;> try (cases hlit; done)
    refine goh trivial ?_
    exact finh [] trivial
  · simp [no, ifp] at hp
@[go_sem] def ctEqP8 : Ct := ⟨false, [], fun args os => match args, os with
  | [.agg cs, .agg ds], [] => (match p8Of cs, p8Of ds with | some x, some y => ifp (x = y) (vb true) | _, _ => no)
  | _, _ => no⟩
@[go_sem] def sgQ8 (x : Eight Ptr) (i : Nat) : Sg := ⟨[(2, .one (.ptr 0 0)), (3, .one (.ptr 1 0)), (5, vi i)], [some (.cells ((P8.cells x).map .val)), some (.cells ((P8.cells x).map .val))], []⟩
theorem s_eqP8_e : EnterOk Tryz.prog 266 := ⟨_, Tryz.func266, rfl, by decide⟩
@[go_sem] def s_eqP8_lv : List (List Nat) := [[2, 3], [2, 3, 5], [2, 3, 5, 7], [2, 3, 5], [2, 3, 5, 17], [4], [4]]
@[go_sem] noncomputable def s_eqP8_K : Known := (Known.nil).cons 43 ctEqPtr s_eqPtr s_eqPtr_e
set_option maxHeartbeats 8000000 in
theorem s_eqP8 : Sound Tryz.prog 266 ctEqP8 := by
  have ke := s_eqP8_K.env []
  have kl : Lives s_eqP8_lv := trivial
  refine sound_intro (E := ⟨ti, s_eqP8_K.Γ, []⟩) ke Tryz.func266 Tryz.ntmps266 rfl (rs := [.tmp 4]) rfl ?_
  intro args os hp
  unfold ctEqP8 at hp ⊢
  dsimp only at hp ⊢
  split at hp
  · rename_i cs ds
    split at hp
    · rename_i x y hx hy
      obtain rfl := p8Of_some hx
      obtain rfl := p8Of_some hy
      obtain rfl : x = y := hp
      clear hx hy
      refine ⟨by simp, fun φ0 w0 => ?_⟩
      refine goh trivial ?_
      refine W_le (σ' := sgQ8 x 0) [some 0, some 1] (by
        simp only [go_sem, inj_r, ↓reduceIte, reduceCtorEq, Nat.reduceAdd, Nat.reduceLT, Nat.reduceLeDiff, Nat.reduceEqDiff, Int.reduceEq]
        all_goals (repeat' refine And.intro ?_ ?_) <;> try exact shut7
        ) ?_
      refine W_loop (fun q σ => ∃ i : Nat, i ≤ 8 ∧ q = 8 - i ∧ σ = sgQ8 x i) 8 ⟨0, by omega, by omega, rfl⟩ ?_
      rintro q σ ⟨i, hi, rfl, rfl⟩
      unfold sgQ8
      rcases (show i = 0 ∨ i = 1 ∨ i = 2 ∨ i = 3 ∨ i = 4 ∨ i = 5 ∨ i = 6 ∨ i = 7 ∨ i = 8 by omega) with hc | hc | hc | hc | hc | hc | hc | hc | hc
      all_goals try (
        refine goh hc ?_
        refine W_cnd ?_ ?_ <;> intro hlit <;> try (cases hlit; done)
        refine goh hc ?_
        refine W_cnd ?_ ?_ <;> intro hlit <;> try (cases hlit; done)
        refine goh hc ?_
        refine ⟨8 - (i + 1), [some 0, some 1], sgQ8 x (i + 1), by omega, ?_, i + 1, by omega, rfl, rfl⟩
        simp only [go_sem, hc, inj_r, ↓reduceIte, reduceCtorEq, Nat.reduceAdd, Nat.reduceLT, Nat.reduceLeDiff, Nat.reduceEqDiff, Int.reduceEq]
        all_goals (repeat' refine And.intro ?_ ?_) <;> try exact shut7
        done)
      refine goh hc ?_
      refine W_cnd ?_ ?_ <;> intro hlit <;> try (cases hlit; done)
      refine goh hc ?_
      exact finh [] trivial
    · simp [no] at hp
  · simp [no] at hp
@[go_sem] def ctEqCset : Ct := ⟨false, [], fun args os => match args, os with
  | [.agg cs, .agg ds], [] => (match csetOf cs, csetOf ds with | some x, some y => ifp (x = y) (vb true) | _, _ => no)
  | _, _ => no⟩
theorem s_eqCset_e : EnterOk Tryz.prog 227 := ⟨_, Tryz.func227, rfl, by decide⟩
@[go_sem] def s_eqCset_lv : List (List Nat) := [[2, 3], [2, 3, 9], [4], [2, 3, 14], [4], [2, 3, 19], [4], [2, 3, 25], [4], [2, 3, 31], [4], [36], [4], [4]]
@[go_sem] noncomputable def s_eqCset_K : Known := ((Known.nil).cons 266 ctEqP8 s_eqP8 s_eqP8_e).cons 43 ctEqPtr s_eqPtr s_eqPtr_e
set_option maxHeartbeats 8000000 in
theorem s_eqCset : Sound Tryz.prog 227 ctEqCset := by
  have ke := s_eqCset_K.env []
  have kl : Lives s_eqCset_lv := trivial
  refine sound_intro (E := ⟨ti, s_eqCset_K.Γ, []⟩) ke Tryz.func227 Tryz.ntmps227 rfl (rs := [.tmp 4]) rfl ?_
  intro args os hp
  unfold ctEqCset at hp ⊢
  dsimp only at hp ⊢
  split at hp
  · rename_i cs ds
    split at hp
    · rename_i x y hx hy
      obtain rfl := csetOf_some hx
      obtain rfl := csetOf_some hy
      obtain rfl : x = y := hp
      clear hx hy
      refine ⟨by simp, fun φ0 w0 => ?_⟩
      refine goh trivial ?_
      refine W_cnd ?_ ?_ <;> intro hlit <;> try (cases hlit; done)
      refine goh trivial ?_
      refine W_cnd ?_ ?_ <;> intro hlit <;> try (cases hlit; done)
      refine goh trivial ?_
      refine W_cnd ?_ ?_ <;> intro hlit <;> try (cases hlit; done)
      refine goh trivial ?_
      refine W_cnd ?_ ?_ <;> intro hlit <;> try (cases hlit; done)
      refine goh trivial ?_
      refine W_cnd ?_ ?_ <;> intro hlit <;> try (cases hlit; done)
      refine goh trivial ?_
      refine W_cnd ?_ ?_ <;> intro hlit <;> try (cases hlit; done)
      refine goh trivial ?_
      exact finh [] trivial
    · simp [no] at hp
  · simp [no] at hp
def wC1 (x : CSet) : List Nat := [x.name.size, x.from_.size]
@[go_sem] def ctSzCset : Ct := ⟨false, [], fun args os => match args, os with
  | [.agg cs, .one (.val (.int .i64 n))], [] => (match csetOf cs with | some x => ifp ((x.name.size ≤ 9223372036854775807 ∧ x.from_.size ≤ 9223372036854775807) ∧ 0 ≤ n ∧ n ≤ 1048576) (vi (szW (wC1 x) n)) | none => no)
  | _, _ => no⟩
theorem s_szCset_e : EnterOk Tryz.prog 210 := ⟨_, Tryz.func210, rfl, by decide⟩
@[go_sem] def s_szCset_lv : List (List Nat) := [[1, 2], [1, 2], [1, 2, 11], [4], [1], [1, 18], [4], [4]]
@[go_sem] noncomputable def s_szCset_K : Known := Known.nil
set_option maxHeartbeats 8000000 in
theorem s_szCset : Sound Tryz.prog 210 ctSzCset := by
  have ke := s_szCset_K.env []
  have kl : Lives s_szCset_lv := trivial
  refine sound_intro (E := ⟨ti, s_szCset_K.Γ, []⟩) ke Tryz.func210 Tryz.ntmps210 rfl (rs := [.tmp 4]) rfl ?_
  intro args os hp
  unfold ctSzCset at hp ⊢
  dsimp only at hp ⊢
  split at hp
  · rename_i cs n
    split at hp
    · rename_i x hx
      obtain rfl := csetOf_some hx
      obtain ⟨⟨h1, h2⟩, h3, h4⟩ : (x.name.size ≤ 9223372036854775807 ∧ x.from_.size ≤ 9223372036854775807) ∧ 0 ≤ n ∧ n ≤ 1048576 := hp
      clear hx
      refine ⟨by simp, fun φ0 w0 => ?_⟩
      have e1 : IntKind.i64.wrap (n - x.name.size) = n - x.name.size := wrap_id _ (by omega) (by omega)
      have f1 : szW (wC1 x) n = if n - x.name.size < 0 then -1 else szW [x.from_.size] (n - x.name.size) := rfl
      refine goh e1 ?_
      refine W_cnd ?_ ?_ <;> (try simp only [cnd_r]) <;> intro hc
      · rw [if_pos hc] at f1
        refine goh trivial ?_
        exact finh [] f1
      · rw [if_neg hc] at f1
        have e2 : IntKind.i64.wrap (n - x.name.size - x.from_.size) = n - x.name.size - x.from_.size := wrap_id _ (by omega) (by omega)
        have f2 : szW [x.from_.size] (n - x.name.size) = if n - x.name.size - x.from_.size < 0 then -1 else n - x.name.size - x.from_.size := rfl
        refine goh e2 ?_
        refine W_cnd ?_ ?_ <;> (try simp only [cnd_r]) <;> intro hd
        · rw [if_pos hd] at f2
          refine goh trivial ?_
          exact finh [] (And.intro f1 f2)
        · rw [if_neg hd] at f2
          refine goh trivial ?_
          exact finh [] (And.intro f1 f2)
    · simp [no] at hp
  · simp [no] at hp
end Go.Proofs.YtjedcphhajlnoaaGreatDoor
