import Derived.Test.YtmnbgppmfbnamaaGreatDoorM7
import Derived.Test.YtmnbgppmfbnamaaGreatDoorM10
import Derived.Test.YtmnbgppmfbnamaaGreatDoorM14
import Derived.Test.YtmnbgppmfbnamaaGreatDoorM17
set_option linter.unusedSimpArgs false
set_option linter.unusedVariables false
set_option linter.unusedSectionVars false
/- Functions: a record's text. -/
namespace Go.Proofs.YtmnbgppmfbnamaaGreatDoor
open Go.RowKit

@[go_sem] noncomputable def ctLogText : Ct := ⟨false, [], fun args os => match args, os with
  | [.agg [.val (.int .i64 t), .val (.int .i64 s), .val (.int .i64 k), .val (.string a), .val (.string b), .val (.int .i64 i), .val (.string x)]], [] => ifp (a.size ≤ 9223372036854775807) (vs (logT ⟨t, s, ⟨k, a, b, i, x⟩⟩))
  | _, _ => no⟩
theorem joinV_five (c : UInt8) (x y z u v : ByteArray) : joinV ⟨#[c]⟩ [x, y, z, u, v] = x ++ ⟨#[c]⟩ ++ y ++ ⟨#[c]⟩ ++ z ++ ⟨#[c]⟩ ++ u ++ ⟨#[c]⟩ ++ v := by
  unfold joinV
  rw [lib_join]
  show bytesL (x.data.toList ++ [c] ++ (y.data.toList ++ [c] ++ (z.data.toList ++ [c] ++ (u.data.toList ++ [c] ++ v.data.toList)))) = _
  simp only [bytesL_app, bytesL_data]
  have e : bytesL [c] = ⟨#[c]⟩ := rfl
  rw [e]
  simp only [ByteArray.append_assoc]
theorem joinV_two (c : UInt8) (x y : ByteArray) : joinV ⟨#[c]⟩ [x, y] = x ++ ⟨#[c]⟩ ++ y := by
  unfold joinV
  rw [lib_join]
  show bytesL (x.data.toList ++ [c] ++ y.data.toList) = _
  simp only [bytesL_app, bytesL_data]
  rfl
theorem hexV_nil {x : ByteArray} : same (hexV x) ⟨#[]⟩ = decide (x.size = 0) := by
  rw [Bool.eq_iff_iff, same_true, decide_eq_true_eq]
  have h := hexV_size x
  constructor
  · intro e; rw [e] at h; have : (⟨#[]⟩ : ByteArray).size = 0 := rfl; omega
  · intro e
    apply ByteArray.ext
    exact Array.eq_empty_of_size_eq_zero (show (hexV x).size = 0 by omega)
theorem s_logText_e : EnterOk Tryz.prog 9 := ⟨_, Tryz.func9, rfl, by decide⟩
@[go_sem] def s_logText_lv : List (List Nat) := [[1], [1, 3], [1, 3, 45], [2], [3, 4], [3, 4, 5], [3, 4, 5, 56], [3, 4, 5], [2]]
@[go_sem] noncomputable def s_logText_K : Known := ((((((((Known.nil).cons 46 ctWithin s_within s_within_e).cons 47 ctName s_bookName s_bookName_e).cons 48 ctIsBlock s_isBlock s_isBlock_e).cons 49 ctPoints s_points s_points_e).cons 50 ctHex s_hex s_hex_e).cons 53 ctItoa s_itoa s_itoa_e).cons 52 ctJoin s_join s_join_e).cons 51 ctSeal s_seal s_seal_e
set_option maxHeartbeats 8000000 in
theorem s_logText : Sound Tryz.prog 9 ctLogText := by
  have ke := s_logText_K.env []
  have kl : Lives s_logText_lv := trivial
  refine sound_intro (E := ⟨ti, s_logText_K.Γ, []⟩) ke Tryz.func9 Tryz.ntmps9 rfl (rs := [.tmp 2]) rfl ?_
  intro args os hp
  unfold ctLogText at hp ⊢
  dsimp only at hp ⊢
  split at hp
  · rename_i t s k a b i x
    refine ⟨by simp, fun φ0 w0 => ?_⟩
    have hna : a.size ≤ 9223372036854775807 := hp
    clear hp
    have nt : (!true) = false := rfl
    have nf : (!false) = true := rfl
    by_cases pc1 : 1 ≤ t ∧ t ≤ 1000000
    rotate_left
    · have e := logT_no (r := ⟨t, s, ⟨k, a, b, i, x⟩⟩) (fun h => pc1 ⟨h.t0, h.t1⟩)
      have c1 : (decide (1 ≤ t) && decide (t ≤ 1000000)) = false := by rw [Bool.and_eq_false_iff, decide_eq_false_iff_not, decide_eq_false_iff_not]; omega
      refine goh (And.intro c1 (And.intro hna (And.intro nt nf))) ?_
      refine W_cnd ?_ ?_ <;> intro hlit <;> try (cases hlit; done)
      refine goh trivial ?_
      exact finh [] e
    have c1 : (decide (1 ≤ t) && decide (t ≤ 1000000)) = true := by simp; omega
    by_cases pc2 : 0 ≤ s ∧ s ≤ 7
    rotate_left
    · have e := logT_no (r := ⟨t, s, ⟨k, a, b, i, x⟩⟩) (fun h => pc2 ⟨h.s0, h.s1⟩)
      have c2 : (decide (0 ≤ s) && decide (s ≤ 7)) = false := by rw [Bool.and_eq_false_iff, decide_eq_false_iff_not, decide_eq_false_iff_not]; omega
      refine goh (And.intro c1 (And.intro c2 (And.intro hna (And.intro nt nf)))) ?_
      refine W_cnd ?_ ?_ <;> intro hlit <;> try (cases hlit; done)
      refine goh trivial ?_
      exact finh [] e
    have c2 : (decide (0 ≤ s) && decide (s ≤ 7)) = true := by simp; omega
    by_cases pc3 : k = 3
    rotate_left
    · have e := logT_no (r := ⟨t, s, ⟨k, a, b, i, x⟩⟩) (fun h => pc3 h.k)
      have c3 : (k != 3) = true := by simp [pc3]
      refine goh (And.intro c1 (And.intro c2 (And.intro c3 (And.intro hna (And.intro nt nf))))) ?_
      refine W_cnd ?_ ?_ <;> intro hlit <;> try (cases hlit; done)
      refine goh trivial ?_
      exact finh [] e
    have c3 : (k != 3) = false := by simp [pc3]
    by_cases pc4 : nameB a = true
    rotate_left
    · have e := logT_no (r := ⟨t, s, ⟨k, a, b, i, x⟩⟩) (fun h => pc4 h.a)
      have c4 : nameB a = false := by simpa using pc4
      refine goh (And.intro c1 (And.intro c2 (And.intro c3 (And.intro c4 (And.intro hna (And.intro nt nf)))))) ?_
      refine W_cnd ?_ ?_ <;> intro hlit <;> try (cases hlit; done)
      refine goh trivial ?_
      exact finh [] e
    have c4 : nameB a = true := pc4
    by_cases pc5 : b = ⟨#[]⟩
    rotate_left
    · have e := logT_no (r := ⟨t, s, ⟨k, a, b, i, x⟩⟩) (fun h => pc5 h.b)
      have c5 : same b ⟨#[]⟩ = false := same_false.2 pc5
      refine goh (And.intro c1 (And.intro c2 (And.intro c3 (And.intro c4 (And.intro c5 (And.intro hna (And.intro nt nf))))))) ?_
      refine W_cnd ?_ ?_ <;> intro hlit <;> try (cases hlit; done)
      refine goh trivial ?_
      exact finh [] e
    have c5 : same b ⟨#[]⟩ = true := same_true.2 pc5
    by_cases pc6 : 0 ≤ i ∧ i ≤ 7
    rotate_left
    · have e := logT_no (r := ⟨t, s, ⟨k, a, b, i, x⟩⟩) (fun h => pc6 ⟨h.i0, h.i1⟩)
      have c6 : (decide (0 ≤ i) && decide (i ≤ 7)) = false := by rw [Bool.and_eq_false_iff, decide_eq_false_iff_not, decide_eq_false_iff_not]; omega
      refine goh (And.intro c1 (And.intro c2 (And.intro c3 (And.intro c4 (And.intro c5 (And.intro c6 (And.intro hna (And.intro nt nf)))))))) ?_
      refine W_cnd ?_ ?_ <;> intro hlit <;> try (cases hlit; done)
      refine goh trivial ?_
      exact finh [] e
    have c6 : (decide (0 ≤ i) && decide (i ≤ 7)) = true := by simp; omega
    by_cases pc7 : x.size ≤ 24
    rotate_left
    · have e := logT_no (r := ⟨t, s, ⟨k, a, b, i, x⟩⟩) (fun h => pc7 h.x)
      have c7 : decide ((x.size : Int) > 24) = true := by simp; omega
      refine goh (And.intro c1 (And.intro c2 (And.intro c3 (And.intro c4 (And.intro c5 (And.intro c6 (And.intro c7 (And.intro hna (And.intro nt nf))))))))) ?_
      refine W_cnd ?_ ?_ <;> intro hlit <;> try (cases hlit; done)
      refine goh trivial ?_
      exact finh [] e
    have c7 : decide ((x.size : Int) > 24) = false := by simp; omega
    have hok : LogOk ⟨t, s, ⟨k, a, b, i, x⟩⟩ := ⟨pc1.1, pc1.2, pc2.1, pc2.2, pc3, pc4, pc5, pc6.1, pc6.2, pc7⟩
    have eT := logT_ok hok
    have hIs := logI_size hok
    have hin : ∀ j : Nat, -9223372036854775808 ≤ [t, s].getD j ET.int.dflt ∧ [t, s].getD j ET.int.dflt ≤ 9223372036854775807 := fun j => by
      have hd : ET.int.dflt = (0 : Int) := rfl
      have := hok.t0; have := hok.t1; have := hok.s0; have := hok.s1
      simp only at *
      match j with
      | 0 => simp; omega
      | 1 => simp; omega
      | j + 2 => simp [hd]
    have hi1 : -9223372036854775808 ≤ i ∧ i ≤ 9223372036854775807 := by have := hok.i0; have := hok.i1; simp only at *; omega
    have ht1 : -9223372036854775808 ≤ t ∧ t ≤ 9223372036854775807 := by have := hok.t0; have := hok.t1; simp only at *; omega
    have hs1 : -9223372036854775808 ≤ s ∧ s ≤ 9223372036854775807 := by have := hok.s0; have := hok.s1; simp only at *; omega
    have hx1 : x.size ≤ 1000000000 := by omega
    have hh := @hexV_nil x
    have eI : ∀ X, logX x = X → logI ⟨t, s, ⟨k, a, b, i, x⟩⟩ = joinV ⟨#[32]⟩ [pointsV [t, s], a, decS i, X, pointsV [t, s]] := fun X h => by rw [← h]; rfl
    refine goh (And.intro c1 (And.intro c2 (And.intro c3 (And.intro c4 (And.intro c5 (And.intro c6 (And.intro c7 (And.intro hna (And.intro nt nf))))))))) ?_
    refine W_cnd ?_ ?_ <;> intro hlit <;> try (cases hlit; done)
    by_cases h0 : x.size = 0
    · have eX : logX x = ⟨#[45]⟩ := by unfold logX; rw [if_pos h0]
      rw [decide_eq_true h0] at hh
      have eJ := eI _ eX
      rw [eJ] at eT hIs
      have hjn : (joinV ⟨#[32]⟩ [pointsV [t, s], a, decS i, ⟨#[45]⟩, pointsV [t, s]]).size ≤ 140737488355328 := by omega
      refine goh (And.intro hin (And.intro hi1 hh)) ?_
      refine W_cnd ?_ ?_ <;> intro hlit <;> try (cases hlit; done)
      refine goh (And.intro hin (And.intro hi1 (And.intro hh hjn))) ?_
      exact finh [] eT
    · have eX : logX x = hexV x := by unfold logX; rw [if_neg h0]
      rw [decide_eq_false h0] at hh
      have eJ := eI _ eX
      rw [eJ] at eT hIs
      have hjn : (joinV ⟨#[32]⟩ [pointsV [t, s], a, decS i, hexV x, pointsV [t, s]]).size ≤ 140737488355328 := by omega
      refine goh (And.intro hin (And.intro hi1 hh)) ?_
      refine W_cnd ?_ ?_ <;> intro hlit <;> try (cases hlit; done)
      refine goh (And.intro hin (And.intro hi1 (And.intro hh hjn))) ?_
      exact finh [] eT
  · simp [no, ifp] at hp
theorem s_specLogText_e : EnterOk Tryz.prog 11 := ⟨_, Tryz.func11, rfl, by decide⟩
@[go_sem] def s_specLogText_lv : List (List Nat) := [[1], [1, 3], [1, 3, 57], [2], [1, 3, 4], [1, 3, 4, 62], [1, 3, 4], [3, 4, 5], [2]]
@[go_sem] noncomputable def s_specLogText_K : Known := ((((Known.nil).cons 59 ctName s_specName s_specName_e).cons 60 ctHex s_specHex s_specHex_e).cons 61 ctDecV s_dec2 s_dec2_e).cons 62 ctSeal s_specSeal s_specSeal_e
set_option maxHeartbeats 8000000 in
theorem s_specLogText : Sound Tryz.prog 11 ctLogText := by
  have ke := s_specLogText_K.env []
  have kl : Lives s_specLogText_lv := trivial
  refine sound_intro (E := ⟨ti, s_specLogText_K.Γ, []⟩) ke Tryz.func11 Tryz.ntmps11 rfl (rs := [.tmp 2]) rfl ?_
  intro args os hp
  unfold ctLogText at hp ⊢
  dsimp only at hp ⊢
  split at hp
  · rename_i t s k a b i x
    refine ⟨by simp, fun φ0 w0 => ?_⟩
    have hna : a.size ≤ 9223372036854775807 := hp
    clear hp
    have nt : (!true) = false := rfl
    have nf : (!false) = true := rfl
    by_cases pc1 : 1 ≤ t
    rotate_left
    · have e := logT_no (r := ⟨t, s, ⟨k, a, b, i, x⟩⟩) (fun h => pc1 h.t0)
      have c1 : decide (t < 1) = true := by simp; omega
      refine goh (And.intro c1 (And.intro hna (And.intro nt nf))) ?_
      refine W_cnd ?_ ?_ <;> intro hlit <;> try (cases hlit; done)
      refine goh trivial ?_
      exact finh [] e
    have c1 : decide (t < 1) = false := by simp; omega
    by_cases pc1b : t ≤ 1000000
    rotate_left
    · have e := logT_no (r := ⟨t, s, ⟨k, a, b, i, x⟩⟩) (fun h => pc1b h.t1)
      have c1b : decide (t > 1000000) = true := by simp; omega
      refine goh (And.intro c1 (And.intro c1b (And.intro hna (And.intro nt nf)))) ?_
      refine W_cnd ?_ ?_ <;> intro hlit <;> try (cases hlit; done)
      refine goh trivial ?_
      exact finh [] e
    have c1b : decide (t > 1000000) = false := by simp; omega
    by_cases pc2 : 0 ≤ s
    rotate_left
    · have e := logT_no (r := ⟨t, s, ⟨k, a, b, i, x⟩⟩) (fun h => pc2 h.s0)
      have c2 : decide (s < 0) = true := by simp; omega
      refine goh (And.intro c1 (And.intro c1b (And.intro c2 (And.intro hna (And.intro nt nf))))) ?_
      refine W_cnd ?_ ?_ <;> intro hlit <;> try (cases hlit; done)
      refine goh trivial ?_
      exact finh [] e
    have c2 : decide (s < 0) = false := by simp; omega
    by_cases pc2b : s ≤ 7
    rotate_left
    · have e := logT_no (r := ⟨t, s, ⟨k, a, b, i, x⟩⟩) (fun h => pc2b h.s1)
      have c2b : decide (s ≥ 8) = true := by simp; omega
      refine goh (And.intro c1 (And.intro c1b (And.intro c2 (And.intro c2b (And.intro hna (And.intro nt nf)))))) ?_
      refine W_cnd ?_ ?_ <;> intro hlit <;> try (cases hlit; done)
      refine goh trivial ?_
      exact finh [] e
    have c2b : decide (s ≥ 8) = false := by simp; omega
    by_cases pc3 : k = 3
    rotate_left
    · have e := logT_no (r := ⟨t, s, ⟨k, a, b, i, x⟩⟩) (fun h => pc3 h.k)
      have c3 : (k != 3) = true := by simp [pc3]
      refine goh (And.intro c1 (And.intro c1b (And.intro c2 (And.intro c2b (And.intro c3 (And.intro hna (And.intro nt nf))))))) ?_
      refine W_cnd ?_ ?_ <;> intro hlit <;> try (cases hlit; done)
      refine goh trivial ?_
      exact finh [] e
    have c3 : (k != 3) = false := by simp [pc3]
    by_cases pc4 : nameB a = true
    rotate_left
    · have e := logT_no (r := ⟨t, s, ⟨k, a, b, i, x⟩⟩) (fun h => pc4 h.a)
      have c4 : nameB a = false := by simpa using pc4
      refine goh (And.intro c1 (And.intro c1b (And.intro c2 (And.intro c2b (And.intro c3 (And.intro c4 (And.intro hna (And.intro nt nf)))))))) ?_
      refine W_cnd ?_ ?_ <;> intro hlit <;> try (cases hlit; done)
      refine goh trivial ?_
      exact finh [] e
    have c4 : nameB a = true := pc4
    by_cases pc5 : b = ⟨#[]⟩
    rotate_left
    · have e := logT_no (r := ⟨t, s, ⟨k, a, b, i, x⟩⟩) (fun h => pc5 h.b)
      have c5 : same b ⟨#[]⟩ = false := same_false.2 pc5
      refine goh (And.intro c1 (And.intro c1b (And.intro c2 (And.intro c2b (And.intro c3 (And.intro c4 (And.intro c5 (And.intro hna (And.intro nt nf))))))))) ?_
      refine W_cnd ?_ ?_ <;> intro hlit <;> try (cases hlit; done)
      refine goh trivial ?_
      exact finh [] e
    have c5 : same b ⟨#[]⟩ = true := same_true.2 pc5
    by_cases pc6 : 0 ≤ i
    rotate_left
    · have e := logT_no (r := ⟨t, s, ⟨k, a, b, i, x⟩⟩) (fun h => pc6 h.i0)
      have c6 : decide (i < 0) = true := by simp; omega
      refine goh (And.intro c1 (And.intro c1b (And.intro c2 (And.intro c2b (And.intro c3 (And.intro c4 (And.intro c5 (And.intro c6 (And.intro hna (And.intro nt nf)))))))))) ?_
      refine W_cnd ?_ ?_ <;> intro hlit <;> try (cases hlit; done)
      refine goh trivial ?_
      exact finh [] e
    have c6 : decide (i < 0) = false := by simp; omega
    by_cases pc6b : i ≤ 7
    rotate_left
    · have e := logT_no (r := ⟨t, s, ⟨k, a, b, i, x⟩⟩) (fun h => pc6b h.i1)
      have c6b : decide (i ≥ 8) = true := by simp; omega
      refine goh (And.intro c1 (And.intro c1b (And.intro c2 (And.intro c2b (And.intro c3 (And.intro c4 (And.intro c5 (And.intro c6 (And.intro c6b (And.intro hna (And.intro nt nf))))))))))) ?_
      refine W_cnd ?_ ?_ <;> intro hlit <;> try (cases hlit; done)
      refine goh trivial ?_
      exact finh [] e
    have c6b : decide (i ≥ 8) = false := by simp; omega
    by_cases pc7 : x.size ≤ 24
    rotate_left
    · have e := logT_no (r := ⟨t, s, ⟨k, a, b, i, x⟩⟩) (fun h => pc7 h.x)
      have c7 : decide ((x.size : Int) > 24) = true := by simp; omega
      refine goh (And.intro c1 (And.intro c1b (And.intro c2 (And.intro c2b (And.intro c3 (And.intro c4 (And.intro c5 (And.intro c6 (And.intro c6b (And.intro c7 (And.intro hna (And.intro nt nf)))))))))))) ?_
      refine W_cnd ?_ ?_ <;> intro hlit <;> try (cases hlit; done)
      refine goh trivial ?_
      exact finh [] e
    have c7 : decide ((x.size : Int) > 24) = false := by simp; omega
    have hok : LogOk ⟨t, s, ⟨k, a, b, i, x⟩⟩ := ⟨pc1, pc1b, pc2, pc2b, pc3, pc4, pc5, pc6, pc6b, pc7⟩
    have eT := logT_ok hok
    have hIs := logI_size hok
    have hin : ∀ j : Nat, -9223372036854775808 ≤ [t, s].getD j ET.int.dflt ∧ [t, s].getD j ET.int.dflt ≤ 9223372036854775807 := fun j => by
      have hd : ET.int.dflt = (0 : Int) := rfl
      have := hok.t0; have := hok.t1; have := hok.s0; have := hok.s1
      simp only at *
      match j with
      | 0 => simp; omega
      | 1 => simp; omega
      | j + 2 => simp [hd]
    have hi1 : -9223372036854775808 ≤ i ∧ i ≤ 9223372036854775807 := by have := hok.i0; have := hok.i1; simp only at *; omega
    have ht1 : -9223372036854775808 ≤ t ∧ t ≤ 9223372036854775807 := by have := hok.t0; have := hok.t1; simp only at *; omega
    have hs1 : -9223372036854775808 ≤ s ∧ s ≤ 9223372036854775807 := by have := hok.s0; have := hok.s1; simp only at *; omega
    have hx1 : x.size ≤ 1000000000 := by omega
    have hh := @hexV_nil x
    have eI : ∀ X, logX x = X → logI ⟨t, s, ⟨k, a, b, i, x⟩⟩ = decS t ++ ⟨#[46]⟩ ++ decS s ++ ⟨#[32]⟩ ++ a ++ ⟨#[32]⟩ ++ decS i ++ ⟨#[32]⟩ ++ X ++ ⟨#[32]⟩ ++ (decS t ++ ⟨#[46]⟩ ++ decS s) := fun X h => by
      rw [← h]
      unfold logI logM
      rw [joinV_five]
      show pointsV [t, s] ++ _ ++ _ ++ _ ++ _ ++ _ ++ _ ++ _ ++ pointsV [t, s] = _
      have e2 : pointsV [t, s] = decS t ++ ⟨#[46]⟩ ++ decS s := joinV_two 46 _ _
      rw [e2]
    have z1 := decS_size ht1.1 ht1.2
    have z2 := decS_size hs1.1 hs1.2
    have z3 := decS_size hi1.1 hi1.2
    have z4 := (name_size pc4).2
    have z5 := hexV_size x
    have z6 : (⟨#[46]⟩ : ByteArray).size = 1 := rfl
    have z7 : (⟨#[32]⟩ : ByteArray).size = 1 := rfl
    have z8 : (⟨#[45]⟩ : ByteArray).size = 1 := rfl
    refine goh (And.intro c1 (And.intro c1b (And.intro c2 (And.intro c2b (And.intro c3 (And.intro c4 (And.intro c5 (And.intro c6 (And.intro c6b (And.intro c7 (And.intro hna (And.intro nt nf)))))))))))) ?_
    refine W_cnd ?_ ?_ <;> intro hlit <;> try (cases hlit; done)
    by_cases h0 : x.size = 0
    · have eX : logX x = ⟨#[45]⟩ := by unfold logX; rw [if_pos h0]
      rw [decide_eq_true h0] at hh
      have eJ := eI _ eX
      rw [eJ] at eT hIs
      refine goh (And.intro hi1 (And.intro ht1 (And.intro hs1 hh))) ?_
      refine W_cnd ?_ ?_ <;> intro hlit <;> try (cases hlit; done)
      refine goh (And.intro hi1 (And.intro ht1 hs1)) ?_
      exact finh [] eT
    · have eX : logX x = hexV x := by unfold logX; rw [if_neg h0]
      rw [decide_eq_false h0] at hh
      have eJ := eI _ eX
      rw [eJ] at eT hIs
      refine goh (And.intro hi1 (And.intro ht1 (And.intro hs1 hh))) ?_
      refine W_cnd ?_ ?_ <;> intro hlit <;> try (cases hlit; done)
      refine goh (And.intro hi1 (And.intro ht1 hs1)) ?_
      exact finh [] eT
  · simp [no, ifp] at hp
end Go.Proofs.YtmnbgppmfbnamaaGreatDoor
/- Functions: a record is put into the log. -/
namespace Go.Proofs.YtmnbgppmfbnamaaGreatDoor
open Go.RowKit

noncomputable def putT (c : Co) (o : BOp) : ByteArray := logT ⟨c.txg, c.logn, o⟩
noncomputable def logPuts (d : Dk) (c : Co) (o : BOp) : Bool := !(same (putT c o) ⟨#[]⟩) && d.may2 (5 + c.logn) (putT c o)
def Co.more (c : Co) : Co := ⟨c.txg, c.sets, c.ddt, c.parts, c.dirty, c.safe, c.logn + 1⟩
noncomputable def logPut (d : Dk) (c : Co) (o : BOp) : Dk × Co × Bool :=
  if (d.ok && c.ok) = true then (if logPuts d c o = true then (d.add2 (5 + c.logn) (putT c o), c.more, true) else (d, c, false)) else (.nil, .nil, false)
@[go_sem] noncomputable def ctLogPutI : Ct := ⟨true, [], fun args os => match args, os with
  | [.one (.ptr 0 0), .one (.ptr 1 0), .agg [.val (.int .i64 k), .val (.string oa), .val (.string ob), .val (.int .i64 i), .val (.string ox)]], [.cells [.osl .str 2 0 na, .osl .str 3 0 nb, .osl .late 4 0 nl], .cells [.val (.int .i64 x), .osl .cset 5 0 n1, .osl .ent 6 0 n2, .osl .ptr 7 0 n3, .val (.bool y), .osl .int 8 0 n4, .val (.int .i64 u)], .arr .str a, .arr .str b, .arr .late l, .arr .cset cs, .arr .ent es, .arr .ptr ps, .arr .int zs] =>
    if logPuts ⟨a, b, l⟩ ⟨x, cs, es, ps, y, zs, u⟩ ⟨k, oa, ob, i, ox⟩ = true then
      ⟨(((Dk.mk a b l).small ∧ na = a.length ∧ nb = b.length ∧ nl = l.length) ∧ 0 ≤ u ∧ u ≤ 8) ∧ oa.size ≤ 9223372036854775807, vb true, [(0, some (.cells [.osl .str 2 0 na, .osl .str 3 0 nb, .osl .late 9 0 (nl + 2)])), (1, some (.cells [.val (.int .i64 x), .osl .cset 5 0 n1, .osl .ent 6 0 n2, .osl .ptr 7 0 n3, .val (.bool y), .osl .int 8 0 n4, .val (.int .i64 (u + 1))])), (4, none)], [.arr .late (l ++ [⟨0, 5 + u, putT ⟨x, cs, es, ps, y, zs, u⟩ ⟨k, oa, ob, i, ox⟩⟩] ++ [⟨1, 5 + u, putT ⟨x, cs, es, ps, y, zs, u⟩ ⟨k, oa, ob, i, ox⟩⟩])]⟩
    else ⟨(((Dk.mk a b l).small ∧ na = a.length ∧ nb = b.length ∧ nl = l.length) ∧ 0 ≤ u ∧ u ≤ 8) ∧ oa.size ≤ 9223372036854775807, vb false, [], []⟩
  | _, _ => no⟩
theorem s_logPutI_e : EnterOk Tryz.prog 99 := ⟨_, Tryz.func99, rfl, by decide⟩
@[go_sem] def s_logPutI_lv : List (List Nat) := [[0, 1, 5], [0, 1, 7], [1, 31], [6], [], [6]]
@[go_sem] noncomputable def s_logPutI_K : Known := ((Known.nil).cons 9 ctLogText s_logText s_logText_e).cons 182 ctWriteBoth s_writeBoth s_writeBoth_e
set_option maxHeartbeats 8000000 in
theorem s_logPutI : Sound Tryz.prog 99 ctLogPutI := by
  have ke := s_logPutI_K.env []
  have kl : Lives s_logPutI_lv := trivial
  refine sound_intro (E := ⟨ti, s_logPutI_K.Γ, []⟩) ke Tryz.func99 Tryz.ntmps99 rfl (rs := [.tmp 6]) rfl ?_
  intro args os hp
  unfold ctLogPutI at hp ⊢
  dsimp only at hp ⊢
  split at hp
  · rename_i k oa ob i ox na nb nl x n1 n2 n3 y n4 u a b l cs es ps zs
    refine ⟨by simp, fun φ0 w0 => ?_⟩
    have hp' : (((Dk.mk a b l).small ∧ na = a.length ∧ nb = b.length ∧ nl = l.length) ∧ 0 ≤ u ∧ u ≤ 8) ∧ oa.size ≤ 9223372036854775807 := by
      by_cases h : logPuts ⟨a, b, l⟩ ⟨x, cs, es, ps, y, zs, u⟩ ⟨k, oa, ob, i, ox⟩ = true
      · rw [if_pos h] at hp; exact hp
      · rw [if_neg h] at hp; exact hp
    obtain ⟨⟨⟨⟨h1, h2, h3⟩, rfl, rfl, rfl⟩, u0, u1⟩, hoa⟩ := hp'
    simp only at h1 h2 h3
    have hput : putT ⟨x, cs, es, ps, y, zs, u⟩ ⟨k, oa, ob, i, ox⟩ = logT ⟨x, u, ⟨k, oa, ob, i, ox⟩⟩ := rfl
    have hdef : logPuts ⟨a, b, l⟩ ⟨x, cs, es, ps, y, zs, u⟩ ⟨k, oa, ob, i, ox⟩ = (!(same (putT ⟨x, cs, es, ps, y, zs, u⟩ ⟨k, oa, ob, i, ox⟩) ⟨#[]⟩) && (Dk.mk a b l).may2 (5 + u) (putT ⟨x, cs, es, ps, y, zs, u⟩ ⟨k, oa, ob, i, ox⟩)) := rfl
    have w1 : IntKind.i64.wrap (5 + u) = 5 + u := wrap_id _ (by omega) (by omega)
    have w2 : IntKind.i64.wrap (u + 1) = u + 1 := wrap_id _ (by omega) (by omega)
    have hts := logT_size ⟨x, u, ⟨k, oa, ob, i, ox⟩⟩
    clear hp
    obtain ⟨t, ht⟩ : ∃ t, logT ⟨x, u, ⟨k, oa, ob, i, ox⟩⟩ = t := ⟨_, rfl⟩
    rw [hput, ht] at hdef
    rw [ht] at hts hput
    have nt : (!true) = false := rfl
    have nf : (!false) = true := rfl
    cases hc : same t ⟨#[]⟩ with
    | true =>
      rw [hc] at hdef
      have hF : logPuts ⟨a, b, l⟩ ⟨x, cs, es, ps, y, zs, u⟩ ⟨k, oa, ob, i, ox⟩ = false := hdef
      cases hm : (Dk.mk a b l).may2 (5 + u) t with
      | true =>
        refine goh (And.intro ht (And.intro hc (And.intro w1 hm))) ?_
        refine W_cnd ?_ ?_ <;> intro hlit <;> try (cases hlit; done)
        refine goh trivial ?_
        exact finh [some 0, some 1, some 2, some 3, some 4, some 5, some 6, some 7, some 8] hF
      | false =>
        refine goh (And.intro ht (And.intro hc (And.intro w1 hm))) ?_
        refine W_cnd ?_ ?_ <;> intro hlit <;> try (cases hlit; done)
        refine goh trivial ?_
        exact finh [some 0, some 1, some 2, some 3, some 4, some 5, some 6, some 7, some 8] hF
    | false =>
      rw [hc, nf, Bool.true_and] at hdef
      cases hm : (Dk.mk a b l).may2 (5 + u) t with
      | false =>
        rw [hm] at hdef
        refine goh (And.intro ht (And.intro hc (And.intro w1 (And.intro hm nf)))) ?_
        refine W_cnd ?_ ?_ <;> intro hlit <;> try (cases hlit; done)
        refine goh trivial ?_
        exact finh [some 0, some 1, some 2, some 3, some 4, some 5, some 6, some 7, some 8] hdef
      | true =>
        rw [hm] at hdef
        refine goh (And.intro ht (And.intro hc (And.intro w1 (And.intro hm nt)))) ?_
        refine W_cnd ?_ ?_ <;> intro hlit <;> try (cases hlit; done)
        refine goh w2 ?_
        exact finh [some 0, some 1, some 2, some 3, some 4, some 5, some 6, some 7, some 8, some 10] (And.intro hdef hput)
  · simp [no] at hp
@[go_sem] def dcV (d : Dk) (c : Co) : List TV := [d.v 0, c.v 3]
@[go_sem] noncomputable def ctLogPut : Ct := ⟨false, [[some .str, some .str, some .late], [none, some .cset, some .ent, some .ptr, none, some .int, none]], fun args os => match args, os with
  | [.agg [.isl .str a, .isl .str b, .isl .late l], .agg [.val (.int .i64 x), .isl .cset cs, .isl .ent es, .isl .ptr ps, .val (.bool y), .isl .int zs, .val (.int .i64 u)], .agg [.val (.int .i64 k), .val (.string oa), .val (.string ob), .val (.int .i64 i), .val (.string ox)]], [] =>
    ⟨((Dk.mk a b l).small ∧ (Co.mk x cs es ps y zs u).fit) ∧ oa.size ≤ 9223372036854775807, .tup [(logPut ⟨a, b, l⟩ ⟨x, cs, es, ps, y, zs, u⟩ ⟨k, oa, ob, i, ox⟩).1.v 0, (logPut ⟨a, b, l⟩ ⟨x, cs, es, ps, y, zs, u⟩ ⟨k, oa, ob, i, ox⟩).2.1.v 3, vb (logPut ⟨a, b, l⟩ ⟨x, cs, es, ps, y, zs, u⟩ ⟨k, oa, ob, i, ox⟩).2.2], [], (logPut ⟨a, b, l⟩ ⟨x, cs, es, ps, y, zs, u⟩ ⟨k, oa, ob, i, ox⟩).1.objs ++ (logPut ⟨a, b, l⟩ ⟨x, cs, es, ps, y, zs, u⟩ ⟨k, oa, ob, i, ox⟩).2.1.objs⟩
  | _, _ => no⟩
theorem coreOk_logn {c : Co} (h : c.ok = true) : 0 ≤ c.logn ∧ c.logn ≤ 8 := by
  have := (Co.ok_true.1 h).logn
  omega
theorem s_logPut_e : EnterOk Tryz.prog 32 := ⟨_, Tryz.func32, rfl, by decide⟩
@[go_sem] def s_logPut_lv : List (List Nat) := [[3, 4, 5, 6, 7], [3, 4, 5, 6, 7, 18], [6, 7, 8], [3, 4, 5, 6, 7, 9, 10], [3, 4, 6, 7, 9, 10, 27], [6, 7, 8], [6, 7, 8]]
@[go_sem] noncomputable def s_logPut_K : Known := (((((Known.nil).cons 68 ctDiskOk s_diskOk s_diskOk_e).cons 97 ctCoreOk s_coreOk s_coreOk_e).cons 69 ctOwn s_own s_own_e).cons 98 ctToCore s_ownCore s_ownCore_e).cons 99 ctLogPutI s_logPutI s_logPutI_e
set_option maxHeartbeats 8000000 in
theorem s_logPut : Sound Tryz.prog 32 ctLogPut := by
  have ke := s_logPut_K.env []
  have kl : Lives s_logPut_lv := trivial
  refine sound_intro (E := ⟨ti, s_logPut_K.Γ, []⟩) ke Tryz.func32 Tryz.ntmps32 rfl (rs := [.cell 6 36, .cell 7 68, .tmp 8]) rfl ?_
  intro args os hp
  unfold ctLogPut at hp ⊢
  dsimp only at hp ⊢
  split at hp
  · rename_i a b l x cs es ps y zs u k oa ob i ox
    refine ⟨by simp, fun φ0 w0 => ?_⟩
    obtain ⟨⟨⟨g1, g2, g3⟩, hf⟩, hoa⟩ : ((Dk.mk a b l).small ∧ (Co.mk x cs es ps y zs u).fit) ∧ oa.size ≤ 9223372036854775807 := hp
    obtain ⟨f1, f2, f3, f4⟩ := hf.small
    simp only at g1 g2 g3 hf f1 f2 f3 f4
    obtain ⟨d, hd⟩ : ∃ d, Dk.mk a b l = d := ⟨_, rfl⟩
    have nt : (!true) = false := rfl
    have nf : (!false) = true := rfl
    cases hdk : (Dk.mk a b l).ok with
    | false =>
      have e : logPut ⟨a, b, l⟩ ⟨x, cs, es, ps, y, zs, u⟩ ⟨k, oa, ob, i, ox⟩ = (.nil, .nil, false) := by unfold logPut; rw [hdk]; rfl
      refine goh (And.intro hdk nf) ?_
      refine W_cnd ?_ ?_ <;> intro hlit <;> try (cases hlit; done)
      refine goh trivial ?_
      refine ⟨by (simp only [go_sem, e, Dk.nil, Co.nil, ↓reduceIte, reduceCtorEq, Nat.reduceAdd, Nat.reduceLT, Nat.reduceLeDiff, Nat.reduceEqDiff]) <;> trivial, [none, none, none, none, none, none, none], ?_⟩
      all_goals try simp only [go_sem, e, Dk.nil, Co.nil, inj_r, ↓reduceIte, reduceCtorEq, Nat.reduceAdd, Nat.reduceLT, Nat.reduceLeDiff, Nat.reduceEqDiff, Int.reduceEq]
      all_goals (repeat' refine And.intro ?_ ?_) <;> try exact shut7
    | true =>
      cases hco : (Co.mk x cs es ps y zs u).ok with
      | false =>
        have e : logPut ⟨a, b, l⟩ ⟨x, cs, es, ps, y, zs, u⟩ ⟨k, oa, ob, i, ox⟩ = (.nil, .nil, false) := by unfold logPut; rw [hdk, hco]; rfl
        refine goh (And.intro hdk (And.intro hco (And.intro nf nt))) ?_
        refine W_cnd ?_ ?_ <;> intro hlit <;> try (cases hlit; done)
        refine goh trivial ?_
        refine ⟨by (simp only [go_sem, e, Dk.nil, Co.nil, ↓reduceIte, reduceCtorEq, Nat.reduceAdd, Nat.reduceLT, Nat.reduceLeDiff, Nat.reduceEqDiff]) <;> trivial, [none, none, none, none, none, none, none], ?_⟩
        all_goals try simp only [go_sem, e, Dk.nil, Co.nil, inj_r, ↓reduceIte, reduceCtorEq, Nat.reduceAdd, Nat.reduceLT, Nat.reduceLeDiff, Nat.reduceEqDiff, Int.reduceEq]
        all_goals (repeat' refine And.intro ?_ ?_) <;> try exact shut7
      | true =>
        obtain ⟨u0, u1⟩ := coreOk_logn hco
        simp only at u0 u1
        have e : logPut ⟨a, b, l⟩ ⟨x, cs, es, ps, y, zs, u⟩ ⟨k, oa, ob, i, ox⟩ = if logPuts ⟨a, b, l⟩ ⟨x, cs, es, ps, y, zs, u⟩ ⟨k, oa, ob, i, ox⟩ = true then ((Dk.mk a b l).add2 (5 + u) (putT ⟨x, cs, es, ps, y, zs, u⟩ ⟨k, oa, ob, i, ox⟩), (Co.mk x cs es ps y zs u).more, true) else (⟨a, b, l⟩, ⟨x, cs, es, ps, y, zs, u⟩, false) := by unfold logPut; rw [hdk, hco]; rfl
        cases hm : logPuts ⟨a, b, l⟩ ⟨x, cs, es, ps, y, zs, u⟩ ⟨k, oa, ob, i, ox⟩ with
        | false =>
          rw [hm] at e
          refine goh (And.intro hdk (And.intro hco (And.intro hm (And.intro nt nf)))) ?_
          refine W_cnd ?_ ?_ <;> intro hlit <;> try (cases hlit; done)
          refine goh (And.intro hm (And.intro nt nf)) ?_
          refine W_cnd ?_ ?_ <;> intro hlit <;> try (cases hlit; done)
          refine goh hm ?_
          exact finh [some 14, some 15, some 16, some 17, some 18, some 19, some 20] e
        | true =>
          rw [hm] at e
          refine goh (And.intro hdk (And.intro hco (And.intro hm (And.intro nt nf)))) ?_
          refine W_cnd ?_ ?_ <;> intro hlit <;> try (cases hlit; done)
          refine goh (And.intro hm (And.intro nt nf)) ?_
          refine W_cnd ?_ ?_ <;> intro hlit <;> try (cases hlit; done)
          have ht : ∀ u v : Late, (l ++ [u] ++ [v]).take (l.length + 2) = l ++ [u] ++ [v] := fun u v => List.take_of_length_le (by simp)
          have e3 : a.length ≤ 120 ∧ b.length ≤ 120 ∧ l.length ≤ 600 := Dk.ok_small hdk
          obtain ⟨-, -, e3⟩ := e3
          refine goh (And.intro hm ht) ?_
          refine ⟨by (simp only [go_sem, e, Dk.add2, Co.more, ↓reduceIte, reduceCtorEq, Nat.reduceAdd, Nat.reduceLT, Nat.reduceLeDiff, Nat.reduceEqDiff]) <;> trivial, [some 15, some 16, some 17, some 8, some 9, some 10, some 11], ?_⟩
          all_goals try simp only [go_sem, e, Dk.add2, Co.more, inj_r, ↓reduceIte, reduceCtorEq, Nat.reduceAdd, Nat.reduceLT, Nat.reduceLeDiff, Nat.reduceEqDiff, Int.reduceEq]
          all_goals (repeat' refine And.intro ?_ ?_) <;> try exact shut7
  · simp [no] at hp
@[go_sem] noncomputable def ctL9Put : Ct := ⟨true, [], fun args os => match args, os with
  | [.agg [.osl .str 0 0 na, .osl .str 1 0 nb, .osl .late 2 0 nl], .agg [.val (.int .i64 x), .osl .cset 3 0 n1, .osl .ent 4 0 n2, .osl .ptr 5 0 n3, .val (.bool y), .osl .int 6 0 n4, .val (.int .i64 u)], .agg [.val (.int .i64 k), .val (.string oa), .val (.string ob), .val (.int .i64 i), .val (.string ox)]], [.arr .str a, .arr .str b, .arr .late l, .arr .cset cs, .arr .ent es, .arr .ptr ps, .arr .int zs] =>
    if logPuts ⟨a, b, l⟩ ⟨x, cs, es, ps, y, zs, u⟩ ⟨k, oa, ob, i, ox⟩ = true then
      ⟨(((Dk.mk a b l).ok = true ∧ na = a.length ∧ nb = b.length ∧ nl = l.length) ∧ 0 ≤ u ∧ u ≤ 8) ∧ oa.size ≤ 9223372036854775807, .tup [.agg [.osl .str 7 0 na, .osl .str 8 0 nb, .osl .late 9 0 (nl + 1 + 1)], .agg [.val (.int .i64 x), .osl .cset 3 0 n1, .osl .ent 4 0 n2, .osl .ptr 5 0 n3, .val (.bool y), .osl .int 6 0 n4, .val (.int .i64 (u + 1))], vb true], [], [.arr .str a, .arr .str b, .arr .late (l ++ [⟨0, 5 + u, putT ⟨x, cs, es, ps, y, zs, u⟩ ⟨k, oa, ob, i, ox⟩⟩] ++ [⟨1, 5 + u, putT ⟨x, cs, es, ps, y, zs, u⟩ ⟨k, oa, ob, i, ox⟩⟩])]⟩
    else ⟨(((Dk.mk a b l).ok = true ∧ na = a.length ∧ nb = b.length ∧ nl = l.length) ∧ 0 ≤ u ∧ u ≤ 8) ∧ oa.size ≤ 9223372036854775807, .tup [.agg [.osl .str 0 0 na, .osl .str 1 0 nb, .osl .late 2 0 nl], .agg [.val (.int .i64 x), .osl .cset 3 0 n1, .osl .ent 4 0 n2, .osl .ptr 5 0 n3, .val (.bool y), .osl .int 6 0 n4, .val (.int .i64 u)], vb false], [], []⟩
  | _, _ => no⟩
theorem s_l9Put_e : EnterOk Tryz.prog 90 := ⟨_, Tryz.func90, rfl, by decide⟩
@[go_sem] def s_l9Put_lv : List (List Nat) := [[3, 4, 5, 6, 7], [3, 4, 6, 7, 9], [3, 4, 6, 7, 9, 20], [6, 7, 8], [3, 4, 6, 7, 10, 11], [3, 4, 6, 7, 10, 33], [6, 7, 8], [4, 6, 7, 10], [6, 7, 8]]
@[go_sem] noncomputable def s_l9Put_K : Known := ((Known.nil).cons 11 ctLogText s_specLogText s_specLogText_e).cons 163 ctBlkWrite s_specBlkWrite s_specBlkWrite_e
set_option maxHeartbeats 8000000 in
theorem s_l9Put : Sound Tryz.prog 90 ctL9Put := by
  have ke := s_l9Put_K.env []
  have kl : Lives s_l9Put_lv := trivial
  refine sound_intro (E := ⟨ti, s_l9Put_K.Γ, []⟩) ke Tryz.func90 Tryz.ntmps90 rfl (rs := [.cell 6 36, .cell 7 68, .tmp 8]) rfl ?_
  intro args os hp
  unfold ctL9Put at hp ⊢
  dsimp only at hp ⊢
  split at hp
  · rename_i na nb nl x n1 n2 n3 y n4 u k oa ob i ox a b l cs es ps zs
    refine ⟨by simp, fun φ0 w0 => ?_⟩
    have hp' : (((Dk.mk a b l).ok = true ∧ na = a.length ∧ nb = b.length ∧ nl = l.length) ∧ 0 ≤ u ∧ u ≤ 8) ∧ oa.size ≤ 9223372036854775807 := by
      by_cases h : logPuts ⟨a, b, l⟩ ⟨x, cs, es, ps, y, zs, u⟩ ⟨k, oa, ob, i, ox⟩ = true
      · rw [if_pos h] at hp; exact hp
      · rw [if_neg h] at hp; exact hp
    obtain ⟨⟨⟨hok, rfl, rfl, rfl⟩, u0, u1⟩, hoa⟩ := hp'
    have e3 : a.length ≤ 120 ∧ b.length ≤ 120 ∧ l.length ≤ 600 := Dk.ok_small hok
    obtain ⟨h1, h2, h3⟩ := e3
    have hput : putT ⟨x, cs, es, ps, y, zs, u⟩ ⟨k, oa, ob, i, ox⟩ = logT ⟨x, u, ⟨k, oa, ob, i, ox⟩⟩ := rfl
    have hdef : logPuts ⟨a, b, l⟩ ⟨x, cs, es, ps, y, zs, u⟩ ⟨k, oa, ob, i, ox⟩ = (!(same (putT ⟨x, cs, es, ps, y, zs, u⟩ ⟨k, oa, ob, i, ox⟩) ⟨#[]⟩) && (Dk.mk a b l).may2 (5 + u) (putT ⟨x, cs, es, ps, y, zs, u⟩ ⟨k, oa, ob, i, ox⟩)) := rfl
    have w1 : IntKind.i64.wrap (5 + u) = 5 + u := wrap_id _ (by omega) (by omega)
    have w2 : IntKind.i64.wrap (u + 1) = u + 1 := wrap_id _ (by omega) (by omega)
    have hts := logT_size ⟨x, u, ⟨k, oa, ob, i, ox⟩⟩
    clear hp
    obtain ⟨t, ht⟩ : ∃ t, logT ⟨x, u, ⟨k, oa, ob, i, ox⟩⟩ = t := ⟨_, rfl⟩
    rw [hput, ht] at hdef
    rw [ht] at hts hput
    have nt : (!true) = false := rfl
    have nf : (!false) = true := rfl
    cases hc : same t ⟨#[]⟩ with
    | true =>
      rw [hc] at hdef
      have hF : logPuts ⟨a, b, l⟩ ⟨x, cs, es, ps, y, zs, u⟩ ⟨k, oa, ob, i, ox⟩ = false := hdef
      refine goh (And.intro ht hc) ?_
      refine W_cnd ?_ ?_ <;> intro hlit <;> try (cases hlit; done)
      refine goh trivial ?_
      exact finh [some 0, some 1, some 2, some 3, some 4, some 5, some 6] hF
    | false =>
      rw [hc, nf, Bool.true_and] at hdef
      refine goh (And.intro ht hc) ?_
      refine W_cnd ?_ ?_ <;> intro hlit <;> try (cases hlit; done)
      cases hm : (Dk.mk a b l).may2 (5 + u) t with
      | false =>
        rw [hm] at hdef
        have b1 : blkWrite ⟨a, b, l⟩ (5 + u) t = ⟨a, b, l⟩ := by unfold blkWrite; rw [if_pos hok, hm]; rfl
        have b2 : blkWrites ⟨a, b, l⟩ (5 + u) t = false := by unfold blkWrites; rw [hok, hm]; rfl
        refine goh (And.intro ht (And.intro w1 (And.intro b1 (And.intro b2 nf)))) ?_
        refine W_cnd ?_ ?_ <;> intro hlit <;> try (cases hlit; done)
        refine goh trivial ?_
        exact finh [some 0, some 1, some 2, some 3, some 4, some 5, some 6] hdef
      | true =>
        rw [hm] at hdef
        have b1 : blkWrite ⟨a, b, l⟩ (5 + u) t = ⟨a, b, l ++ [⟨0, 5 + u, t⟩] ++ [⟨1, 5 + u, t⟩]⟩ := by unfold blkWrite; rw [if_pos hok, hm]; rfl
        have b2 : blkWrites ⟨a, b, l⟩ (5 + u) t = true := by unfold blkWrites; rw [hok, hm]; rfl
        refine goh (And.intro ht (And.intro w1 (And.intro b1 (And.intro b2 nt)))) ?_
        refine W_cnd ?_ ?_ <;> intro hlit <;> try (cases hlit; done)
        refine goh w2 ?_
        exact finh [some 0, some 1, some 2, some 3, some 4, some 5, some 6, some 12, some 13, some 14] (And.intro hdef hput)
  · simp [no] at hp
theorem s_specLogPut_e : EnterOk Tryz.prog 29 := ⟨_, Tryz.func29, rfl, by decide⟩
@[go_sem] def s_specLogPut_lv : List (List Nat) := [[3, 4, 5, 6, 7], [3, 4, 5, 6, 7, 16], [6, 7, 8], [6, 7, 8]]
@[go_sem] noncomputable def s_specLogPut_K : Known := (((((Known.nil).cons 88 ctDiskOk s_specDiskOk s_specDiskOk_e).cons 89 ctCoreOk s_specCoreOk s_specCoreOk_e).cons 91 ctOwn s_copy s_copy_e).cons 92 ctToCore s_l6Copy s_l6Copy_e).cons 90 ctL9Put s_l9Put s_l9Put_e
set_option maxHeartbeats 8000000 in
theorem s_specLogPut : Sound Tryz.prog 29 ctLogPut := by
  have ke := s_specLogPut_K.env []
  have kl : Lives s_specLogPut_lv := trivial
  refine sound_intro (E := ⟨ti, s_specLogPut_K.Γ, []⟩) ke Tryz.func29 Tryz.ntmps29 rfl (rs := [.cell 6 36, .cell 7 68, .tmp 8]) rfl ?_
  intro args os hp
  unfold ctLogPut at hp ⊢
  dsimp only at hp ⊢
  split at hp
  · rename_i a b l x cs es ps y zs u k oa ob i ox
    refine ⟨by simp, fun φ0 w0 => ?_⟩
    obtain ⟨⟨⟨g1, g2, g3⟩, hf⟩, hoa⟩ : ((Dk.mk a b l).small ∧ (Co.mk x cs es ps y zs u).fit) ∧ oa.size ≤ 9223372036854775807 := hp
    obtain ⟨f1, f2, f3, f4⟩ := hf.small
    simp only at g1 g2 g3 hf f1 f2 f3 f4
    have nt : (!true) = false := rfl
    have nf : (!false) = true := rfl
    cases hdk : (Dk.mk a b l).ok with
    | false =>
      have e : logPut ⟨a, b, l⟩ ⟨x, cs, es, ps, y, zs, u⟩ ⟨k, oa, ob, i, ox⟩ = (.nil, .nil, false) := by unfold logPut; rw [hdk]; rfl
      refine goh (And.intro hdk nf) ?_
      refine W_cnd ?_ ?_ <;> intro hlit <;> try (cases hlit; done)
      refine goh trivial ?_
      refine ⟨by (simp only [go_sem, e, Dk.nil, Co.nil, ↓reduceIte, reduceCtorEq, Nat.reduceAdd, Nat.reduceLT, Nat.reduceLeDiff, Nat.reduceEqDiff]) <;> trivial, [none, none, none, none, none, none, none], ?_⟩
      all_goals try simp only [go_sem, e, Dk.nil, Co.nil, inj_r, ↓reduceIte, reduceCtorEq, Nat.reduceAdd, Nat.reduceLT, Nat.reduceLeDiff, Nat.reduceEqDiff, Int.reduceEq]
      all_goals (repeat' refine And.intro ?_ ?_) <;> try exact shut7
    | true =>
      cases hco : (Co.mk x cs es ps y zs u).ok with
      | false =>
        have e : logPut ⟨a, b, l⟩ ⟨x, cs, es, ps, y, zs, u⟩ ⟨k, oa, ob, i, ox⟩ = (.nil, .nil, false) := by unfold logPut; rw [hdk, hco]; rfl
        refine goh (And.intro hdk (And.intro hco (And.intro nf nt))) ?_
        refine W_cnd ?_ ?_ <;> intro hlit <;> try (cases hlit; done)
        refine goh trivial ?_
        refine ⟨by (simp only [go_sem, e, Dk.nil, Co.nil, ↓reduceIte, reduceCtorEq, Nat.reduceAdd, Nat.reduceLT, Nat.reduceLeDiff, Nat.reduceEqDiff]) <;> trivial, [none, none, none, none, none, none, none], ?_⟩
        all_goals try simp only [go_sem, e, Dk.nil, Co.nil, inj_r, ↓reduceIte, reduceCtorEq, Nat.reduceAdd, Nat.reduceLT, Nat.reduceLeDiff, Nat.reduceEqDiff, Int.reduceEq]
        all_goals (repeat' refine And.intro ?_ ?_) <;> try exact shut7
      | true =>
        obtain ⟨u0, u1⟩ := coreOk_logn hco
        simp only at u0 u1
        have e : logPut ⟨a, b, l⟩ ⟨x, cs, es, ps, y, zs, u⟩ ⟨k, oa, ob, i, ox⟩ = if logPuts ⟨a, b, l⟩ ⟨x, cs, es, ps, y, zs, u⟩ ⟨k, oa, ob, i, ox⟩ = true then ((Dk.mk a b l).add2 (5 + u) (putT ⟨x, cs, es, ps, y, zs, u⟩ ⟨k, oa, ob, i, ox⟩), (Co.mk x cs es ps y zs u).more, true) else (⟨a, b, l⟩, ⟨x, cs, es, ps, y, zs, u⟩, false) := by unfold logPut; rw [hdk, hco]; rfl
        cases hm : logPuts ⟨a, b, l⟩ ⟨x, cs, es, ps, y, zs, u⟩ ⟨k, oa, ob, i, ox⟩ with
        | false =>
          rw [hm] at e
          refine goh (And.intro hdk (And.intro hco (And.intro hm nt))) ?_
          refine W_cnd ?_ ?_ <;> intro hlit <;> try (cases hlit; done)
          refine goh hm ?_
          exact finh [some 5, some 6, some 7, some 8, some 9, some 10, some 11] e
        | true =>
          rw [hm] at e
          refine goh (And.intro hdk (And.intro hco (And.intro hm nt))) ?_
          refine W_cnd ?_ ?_ <;> intro hlit <;> try (cases hlit; done)
          refine goh hm ?_
          refine ⟨by (simp only [go_sem, e, Dk.add2, Co.more, ↓reduceIte, reduceCtorEq, Nat.reduceAdd, Nat.reduceLT, Nat.reduceLeDiff, Nat.reduceEqDiff]) <;> trivial, [some 12, some 13, some 14, some 8, some 9, some 10, some 11], ?_⟩
          all_goals try simp only [go_sem, e, Dk.add2, Co.more, inj_r, ↓reduceIte, reduceCtorEq, Nat.reduceAdd, Nat.reduceLT, Nat.reduceLeDiff, Nat.reduceEqDiff, Int.reduceEq]
          all_goals (repeat' refine And.intro ?_ ?_) <;> try exact shut7
  · simp [no] at hp
end Go.Proofs.YtmnbgppmfbnamaaGreatDoor
/- Plain facts: the lists of what comes out when a record is put are not long. -/
namespace Go.Proofs.YtmnbgppmfbnamaaGreatDoor
open Go.RowKit

theorem mid_logPut {d : Dk} {c : Co} (h : d.a.length ≤ 1048576 ∧ d.b.length ≤ 1048576 ∧ d.l.length ≤ 1048576) (h2 : c.sets.length ≤ 1048576 ∧ c.ddt.length ≤ 1048576 ∧ c.parts.length ≤ 1048576 ∧ c.safe.length ≤ 1048576) (o : BOp) : (logPut d c o).1.mid ∧ (logPut d c o).2.1.mid := by
  unfold logPut
  split
  · split
    · refine ⟨⟨?_, ?_, ?_⟩, Co.mid_of h2⟩
      · show d.a.length ≤ _; omega
      · show d.b.length ≤ _; omega
      · show (d.l ++ [_] ++ [_]).length ≤ _; simp; omega
    · exact ⟨Dk.mid_of h, Co.mid_of h2⟩
  · exact ⟨Dk.mid_nil, Co.mid_nil⟩
end Go.Proofs.YtmnbgppmfbnamaaGreatDoor
/- The exact law of LogPut. -/
namespace Go.Proofs.YtmnbgppmfbnamaaGreatDoor
open Go.RowKit

@[go_sem] def ct_s_xLogPut : Ct := ⟨false, [[some .str, some .str, some .late], [none, some .cset, some .ent, some .ptr, none, some .int, none]], fun args os => match args, os with
  | [.agg [.isl .str a, .isl .str b, .isl .late l], .agg [.val (.int .i64 x), .isl .cset cs, .isl .ent es, .isl .ptr ps, .val (.bool y), .isl .int zs, .val (.int .i64 u)], .agg [.val (.int .i64 k), .val (.string oa), .val (.string ob), .val (.int .i64 i), .val (.string ox)]], [] => ifp ((Dk.mk a b l).inn ∧ (Co.mk x cs es ps y zs u).inn ∧ (BOp.mk k oa ob i ox).inn) (vb true)
  | _, _ => no⟩
theorem s_xLogPut_e : EnterOk Tryz.prog 5 := ⟨_, Tryz.func5, rfl, by decide⟩
@[go_sem] def s_xLogPut_lv : List (List Nat) := [[3, 4, 5], [3, 4, 5, 7], [3, 4, 5, 7], [3, 4, 5, 7, 26], [6], [3, 4, 5, 7], [3, 4, 5, 7, 31], [6], [3, 4, 5, 7], [3, 4, 5, 36], [6], [3, 4, 5, 8, 9, 10], [3, 4, 5, 8, 9, 10, 11], [3, 4, 5, 8, 9, 10, 11, 12], [3, 4, 5, 8, 9, 10, 11, 12, 13, 14, 15], [3, 4, 5, 8, 9, 10, 11, 12, 13, 14, 15, 75], [6], [3, 4, 5, 8, 9, 10, 11, 12, 13, 14, 15, 80], [6], [3, 4, 5, 8, 9, 10, 11, 12, 13, 14, 15, 85], [6], [3, 4, 5, 8, 9, 10, 11, 12, 13, 14, 15, 16], [3, 4, 5, 8, 9, 10, 12, 13, 14, 15, 16], [3, 4, 5, 8, 9, 10, 13, 14, 15, 16], [3, 4, 5, 8, 9, 10, 13, 14, 110], [6], [3, 4, 5, 8, 9, 10, 13, 14, 17], [3, 4, 5, 8, 9, 10, 13, 14, 17], [3, 4, 5, 8, 9, 10, 13, 14, 17], [3, 4, 5, 8, 9, 10, 13, 14, 17, 18], [3, 4, 5, 8, 9, 10, 13, 14, 17, 18], [3, 4, 5, 8, 9, 10, 13, 14, 17, 18, 121], [6], [3, 4, 5, 8, 9, 10, 13, 14, 17, 18], [3, 4, 5, 8, 9, 10, 13, 14, 17, 18, 126], [6], [3, 4, 5, 8, 9, 10, 13, 14, 17, 129], [6], [8, 9, 10, 13, 14, 17, 19, 20, 21], [13, 14, 17, 155], [6], [13, 14, 17, 18], [14, 17, 18], [14, 17, 18, 160], [6], [17, 18], [17, 18, 165], [6], [168], [6], [6]]
@[go_sem] noncomputable def s_xLogPut_K : Known := ((((((((((((((Known.nil).cons 18 ctSzDisk s_szDisk s_szDisk_e).cons 27 ctSzCore s_szCore s_szCore_e).cons 28 ctSzBop s_szBop s_szBop_e).cons 20 ctToDisk s_toDisk s_toDisk_e).cons 30 ctToCore s_toCore s_toCore_e).cons 31 ctToBop s_toBop s_toBop_e).cons 29 ctLogPut s_specLogPut s_specLogPut_e).cons 32 ctLogPut s_logPut s_logPut_e).cons 23 ctEqDisk s_eqDisk s_eqDisk_e).cons 33 ctEqCore s_eqCore s_eqCore_e).cons 24 ctMarkDisk s_markDisk s_markDisk_e).cons 34 ctMarkCore s_markCore s_markCore_e).cons 35 ctHeldDisk s_heldDisk s_heldDisk_e).cons 36 ctHeldCore s_heldCore s_heldCore_e
set_option maxHeartbeats 8000000 in
theorem s_xLogPut : Sound Tryz.prog 5 ct_s_xLogPut := by
  have ke := s_xLogPut_K.env []
  have kl : Lives s_xLogPut_lv := trivial
  refine sound_intro (E := ⟨ti, s_xLogPut_K.Γ, []⟩) ke Tryz.func5 Tryz.ntmps5 rfl (rs := [.tmp 6]) rfl ?_
  intro args os hp
  unfold ct_s_xLogPut at hp ⊢
  dsimp only at hp ⊢
  split at hp
  · rename_i a b l x cs es ps y zs u k oa ob i ox
    refine ⟨by simp, fun φ0 w0 => ?_⟩
    obtain ⟨idisk, icore, iop⟩ : (Dk.mk a b l).inn ∧ (Co.mk x cs es ps y zs u).inn ∧ (BOp.mk k oa ob i ox).inn := hp
    have j0 := szW_in (Dk.mk a b l).wt (1048576) (by omega)
    refine goh trivial ?_
    refine W_cnd ?_ ?_ <;> (try simp only [cnd_r]) <;> intro hg0
    · refine goh trivial ?_
      exact finh [] trivial
    · skip
      obtain ⟨z1, z2, z3⟩ := wt_small (n := 1048576) (d := ⟨a, b, l⟩) (by omega)
      simp only at z1 z2 z3
      obtain ⟨m0, hm0⟩ : ∃ m, szW (Dk.mk a b l).wt (1048576) = m := ⟨_, rfl⟩
      rw [hm0] at hg0 j0
      have j1 := szW_in (Co.mk x cs es ps y zs u).wt (m0) (by omega)
      refine goh hm0 ?_
      refine W_cnd ?_ ?_ <;> (try simp only [cnd_r]) <;> intro hg1
      · refine goh trivial ?_
        exact finh [] trivial
      · skip
        obtain ⟨⟨z4, z5, z6, z7⟩, hfit⟩ := icore.fit (n := m0) (by omega) (by omega)
        obtain ⟨f4, f5, f6, f7⟩ := hfit.small
        simp only at f4 f5 f6 f7
        obtain ⟨m1, hm1⟩ : ∃ m, szW (Co.mk x cs es ps y zs u).wt (m0) = m := ⟨_, rfl⟩
        rw [hm1] at hg1 j1
        have j2 := szW_in (BOp.mk k oa ob i ox).wt (m1) (by omega)
        refine goh (And.intro hm0 hm1) ?_
        refine W_cnd ?_ ?_ <;> (try simp only [cnd_r]) <;> intro hg2
        · refine goh trivial ?_
          exact finh [] trivial
        · skip
          obtain ⟨m2, hm2⟩ : ∃ m, szW (BOp.mk k oa ob i ox).wt (m1) = m := ⟨_, rfl⟩
          rw [hm2] at hg2 j2
          have hoa : oa.size ≤ 9223372036854775807 := iop.a
          have nt : (!true) = false := rfl
          have nf : (!false) = true := rfl
          have hmid := mid_logPut (d := ⟨a, b, l⟩) (c := ⟨x, cs, es, ps, y, zs, u⟩) ⟨by simp only; omega, by simp only; omega, by simp only; omega⟩ ⟨by simp only; omega, by simp only; omega, by simp only; omega, by simp only; omega⟩ ⟨k, oa, ob, i, ox⟩
          obtain ⟨r, hx⟩ : ∃ r, logPut ⟨a, b, l⟩ ⟨x, cs, es, ps, y, zs, u⟩ ⟨k, oa, ob, i, ox⟩ = r := ⟨_, rfl⟩
          rw [hx] at hmid
          obtain ⟨r0, r1, r2⟩ := r
          obtain ⟨⟨y00, y01, y02⟩, ⟨y10, y11, y12, y13⟩⟩ := hmid
          simp only at y00 y01 y02 y10 y11 y12 y13
          have c0 : decide ((1 : Int) + (a.length : Int) + b.length + 3 * l.length + 7 * cs.length + 3 * es.length + 3 * ps.length + zs.length < 0) = false := by simp; omega
          have c1 : decide ((1 : Int) + (r0.a.length : Int) + r0.b.length + 3 * r0.l.length < 0) = false := by simp; omega
          have c2 : decide ((1 : Int) + (r0.a.length : Int) + r0.b.length + 3 * r0.l.length + 7 * r1.sets.length + 3 * r1.ddt.length + 3 * r1.parts.length + r1.safe.length < 0) = false := by simp; omega
          refine goh (And.intro hx (And.intro nt (And.intro nf (And.intro c0 (And.intro c1 c2))))) ?_
          refine W_cnd ?_ ?_ <;> intro hlit <;> try (cases hlit; done)
          refine goh (And.intro hx (And.intro nt (And.intro nf (And.intro c0 (And.intro c1 c2))))) ?_
          refine W_cnd ?_ ?_ <;> intro hlit <;> try (cases hlit; done)
          refine goh (And.intro hx (And.intro nt (And.intro nf (And.intro c0 (And.intro c1 c2))))) ?_
          refine W_cnd ?_ ?_ <;> intro hlit <;> try (cases hlit; done)
          refine goh (And.intro hx (And.intro nt (And.intro nf (And.intro c0 (And.intro c1 c2))))) ?_
          refine W_cnd ?_ ?_ <;> intro hlit <;> try (cases hlit; done)
          refine goh (And.intro hx (And.intro nt (And.intro nf (And.intro c0 (And.intro c1 c2))))) ?_
          refine W_cnd ?_ ?_ <;> intro hlit <;> try (cases hlit; done)
          refine goh (And.intro hx (And.intro nt (And.intro nf (And.intro c0 (And.intro c1 c2))))) ?_
          refine W_cnd ?_ ?_ <;> intro hlit <;> try (cases hlit; done)
          refine goh (And.intro hx (And.intro nt (And.intro nf (And.intro c0 (And.intro c1 c2))))) ?_
          refine W_cnd ?_ ?_ <;> intro hlit <;> try (cases hlit; done)
          refine goh (And.intro hx (And.intro nt (And.intro nf (And.intro c0 (And.intro c1 c2))))) ?_
          refine W_cnd ?_ ?_ <;> intro hlit <;> try (cases hlit; done)
          refine goh (And.intro hx (And.intro nt (And.intro nf (And.intro c0 (And.intro c1 c2))))) ?_
          refine W_cnd ?_ ?_ <;> intro hlit <;> try (cases hlit; done)
          refine goh (And.intro hx (And.intro nt (And.intro nf (And.intro c0 (And.intro c1 c2))))) ?_
          refine W_cnd ?_ ?_ <;> intro hlit <;> try (cases hlit; done)
          refine goh (And.intro hx (And.intro nt (And.intro nf (And.intro c0 (And.intro c1 c2))))) ?_
          refine W_cnd ?_ ?_ <;> intro hlit <;> try (cases hlit; done)
          refine goh trivial ?_
          exact finh [] trivial
  · simp [no, ifp, is] at hp
end Go.Proofs.YtmnbgppmfbnamaaGreatDoor
