import Derived.Test.YtmnbgppmfbnamaaGreatDoorM17
set_option linter.unusedSimpArgs false
set_option linter.unusedVariables false
set_option linter.unusedSectionVars false
/- Functions: a record's text. -/
namespace Go.Proofs.YtmnbgppmfbnamaaGreatDoor
open Go.RowKit

@[go_sem] noncomputable def ctLogText : Ct := ⟨false, [], fun args os => match args, os with
  | [.agg [.val (.int .i64 t), .val (.int .i64 s), .val (.int .i64 k), .val (.string a), .val (.string b), .val (.int .i64 i), .val (.string x)]], [] => ifp (a.size ≤ 9223372036854775807) (vs (logT ⟨t, s, ⟨k, a, b, i, x⟩⟩))
  | _, _ => no⟩
theorem joinV_five (c : UInt8) (x y z u v : ByteArray) : joinV ⟨#[c]⟩ [x, y, z, u, v] = x ++ ⟨#[c]⟩ ++ y ++ ⟨#[c]⟩ ++ z ++ ⟨#[c]⟩ ++ u ++ ⟨#[c]⟩ ++ v := by
  unfold joinV
  rw [lib_join]
  show bytesL (x.data.toList ++ [c] ++ (y.data.toList ++ [c] ++ (z.data.toList ++ [c] ++ (u.data.toList ++ [c] ++ v.data.toList)))) = _
  simp only [bytesL_app, bytesL_data]
  have e : bytesL [c] = ⟨#[c]⟩ := rfl
  rw [e]
  simp only [ByteArray.append_assoc]
theorem joinV_two (c : UInt8) (x y : ByteArray) : joinV ⟨#[c]⟩ [x, y] = x ++ ⟨#[c]⟩ ++ y := by
  unfold joinV
  rw [lib_join]
  show bytesL (x.data.toList ++ [c] ++ y.data.toList) = _
  simp only [bytesL_app, bytesL_data]
  rfl
theorem hexV_nil {x : ByteArray} : same (hexV x) ⟨#[]⟩ = decide (x.size = 0) := by
  rw [Bool.eq_iff_iff, same_true, decide_eq_true_eq]
  have h := hexV_size x
  constructor
  · intro e; rw [e] at h; have : (⟨#[]⟩ : ByteArray).size = 0 := rfl; omega
  · intro e
    apply ByteArray.ext
    exact Array.eq_empty_of_size_eq_zero (show (hexV x).size = 0 by omega)
theorem s_logText_e : EnterOk Tryz.prog 9 := ⟨_, Tryz.func9, rfl, by decide⟩
@[go_sem] def s_logText_lv : List (List Nat) := [[1], [1, 3], [1, 3, 45], [2], [3, 4], [3, 4, 5], [3, 4, 5, 56], [3, 4, 5], [2]]
@[go_sem] noncomputable def s_logText_K : Known := ((((((((Known.nil).cons 46 ctWithin s_within s_within_e).cons 47 ctName s_bookName s_bookName_e).cons 48 ctIsBlock s_isBlock s_isBlock_e).cons 49 ctPoints s_points s_points_e).cons 50 ctHex s_hex s_hex_e).cons 53 ctItoa s_itoa s_itoa_e).cons 52 ctJoin s_join s_join_e).cons 51 ctSeal s_seal s_seal_e
set_option maxHeartbeats 8000000 in
theorem s_logText : Sound Tryz.prog 9 ctLogText := by
  have ke := s_logText_K.env []
  have kl : Lives s_logText_lv := trivial
  refine sound_intro (E := ⟨ti, s_logText_K.Γ, []⟩) ke Tryz.func9 Tryz.ntmps9 rfl (rs := [.tmp 2]) rfl ?_
  intro args os hp
  unfold ctLogText at hp ⊢
  dsimp only at hp ⊢
  split at hp
  · rename_i t s k a b i x
    refine ⟨by simp, fun φ0 w0 => ?_⟩
    have hna : a.size ≤ 9223372036854775807 := hp
    clear hp
    have nt : (!true) = false := rfl
    have nf : (!false) = true := rfl
    by_cases pc1 : 1 ≤ t ∧ t ≤ 1000000
    rotate_left
    · have e := logT_no (r := ⟨t, s, ⟨k, a, b, i, x⟩⟩) (fun h => pc1 ⟨h.t0, h.t1⟩)
      have c1 : (decide (1 ≤ t) && decide (t ≤ 1000000)) = false := by rw [Bool.and_eq_false_iff, decide_eq_false_iff_not, decide_eq_false_iff_not]; omega
      refine goh (And.intro c1 (And.intro hna (And.intro nt nf))) ?_
      refine W_cnd ?_ ?_ <;> intro hlit <;> try (cases hlit; done)
      refine goh trivial ?_
      exact finh [] e
    have c1 : (decide (1 ≤ t) && decide (t ≤ 1000000)) = true := by simp; omega
    by_cases pc2 : 0 ≤ s ∧ s ≤ 7
    rotate_left
    · have e := logT_no (r := ⟨t, s, ⟨k, a, b, i, x⟩⟩) (fun h => pc2 ⟨h.s0, h.s1⟩)
      have c2 : (decide (0 ≤ s) && decide (s ≤ 7)) = false := by rw [Bool.and_eq_false_iff, decide_eq_false_iff_not, decide_eq_false_iff_not]; omega
      refine goh (And.intro c1 (And.intro c2 (And.intro hna (And.intro nt nf)))) ?_
      refine W_cnd ?_ ?_ <;> intro hlit <;> try (cases hlit; done)
      refine goh trivial ?_
      exact finh [] e
    have c2 : (decide (0 ≤ s) && decide (s ≤ 7)) = true := by simp; omega
    by_cases pc3 : k = 3
    rotate_left
    · have e := logT_no (r := ⟨t, s, ⟨k, a, b, i, x⟩⟩) (fun h => pc3 h.k)
      have c3 : (k != 3) = true := by simp [pc3]
      refine goh (And.intro c1 (And.intro c2 (And.intro c3 (And.intro hna (And.intro nt nf))))) ?_
      refine W_cnd ?_ ?_ <;> intro hlit <;> try (cases hlit; done)
      refine goh trivial ?_
      exact finh [] e
    have c3 : (k != 3) = false := by simp [pc3]
    by_cases pc4 : nameB a = true
    rotate_left
    · have e := logT_no (r := ⟨t, s, ⟨k, a, b, i, x⟩⟩) (fun h => pc4 h.a)
      have c4 : nameB a = false := by simpa using pc4
      refine goh (And.intro c1 (And.intro c2 (And.intro c3 (And.intro c4 (And.intro hna (And.intro nt nf)))))) ?_
      refine W_cnd ?_ ?_ <;> intro hlit <;> try (cases hlit; done)
      refine goh trivial ?_
      exact finh [] e
    have c4 : nameB a = true := pc4
    by_cases pc5 : b = ⟨#[]⟩
    rotate_left
    · have e := logT_no (r := ⟨t, s, ⟨k, a, b, i, x⟩⟩) (fun h => pc5 h.b)
      have c5 : same b ⟨#[]⟩ = false := same_false.2 pc5
      refine goh (And.intro c1 (And.intro c2 (And.intro c3 (And.intro c4 (And.intro c5 (And.intro hna (And.intro nt nf))))))) ?_
      refine W_cnd ?_ ?_ <;> intro hlit <;> try (cases hlit; done)
      refine goh trivial ?_
      exact finh [] e
    have c5 : same b ⟨#[]⟩ = true := same_true.2 pc5
    by_cases pc6 : 0 ≤ i ∧ i ≤ 7
    rotate_left
    · have e := logT_no (r := ⟨t, s, ⟨k, a, b, i, x⟩⟩) (fun h => pc6 ⟨h.i0, h.i1⟩)
      have c6 : (decide (0 ≤ i) && decide (i ≤ 7)) = false := by rw [Bool.and_eq_false_iff, decide_eq_false_iff_not, decide_eq_false_iff_not]; omega
      refine goh (And.intro c1 (And.intro c2 (And.intro c3 (And.intro c4 (And.intro c5 (And.intro c6 (And.intro hna (And.intro nt nf)))))))) ?_
      refine W_cnd ?_ ?_ <;> intro hlit <;> try (cases hlit; done)
      refine goh trivial ?_
      exact finh [] e
    have c6 : (decide (0 ≤ i) && decide (i ≤ 7)) = true := by simp; omega
    by_cases pc7 : x.size ≤ 24
    rotate_left
    · have e := logT_no (r := ⟨t, s, ⟨k, a, b, i, x⟩⟩) (fun h => pc7 h.x)
      have c7 : decide ((x.size : Int) > 24) = true := by simp; omega
      refine goh (And.intro c1 (And.intro c2 (And.intro c3 (And.intro c4 (And.intro c5 (And.intro c6 (And.intro c7 (And.intro hna (And.intro nt nf))))))))) ?_
      refine W_cnd ?_ ?_ <;> intro hlit <;> try (cases hlit; done)
      refine goh trivial ?_
      exact finh [] e
    have c7 : decide ((x.size : Int) > 24) = false := by simp; omega
    have hok : LogOk ⟨t, s, ⟨k, a, b, i, x⟩⟩ := ⟨pc1.1, pc1.2, pc2.1, pc2.2, pc3, pc4, pc5, pc6.1, pc6.2, pc7⟩
    have eT := logT_ok hok
    have hIs := logI_size hok
    have hin : ∀ j : Nat, -9223372036854775808 ≤ [t, s].getD j ET.int.dflt ∧ [t, s].getD j ET.int.dflt ≤ 9223372036854775807 := fun j => by
      have hd : ET.int.dflt = (0 : Int) := rfl
      have := hok.t0; have := hok.t1; have := hok.s0; have := hok.s1
      simp only at *
      match j with
      | 0 => simp; omega
      | 1 => simp; omega
      | j + 2 => simp [hd]
    have hi1 : -9223372036854775808 ≤ i ∧ i ≤ 9223372036854775807 := by have := hok.i0; have := hok.i1; simp only at *; omega
    have ht1 : -9223372036854775808 ≤ t ∧ t ≤ 9223372036854775807 := by have := hok.t0; have := hok.t1; simp only at *; omega
    have hs1 : -9223372036854775808 ≤ s ∧ s ≤ 9223372036854775807 := by have := hok.s0; have := hok.s1; simp only at *; omega
    have hx1 : x.size ≤ 1000000000 := by omega
    have hh := @hexV_nil x
    have eI : ∀ X, logX x = X → logI ⟨t, s, ⟨k, a, b, i, x⟩⟩ = joinV ⟨#[32]⟩ [pointsV [t, s], a, decS i, X, pointsV [t, s]] := fun X h => by rw [← h]; rfl
    refine goh (And.intro c1 (And.intro c2 (And.intro c3 (And.intro c4 (And.intro c5 (And.intro c6 (And.intro c7 (And.intro hna (And.intro nt nf))))))))) ?_
    refine W_cnd ?_ ?_ <;> intro hlit <;> try (cases hlit; done)
    by_cases h0 : x.size = 0
    · have eX : logX x = ⟨#[45]⟩ := by unfold logX; rw [if_pos h0]
      rw [decide_eq_true h0] at hh
      have eJ := eI _ eX
      rw [eJ] at eT hIs
      have hjn : (joinV ⟨#[32]⟩ [pointsV [t, s], a, decS i, ⟨#[45]⟩, pointsV [t, s]]).size ≤ 140737488355328 := by omega
      refine goh (And.intro hin (And.intro hi1 hh)) ?_
      refine W_cnd ?_ ?_ <;> intro hlit <;> try (cases hlit; done)
      refine goh (And.intro hin (And.intro hi1 (And.intro hh hjn))) ?_
      exact finh [] eT
    · have eX : logX x = hexV x := by unfold logX; rw [if_neg h0]
      rw [decide_eq_false h0] at hh
      have eJ := eI _ eX
      rw [eJ] at eT hIs
      have hjn : (joinV ⟨#[32]⟩ [pointsV [t, s], a, decS i, hexV x, pointsV [t, s]]).size ≤ 140737488355328 := by omega
      refine goh (And.intro hin (And.intro hi1 hh)) ?_
      refine W_cnd ?_ ?_ <;> intro hlit <;> try (cases hlit; done)
      refine goh (And.intro hin (And.intro hi1 (And.intro hh hjn))) ?_
      exact finh [] eT
  · simp [no, ifp] at hp
theorem s_specLogText_e : EnterOk Tryz.prog 11 := ⟨_, Tryz.func11, rfl, by decide⟩
@[go_sem] def s_specLogText_lv : List (List Nat) := [[1], [1, 3], [1, 3, 57], [2], [1, 3, 4], [1, 3, 4, 62], [1, 3, 4], [3, 4, 5], [2]]
@[go_sem] noncomputable def s_specLogText_K : Known := ((((Known.nil).cons 59 ctName s_specName s_specName_e).cons 60 ctHex s_specHex s_specHex_e).cons 61 ctDecV s_dec2 s_dec2_e).cons 62 ctSeal s_specSeal s_specSeal_e
set_option maxHeartbeats 8000000 in
theorem s_specLogText : Sound Tryz.prog 11 ctLogText := by
  have ke := s_specLogText_K.env []
  have kl : Lives s_specLogText_lv := trivial
  refine sound_intro (E := ⟨ti, s_specLogText_K.Γ, []⟩) ke Tryz.func11 Tryz.ntmps11 rfl (rs := [.tmp 2]) rfl ?_
  intro args os hp
  unfold ctLogText at hp ⊢
  dsimp only at hp ⊢
  split at hp
  · rename_i t s k a b i x
    refine ⟨by simp, fun φ0 w0 => ?_⟩
    have hna : a.size ≤ 9223372036854775807 := hp
    clear hp
    have nt : (!true) = false := rfl
    have nf : (!false) = true := rfl
    by_cases pc1 : 1 ≤ t
    rotate_left
    · have e := logT_no (r := ⟨t, s, ⟨k, a, b, i, x⟩⟩) (fun h => pc1 h.t0)
      have c1 : decide (t < 1) = true := by simp; omega
      refine goh (And.intro c1 (And.intro hna (And.intro nt nf))) ?_
      refine W_cnd ?_ ?_ <;> intro hlit <;> try (cases hlit; done)
      refine goh trivial ?_
      exact finh [] e
    have c1 : decide (t < 1) = false := by simp; omega
    by_cases pc1b : t ≤ 1000000
    rotate_left
    · have e := logT_no (r := ⟨t, s, ⟨k, a, b, i, x⟩⟩) (fun h => pc1b h.t1)
      have c1b : decide (t > 1000000) = true := by simp; omega
      refine goh (And.intro c1 (And.intro c1b (And.intro hna (And.intro nt nf)))) ?_
      refine W_cnd ?_ ?_ <;> intro hlit <;> try (cases hlit; done)
      refine goh trivial ?_
      exact finh [] e
    have c1b : decide (t > 1000000) = false := by simp; omega
    by_cases pc2 : 0 ≤ s
    rotate_left
    · have e := logT_no (r := ⟨t, s, ⟨k, a, b, i, x⟩⟩) (fun h => pc2 h.s0)
      have c2 : decide (s < 0) = true := by simp; omega
      refine goh (And.intro c1 (And.intro c1b (And.intro c2 (And.intro hna (And.intro nt nf))))) ?_
      refine W_cnd ?_ ?_ <;> intro hlit <;> try (cases hlit; done)
      refine goh trivial ?_
      exact finh [] e
    have c2 : decide (s < 0) = false := by simp; omega
    by_cases pc2b : s ≤ 7
    rotate_left
    · have e := logT_no (r := ⟨t, s, ⟨k, a, b, i, x⟩⟩) (fun h => pc2b h.s1)
      have c2b : decide (s ≥ 8) = true := by simp; omega
      refine goh (And.intro c1 (And.intro c1b (And.intro c2 (And.intro c2b (And.intro hna (And.intro nt nf)))))) ?_
      refine W_cnd ?_ ?_ <;> intro hlit <;> try (cases hlit; done)
      refine goh trivial ?_
      exact finh [] e
    have c2b : decide (s ≥ 8) = false := by simp; omega
    by_cases pc3 : k = 3
    rotate_left
    · have e := logT_no (r := ⟨t, s, ⟨k, a, b, i, x⟩⟩) (fun h => pc3 h.k)
      have c3 : (k != 3) = true := by simp [pc3]
      refine goh (And.intro c1 (And.intro c1b (And.intro c2 (And.intro c2b (And.intro c3 (And.intro hna (And.intro nt nf))))))) ?_
      refine W_cnd ?_ ?_ <;> intro hlit <;> try (cases hlit; done)
      refine goh trivial ?_
      exact finh [] e
    have c3 : (k != 3) = false := by simp [pc3]
    by_cases pc4 : nameB a = true
    rotate_left
    · have e := logT_no (r := ⟨t, s, ⟨k, a, b, i, x⟩⟩) (fun h => pc4 h.a)
      have c4 : nameB a = false := by simpa using pc4
      refine goh (And.intro c1 (And.intro c1b (And.intro c2 (And.intro c2b (And.intro c3 (And.intro c4 (And.intro hna (And.intro nt nf)))))))) ?_
      refine W_cnd ?_ ?_ <;> intro hlit <;> try (cases hlit; done)
      refine goh trivial ?_
      exact finh [] e
    have c4 : nameB a = true := pc4
    by_cases pc5 : b = ⟨#[]⟩
    rotate_left
    · have e := logT_no (r := ⟨t, s, ⟨k, a, b, i, x⟩⟩) (fun h => pc5 h.b)
      have c5 : same b ⟨#[]⟩ = false := same_false.2 pc5
      refine goh (And.intro c1 (And.intro c1b (And.intro c2 (And.intro c2b (And.intro c3 (And.intro c4 (And.intro c5 (And.intro hna (And.intro nt nf))))))))) ?_
      refine W_cnd ?_ ?_ <;> intro hlit <;> try (cases hlit; done)
      refine goh trivial ?_
      exact finh [] e
    have c5 : same b ⟨#[]⟩ = true := same_true.2 pc5
    by_cases pc6 : 0 ≤ i
    rotate_left
    · have e := logT_no (r := ⟨t, s, ⟨k, a, b, i, x⟩⟩) (fun h => pc6 h.i0)
      have c6 : decide (i < 0) = true := by simp; omega
      refine goh (And.intro c1 (And.intro c1b (And.intro c2 (And.intro c2b (And.intro c3 (And.intro c4 (And.intro c5 (And.intro c6 (And.intro hna (And.intro nt nf)))))))))) ?_
      refine W_cnd ?_ ?_ <;> intro hlit <;> try (cases hlit; done)
      refine goh trivial ?_
      exact finh [] e
    have c6 : decide (i < 0) = false := by simp; omega
    by_cases pc6b : i ≤ 7
    rotate_left
    · have e := logT_no (r := ⟨t, s, ⟨k, a, b, i, x⟩⟩) (fun h => pc6b h.i1)
      have c6b : decide (i ≥ 8) = true := by simp; omega
      refine goh (And.intro c1 (And.intro c1b (And.intro c2 (And.intro c2b (And.intro c3 (And.intro c4 (And.intro c5 (And.intro c6 (And.intro c6b (And.intro hna (And.intro nt nf))))))))))) ?_
      refine W_cnd ?_ ?_ <;> intro hlit <;> try (cases hlit; done)
      refine goh trivial ?_
      exact finh [] e
    have c6b : decide (i ≥ 8) = false := by simp; omega
    by_cases pc7 : x.size ≤ 24
    rotate_left
    · have e := logT_no (r := ⟨t, s, ⟨k, a, b, i, x⟩⟩) (fun h => pc7 h.x)
      have c7 : decide ((x.size : Int) > 24) = true := by simp; omega
      refine goh (And.intro c1 (And.intro c1b (And.intro c2 (And.intro c2b (And.intro c3 (And.intro c4 (And.intro c5 (And.intro c6 (And.intro c6b (And.intro c7 (And.intro hna (And.intro nt nf)))))))))))) ?_
      refine W_cnd ?_ ?_ <;> intro hlit <;> try (cases hlit; done)
      refine goh trivial ?_
      exact finh [] e
    have c7 : decide ((x.size : Int) > 24) = false := by simp; omega
    have hok : LogOk ⟨t, s, ⟨k, a, b, i, x⟩⟩ := ⟨pc1, pc1b, pc2, pc2b, pc3, pc4, pc5, pc6, pc6b, pc7⟩
    have eT := logT_ok hok
    have hIs := logI_size hok
    have hin : ∀ j : Nat, -9223372036854775808 ≤ [t, s].getD j ET.int.dflt ∧ [t, s].getD j ET.int.dflt ≤ 9223372036854775807 := fun j => by
      have hd : ET.int.dflt = (0 : Int) := rfl
      have := hok.t0; have := hok.t1; have := hok.s0; have := hok.s1
      simp only at *
      match j with
      | 0 => simp; omega
      | 1 => simp; omega
      | j + 2 => simp [hd]
    have hi1 : -9223372036854775808 ≤ i ∧ i ≤ 9223372036854775807 := by have := hok.i0; have := hok.i1; simp only at *; omega
    have ht1 : -9223372036854775808 ≤ t ∧ t ≤ 9223372036854775807 := by have := hok.t0; have := hok.t1; simp only at *; omega
    have hs1 : -9223372036854775808 ≤ s ∧ s ≤ 9223372036854775807 := by have := hok.s0; have := hok.s1; simp only at *; omega
    have hx1 : x.size ≤ 1000000000 := by omega
    have hh := @hexV_nil x
    have eI : ∀ X, logX x = X → logI ⟨t, s, ⟨k, a, b, i, x⟩⟩ = decS t ++ ⟨#[46]⟩ ++ decS s ++ ⟨#[32]⟩ ++ a ++ ⟨#[32]⟩ ++ decS i ++ ⟨#[32]⟩ ++ X ++ ⟨#[32]⟩ ++ (decS t ++ ⟨#[46]⟩ ++ decS s) := fun X h => by
      rw [← h]
      unfold logI logM
      rw [joinV_five]
      show pointsV [t, s] ++ _ ++ _ ++ _ ++ _ ++ _ ++ _ ++ _ ++ pointsV [t, s] = _
      have e2 : pointsV [t, s] = decS t ++ ⟨#[46]⟩ ++ decS s := joinV_two 46 _ _
      rw [e2]
    have z1 := decS_size ht1.1 ht1.2
    have z2 := decS_size hs1.1 hs1.2
    have z3 := decS_size hi1.1 hi1.2
    have z4 := (name_size pc4).2
    have z5 := hexV_size x
    have z6 : (⟨#[46]⟩ : ByteArray).size = 1 := rfl
    have z7 : (⟨#[32]⟩ : ByteArray).size = 1 := rfl
    have z8 : (⟨#[45]⟩ : ByteArray).size = 1 := rfl
    refine goh (And.intro c1 (And.intro c1b (And.intro c2 (And.intro c2b (And.intro c3 (And.intro c4 (And.intro c5 (And.intro c6 (And.intro c6b (And.intro c7 (And.intro hna (And.intro nt nf)))))))))))) ?_
    refine W_cnd ?_ ?_ <;> intro hlit <;> try (cases hlit; done)
    by_cases h0 : x.size = 0
    · have eX : logX x = ⟨#[45]⟩ := by unfold logX; rw [if_pos h0]
      rw [decide_eq_true h0] at hh
      have eJ := eI _ eX
      rw [eJ] at eT hIs
      refine goh (And.intro hi1 (And.intro ht1 (And.intro hs1 hh))) ?_
      refine W_cnd ?_ ?_ <;> intro hlit <;> try (cases hlit; done)
      refine goh (And.intro hi1 (And.intro ht1 hs1)) ?_
      exact finh [] eT
    · have eX : logX x = hexV x := by unfold logX; rw [if_neg h0]
      rw [decide_eq_false h0] at hh
      have eJ := eI _ eX
      rw [eJ] at eT hIs
      refine goh (And.intro hi1 (And.intro ht1 (And.intro hs1 hh))) ?_
      refine W_cnd ?_ ?_ <;> intro hlit <;> try (cases hlit; done)
      refine goh (And.intro hi1 (And.intro ht1 hs1)) ?_
      exact finh [] eT
  · simp [no, ifp] at hp
end Go.Proofs.YtmnbgppmfbnamaaGreatDoor
/- Plain facts: records are read. -/
namespace Go.Proofs.YtmnbgppmfbnamaaGreatDoor
open Go.RowKit

theorem open_log {r : LRec} (h : LogOk r) : openV (logT r) = (logI r, true) := by
  have hc := cutV_at (logT_list h) (no_colon _)
  have hs : sealV (logI r) = logT r := (logT_ok h).symm
  unfold openV
  rw [hc]
  simp only [bytesL_data]
  rw [hs, if_pos ⟨trivial, same_true.2 rfl⟩]
theorem logP_closed {t : ByteArray} (ho : (openV t).2 = false) : logP t = none := by
  cases hu : logP t with
  | none => rfl
  | some r =>
    obtain ⟨h1, rfl⟩ := logP_some.1 hu
    rw [open_log h1] at ho
    cases ho
theorem logP_words {t : ByteArray} (hw : (splitV 32 (openV t).1).length ≠ 5) : logP t = none := by
  cases hu : logP t with
  | none => rfl
  | some r =>
    obtain ⟨h1, rfl⟩ := logP_some.1 hu
    rw [open_log h1, logI_split h1] at hw
    exact absurd rfl hw
/-- What is checked against the text is what was read. -/
theorem logP_check {t w0 a w2 w3 w4 : ByteArray} (hw : splitV 32 (openV t).1 = [w0, a, w2, w3, w4]) {r : LRec} (h : logT r = t) : logP t = some r := by
  by_cases hok : LogOk r
  · exact logP_some.2 ⟨hok, h⟩
  · have : t = ⟨#[]⟩ := by rw [← h]; exact logT_no hok
    rw [this, open_nil, splitV_nil] at hw
    simp at hw
/-- What a record's text is made of. -/
theorem logP_parts {t w0 a w2 w3 w4 : ByteArray} (hw : splitV 32 (openV t).1 = [w0, a, w2, w3, w4]) {r : LRec} (h : logP t = some r) :
    r.op.kind = 3 ∧ r.op.b = ⟨#[]⟩ ∧ a = r.op.a ∧ w2 = decS r.op.i ∧ w3 = logX r.op.text ∧ w0 = logM r ∧ (0 ≤ r.txg ∧ r.txg < 10 ^ 17) ∧ (0 ≤ r.seq ∧ r.seq < 10 ^ 17) ∧ (0 ≤ r.op.i ∧ r.op.i < 10 ^ 17) := by
  obtain ⟨h1, rfl⟩ := logP_some.1 h
  rw [open_log h1, logI_split h1] at hw
  simp only [List.cons.injEq, and_true] at hw
  have := h1.t0; have := h1.t1; have := h1.s0; have := h1.s1; have := h1.i0; have := h1.i1
  exact ⟨h1.k, h1.b, hw.2.1.symm, hw.2.2.1.symm, hw.2.2.2.1.symm, hw.1.symm, ⟨by omega, by omega⟩, ⟨by omega, by omega⟩, ⟨by omega, by omega⟩⟩
theorem logM_cut (r : LRec) : cutV 46 (logM r) = (decS r.txg, decS r.seq, true) := by
  have e : (logM r).data.toList = (decS r.txg).data.toList ++ 46 :: (decS r.seq).data.toList := by
    have e2 : logM r = decS r.txg ++ ⟨#[46]⟩ ++ decS r.seq := joinV_two 46 _ _
    rw [e2]; simp [ByteArray.data_append]
  rw [cutV_at e (no_dot _)]
  simp only [bytesL_data]
theorem logM_words (r : LRec) : splitV 46 (logM r) = [decS r.txg, decS r.seq] := pointsV_split (zs := [r.txg, r.seq]) (by simp)
theorem logX_read (t : ByteArray) : (logX t = ⟨#[45]⟩ ∧ t = ⟨#[]⟩) ∨ (logX t ≠ ⟨#[45]⟩ ∧ unhexV (logX t) = some t) := by
  by_cases h : t.size = 0
  · left
    refine ⟨by unfold logX; rw [if_pos h], ?_⟩
    apply ByteArray.ext
    exact Array.eq_empty_of_size_eq_zero h
  · right
    have e : logX t = hexV t := by unfold logX; rw [if_neg h]
    rw [e]
    refine ⟨fun h2 => ?_, unhex_hex t⟩
    have h3 := congrArg ByteArray.size h2
    rw [hexV_size] at h3
    have h5 : (⟨#[45]⟩ : ByteArray).size = 1 := rfl
    omega
theorem rec_eq {r : LRec} {x y i : Int} {a b : ByteArray} (h1 : r.op.kind = 3) (h2 : r.op.b = ⟨#[]⟩) (h3 : a = r.op.a) (h4 : x = r.txg) (h5 : y = r.seq) (h6 : i = r.op.i) (h7 : b = r.op.text) : r = ⟨x, y, ⟨3, a, ⟨#[]⟩, i, b⟩⟩ := by
  cases r with | mk t s o => cases o; simp only at *; subst h1 h2 h3 h4 h5 h6 h7; rfl
/-- The program reads so: where one part cannot be read, there is no record. -/
theorem logP_impl {t w0 a w2 w3 w4 : ByteArray} (hw : splitV 32 (openV t).1 = [w0, a, w2, w3, w4]) {r : LRec} (h : logP t = some r) :
    atoiV (cutV 46 w0).1 = some r.txg ∧ atoiV (cutV 46 w0).2.1 = some r.seq ∧ atoiV w2 = some r.op.i ∧ ((w3 = ⟨#[45]⟩ ∧ r.op.text = ⟨#[]⟩) ∨ (w3 ≠ ⟨#[45]⟩ ∧ unhexV w3 = some r.op.text)) ∧ r = ⟨r.txg, r.seq, ⟨3, a, ⟨#[]⟩, r.op.i, r.op.text⟩⟩ := by
  obtain ⟨p1, p2, p3, p4, p5, p6, p7, p8, p9⟩ := logP_parts hw h
  subst p6 p4 p5
  rw [logM_cut]
  exact ⟨(atoi_dec p7.1 p7.2).1, (atoi_dec p8.1 p8.2).1, (atoi_dec p9.1 p9.2).1, logX_read _, rec_eq p1 p2 p3 rfl rfl rfl rfl⟩
/-- The reference reads so. -/
theorem logP_spec {t w0 a w2 w3 w4 : ByteArray} (hw : splitV 32 (openV t).1 = [w0, a, w2, w3, w4]) {r : LRec} (h : logP t = some r) :
    splitV 46 w0 = [decS r.txg, decS r.seq] ∧ numV (decS r.txg) = some r.txg ∧ numV (decS r.seq) = some r.seq ∧ numV w2 = some r.op.i ∧ ((w3 = ⟨#[45]⟩ ∧ r.op.text = ⟨#[]⟩) ∨ (w3 ≠ ⟨#[45]⟩ ∧ unhexV w3 = some r.op.text)) ∧ r = ⟨r.txg, r.seq, ⟨3, a, ⟨#[]⟩, r.op.i, r.op.text⟩⟩ := by
  obtain ⟨p1, p2, p3, p4, p5, p6, p7, p8, p9⟩ := logP_parts hw h
  subst p6 p4 p5
  exact ⟨logM_words r, num_dec p7.1 p7.2, num_dec p8.1 p8.2, num_dec p9.1 p9.2, logX_read _, rec_eq p1 p2 p3 rfl rfl rfl rfl⟩
/-- So a check that fails tells that there is none. -/
theorem logP_fail {t : ByteArray} {r : LRec} (h : ∀ r', logP t = some r' → r' = r) (hs : logT r ≠ t) : logP t = none := by
  cases hu : logP t with
  | none => rfl
  | some r' =>
    have := h r' hu
    subst this
    exact absurd (logP_some.1 hu).2 hs
theorem logP_bad {t : ByteArray} (h : ∀ r', logP t = some r' → False) : logP t = none := by
  cases hu : logP t with
  | none => rfl
  | some r' => exact (h r' hu).elim
end Go.Proofs.YtmnbgppmfbnamaaGreatDoor
/- Functions: other contracts of what is read. -/
namespace Go.Proofs.YtmnbgppmfbnamaaGreatDoor
open Go.RowKit

@[go_sem] def ctNumS2 : Ct := ⟨false, [], fun args os => match args, os with
  | [.one (.val (.string s))], [] => ifp (s.size ≤ 1000000) (.tup [vi ((numV s).getD 0), vb (numV s).isSome])
  | _, _ => no⟩
theorem s_numS2 : Sound Tryz.prog 66 ctNumS2 := by
  intro args os hp
  unfold ctNumS2 at hp ⊢
  dsimp only at hp ⊢
  split at hp
  · rename_i s
    have hp2 : s.size ≤ 1000000 := hp
    have h := s_numS [.one (.val (.string s))] [] hp2
    have e : ctNumS.spec [.one (.val (.string s))] [] = ifp (s.size ≤ 1000000) (.tup [vi ((numV s).getD 0), vb (numV s).isSome]) := by
      show ifp (s.size ≤ 1000000) (match numV s with | some n => .tup [vi n, vb true] | none => .tup [vi 0, vb false]) = _
      cases numV s <;> rfl
    rw [e] at h
    exact h
  · exact hp.elim
theorem s_numS2_e : EnterOk Tryz.prog 66 := s_numS_e
@[go_sem] def ctUnhex2 : Ct := ⟨false, [], fun args os => match args, os with
  | [.one (.val (.string s))], [] => ifp (s.size ≤ 1000000) (.tup [vs ((unhexV s).getD ⟨#[]⟩), vb (unhexV s).isSome])
  | _, _ => no⟩
theorem s_specUnhex2 : Sound Tryz.prog 67 ctUnhex2 := by
  intro args os hp
  unfold ctUnhex2 at hp ⊢
  dsimp only at hp ⊢
  split at hp
  · rename_i s
    have hp2 : s.size ≤ 1000000 := hp
    have h := s_specUnhex [.one (.val (.string s))] [] hp2
    have e : ctUnhex.spec [.one (.val (.string s))] [] = ifp (s.size ≤ 1000000) (.tup [vs ((unhexV s).getD ⟨#[]⟩), vb (unhexV s).isSome]) := by
      show ifp (s.size ≤ 1000000) (match unhexV s with | some t => .tup [vs t, vb true] | none => .tup [vs ⟨#[]⟩, vb false]) = _
      cases unhexV s <;> rfl
    rw [e] at h
    exact h
  · exact hp.elim
theorem s_specUnhex2_e : EnterOk Tryz.prog 67 := s_specUnhex_e
end Go.Proofs.YtmnbgppmfbnamaaGreatDoor
