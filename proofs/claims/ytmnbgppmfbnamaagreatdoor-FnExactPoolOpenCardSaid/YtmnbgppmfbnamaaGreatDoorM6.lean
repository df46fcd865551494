import Derived.Test.YtmnbgppmfbnamaaGreatDoorM5
set_option linter.unusedSimpArgs false
set_option linter.unusedVariables false
set_option linter.unusedSectionVars false
/- Functions of the exact laws: what is handed in, weighed and copied; equal ones. -/
namespace Go.Proofs.YtmnbgppmfbnamaaGreatDoor
open Go.RowKit

/-- No text is longer than a machine holds. -/
structure inS (xs : List ByteArray) : Prop where
  len : xs.length ≤ 9223372036854775807
  all : ∀ i : Nat, (xs.getD i ET.str.dflt).size ≤ 9223372036854775807
structure inL (xs : List Late) : Prop where
  len : xs.length ≤ 9223372036854775807
  all : ∀ i : Nat, (xs.getD i ET.late.dflt).text.size ≤ 9223372036854775807
theorem drop_map {α : Type} (f : α → Nat) (xs : List α) (i : Nat) (d : α) (h : i < xs.length) : (xs.map f).drop i = f (xs.getD i d) :: (xs.map f).drop (i + 1) := by
  rw [List.drop_eq_getElem_cons (by simpa using h)]
  simp [h]
@[go_sem] def ctSzS : Ct := ⟨false, [[some .str]], fun args os => match args, os with
  | [.one (.isl .str xs), .one (.val (.int .i64 n))], [] => ifp (inS xs ∧ 0 ≤ n ∧ n ≤ 1048576) (vi (szW (wS xs) n))
  | _, _ => no⟩
@[go_sem] def sgSzS (xs : List ByteArray) (n : Int) (i : Nat) : Sg := ⟨[(0, .one (.isl .str xs)), (1, vi n), (5, vi i)], [], []⟩
theorem s_szS_e : EnterOk Tryz.prog 144 := ⟨_, Tryz.func144, rfl, by decide⟩
@[go_sem] def s_szS_lv : List (List Nat) := [[0, 1], [0, 1], [0, 1, 11], [4], [0, 1, 5], [0, 1, 5, 15], [0, 1, 5], [0, 1, 5], [0, 1, 5, 26], [4], [4]]
@[go_sem] noncomputable def s_szS_K : Known := Known.nil
set_option maxHeartbeats 8000000 in
theorem s_szS : Sound Tryz.prog 144 ctSzS := by
  have ke := s_szS_K.env []
  have kl : Lives s_szS_lv := trivial
  refine sound_intro (E := ⟨ti, s_szS_K.Γ, []⟩) ke Tryz.func144 Tryz.ntmps144 rfl (rs := [.tmp 4]) rfl ?_
  intro args os hp
  unfold ctSzS at hp ⊢
  dsimp only at hp ⊢
  split at hp
  · rename_i xs n
    refine ⟨by simp, fun φ0 w0 => ?_⟩
    obtain ⟨⟨h1, h2⟩, h3, h4⟩ : inS xs ∧ 0 ≤ n ∧ n ≤ 1048576 := hp
    have e1 : IntKind.i64.wrap (n - xs.length) = n - xs.length := wrap_id _ (by omega) (by omega)
    refine goh e1 ?_
    refine W_cnd ?_ ?_ <;> (try simp only [cnd_r]) <;> intro hc
    · have e2 : szW (wS xs) n = -1 := by unfold wS szW; rw [if_pos hc]
      refine goh trivial ?_
      exact finh [] e2
    · obtain ⟨R, hR⟩ : ∃ R, szW (wS xs) n = R := ⟨_, rfl⟩
      have e2 : szW ((xs.map (·.size)).drop 0) (n - xs.length) = R := by rw [← hR]; show _ = szW (xs.length :: _) n; conv => rhs; unfold szW
                                                                         rw [if_neg hc]; rfl
      refine goh trivial ?_
      refine W_le (σ' := sgSzS xs (n - xs.length) 0) [] (by
        simp only [go_sem, inj_r, ↓reduceIte, reduceCtorEq, Nat.reduceAdd, Nat.reduceLT, Nat.reduceLeDiff, Nat.reduceEqDiff, Int.reduceEq]
        all_goals (repeat' refine And.intro ?_ ?_) <;> try exact shut7
        ) ?_
      refine W_loop (fun q σ => ∃ (i : Nat) (m : Int), i ≤ xs.length ∧ q = xs.length - i ∧ 0 ≤ m ∧ m ≤ 1048576 ∧ szW ((xs.map (·.size)).drop i) m = R ∧ σ = sgSzS xs m i) xs.length ⟨0, _, by omega, by omega, by omega, by omega, e2, rfl⟩ ?_
      rintro q σ ⟨i, m, hi, rfl, hm1, hm2, hs, rfl⟩
      unfold sgSzS
      refine goh trivial ?_
      refine W_cnd ?_ ?_ <;> (try simp only [cnd_r]) <;> intro hlt
      · have hli : i < xs.length := by omega
        have h5 := h2 i
        have e3 : IntKind.i64.wrap (m - (xs.getD i ET.str.dflt).size) = m - (xs.getD i ET.str.dflt).size := wrap_id _ (by omega) (by omega)
        rw [drop_map _ _ _ ET.str.dflt hli] at hs
        unfold szW at hs
        refine goh e3 ?_
        refine W_cnd ?_ ?_ <;> (try simp only [cnd_r]) <;> intro hn
        · rw [if_pos hn] at hs
          refine goh trivial ?_
          exact finh [] (And.intro hR hs)
        · rw [if_neg hn] at hs
          refine goh trivial ?_
          refine ⟨xs.length - (i + 1), [], sgSzS xs (m - (xs.getD i ET.str.dflt).size) (i + 1), by omega, ?_, i + 1, _, by omega, rfl, by omega, by omega, hs, rfl⟩
          exact leh trivial
      · rw [List.drop_of_length_le (by simp; omega)] at hs
        refine goh trivial ?_
        exact finh [] (And.intro hR hs)
  · simp [no, ifp] at hp
@[go_sem] def ctSzS2 : Ct := ⟨false, [[some .str, some .str]], fun args os => match args, os with
  | [.agg [.isl .str a, .isl .str b], .one (.val (.int .i64 n))], [] => ifp (inS a ∧ inS b ∧ 0 ≤ n ∧ n ≤ 1048576) (vi (szW (wS a ++ wS b) n))
  | _, _ => no⟩
@[go_sem] def sgSzS2 (a b : List ByteArray) (n i : Int) : Sg := ⟨[(1, vi n), (2, .one (.ptr 0 0)), (5, vi i)], [some (.cells [.isl .str a, .isl .str b])], []⟩
theorem s_szS2_e : EnterOk Tryz.prog 72 := ⟨_, Tryz.func72, rfl, by decide⟩
@[go_sem] def s_szS2_lv : List (List Nat) := [[1, 2], [1, 2, 5], [1, 2, 5, 7], [1, 2, 5], [1, 2, 5], [1, 2, 5, 16], [4], [4]]
@[go_sem] noncomputable def s_szS2_K : Known := (Known.nil).cons 144 ctSzS s_szS s_szS_e
set_option maxHeartbeats 8000000 in
theorem s_szS2 : Sound Tryz.prog 72 ctSzS2 := by
  have ke := s_szS2_K.env []
  have kl : Lives s_szS2_lv := trivial
  refine sound_intro (E := ⟨ti, s_szS2_K.Γ, []⟩) ke Tryz.func72 Tryz.ntmps72 rfl (rs := [.tmp 4]) rfl ?_
  intro args os hp
  unfold ctSzS2 at hp ⊢
  dsimp only at hp ⊢
  split at hp
  · rename_i a b n
    refine ⟨by simp, fun φ0 w0 => ?_⟩
    obtain ⟨h1, h2, h3, h4⟩ : inS a ∧ inS b ∧ 0 ≤ n ∧ n ≤ 1048576 := hp
    obtain ⟨R, hR⟩ : ∃ R, szW (wS a ++ wS b) n = R := ⟨_, rfl⟩
    refine goh trivial ?_
    refine W_le (σ' := sgSzS2 a b n 0) [some 0] (by
      simp only [go_sem, inj_r, ↓reduceIte, reduceCtorEq, Nat.reduceAdd, Nat.reduceLT, Nat.reduceLeDiff, Nat.reduceEqDiff, Int.reduceEq]
      all_goals (repeat' refine And.intro ?_ ?_) <;> try exact shut7
      ) ?_
    refine W_loop (fun q σ => ∃ (i m : Int), 0 ≤ m ∧ m ≤ 1048576 ∧ ((i = 0 ∧ q = 2 ∧ szW (wS a ++ wS b) m = R) ∨ (i = 1 ∧ q = 1 ∧ szW (wS b) m = R) ∨ (i = 2 ∧ q = 0 ∧ m = R)) ∧ σ = sgSzS2 a b m i) 2 ⟨0, n, h3, h4, .inl ⟨rfl, rfl, hR⟩, rfl⟩ ?_
    rintro q σ ⟨i, m, hm1, hm2, ⟨rfl, rfl, hs⟩ | ⟨rfl, rfl, hs⟩ | ⟨rfl, rfl, rfl⟩, rfl⟩
    · unfold sgSzS2
      refine goh trivial ?_
      refine W_cnd ?_ ?_ <;> intro hlit <;> try (cases hlit; done)
      rw [szW_app _ _ _ hm1] at hs
      refine goh trivial ?_
      refine W_cnd ?_ ?_ <;> (try simp only [cnd_r]) <;> intro hn
      · rw [if_pos hn] at hs
        have hs2 : szW (wS a ++ wS b) n = -1 := by rw [hR, ← hs]
        refine goh trivial ?_
        exact finh [] hs2
      · rw [if_neg hn] at hs
        have hi := szW_in (wS a) m hm1
        refine goh trivial ?_
        refine ⟨1, [some 0], sgSzS2 a b (szW (wS a) m) 1, by omega, ?_, 1, _, by omega, by omega, .inr (.inl ⟨rfl, rfl, hs⟩), rfl⟩
        exact leh trivial
    · unfold sgSzS2
      refine goh trivial ?_
      refine W_cnd ?_ ?_ <;> intro hlit <;> try (cases hlit; done)
      refine goh trivial ?_
      refine W_cnd ?_ ?_ <;> (try simp only [cnd_r]) <;> intro hn
      · have hi := szW_in (wS b) m hm1
        have hs2 : szW (wS a ++ wS b) n = -1 := by rw [hR, ← hs]; omega
        refine goh trivial ?_
        exact finh [] hs2
      · have hi := szW_in (wS b) m hm1
        refine goh trivial ?_
        refine ⟨0, [some 0], sgSzS2 a b (szW (wS b) m) 2, by omega, ?_, 2, _, by omega, by omega, .inr (.inr ⟨rfl, rfl, hs⟩), rfl⟩
        exact leh trivial
    · unfold sgSzS2
      refine goh trivial ?_
      refine W_cnd ?_ ?_ <;> intro hlit <;> try (cases hlit; done)
      refine goh trivial ?_
      exact finh [] hR
  · simp [no, ifp] at hp
@[go_sem] def ctSzLate : Ct := ⟨false, [], fun args os => match args, os with
  | [.agg [.val (.int .i64 x), .val (.int .i64 y), .val (.string t)], .one (.val (.int .i64 n))], [] => ifp (t.size ≤ 9223372036854775807 ∧ 0 ≤ n ∧ n ≤ 1048576) (vi (szW [t.size] n))
  | _, _ => no⟩
theorem s_szLate_e : EnterOk Tryz.prog 145 := ⟨_, Tryz.func145, rfl, by decide⟩
@[go_sem] def s_szLate_lv : List (List Nat) := [[1, 2], [1], [1, 11], [4], [4]]
@[go_sem] noncomputable def s_szLate_K : Known := Known.nil
set_option maxHeartbeats 8000000 in
theorem s_szLate : Sound Tryz.prog 145 ctSzLate := by
  have ke := s_szLate_K.env []
  have kl : Lives s_szLate_lv := trivial
  refine sound_intro (E := ⟨ti, s_szLate_K.Γ, []⟩) ke Tryz.func145 Tryz.ntmps145 rfl (rs := [.tmp 4]) rfl ?_
  intro args os hp
  unfold ctSzLate at hp ⊢
  dsimp only at hp ⊢
  split at hp
  · rename_i x y t n
    refine ⟨by simp, fun φ0 w0 => ?_⟩
    obtain ⟨h1, h3, h4⟩ : t.size ≤ 9223372036854775807 ∧ 0 ≤ n ∧ n ≤ 1048576 := hp
    have e1 : IntKind.i64.wrap (n - t.size) = n - t.size := wrap_id _ (by omega) (by omega)
    refine goh e1 ?_
    refine W_cnd ?_ ?_ <;> (try simp only [cnd_r]) <;> intro hc
    · have e2 : szW [t.size] n = -1 := by unfold szW; rw [if_pos hc]
      refine goh trivial ?_
      exact finh [] e2
    · have e2 : szW [t.size] n = n - t.size := by unfold szW; rw [if_neg hc]; rfl
      refine goh trivial ?_
      exact finh [] e2
  · simp [no, ifp] at hp
@[go_sem] def ctSzL : Ct := ⟨false, [[some .late]], fun args os => match args, os with
  | [.one (.isl .late xs), .one (.val (.int .i64 n))], [] => ifp (inL xs ∧ 0 ≤ n ∧ n ≤ 1048576) (vi (szW (wL xs) n))
  | _, _ => no⟩
@[go_sem] def sgSzL (xs : List Late) (n : Int) (i : Nat) : Sg := ⟨[(0, .one (.isl .late xs)), (1, vi n), (5, vi i)], [], []⟩
theorem s_szL_e : EnterOk Tryz.prog 73 := ⟨_, Tryz.func73, rfl, by decide⟩
@[go_sem] def s_szL_lv : List (List Nat) := [[0, 1], [0, 1], [0, 1, 11], [4], [0, 1, 5], [0, 1, 5, 15], [0, 1, 5], [0, 1, 5], [0, 1, 5, 25], [4], [4]]
@[go_sem] noncomputable def s_szL_K : Known := (Known.nil).cons 145 ctSzLate s_szLate s_szLate_e
set_option maxHeartbeats 8000000 in
theorem s_szL : Sound Tryz.prog 73 ctSzL := by
  have ke := s_szL_K.env []
  have kl : Lives s_szL_lv := trivial
  refine sound_intro (E := ⟨ti, s_szL_K.Γ, []⟩) ke Tryz.func73 Tryz.ntmps73 rfl (rs := [.tmp 4]) rfl ?_
  intro args os hp
  unfold ctSzL at hp ⊢
  dsimp only at hp ⊢
  split at hp
  · rename_i xs n
    refine ⟨by simp, fun φ0 w0 => ?_⟩
    obtain ⟨⟨h1, h2⟩, h3, h4⟩ : inL xs ∧ 0 ≤ n ∧ n ≤ 1048576 := hp
    have e1 : IntKind.i64.wrap (n - xs.length) = n - xs.length := wrap_id _ (by omega) (by omega)
    refine goh e1 ?_
    refine W_cnd ?_ ?_ <;> (try simp only [cnd_r]) <;> intro hc
    · have e2 : szW (wL xs) n = -1 := by unfold wL szW; rw [if_pos hc]
      refine goh trivial ?_
      exact finh [] e2
    · obtain ⟨R, hR⟩ : ∃ R, szW (wL xs) n = R := ⟨_, rfl⟩
      have e2 : szW ((xs.map (·.text.size)).drop 0) (n - xs.length) = R := by rw [← hR]; show _ = szW (xs.length :: _) n; conv => rhs; unfold szW
                                                                              rw [if_neg hc]; rfl
      refine goh trivial ?_
      refine W_le (σ' := sgSzL xs (n - xs.length) 0) [] (by
        simp only [go_sem, inj_r, ↓reduceIte, reduceCtorEq, Nat.reduceAdd, Nat.reduceLT, Nat.reduceLeDiff, Nat.reduceEqDiff, Int.reduceEq]
        all_goals (repeat' refine And.intro ?_ ?_) <;> try exact shut7
        ) ?_
      refine W_loop (fun q σ => ∃ (i : Nat) (m : Int), i ≤ xs.length ∧ q = xs.length - i ∧ 0 ≤ m ∧ m ≤ 1048576 ∧ szW ((xs.map (·.text.size)).drop i) m = R ∧ σ = sgSzL xs m i) xs.length ⟨0, _, by omega, by omega, by omega, by omega, e2, rfl⟩ ?_
      rintro q σ ⟨i, m, hi, rfl, hm1, hm2, hs, rfl⟩
      unfold sgSzL
      refine goh trivial ?_
      refine W_cnd ?_ ?_ <;> (try simp only [cnd_r]) <;> intro hlt
      · have hli : i < xs.length := by omega
        have h5 := h2 i
        rw [drop_map _ _ _ ET.late.dflt hli] at hs
        have e3 := szW_app [(xs.getD i ET.late.dflt).text.size] ((xs.map (·.text.size)).drop (i + 1)) m hm1
        rw [List.singleton_append, hs] at e3
        have hin := szW_in [(xs.getD i ET.late.dflt).text.size] m hm1
        refine goh trivial ?_
        refine W_cnd ?_ ?_ <;> (try simp only [cnd_r]) <;> intro hn
        · rw [if_pos hn] at e3
          refine goh trivial ?_
          exact finh [] (And.intro hR e3)
        · rw [if_neg hn] at e3
          refine goh trivial ?_
          refine ⟨xs.length - (i + 1), [], sgSzL xs (szW [(xs.getD i ET.late.dflt).text.size] m) (i + 1), by omega, ?_, i + 1, _, by omega, rfl, by omega, by omega, e3.symm, rfl⟩
          exact leh trivial
      · rw [List.drop_of_length_le (by simp; omega)] at hs
        refine goh trivial ?_
        exact finh [] (And.intro hR hs)
  · simp [no, ifp] at hp
def Dk.wt (d : Dk) : List Nat := (wS d.a ++ wS d.b) ++ wL d.l
structure Dk.inn (d : Dk) : Prop where
  a : inS d.a
  b : inS d.b
  l : inL d.l
@[go_sem] def ctSzDisk : Ct := ⟨false, [[some .str, some .str, some .late]], fun args os => match args, os with
  | [.agg [.isl .str a, .isl .str b, .isl .late l], .one (.val (.int .i64 n))], [] => ifp ((Dk.mk a b l).inn ∧ 0 ≤ n ∧ n ≤ 1048576) (vi (szW (Dk.mk a b l).wt n))
  | _, _ => no⟩
theorem s_szDisk_e : EnterOk Tryz.prog 18 := ⟨_, Tryz.func18, rfl, by decide⟩
@[go_sem] def s_szDisk_lv : List (List Nat) := [[1, 2], [1, 2], [1, 2, 10], [4], [1], [1, 16], [4], [4]]
@[go_sem] noncomputable def s_szDisk_K : Known := ((Known.nil).cons 72 ctSzS2 s_szS2 s_szS2_e).cons 73 ctSzL s_szL s_szL_e
set_option maxHeartbeats 8000000 in
theorem s_szDisk : Sound Tryz.prog 18 ctSzDisk := by
  have ke := s_szDisk_K.env []
  have kl : Lives s_szDisk_lv := trivial
  refine sound_intro (E := ⟨ti, s_szDisk_K.Γ, []⟩) ke Tryz.func18 Tryz.ntmps18 rfl (rs := [.tmp 4]) rfl ?_
  intro args os hp
  unfold ctSzDisk at hp ⊢
  dsimp only at hp ⊢
  split at hp
  · rename_i a b l n
    refine ⟨by simp, fun φ0 w0 => ?_⟩
    obtain ⟨⟨h1, h2, h3⟩, h4, h5⟩ : (Dk.mk a b l).inn ∧ 0 ≤ n ∧ n ≤ 1048576 := hp
    simp only at h1 h2 h3
    have e1 := szW_app (wS a ++ wS b) (wL l) n h4
    have e2 : szW (Dk.mk a b l).wt n = szW ((wS a ++ wS b) ++ wL l) n := rfl
    have i1 := szW_in (wS a ++ wS b) n h4
    refine goh trivial ?_
    refine W_cnd ?_ ?_ <;> (try simp only [cnd_r]) <;> intro hc
    · rw [if_pos hc] at e1
      refine goh trivial ?_
      exact finh [] (And.intro e2 e1)
    · rw [if_neg hc] at e1
      have i2 := szW_in (wL l) (szW (wS a ++ wS b) n) (by omega)
      refine goh trivial ?_
      refine W_cnd ?_ ?_ <;> (try simp only [cnd_r]) <;> intro hd
      · have e3 : szW ((wS a ++ wS b) ++ wL l) n = -1 := by omega
        refine goh trivial ?_
        exact finh [] (And.intro e2 e3)
      · refine goh trivial ?_
        exact finh [] (And.intro e2 e1)
  · simp [no, ifp] at hp
theorem wt_small {d : Dk} {n : Int} (h : 0 ≤ szW d.wt n) : d.a.length ≤ n ∧ d.b.length ≤ n ∧ d.l.length ≤ n :=
  ⟨szW_mem h (by simp [Dk.wt, wS]), szW_mem h (by simp [Dk.wt, wS]), szW_mem h (by simp [Dk.wt, wL])⟩
end Go.Proofs.YtmnbgppmfbnamaaGreatDoor
/- Functions of the exact laws: equal ones; copies. -/
namespace Go.Proofs.YtmnbgppmfbnamaaGreatDoor
open Go.RowKit

@[go_sem] def ctEqS : Ct := ⟨false, [[some .str], [some .str]], fun args os => match args, os with
  | [.one (.isl .str xs), .one (.isl .str ys)], [] => ifp (xs = ys ∧ xs.length ≤ 4000000) (vb true)
  | _, _ => no⟩
@[go_sem] def sgEqS (xs : List ByteArray) (i : Nat) : Sg := ⟨[(0, .one (.isl .str xs)), (1, .one (.isl .str xs)), (5, vi i)], [], []⟩
theorem s_eqS_e : EnterOk Tryz.prog 150 := ⟨_, Tryz.func150, rfl, by decide⟩
@[go_sem] def s_eqS_lv : List (List Nat) := [[0, 1], [0, 1, 10], [4], [0, 1, 5], [0, 1, 5, 14], [0, 1, 5], [0, 1, 5, 25], [4], [4]]
@[go_sem] noncomputable def s_eqS_K : Known := Known.nil
set_option maxHeartbeats 8000000 in
theorem s_eqS : Sound Tryz.prog 150 ctEqS := by
  have ke := s_eqS_K.env []
  have kl : Lives s_eqS_lv := trivial
  refine sound_intro (E := ⟨ti, s_eqS_K.Γ, []⟩) ke Tryz.func150 Tryz.ntmps150 rfl (rs := [.tmp 4]) rfl ?_
  intro args os hp
  unfold ctEqS at hp ⊢
  dsimp only at hp ⊢
  split at hp
  · rename_i xs ys
    refine ⟨by simp, fun φ0 w0 => ?_⟩
    obtain ⟨rfl, hlen⟩ : xs = ys ∧ xs.length ≤ 4000000 := hp
    refine goh trivial ?_
    refine W_cnd ?_ ?_ <;> intro hlit <;> try (cases hlit; done)
    refine goh trivial ?_
    refine W_le (σ' := sgEqS xs 0) [] (by
      simp only [go_sem, inj_r, ↓reduceIte, reduceCtorEq, Nat.reduceAdd, Nat.reduceLT, Nat.reduceLeDiff, Nat.reduceEqDiff, Int.reduceEq]
      all_goals (repeat' refine And.intro ?_ ?_) <;> try exact shut7
      ) ?_
    refine W_loop (fun n σ => ∃ i : Nat, i ≤ xs.length ∧ n = xs.length - i ∧ σ = sgEqS xs i) xs.length ⟨0, by omega, by omega, rfl⟩ ?_
    rintro n σ ⟨i, hi, rfl, rfl⟩
    unfold sgEqS
    refine goh trivial ?_
    refine W_cnd ?_ ?_ <;> (try simp only [cnd_r]) <;> intro hlt
    · refine goh trivial ?_
      refine W_cnd ?_ ?_ <;> intro hlit <;> try (cases hlit; done)
      refine goh trivial ?_
      refine ⟨xs.length - (i + 1), [], sgEqS xs (i + 1), by omega, ?_, i + 1, by omega, rfl, rfl⟩
      exact leh trivial
    · refine goh trivial ?_
      exact finh [] trivial
  · simp [no, ifp] at hp
@[go_sem] def ctEqS2 : Ct := ⟨false, [[some .str, some .str], [some .str, some .str]], fun args os => match args, os with
  | [.agg [.isl .str a, .isl .str b], .agg [.isl .str c, .isl .str d]], [] => ifp ((a = c ∧ b = d) ∧ a.length ≤ 4000000 ∧ b.length ≤ 4000000) (vb true)
  | _, _ => no⟩
@[go_sem] def sgEqS2 (a b : List ByteArray) (i : Int) : Sg := ⟨[(2, .one (.ptr 0 0)), (3, .one (.ptr 1 0)), (5, vi i)], [some (.cells [.isl .str a, .isl .str b]), some (.cells [.isl .str a, .isl .str b])], []⟩
theorem s_eqS2_e : EnterOk Tryz.prog 79 := ⟨_, Tryz.func79, rfl, by decide⟩
@[go_sem] def s_eqS2_lv : List (List Nat) := [[2, 3], [2, 3, 5], [2, 3, 5, 7], [2, 3, 5], [2, 3, 5, 17], [4], [4]]
@[go_sem] noncomputable def s_eqS2_K : Known := (Known.nil).cons 150 ctEqS s_eqS s_eqS_e
set_option maxHeartbeats 8000000 in
theorem s_eqS2 : Sound Tryz.prog 79 ctEqS2 := by
  have ke := s_eqS2_K.env []
  have kl : Lives s_eqS2_lv := trivial
  refine sound_intro (E := ⟨ti, s_eqS2_K.Γ, []⟩) ke Tryz.func79 Tryz.ntmps79 rfl (rs := [.tmp 4]) rfl ?_
  intro args os hp
  unfold ctEqS2 at hp ⊢
  dsimp only at hp ⊢
  split at hp
  · rename_i a b c d
    refine ⟨by simp, fun φ0 w0 => ?_⟩
    obtain ⟨⟨rfl, rfl⟩, h1, h2⟩ : (a = c ∧ b = d) ∧ a.length ≤ 4000000 ∧ b.length ≤ 4000000 := hp
    refine goh trivial ?_
    refine W_le (σ' := sgEqS2 a b 0) [some 0, some 1] (by
      simp only [go_sem, inj_r, ↓reduceIte, reduceCtorEq, Nat.reduceAdd, Nat.reduceLT, Nat.reduceLeDiff, Nat.reduceEqDiff, Int.reduceEq]
      all_goals (repeat' refine And.intro ?_ ?_) <;> try exact shut7
      ) ?_
    refine W_loop (fun q σ => ∃ (i : Int), ((i = 0 ∧ q = 2) ∨ (i = 1 ∧ q = 1) ∨ (i = 2 ∧ q = 0)) ∧ σ = sgEqS2 a b i) 2 ⟨0, .inl ⟨rfl, rfl⟩, rfl⟩ ?_
    rintro q σ ⟨i, ⟨rfl, rfl⟩ | ⟨rfl, rfl⟩ | ⟨rfl, rfl⟩, rfl⟩
    · unfold sgEqS2
      refine goh trivial ?_
      refine W_cnd ?_ ?_ <;> intro hlit <;> try (cases hlit; done)
      refine goh trivial ?_
      refine W_cnd ?_ ?_ <;> intro hlit <;> try (cases hlit; done)
      refine goh trivial ?_
      refine ⟨1, [some 0, some 1], sgEqS2 a b 1, by omega, ?_, 1, .inr (.inl ⟨rfl, rfl⟩), rfl⟩
      exact leh trivial
    · unfold sgEqS2
      refine goh trivial ?_
      refine W_cnd ?_ ?_ <;> intro hlit <;> try (cases hlit; done)
      refine goh trivial ?_
      refine W_cnd ?_ ?_ <;> intro hlit <;> try (cases hlit; done)
      refine goh trivial ?_
      refine ⟨0, [some 0, some 1], sgEqS2 a b 2, by omega, ?_, 2, .inr (.inr ⟨rfl, rfl⟩), rfl⟩
      exact leh trivial
    · unfold sgEqS2
      refine goh trivial ?_
      refine W_cnd ?_ ?_ <;> intro hlit <;> try (cases hlit; done)
      refine goh trivial ?_
      exact finh [] trivial
  · simp [no, ifp] at hp
@[go_sem] def ctEqLate : Ct := ⟨false, [], fun args os => match args, os with
  | [.agg [.val (.int .i64 x), .val (.int .i64 y), .val (.string t)], .agg [.val (.int .i64 x'), .val (.int .i64 y'), .val (.string t')]], [] => ifp (x = x' ∧ y = y' ∧ t = t') (vb true)
  | _, _ => no⟩
theorem s_eqLate_e : EnterOk Tryz.prog 151 := ⟨_, Tryz.func151, rfl, by decide⟩
@[go_sem] def s_eqLate_lv : List (List Nat) := [[2, 3], [2, 3, 9], [4], [2, 3, 14], [4], [19], [4], [4]]
@[go_sem] noncomputable def s_eqLate_K : Known := Known.nil
set_option maxHeartbeats 8000000 in
theorem s_eqLate : Sound Tryz.prog 151 ctEqLate := by
  have ke := s_eqLate_K.env []
  have kl : Lives s_eqLate_lv := trivial
  refine sound_intro (E := ⟨ti, s_eqLate_K.Γ, []⟩) ke Tryz.func151 Tryz.ntmps151 rfl (rs := [.tmp 4]) rfl ?_
  intro args os hp
  unfold ctEqLate at hp ⊢
  dsimp only at hp ⊢
  split at hp
  · rename_i x y t x' y' t'
    refine ⟨by simp, fun φ0 w0 => ?_⟩
    obtain ⟨rfl, rfl, rfl⟩ : x = x' ∧ y = y' ∧ t = t' := hp
    refine goh trivial ?_
    refine W_cnd ?_ ?_ <;> intro hlit <;> try (cases hlit; done)
    refine goh trivial ?_
    refine W_cnd ?_ ?_ <;> intro hlit <;> try (cases hlit; done)
    refine goh trivial ?_
    refine W_cnd ?_ ?_ <;> intro hlit <;> try (cases hlit; done)
    refine goh trivial ?_
    exact finh [] trivial
  · simp [no, ifp] at hp
@[go_sem] def ctEqL : Ct := ⟨false, [[some .late], [some .late]], fun args os => match args, os with
  | [.one (.isl .late xs), .one (.isl .late ys)], [] => ifp (xs = ys ∧ xs.length ≤ 4000000) (vb true)
  | _, _ => no⟩
@[go_sem] def sgEqL (xs : List Late) (i : Nat) : Sg := ⟨[(0, .one (.isl .late xs)), (1, .one (.isl .late xs)), (5, vi i)], [], []⟩
theorem s_eqL_e : EnterOk Tryz.prog 80 := ⟨_, Tryz.func80, rfl, by decide⟩
@[go_sem] def s_eqL_lv : List (List Nat) := [[0, 1], [0, 1, 10], [4], [0, 1, 5], [0, 1, 5, 14], [0, 1, 5], [0, 1, 5, 26], [4], [4]]
@[go_sem] noncomputable def s_eqL_K : Known := (Known.nil).cons 151 ctEqLate s_eqLate s_eqLate_e
set_option maxHeartbeats 8000000 in
theorem s_eqL : Sound Tryz.prog 80 ctEqL := by
  have ke := s_eqL_K.env []
  have kl : Lives s_eqL_lv := trivial
  refine sound_intro (E := ⟨ti, s_eqL_K.Γ, []⟩) ke Tryz.func80 Tryz.ntmps80 rfl (rs := [.tmp 4]) rfl ?_
  intro args os hp
  unfold ctEqL at hp ⊢
  dsimp only at hp ⊢
  split at hp
  · rename_i xs ys
    refine ⟨by simp, fun φ0 w0 => ?_⟩
    obtain ⟨rfl, hlen⟩ : xs = ys ∧ xs.length ≤ 4000000 := hp
    refine goh trivial ?_
    refine W_cnd ?_ ?_ <;> intro hlit <;> try (cases hlit; done)
    refine goh trivial ?_
    refine W_le (σ' := sgEqL xs 0) [] (by
      simp only [go_sem, inj_r, ↓reduceIte, reduceCtorEq, Nat.reduceAdd, Nat.reduceLT, Nat.reduceLeDiff, Nat.reduceEqDiff, Int.reduceEq]
      all_goals (repeat' refine And.intro ?_ ?_) <;> try exact shut7
      ) ?_
    refine W_loop (fun n σ => ∃ i : Nat, i ≤ xs.length ∧ n = xs.length - i ∧ σ = sgEqL xs i) xs.length ⟨0, by omega, by omega, rfl⟩ ?_
    rintro n σ ⟨i, hi, rfl, rfl⟩
    unfold sgEqL
    refine goh trivial ?_
    refine W_cnd ?_ ?_ <;> (try simp only [cnd_r]) <;> intro hlt
    · refine goh trivial ?_
      refine W_cnd ?_ ?_ <;> intro hlit <;> try (cases hlit; done)
      refine goh trivial ?_
      refine ⟨xs.length - (i + 1), [], sgEqL xs (i + 1), by omega, ?_, i + 1, by omega, rfl, rfl⟩
      exact leh trivial
    · refine goh trivial ?_
      exact finh [] trivial
  · simp [no, ifp] at hp
@[go_sem] def ctEqDisk : Ct := ⟨false, [[some .str, some .str, some .late], [some .str, some .str, some .late]], fun args os => match args, os with
  | [.agg [.isl .str a, .isl .str b, .isl .late l], .agg [.isl .str c, .isl .str d, .isl .late m]], [] => ifp ((a = c ∧ b = d ∧ l = m) ∧ (Dk.mk a b l).small) (vb true)
  | _, _ => no⟩
theorem s_eqDisk_e : EnterOk Tryz.prog 23 := ⟨_, Tryz.func23, rfl, by decide⟩
@[go_sem] def s_eqDisk_lv : List (List Nat) := [[2, 3], [2, 3, 10], [4], [16], [4], [4]]
@[go_sem] noncomputable def s_eqDisk_K : Known := ((Known.nil).cons 79 ctEqS2 s_eqS2 s_eqS2_e).cons 80 ctEqL s_eqL s_eqL_e
set_option maxHeartbeats 8000000 in
theorem s_eqDisk : Sound Tryz.prog 23 ctEqDisk := by
  have ke := s_eqDisk_K.env []
  have kl : Lives s_eqDisk_lv := trivial
  refine sound_intro (E := ⟨ti, s_eqDisk_K.Γ, []⟩) ke Tryz.func23 Tryz.ntmps23 rfl (rs := [.tmp 4]) rfl ?_
  intro args os hp
  unfold ctEqDisk at hp ⊢
  dsimp only at hp ⊢
  split at hp
  · rename_i a b l c d m
    refine ⟨by simp, fun φ0 w0 => ?_⟩
    obtain ⟨⟨rfl, rfl, rfl⟩, h1, h2, h3⟩ : (a = c ∧ b = d ∧ l = m) ∧ (Dk.mk a b l).small := hp
    simp only at h1 h2 h3
    refine goh trivial ?_
    refine W_cnd ?_ ?_ <;> intro hlit <;> try (cases hlit; done)
    refine goh trivial ?_
    refine W_cnd ?_ ?_ <;> intro hlit <;> try (cases hlit; done)
    refine goh trivial ?_
    exact finh [] trivial
  · simp [no, ifp] at hp

@[go_sem] def ctToS : Ct := ⟨false, [[some .str]], fun args os => match args, os with
  | [.one (.isl .str xs)], [] => ⟨xs.length ≤ 4000000, .one (.osl .str 0 0 xs.length), [], [.arr .str xs]⟩
  | _, _ => no⟩
@[go_sem] def sgToS (xs : List ByteArray) (i : Nat) : Sg := ⟨[(0, .one (.isl .str xs)), (3, .one (.osl .str 0 0 xs.length)), (4, vi i)], [some (.arr .str (mix xs (List.replicate xs.length ET.str.dflt) i))], []⟩
theorem s_toS_e : EnterOk Tryz.prog 147 := ⟨_, Tryz.func147, rfl, by decide⟩
@[go_sem] def s_toS_lv : List (List Nat) := [[0], [0, 3], [0, 3, 4], [0, 3, 4, 11], [0, 3, 4], [0, 3, 4], [2]]
@[go_sem] noncomputable def s_toS_K : Known := Known.nil
set_option maxHeartbeats 8000000 in
theorem s_toS : Sound Tryz.prog 147 ctToS := by
  have ke := s_toS_K.env []
  have kl : Lives s_toS_lv := trivial
  refine sound_intro (E := ⟨ti, s_toS_K.Γ, []⟩) ke Tryz.func147 Tryz.ntmps147 rfl (rs := [.tmp 2]) rfl ?_
  intro args os hp
  unfold ctToS at hp ⊢
  dsimp only at hp ⊢
  split at hp
  · rename_i xs
    refine ⟨by simp, fun φ0 w0 => ?_⟩
    have hlen : xs.length ≤ 4000000 := hp
    clear hp
    refine goh trivial ?_
    refine W_le (σ' := sgToS xs 0) [some 0] (by
      simp only [go_sem, mix_zero, inj_r, ↓reduceIte, reduceCtorEq, Nat.reduceAdd, Nat.reduceLT, Nat.reduceLeDiff, Nat.reduceEqDiff, Int.reduceEq]
      all_goals (repeat' refine And.intro ?_ ?_) <;> try exact shut7
      ) ?_
    refine W_loop (fun n σ => ∃ i : Nat, i ≤ xs.length ∧ n = xs.length - i ∧ σ = sgToS xs i) xs.length ⟨0, by omega, by omega, rfl⟩ ?_
    rintro n σ ⟨i, hi, rfl, rfl⟩
    unfold sgToS
    have hm := mix_len xs (List.replicate xs.length ET.str.dflt) i (by simp)
    rw [List.length_replicate] at hm
    refine goh hm ?_
    refine W_cnd ?_ ?_ <;> (try simp only [cnd_r]) <;> intro hlt
    · have hs := mix_set xs (List.replicate xs.length ET.str.dflt) i ET.str.dflt (by simp) (by simp; omega) rfl
      refine goh hm ?_
      refine ⟨xs.length - (i + 1), [some 0], sgToS xs (i + 1), by omega, ?_, i + 1, by omega, rfl, rfl⟩
      exact leh (And.intro hs hm)
    · have hs := mix_all xs (List.replicate xs.length ET.str.dflt) i (by simp) (by simp; omega)
      refine goh hm ?_
      exact finh [some 0] hs
  · simp [no] at hp
end Go.Proofs.YtmnbgppmfbnamaaGreatDoor
/- Functions of the exact laws: copies; marks. -/
namespace Go.Proofs.YtmnbgppmfbnamaaGreatDoor
open Go.RowKit

@[go_sem] def ctToS2 : Ct := ⟨false, [[some .str, some .str]], fun args os => match args, os with
  | [.agg [.isl .str a, .isl .str b]], [] => ⟨a.length ≤ 4000000 ∧ b.length ≤ 4000000, .agg [.osl .str 0 0 a.length, .osl .str 1 0 b.length], [], [.arr .str a, .arr .str b]⟩
  | _, _ => no⟩
@[go_sem] def sgTo0 (a b : List ByteArray) : Sg := ⟨[(1, .one (.ptr 0 0)), (2, .one (.ptr 1 0)), (3, .one (.ptr 2 0)), (4, vi 0)], [some (.cells [.isl .str a, .isl .str b]), some (.cells [.val (.slice none 0 0), .val (.slice none 0 0)]), some (.cells [.val (.slice none 0 0), .val (.slice none 0 0)])], []⟩
@[go_sem] def sgTo1 (a b : List ByteArray) : Sg := ⟨[(1, .one (.ptr 0 0)), (2, .one (.ptr 1 0)), (3, .one (.ptr 2 0)), (4, vi 1)], [some (.cells [.isl .str a, .isl .str b]), some (.cells [.val (.slice none 0 0), .val (.slice none 0 0)]), some (.cells [.osl .str 3 0 a.length, .val (.slice none 0 0)]), some (.arr .str a)], []⟩
@[go_sem] def sgTo2 (a b : List ByteArray) : Sg := ⟨[(1, .one (.ptr 0 0)), (2, .one (.ptr 1 0)), (3, .one (.ptr 2 0)), (4, vi 2)], [some (.cells [.isl .str a, .isl .str b]), some (.cells [.val (.slice none 0 0), .val (.slice none 0 0)]), some (.cells [.osl .str 3 0 a.length, .osl .str 4 0 b.length]), some (.arr .str a), some (.arr .str b)], []⟩
theorem s_toS2_e : EnterOk Tryz.prog 75 := ⟨_, Tryz.func75, rfl, by decide⟩
@[go_sem] def s_toS2_lv : List (List Nat) := [[1, 2], [1, 2, 3], [1, 2, 3, 4], [1, 2, 3, 4, 6], [1, 2, 3, 4], [1, 2, 3, 4], [2]]
@[go_sem] noncomputable def s_toS2_K : Known := (Known.nil).cons 147 ctToS s_toS s_toS_e
set_option maxHeartbeats 8000000 in
theorem s_toS2 : Sound Tryz.prog 75 ctToS2 := by
  have ke := s_toS2_K.env []
  have kl : Lives s_toS2_lv := trivial
  refine sound_intro (E := ⟨ti, s_toS2_K.Γ, []⟩) ke Tryz.func75 Tryz.ntmps75 rfl (rs := [.cell 2 33]) rfl ?_
  intro args os hp
  unfold ctToS2 at hp ⊢
  dsimp only at hp ⊢
  split at hp
  · rename_i a b
    refine ⟨by simp, fun φ0 w0 => ?_⟩
    obtain ⟨h1, h2⟩ : a.length ≤ 4000000 ∧ b.length ≤ 4000000 := hp
    refine goh trivial ?_
    refine W_le (σ' := sgTo0 a b) [some 0, some 1, some 2] (by
      simp only [go_sem, inj_r, ↓reduceIte, reduceCtorEq, Nat.reduceAdd, Nat.reduceLT, Nat.reduceLeDiff, Nat.reduceEqDiff, Int.reduceEq]
      all_goals (repeat' refine And.intro ?_ ?_) <;> try exact shut7
      ) ?_
    refine W_loop (fun q σ => (q = 2 ∧ σ = sgTo0 a b) ∨ (q = 1 ∧ σ = sgTo1 a b) ∨ (q = 0 ∧ σ = sgTo2 a b)) 2 (.inl ⟨rfl, rfl⟩) ?_
    rintro q σ (⟨rfl, rfl⟩ | ⟨rfl, rfl⟩ | ⟨rfl, rfl⟩)
    · unfold sgTo0
      refine goh trivial ?_
      refine W_cnd ?_ ?_ <;> intro hlit <;> try (cases hlit; done)
      refine goh trivial ?_
      refine ⟨1, [some 0, some 1, some 2, some 3], sgTo1 a b, by omega, ?_, .inr (.inl ⟨rfl, rfl⟩)⟩
      exact leh trivial
    · unfold sgTo1
      refine goh trivial ?_
      refine W_cnd ?_ ?_ <;> intro hlit <;> try (cases hlit; done)
      refine goh trivial ?_
      refine ⟨0, [some 0, some 1, some 2, some 3, some 4], sgTo2 a b, by omega, ?_, .inr (.inr ⟨rfl, rfl⟩)⟩
      exact leh trivial
    · unfold sgTo2
      refine goh trivial ?_
      refine W_cnd ?_ ?_ <;> intro hlit <;> try (cases hlit; done)
      refine goh trivial ?_
      exact finh [some 3, some 4] trivial
  · simp [no] at hp
@[go_sem] def ctToLate : Ct := ⟨false, [], fun args os => match args, os with
  | [.agg [.val (.int .i64 x), .val (.int .i64 y), .val (.string t)]], [] => is (.agg [.val (.int .i64 x), .val (.int .i64 y), .val (.string t)])
  | _, _ => no⟩
theorem s_toLate_e : EnterOk Tryz.prog 148 := ⟨_, Tryz.func148, rfl, by decide⟩
@[go_sem] def s_toLate_lv : List (List Nat) := [[1, 2], [1, 2, 3], [1, 2, 3], [1, 2, 3], [2, 3], [2]]
@[go_sem] noncomputable def s_toLate_K : Known := Known.nil
set_option maxHeartbeats 8000000 in
theorem s_toLate : Sound Tryz.prog 148 ctToLate := by
  have ke := s_toLate_K.env []
  have kl : Lives s_toLate_lv := trivial
  refine sound_intro (E := ⟨ti, s_toLate_K.Γ, []⟩) ke Tryz.func148 Tryz.ntmps148 rfl (rs := [.cell 2 109]) rfl ?_
  intro args os hp
  unfold ctToLate at hp ⊢
  dsimp only at hp ⊢
  split at hp
  · rename_i x y t
    refine ⟨by simp, fun φ0 w0 => ?_⟩
    refine goh trivial ?_
    exact finh [] trivial
  · simp [no, is] at hp
@[go_sem] def ctToL : Ct := ⟨false, [[some .late]], fun args os => match args, os with
  | [.one (.isl .late xs)], [] => ⟨xs.length ≤ 4000000, .one (.osl .late 0 0 xs.length), [], [.arr .late xs]⟩
  | _, _ => no⟩
@[go_sem] def sgToL (xs : List Late) (i : Nat) : Sg := ⟨[(0, .one (.isl .late xs)), (3, .one (.osl .late 0 0 xs.length)), (4, vi i)], [some (.arr .late (mix xs (List.replicate xs.length ET.late.dflt) i))], []⟩
theorem s_toL_e : EnterOk Tryz.prog 76 := ⟨_, Tryz.func76, rfl, by decide⟩
@[go_sem] def s_toL_lv : List (List Nat) := [[0], [0, 3], [0, 3, 4], [0, 3, 4, 11], [0, 3, 4], [0, 3, 4], [2]]
@[go_sem] noncomputable def s_toL_K : Known := (Known.nil).cons 148 ctToLate s_toLate s_toLate_e
set_option maxHeartbeats 8000000 in
theorem s_toL : Sound Tryz.prog 76 ctToL := by
  have ke := s_toL_K.env []
  have kl : Lives s_toL_lv := trivial
  refine sound_intro (E := ⟨ti, s_toL_K.Γ, []⟩) ke Tryz.func76 Tryz.ntmps76 rfl (rs := [.tmp 2]) rfl ?_
  intro args os hp
  unfold ctToL at hp ⊢
  dsimp only at hp ⊢
  split at hp
  · rename_i xs
    refine ⟨by simp, fun φ0 w0 => ?_⟩
    have hlen : xs.length ≤ 4000000 := hp
    clear hp
    refine goh trivial ?_
    refine W_le (σ' := sgToL xs 0) [some 0] (by
      simp only [go_sem, mix_zero, inj_r, ↓reduceIte, reduceCtorEq, Nat.reduceAdd, Nat.reduceLT, Nat.reduceLeDiff, Nat.reduceEqDiff, Int.reduceEq]
      all_goals (repeat' refine And.intro ?_ ?_) <;> try exact shut7
      ) ?_
    refine W_loop (fun n σ => ∃ i : Nat, i ≤ xs.length ∧ n = xs.length - i ∧ σ = sgToL xs i) xs.length ⟨0, by omega, by omega, rfl⟩ ?_
    rintro n σ ⟨i, hi, rfl, rfl⟩
    unfold sgToL
    have hm := mix_len xs (List.replicate xs.length ET.late.dflt) i (by simp)
    rw [List.length_replicate] at hm
    refine goh hm ?_
    refine W_cnd ?_ ?_ <;> (try simp only [cnd_r]) <;> intro hlt
    · have hs := mix_set xs (List.replicate xs.length ET.late.dflt) i ET.late.dflt (by simp) (by simp; omega) rfl
      refine goh hm ?_
      refine ⟨xs.length - (i + 1), [some 0], sgToL xs (i + 1), by omega, ?_, i + 1, by omega, rfl, rfl⟩
      exact leh (And.intro hs hm)
    · have hs := mix_all xs (List.replicate xs.length ET.late.dflt) i (by simp) (by simp; omega)
      refine goh hm ?_
      exact finh [some 0] hs
  · simp [no] at hp
@[go_sem] def ctToDisk : Ct := ⟨false, [[some .str, some .str, some .late]], fun args os => match args, os with
  | [.agg [.isl .str a, .isl .str b, .isl .late l]], [] => ⟨(Dk.mk a b l).small, (Dk.mk a b l).v 0, [], (Dk.mk a b l).objs⟩
  | _, _ => no⟩
theorem s_toDisk_e : EnterOk Tryz.prog 20 := ⟨_, Tryz.func20, rfl, by decide⟩
@[go_sem] def s_toDisk_lv : List (List Nat) := [[1, 2], [1, 2, 3], [1, 2, 3], [2, 3], [2]]
@[go_sem] noncomputable def s_toDisk_K : Known := ((Known.nil).cons 75 ctToS2 s_toS2 s_toS2_e).cons 76 ctToL s_toL s_toL_e
set_option maxHeartbeats 8000000 in
theorem s_toDisk : Sound Tryz.prog 20 ctToDisk := by
  have ke := s_toDisk_K.env []
  have kl : Lives s_toDisk_lv := trivial
  refine sound_intro (E := ⟨ti, s_toDisk_K.Γ, []⟩) ke Tryz.func20 Tryz.ntmps20 rfl (rs := [.cell 2 36]) rfl ?_
  intro args os hp
  unfold ctToDisk at hp ⊢
  dsimp only at hp ⊢
  split at hp
  · rename_i a b l
    refine ⟨by simp, fun φ0 w0 => ?_⟩
    obtain ⟨h1, h2, h3⟩ : (Dk.mk a b l).small := hp
    simp only at h1 h2 h3
    refine goh trivial ?_
    exact finh [some 3, some 4, some 5] trivial
  · simp [no] at hp
end Go.Proofs.YtmnbgppmfbnamaaGreatDoor
/- Functions of the exact laws: marks, and what holds them. -/
namespace Go.Proofs.YtmnbgppmfbnamaaGreatDoor
open Go.RowKit

@[go_sem] def ctMarkT : Ct := ⟨false, [], fun args os => match args, os with
  | [.one (.val (.int .i64 k))], [] => ifp (0 ≤ k ∧ k ≤ 1152921504606846976) (vs (markT k))
  | _, _ => no⟩
@[go_sem] def sgMark (k : Int) (out : ByteArray) : Sg := ⟨[(0, vi k), (3, vs out)], [], []⟩
theorem s_markT_e : EnterOk Tryz.prog 83 := ⟨_, Tryz.func83, rfl, by decide⟩
@[go_sem] def s_markT_lv : List (List Nat) := [[0], [0, 5], [2], [0, 3], [0, 3, 7], [0, 3], [0, 3], [2]]
@[go_sem] noncomputable def s_markT_K : Known := Known.nil
set_option maxHeartbeats 8000000 in
theorem s_markT : Sound Tryz.prog 83 ctMarkT := by
  have ke := s_markT_K.env []
  have kl : Lives s_markT_lv := trivial
  refine sound_intro (E := ⟨ti, s_markT_K.Γ, []⟩) ke Tryz.func83 Tryz.ntmps83 rfl (rs := [.tmp 2]) rfl ?_
  intro args os hp
  unfold ctMarkT at hp ⊢
  dsimp only at hp ⊢
  split at hp
  · rename_i k
    refine ⟨by simp, fun φ0 w0 => ?_⟩
    obtain ⟨h1, h2⟩ : 0 ≤ k ∧ k ≤ 1152921504606846976 := hp
    refine goh trivial ?_
    refine W_cnd ?_ ?_ <;> (try simp only [cnd_r]) <;> intro hk
    · have e : markT k = ⟨#[109, 48]⟩ := by unfold markT; rw [if_pos (by omega)]
      refine goh trivial ?_
      exact finh [] e
    · have e : markT k = ⟨#[109]⟩ ++ digs 64 k ⟨#[]⟩ := by unfold markT; rw [if_neg (by omega)]
      obtain ⟨R, hR⟩ : ∃ R, digs 64 k ⟨#[]⟩ = R := ⟨_, rfl⟩
      refine goh trivial ?_
      refine W_le (σ' := sgMark k ⟨#[]⟩) [] (by
        simp only [go_sem, inj_r, ↓reduceIte, reduceCtorEq, Nat.reduceAdd, Nat.reduceLT, Nat.reduceLeDiff, Nat.reduceEqDiff, Int.reduceEq]
        all_goals (repeat' refine And.intro ?_ ?_) <;> try exact shut7
        ) ?_
      refine W_loop (fun n σ => ∃ (j : Int) (out : ByteArray), 0 ≤ j ∧ j ≤ 1152921504606846976 ∧ j.toNat < 2 ^ n ∧ out.size + n ≤ 64 ∧ digs n j out = R ∧ σ = sgMark j out) 64 ⟨k, ⟨#[]⟩, h1, h2, by omega, by decide, hR, rfl⟩ ?_
      rintro n σ ⟨j, out, hj1, hj2, hn, ho, hd, rfl⟩
      unfold sgMark
      refine goh trivial ?_
      refine W_cnd ?_ ?_ <;> (try simp only [cnd_r]) <;> intro hjp
      · refine goh trivial ?_
        obtain ⟨m, rfl⟩ : ∃ m, n = m + 1 := ⟨n - 1, by rcases n with _ | n; · simp at hn; omega
                                                       · omega⟩
        have hd2 := hd
        unfold digs at hd2
        rw [if_pos hjp] at hd2
        have hq : j.tdiv 10 = j / 10 := Int.tdiv_eq_ediv_of_nonneg hj1
        have hw : IntKind.i64.wrap (j.tdiv 10) = j.tdiv 10 := wrap_id _ (by omega) (by omega)
        rw [Nat.pow_succ] at hn
        refine ⟨m, [], sgMark (j.tdiv 10) (⟨#[UInt8.ofNat (IntKind.u8.wrap (IntKind.i64.wrap (48 + j.tmod 10))).toNat]⟩ ++ out), by omega, ?_, _, _, by omega, by omega, by omega, ?_, hd2, rfl⟩
        · exact leh hw
        · rw [ByteArray.size_append]
          show 1 + out.size + m ≤ 64
          omega
      · refine goh trivial ?_
        have hj0 : ¬ j > 0 := by omega
        have e2 : digs n j out = out := by
          cases n with
          | zero => rfl
          | succ m => unfold digs; rw [if_neg hj0]
        rw [← hd, e2] at hR
        exact finh [] (And.intro e hR)
  · simp [no, ifp] at hp
@[go_sem] def ctMarkS : Ct := ⟨true, [], fun args os => match args, os with
  | [.one (.osl .str 0 0 n), .one (.val (.int .i64 k))], [.arr .str xs] => ⟨n = xs.length ∧ xs.length ≤ 4000000 ∧ 0 ≤ k ∧ k ≤ 1000000000, vi (k + xs.length), [(0, some (.arr .str (markS xs.length k)))], []⟩
  | _, _ => no⟩
@[go_sem] def sgMarkS (xs : List ByteArray) (k : Int) (i : Nat) : Sg := ⟨[(0, .one (.osl .str 0 0 xs.length)), (1, vi (k + i)), (5, vi i)], [some (.arr .str (mix (markS xs.length k) xs i))], [0]⟩
theorem s_markS_e : EnterOk Tryz.prog 152 := ⟨_, Tryz.func152, rfl, by decide⟩
@[go_sem] def s_markS_lv : List (List Nat) := [[0, 1], [0, 1, 5], [0, 1, 5, 9], [0, 1, 5], [0, 1, 5], [0, 1, 5], [4]]
@[go_sem] noncomputable def s_markS_K : Known := (Known.nil).cons 83 ctMarkT s_markT s_markT_e
set_option maxHeartbeats 8000000 in
theorem s_markS : Sound Tryz.prog 152 ctMarkS := by
  have ke := s_markS_K.env []
  have kl : Lives s_markS_lv := trivial
  refine sound_intro (E := ⟨ti, s_markS_K.Γ, []⟩) ke Tryz.func152 Tryz.ntmps152 rfl (rs := [.tmp 4]) rfl ?_
  intro args os hp
  unfold ctMarkS at hp ⊢
  dsimp only at hp ⊢
  split at hp
  · rename_i n k xs
    refine ⟨by simp, fun φ0 w0 => ?_⟩
    obtain ⟨rfl, h1, h2, h3⟩ : n = xs.length ∧ xs.length ≤ 4000000 ∧ 0 ≤ k ∧ k ≤ 1000000000 := hp
    have hml := markS_len xs.length k
    refine goh trivial ?_
    refine W_le (σ' := sgMarkS xs k 0) [some 0] (by
      simp only [go_sem, mix_zero, inj_r, ↓reduceIte, reduceCtorEq, Nat.reduceAdd, Nat.reduceLT, Nat.reduceLeDiff, Nat.reduceEqDiff, Int.reduceEq]
      all_goals (repeat' refine And.intro ?_ ?_) <;> try exact shut7
      ) ?_
    refine W_loop (fun q σ => ∃ i : Nat, i ≤ xs.length ∧ q = xs.length - i ∧ σ = sgMarkS xs k i) xs.length ⟨0, by omega, by omega, rfl⟩ ?_
    rintro q σ ⟨i, hi, rfl, rfl⟩
    unfold sgMarkS
    have hm := mix_len (markS xs.length k) xs i hml
    refine goh hm ?_
    refine W_cnd ?_ ?_ <;> (try simp only [cnd_r]) <;> intro hlt
    · have hs := mix_set (markS xs.length k) xs i ET.str.dflt hml (by omega) (x := markT (k + i)) (markS_get (by omega) _).symm
      refine goh hm ?_
      refine ⟨xs.length - (i + 1), [some 0], sgMarkS xs k (i + 1), by omega, ?_, i + 1, by omega, rfl, rfl⟩
      exact leh (And.intro hs hm)
    · obtain rfl : i = xs.length := by omega
      have hs := mix_all (markS xs.length k) xs xs.length hml rfl
      refine goh hm ?_
      exact finh [some 0] hs
  · simp [no] at hp
@[go_sem] def ctMarkL : Ct := ⟨true, [], fun args os => match args, os with
  | [.one (.osl .late 0 0 n), .one (.val (.int .i64 k))], [.arr .late xs] => ⟨n = xs.length ∧ xs.length ≤ 4000000 ∧ 0 ≤ k ∧ k ≤ 1000000000, vi (k + 3 * xs.length), [(0, some (.arr .late (markL xs.length k)))], []⟩
  | _, _ => no⟩
@[go_sem] def sgMarkL (xs : List Late) (k : Int) (i : Nat) : Sg := ⟨[(0, .one (.osl .late 0 0 xs.length)), (1, vi (k + 3 * i)), (5, vi i)], [some (.arr .late (mix (markL xs.length k) xs i))], [0]⟩
theorem s_markL_e : EnterOk Tryz.prog 82 := ⟨_, Tryz.func82, rfl, by decide⟩
@[go_sem] def s_markL_lv : List (List Nat) := [[0, 1], [0, 1, 5], [0, 1, 5, 9], [0, 1, 5], [0, 1, 5], [0, 1, 5], [0, 1, 5], [0, 1, 5], [0, 1, 5], [0, 1, 5], [4]]
@[go_sem] noncomputable def s_markL_K : Known := (Known.nil).cons 83 ctMarkT s_markT s_markT_e
set_option maxHeartbeats 8000000 in
theorem s_markL : Sound Tryz.prog 82 ctMarkL := by
  have ke := s_markL_K.env []
  have kl : Lives s_markL_lv := trivial
  refine sound_intro (E := ⟨ti, s_markL_K.Γ, []⟩) ke Tryz.func82 Tryz.ntmps82 rfl (rs := [.tmp 4]) rfl ?_
  intro args os hp
  unfold ctMarkL at hp ⊢
  dsimp only at hp ⊢
  split at hp
  · rename_i n k xs
    refine ⟨by simp, fun φ0 w0 => ?_⟩
    obtain ⟨rfl, h1, h2, h3⟩ : n = xs.length ∧ xs.length ≤ 4000000 ∧ 0 ≤ k ∧ k ≤ 1000000000 := hp
    have hml := markL_len xs.length k
    refine goh trivial ?_
    refine W_le (σ' := sgMarkL xs k 0) [some 0] (by
      simp only [go_sem, mix_zero, inj_r, ↓reduceIte, reduceCtorEq, Nat.reduceAdd, Nat.reduceLT, Nat.reduceLeDiff, Nat.reduceEqDiff, Int.reduceEq]
      all_goals (repeat' refine And.intro ?_ ?_) <;> try exact shut7
      ) ?_
    refine W_loop (fun q σ => ∃ i : Nat, i ≤ xs.length ∧ q = xs.length - i ∧ σ = sgMarkL xs k i) xs.length ⟨0, by omega, by omega, rfl⟩ ?_
    rintro q σ ⟨i, hi, rfl, rfl⟩
    unfold sgMarkL
    have hm := mix_len (markL xs.length k) xs i hml
    refine goh hm ?_
    refine W_cnd ?_ ?_ <;> (try simp only [cnd_r]) <;> intro hlt
    · have hli : i < xs.length := by omega
      have w1 : IntKind.i64.wrap (k + 3 * i + 1) = k + 3 * i + 1 := wrap_id _ (by omega) (by omega)
      have w2 : IntKind.i64.wrap (k + 3 * i + 1 + 1) = k + 3 * i + 2 := by rw [wrap_id _ (by omega) (by omega)]; omega
      have w3 : IntKind.i64.wrap (k + 3 * i + 2 + 1) = k + 3 * (i + 1) := by rw [wrap_id _ (by omega) (by omega)]; omega
      have w4 : IntKind.i64.wrap (k + 3 * i) = k + 3 * i := wrap_id _ (by omega) (by omega)
      have w5 : IntKind.i64.wrap (k + 3 * i + 2) = k + 3 * i + 2 := wrap_id _ (by omega) (by omega)
      have hg : ∀ x : Late, ((mix (markL xs.length k) xs i).set i x).getD i ET.late.dflt = x := fun x => by
        rw [List.getD_eq_getElem?_getD, List.getElem?_set, if_pos rfl, if_pos (by omega)]; rfl
      have hs := mix_set (markL xs.length k) xs i ET.late.dflt hml (by omega) (x := ⟨k + 3 * i, k + 3 * i + 1, markT (k + 3 * i + 2)⟩) (markL_get (by omega) _).symm
      repeat' first
        | with_reducible refine red ?_
        | refine W_seq ?_
        | (refine W_reg (s_markL_K.env []) s_markL_lv fun K' hK' => ?_
           simp only [go_sem, hm, w1, w2, w3, w4, w5, List.length_set, hg, List.set_set, ↓reduceIte, ↓reduceDIte, reduceCtorEq, Nat.reduceAdd, Nat.reduceMul, Nat.reduceSub, Nat.reduceDiv, Nat.reduceMod, Nat.reduceLT, Nat.reduceLeDiff, Nat.reduceEqDiff, Nat.reduceBEq, Int.reduceToNat, Int.reduceLE, Int.reduceLT, Int.reduceEq, Int.reduceNe, Int.reduceNeg]
           (repeat' refine And.intro ?_ ?_) <;> try first | with_reducible refine hK' ?_ | exact shut6)
        | with_reducible refine blockG_o (by decide) ?_
      refine ⟨xs.length - (i + 1), [some 0], sgMarkL xs k (i + 1), by omega, ?_, i + 1, by omega, rfl, rfl⟩
      exact leh (And.intro hs hm)
    · obtain rfl : i = xs.length := by omega
      have hs := mix_all (markL xs.length k) xs xs.length hml rfl
      refine goh hm ?_
      exact finh [some 0] hs
  · simp [no] at hp
@[go_sem] def ctMarkS2 : Ct := ⟨true, [], fun args os => match args, os with
  | [.agg [.osl .str 0 0 n, .osl .str 1 0 m], .one (.val (.int .i64 k))], [.arr .str a, .arr .str b] => ⟨(n = a.length ∧ m = b.length) ∧ a.length ≤ 4000000 ∧ b.length ≤ 4000000 ∧ 0 ≤ k ∧ k ≤ 900000000, vi (k + a.length + b.length), [(0, some (.arr .str (markS a.length k))), (1, some (.arr .str (markS b.length (k + a.length))))], []⟩
  | _, _ => no⟩
@[go_sem] def sgMarkS2 (a b : List ByteArray) (n m : Nat) (k i : Int) : Sg := ⟨[(1, vi k), (2, .one (.ptr 2 0)), (5, vi i)], [some (.arr .str a), some (.arr .str b), some (.cells [.osl .str 0 0 n, .osl .str 1 0 m])], [0, 1]⟩
theorem s_markS2_e : EnterOk Tryz.prog 81 := ⟨_, Tryz.func81, rfl, by decide⟩
@[go_sem] def s_markS2_lv : List (List Nat) := [[1, 2], [1, 2, 5], [1, 2, 5, 7], [1, 2, 5], [1, 2, 5], [4]]
@[go_sem] noncomputable def s_markS2_K : Known := (Known.nil).cons 152 ctMarkS s_markS s_markS_e
set_option maxHeartbeats 8000000 in
theorem s_markS2 : Sound Tryz.prog 81 ctMarkS2 := by
  have ke := s_markS2_K.env []
  have kl : Lives s_markS2_lv := trivial
  refine sound_intro (E := ⟨ti, s_markS2_K.Γ, []⟩) ke Tryz.func81 Tryz.ntmps81 rfl (rs := [.tmp 4]) rfl ?_
  intro args os hp
  unfold ctMarkS2 at hp ⊢
  dsimp only at hp ⊢
  split at hp
  · rename_i n m k a b
    refine ⟨by simp, fun φ0 w0 => ?_⟩
    obtain ⟨⟨rfl, rfl⟩, h1, h2, h3, h4⟩ : (n = a.length ∧ m = b.length) ∧ a.length ≤ 4000000 ∧ b.length ≤ 4000000 ∧ 0 ≤ k ∧ k ≤ 900000000 := hp
    refine goh trivial ?_
    refine W_le (σ' := sgMarkS2 a b a.length b.length k 0) [some 0, some 1, some 2] (by
      simp only [go_sem, inj_r, ↓reduceIte, reduceCtorEq, Nat.reduceAdd, Nat.reduceLT, Nat.reduceLeDiff, Nat.reduceEqDiff, Int.reduceEq]
      all_goals (repeat' refine And.intro ?_ ?_) <;> try exact shut7
      ) ?_
    refine W_loop (fun q σ => (q = 2 ∧ σ = sgMarkS2 a b a.length b.length k 0) ∨ (q = 1 ∧ σ = sgMarkS2 (markS a.length k) b a.length b.length (k + a.length) 1) ∨ (q = 0 ∧ σ = sgMarkS2 (markS a.length k) (markS b.length (k + a.length)) a.length b.length (k + a.length + b.length) 2)) 2 (.inl ⟨rfl, rfl⟩) ?_
    rintro q σ (⟨rfl, rfl⟩ | ⟨rfl, rfl⟩ | ⟨rfl, rfl⟩)
    · unfold sgMarkS2
      refine goh trivial ?_
      refine W_cnd ?_ ?_ <;> intro hlit <;> try (cases hlit; done)
      refine goh trivial ?_
      refine ⟨1, [some 0, some 1, some 2], sgMarkS2 (markS a.length k) b a.length b.length (k + a.length) 1, by omega, ?_, .inr (.inl ⟨rfl, rfl⟩)⟩
      exact leh trivial
    · unfold sgMarkS2
      refine goh trivial ?_
      refine W_cnd ?_ ?_ <;> intro hlit <;> try (cases hlit; done)
      refine goh trivial ?_
      refine ⟨0, [some 0, some 1, some 2], sgMarkS2 (markS a.length k) (markS b.length (k + a.length)) a.length b.length (k + a.length + b.length) 2, by omega, ?_, .inr (.inr ⟨rfl, rfl⟩)⟩
      exact leh trivial
    · unfold sgMarkS2
      refine goh trivial ?_
      refine W_cnd ?_ ?_ <;> intro hlit <;> try (cases hlit; done)
      refine goh trivial ?_
      exact finh [some 0, some 1] trivial
  · simp [no] at hp
@[go_sem] def ctMarkDisk : Ct := ⟨true, [], fun args os => match args, os with
  | [.agg [.osl .str 0 0 n, .osl .str 1 0 m, .osl .late 2 0 q], .one (.val (.int .i64 k))], [.arr .str a, .arr .str b, .arr .late l] => ⟨(n = a.length ∧ m = b.length ∧ q = l.length) ∧ (a.length ≤ 4000000 ∧ b.length ≤ 4000000 ∧ l.length ≤ 4000000) ∧ 0 ≤ k ∧ k ≤ 800000000, vi (k + a.length + b.length + 3 * l.length),
      [(0, some (.arr .str (markS a.length k))), (1, some (.arr .str (markS b.length (k + a.length)))), (2, some (.arr .late (markL l.length (k + a.length + b.length))))], []⟩
  | _, _ => no⟩
theorem s_markDisk_e : EnterOk Tryz.prog 24 := ⟨_, Tryz.func24, rfl, by decide⟩
@[go_sem] def s_markDisk_lv : List (List Nat) := [[1, 2], [1, 2], [1], [4]]
@[go_sem] noncomputable def s_markDisk_K : Known := ((Known.nil).cons 81 ctMarkS2 s_markS2 s_markS2_e).cons 82 ctMarkL s_markL s_markL_e
set_option maxHeartbeats 8000000 in
theorem s_markDisk : Sound Tryz.prog 24 ctMarkDisk := by
  have ke := s_markDisk_K.env []
  have kl : Lives s_markDisk_lv := trivial
  refine sound_intro (E := ⟨ti, s_markDisk_K.Γ, []⟩) ke Tryz.func24 Tryz.ntmps24 rfl (rs := [.tmp 4]) rfl ?_
  intro args os hp
  unfold ctMarkDisk at hp ⊢
  dsimp only at hp ⊢
  split at hp
  · rename_i n m q k a b l
    refine ⟨by simp, fun φ0 w0 => ?_⟩
    obtain ⟨⟨rfl, rfl, rfl⟩, ⟨h1, h2, h3⟩, h4, h5⟩ : (n = a.length ∧ m = b.length ∧ q = l.length) ∧ (a.length ≤ 4000000 ∧ b.length ≤ 4000000 ∧ l.length ≤ 4000000) ∧ 0 ≤ k ∧ k ≤ 800000000 := hp
    refine goh trivial ?_
    exact finh [some 0, some 1, some 2] trivial
  · simp [no] at hp
@[go_sem] def ctHeldS : Ct := ⟨false, [[some .str]], fun args os => match args, os with
  | [.one (.isl .str xs), .one (.val (.int .i64 k))], [] => ifp (xs = markS xs.length k ∧ xs.length ≤ 4000000 ∧ 0 ≤ k ∧ k ≤ 1000000000) (vi (k + xs.length))
  | _, _ => no⟩
@[go_sem] def sgHeldS (xs : List ByteArray) (k : Int) (i : Nat) : Sg := ⟨[(0, .one (.isl .str xs)), (1, vi (k + i)), (5, vi i)], [], []⟩
theorem s_heldS_e : EnterOk Tryz.prog 186 := ⟨_, Tryz.func186, rfl, by decide⟩
@[go_sem] def s_heldS_lv : List (List Nat) := [[0, 1], [0, 1, 5], [0, 1, 5, 9], [0, 1, 5], [0, 1, 5, 18], [4], [0, 1, 5], [4]]
@[go_sem] noncomputable def s_heldS_K : Known := (Known.nil).cons 83 ctMarkT s_markT s_markT_e
set_option maxHeartbeats 8000000 in
theorem s_heldS : Sound Tryz.prog 186 ctHeldS := by
  have ke := s_heldS_K.env []
  have kl : Lives s_heldS_lv := trivial
  refine sound_intro (E := ⟨ti, s_heldS_K.Γ, []⟩) ke Tryz.func186 Tryz.ntmps186 rfl (rs := [.tmp 4]) rfl ?_
  intro args os hp
  unfold ctHeldS at hp ⊢
  dsimp only at hp ⊢
  split at hp
  · rename_i xs k
    refine ⟨by simp, fun φ0 w0 => ?_⟩
    obtain ⟨h0, h1, h2, h3⟩ : xs = markS xs.length k ∧ xs.length ≤ 4000000 ∧ 0 ≤ k ∧ k ≤ 1000000000 := hp
    have hget : ∀ i, i < xs.length → xs.getD i ET.str.dflt = markT (k + i) := fun i hi => by
      conv => lhs; rw [h0]
      exact markS_get hi _
    clear h0
    refine goh trivial ?_
    refine W_le (σ' := sgHeldS xs k 0) [] (by
      simp only [go_sem, inj_r, ↓reduceIte, reduceCtorEq, Nat.reduceAdd, Nat.reduceLT, Nat.reduceLeDiff, Nat.reduceEqDiff, Int.reduceEq]
      all_goals (repeat' refine And.intro ?_ ?_) <;> try exact shut7
      ) ?_
    refine W_loop (fun q σ => ∃ i : Nat, i ≤ xs.length ∧ q = xs.length - i ∧ σ = sgHeldS xs k i) xs.length ⟨0, by omega, by omega, rfl⟩ ?_
    rintro q σ ⟨i, hi, rfl, rfl⟩
    unfold sgHeldS
    refine goh trivial ?_
    refine W_cnd ?_ ?_ <;> (try simp only [cnd_r]) <;> intro hlt
    · have hg := hget i (by omega)
      refine goh hg ?_
      refine W_cnd ?_ ?_ <;> intro hlit <;> try (cases hlit; done)
      refine goh trivial ?_
      refine ⟨xs.length - (i + 1), [], sgHeldS xs k (i + 1), by omega, ?_, i + 1, by omega, rfl, rfl⟩
      exact leh trivial
    · obtain rfl : i = xs.length := by omega
      refine goh trivial ?_
      exact finh [] trivial
  · simp [no, ifp] at hp
@[go_sem] def ctHeldS2 : Ct := ⟨false, [[some .str, some .str]], fun args os => match args, os with
  | [.agg [.isl .str a, .isl .str b], .one (.val (.int .i64 k))], [] => ifp ((a = markS a.length k ∧ b = markS b.length (k + a.length)) ∧ (a.length ≤ 4000000 ∧ b.length ≤ 4000000) ∧ 0 ≤ k ∧ k ≤ 900000000) (vi (k + a.length + b.length))
  | _, _ => no⟩
@[go_sem] def sgHeldS2 (a b : List ByteArray) (k i : Int) : Sg := ⟨[(1, vi k), (2, .one (.ptr 0 0)), (5, vi i)], [some (.cells [.isl .str a, .isl .str b])], []⟩
theorem s_heldS2_e : EnterOk Tryz.prog 108 := ⟨_, Tryz.func108, rfl, by decide⟩
@[go_sem] def s_heldS2_lv : List (List Nat) := [[1, 2], [1, 2, 5], [1, 2, 5, 7], [1, 2, 5], [1, 2, 5], [1, 2, 5, 16], [4], [4]]
@[go_sem] noncomputable def s_heldS2_K : Known := (Known.nil).cons 186 ctHeldS s_heldS s_heldS_e
set_option maxHeartbeats 8000000 in
theorem s_heldS2 : Sound Tryz.prog 108 ctHeldS2 := by
  have ke := s_heldS2_K.env []
  have kl : Lives s_heldS2_lv := trivial
  refine sound_intro (E := ⟨ti, s_heldS2_K.Γ, []⟩) ke Tryz.func108 Tryz.ntmps108 rfl (rs := [.tmp 4]) rfl ?_
  intro args os hp
  unfold ctHeldS2 at hp ⊢
  dsimp only at hp ⊢
  split at hp
  · rename_i a b k
    refine ⟨by simp, fun φ0 w0 => ?_⟩
    obtain ⟨⟨e1, e2⟩, ⟨h1, h2⟩, h3, h4⟩ : (a = markS a.length k ∧ b = markS b.length (k + a.length)) ∧ (a.length ≤ 4000000 ∧ b.length ≤ 4000000) ∧ 0 ≤ k ∧ k ≤ 900000000 := hp
    have c1 : decide (k + a.length < 0) = false := by simp; omega
    have c2 : decide (k + a.length + b.length < 0) = false := by simp; omega
    refine goh trivial ?_
    refine W_le (σ' := sgHeldS2 a b k 0) [some 0] (by
      simp only [go_sem, inj_r, ↓reduceIte, reduceCtorEq, Nat.reduceAdd, Nat.reduceLT, Nat.reduceLeDiff, Nat.reduceEqDiff, Int.reduceEq]
      all_goals (repeat' refine And.intro ?_ ?_) <;> try exact shut7
      ) ?_
    refine W_loop (fun q σ => (q = 2 ∧ σ = sgHeldS2 a b k 0) ∨ (q = 1 ∧ σ = sgHeldS2 a b (k + a.length) 1) ∨ (q = 0 ∧ σ = sgHeldS2 a b (k + a.length + b.length) 2)) 2 (.inl ⟨rfl, rfl⟩) ?_
    rintro q σ (⟨rfl, rfl⟩ | ⟨rfl, rfl⟩ | ⟨rfl, rfl⟩)
    · unfold sgHeldS2
      refine goh trivial ?_
      refine W_cnd ?_ ?_ <;> intro hlit <;> try (cases hlit; done)
      refine goh c1 ?_
      refine W_cnd ?_ ?_ <;> intro hlit <;> try (cases hlit; done)
      refine goh trivial ?_
      refine ⟨1, [some 0], sgHeldS2 a b (k + a.length) 1, by omega, ?_, .inr (.inl ⟨rfl, rfl⟩)⟩
      exact leh trivial
    · unfold sgHeldS2
      refine goh trivial ?_
      refine W_cnd ?_ ?_ <;> intro hlit <;> try (cases hlit; done)
      refine goh c2 ?_
      refine W_cnd ?_ ?_ <;> intro hlit <;> try (cases hlit; done)
      refine goh trivial ?_
      refine ⟨0, [some 0], sgHeldS2 a b (k + a.length + b.length) 2, by omega, ?_, .inr (.inr ⟨rfl, rfl⟩)⟩
      exact leh trivial
    · unfold sgHeldS2
      refine goh trivial ?_
      refine W_cnd ?_ ?_ <;> intro hlit <;> try (cases hlit; done)
      refine goh trivial ?_
      exact finh [] trivial
  · simp [no, ifp] at hp
@[go_sem] def ctHeldL : Ct := ⟨false, [[some .late]], fun args os => match args, os with
  | [.one (.isl .late xs), .one (.val (.int .i64 k))], [] => ifp (xs = markL xs.length k ∧ xs.length ≤ 4000000 ∧ 0 ≤ k ∧ k ≤ 1000000000) (vi (k + 3 * xs.length))
  | _, _ => no⟩
@[go_sem] def sgHeldL (xs : List Late) (k : Int) (i : Nat) : Sg := ⟨[(0, .one (.isl .late xs)), (1, vi (k + 3 * i)), (5, vi i)], [], []⟩
theorem s_heldL_e : EnterOk Tryz.prog 109 := ⟨_, Tryz.func109, rfl, by decide⟩
@[go_sem] def s_heldL_lv : List (List Nat) := [[0, 1], [0, 1, 5], [0, 1, 5, 9], [0, 1, 5], [0, 1, 5, 18], [4], [0, 1, 5], [0, 1, 5, 27], [4], [0, 1, 5], [0, 1, 5, 37], [4], [0, 1, 5], [4]]
@[go_sem] noncomputable def s_heldL_K : Known := (Known.nil).cons 83 ctMarkT s_markT s_markT_e
set_option maxHeartbeats 8000000 in
theorem s_heldL : Sound Tryz.prog 109 ctHeldL := by
  have ke := s_heldL_K.env []
  have kl : Lives s_heldL_lv := trivial
  refine sound_intro (E := ⟨ti, s_heldL_K.Γ, []⟩) ke Tryz.func109 Tryz.ntmps109 rfl (rs := [.tmp 4]) rfl ?_
  intro args os hp
  unfold ctHeldL at hp ⊢
  dsimp only at hp ⊢
  split at hp
  · rename_i xs k
    refine ⟨by simp, fun φ0 w0 => ?_⟩
    obtain ⟨h0, h1, h2, h3⟩ : xs = markL xs.length k ∧ xs.length ≤ 4000000 ∧ 0 ≤ k ∧ k ≤ 1000000000 := hp
    have hget : ∀ i, i < xs.length → xs.getD i ET.late.dflt = ⟨k + 3 * i, k + 3 * i + 1, markT (k + 3 * i + 2)⟩ := fun i hi => by
      conv => lhs; rw [h0]
      exact markL_get hi _
    clear h0
    refine goh trivial ?_
    refine W_le (σ' := sgHeldL xs k 0) [] (by
      simp only [go_sem, inj_r, ↓reduceIte, reduceCtorEq, Nat.reduceAdd, Nat.reduceLT, Nat.reduceLeDiff, Nat.reduceEqDiff, Int.reduceEq]
      all_goals (repeat' refine And.intro ?_ ?_) <;> try exact shut7
      ) ?_
    refine W_loop (fun q σ => ∃ i : Nat, i ≤ xs.length ∧ q = xs.length - i ∧ σ = sgHeldL xs k i) xs.length ⟨0, by omega, by omega, rfl⟩ ?_
    rintro q σ ⟨i, hi, rfl, rfl⟩
    unfold sgHeldL
    refine goh trivial ?_
    refine W_cnd ?_ ?_ <;> (try simp only [cnd_r]) <;> intro hlt
    · have hg := hget i (by omega)
      have w1 : IntKind.i64.wrap (k + 3 * i + 1) = k + 3 * i + 1 := wrap_id _ (by omega) (by omega)
      have w2 : IntKind.i64.wrap (k + 3 * i + 1 + 1) = k + 3 * i + 2 := by rw [wrap_id _ (by omega) (by omega)]; omega
      have w3 : IntKind.i64.wrap (k + 3 * i + 2 + 1) = k + 3 * (i + 1) := by rw [wrap_id _ (by omega) (by omega)]; omega
      have w4 : IntKind.i64.wrap (k + 3 * i) = k + 3 * i := wrap_id _ (by omega) (by omega)
      have w5 : IntKind.i64.wrap (k + 3 * i + 2) = k + 3 * i + 2 := wrap_id _ (by omega) (by omega)
      refine goh (And.intro hg (And.intro w1 (And.intro w2 (And.intro w3 (And.intro w4 w5))))) ?_
      refine W_cnd ?_ ?_ <;> intro hlit <;> try (cases hlit; done)
      refine goh (And.intro hg (And.intro w1 (And.intro w2 (And.intro w3 (And.intro w4 w5))))) ?_
      refine W_cnd ?_ ?_ <;> intro hlit <;> try (cases hlit; done)
      refine goh (And.intro hg (And.intro w1 (And.intro w2 (And.intro w3 (And.intro w4 w5))))) ?_
      refine W_cnd ?_ ?_ <;> intro hlit <;> try (cases hlit; done)
      refine goh (And.intro hg (And.intro w1 (And.intro w2 (And.intro w3 (And.intro w4 w5))))) ?_
      refine ⟨xs.length - (i + 1), [], sgHeldL xs k (i + 1), by omega, ?_, i + 1, by omega, rfl, rfl⟩
      exact leh trivial
    · obtain rfl : i = xs.length := by omega
      refine goh trivial ?_
      exact finh [] trivial
  · simp [no, ifp] at hp
def Dk.held (d : Dk) (k : Int) : Prop := d.a = markS d.a.length k ∧ d.b = markS d.b.length (k + d.a.length) ∧ d.l = markL d.l.length (k + d.a.length + d.b.length)
@[go_sem] def ctHeldDisk : Ct := ⟨false, [[some .str, some .str, some .late]], fun args os => match args, os with
  | [.agg [.isl .str a, .isl .str b, .isl .late l], .one (.val (.int .i64 k))], [] => ifp ((a = markS a.length k ∧ b = markS b.length (k + a.length) ∧ l = markL l.length (k + a.length + b.length)) ∧ (a.length ≤ 4000000 ∧ b.length ≤ 4000000 ∧ l.length ≤ 4000000) ∧ 0 ≤ k ∧ k ≤ 800000000) (vi (k + a.length + b.length + 3 * l.length))
  | _, _ => no⟩
theorem s_heldDisk_e : EnterOk Tryz.prog 35 := ⟨_, Tryz.func35, rfl, by decide⟩
@[go_sem] def s_heldDisk_lv : List (List Nat) := [[1, 2], [1, 2], [1, 2, 10], [4], [1], [1, 16], [4], [4]]
@[go_sem] noncomputable def s_heldDisk_K : Known := ((Known.nil).cons 108 ctHeldS2 s_heldS2 s_heldS2_e).cons 109 ctHeldL s_heldL s_heldL_e
set_option maxHeartbeats 8000000 in
theorem s_heldDisk : Sound Tryz.prog 35 ctHeldDisk := by
  have ke := s_heldDisk_K.env []
  have kl : Lives s_heldDisk_lv := trivial
  refine sound_intro (E := ⟨ti, s_heldDisk_K.Γ, []⟩) ke Tryz.func35 Tryz.ntmps35 rfl (rs := [.tmp 4]) rfl ?_
  intro args os hp
  unfold ctHeldDisk at hp ⊢
  dsimp only at hp ⊢
  split at hp
  · rename_i a b l k
    refine ⟨by simp, fun φ0 w0 => ?_⟩
    obtain ⟨⟨e1, e2, e3⟩, ⟨h1, h2, h3⟩, h4, h5⟩ : (a = markS a.length k ∧ b = markS b.length (k + a.length) ∧ l = markL l.length (k + a.length + b.length)) ∧ (a.length ≤ 4000000 ∧ b.length ≤ 4000000 ∧ l.length ≤ 4000000) ∧ 0 ≤ k ∧ k ≤ 800000000 := hp
    have c1 : decide (k + a.length + b.length < 0) = false := by simp; omega
    have c2 : decide (k + a.length + b.length + 3 * l.length < 0) = false := by simp; omega
    refine goh c1 ?_
    refine W_cnd ?_ ?_ <;> intro hlit <;> try (cases hlit; done)
    refine goh c2 ?_
    refine W_cnd ?_ ?_ <;> intro hlit <;> try (cases hlit; done)
    refine goh trivial ?_
    exact finh [] trivial
  · simp [no, ifp] at hp
end Go.Proofs.YtmnbgppmfbnamaaGreatDoor
