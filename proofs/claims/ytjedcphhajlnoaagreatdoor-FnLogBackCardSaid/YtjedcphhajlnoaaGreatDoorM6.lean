import Derived.Test.YtjedcphhajlnoaaGreatDoorProg
import Derived.WalkKit
import Derived.Ground.NamesProg
import Derived.Shelf.Strconv.Itoa3
import Derived.Lib.ItoaNum
import Derived.Lib.AtoiAll
import Derived.Lib.AtoiTie
import Derived.Lib.SplitLaws
import Derived.Lib.Join
import Derived.Shelf.Strings.SplitShaped
import Derived.Test.YtjedcphhajlnoaaGreatDoorM5
set_option linter.unusedSimpArgs false
set_option linter.unusedVariables false
set_option linter.unusedSectionVars false
/- Functions of the exact laws: what is handed in, weighed and copied; equal ones. -/
namespace Go.Proofs.YtjedcphhajlnoaaGreatDoor
open Go.RowKit

/-- No text is longer than a machine holds. -/
structure inS (xs : List ByteArray) : Prop where
  len : xs.length ≤ 9223372036854775807
  all : ∀ i : Nat, (xs.getD i ET.str.dflt).size ≤ 9223372036854775807
structure inL (xs : List Late) : Prop where
  len : xs.length ≤ 9223372036854775807
  all : ∀ i : Nat, (xs.getD i ET.late.dflt).text.size ≤ 9223372036854775807
theorem drop_map {α : Type} (f : α → Nat) (xs : List α) (i : Nat) (d : α) (h : i < xs.length) : (xs.map f).drop i = f (xs.getD i d) :: (xs.map f).drop (i + 1) := by
  rw [List.drop_eq_getElem_cons (by simpa using h)]
  simp [h]
@[go_sem] def ctSzS : Ct := ⟨false, [[some .str]], fun args os => match args, os with
  | [.one (.isl .str xs), .one (.val (.int .i64 n))], [] => ifp (inS xs ∧ 0 ≤ n ∧ n ≤ 1048576) (vi (szW (wS xs) n))
  | _, _ => no⟩
@[go_sem] def sgSzS (xs : List ByteArray) (n : Int) (i : Nat) : Sg := ⟨[(0, .one (.isl .str xs)), (1, vi n), (5, vi i)], [], []⟩
theorem s_szS_e : EnterOk Tryz.prog 180 := ⟨_, Tryz.func180, rfl, by decide⟩
@[go_sem] def s_szS_lv : List (List Nat) := [[0, 1], [0, 1], [0, 1, 11], [4], [0, 1, 5], [0, 1, 5, 15], [0, 1, 5], [0, 1, 5], [0, 1, 5, 26], [4], [4]]
@[go_sem] noncomputable def s_szS_K : Known := Known.nil
set_option maxHeartbeats 8000000 in
theorem s_szS : Sound Tryz.prog 180 ctSzS := by
  have ke := s_szS_K.env []
  have kl : Lives s_szS_lv := trivial
  refine sound_intro (E := ⟨ti, s_szS_K.Γ, []⟩) ke Tryz.func180 Tryz.ntmps180 rfl (rs := [.tmp 4]) rfl ?_
  intro args os hp
  unfold ctSzS at hp ⊢
  dsimp only at hp ⊢
  split at hp
  · rename_i xs n
    refine ⟨by simp, fun φ0 w0 => ?_⟩
    obtain ⟨⟨h1, h2⟩, h3, h4⟩ : inS xs ∧ 0 ≤ n ∧ n ≤ 1048576 := hp
    have e1 : IntKind.i64.wrap (n - xs.length) = n - xs.length := wrap_id _ (by omega) (by omega)
    refine goh e1 ?_
    refine W_cnd ?_ ?_ <;> (try simp only [cnd_r]) <;> intro hc
    · have e2 : szW (wS xs) n = -1 := by unfold wS szW; rw [if_pos hc]
      refine goh trivial ?_
      exact finh [] e2
    · obtain ⟨R, hR⟩ : ∃ R, szW (wS xs) n = R := ⟨_, rfl⟩
      have e2 : szW ((xs.map (·.size)).drop 0) (n - xs.length) = R := by rw [← hR]; show _ = szW (xs.length :: _) n; conv => rhs; unfold szW
                                                                         rw [if_neg hc]; rfl
      refine goh trivial ?_
      refine W_le (σ' := sgSzS xs (n - xs.length) 0) [] (by
        simp only [go_sem, inj_r, ↓reduceIte, reduceCtorEq, Nat.reduceAdd, Nat.reduceLT, Nat.reduceLeDiff, Nat.reduceEqDiff, Int.reduceEq]
        all_goals (repeat' refine And.intro ?_ ?_) <;> try exact shut7
        ) ?_
      refine W_loop (fun q σ => ∃ (i : Nat) (m : Int), i ≤ xs.length ∧ q = xs.length - i ∧ 0 ≤ m ∧ m ≤ 1048576 ∧ szW ((xs.map (·.size)).drop i) m = R ∧ σ = sgSzS xs m i) xs.length ⟨0, _, by omega, by omega, by omega, by omega, e2, rfl⟩ ?_
      rintro q σ ⟨i, m, hi, rfl, hm1, hm2, hs, rfl⟩
      unfold sgSzS
      refine goh trivial ?_
      refine W_cnd ?_ ?_ <;> (try simp only [cnd_r]) <;> intro hlt
      · have hli : i < xs.length := by omega
        have h5 := h2 i
        have e3 : IntKind.i64.wrap (m - (xs.getD i ET.str.dflt).size) = m - (xs.getD i ET.str.dflt).size := wrap_id _ (by omega) (by omega)
        rw [drop_map _ _ _ ET.str.dflt hli] at hs
        unfold szW at hs
        refine goh e3 ?_
        refine W_cnd ?_ ?_ <;> (try simp only [cnd_r]) <;> intro hn
        · rw [if_pos hn] at hs
          refine goh trivial ?_
          exact finh [] (And.intro hR hs)
        · rw [if_neg hn] at hs
          refine goh trivial ?_
          refine ⟨xs.length - (i + 1), [], sgSzS xs (m - (xs.getD i ET.str.dflt).size) (i + 1), by omega, ?_, i + 1, _, by omega, rfl, by omega, by omega, hs, rfl⟩
          exact leh trivial
      · rw [List.drop_of_length_le (by simp; omega)] at hs
        refine goh trivial ?_
        exact finh [] (And.intro hR hs)
  · simp [no, ifp] at hp
@[go_sem] def ctSzS2 : Ct := ⟨false, [[some .str, some .str]], fun args os => match args, os with
  | [.agg [.isl .str a, .isl .str b], .one (.val (.int .i64 n))], [] => ifp (inS a ∧ inS b ∧ 0 ≤ n ∧ n ≤ 1048576) (vi (szW (wS a ++ wS b) n))
  | _, _ => no⟩
@[go_sem] def sgSzS2 (a b : List ByteArray) (n i : Int) : Sg := ⟨[(1, vi n), (2, .one (.ptr 0 0)), (5, vi i)], [some (.cells [.isl .str a, .isl .str b])], []⟩
theorem s_szS2_e : EnterOk Tryz.prog 109 := ⟨_, Tryz.func109, rfl, by decide⟩
@[go_sem] def s_szS2_lv : List (List Nat) := [[1, 2], [1, 2, 5], [1, 2, 5, 7], [1, 2, 5], [1, 2, 5], [1, 2, 5, 16], [4], [4]]
@[go_sem] noncomputable def s_szS2_K : Known := (Known.nil).cons 180 ctSzS s_szS s_szS_e
set_option maxHeartbeats 8000000 in
theorem s_szS2 : Sound Tryz.prog 109 ctSzS2 := by
  have ke := s_szS2_K.env []
  have kl : Lives s_szS2_lv := trivial
  refine sound_intro (E := ⟨ti, s_szS2_K.Γ, []⟩) ke Tryz.func109 Tryz.ntmps109 rfl (rs := [.tmp 4]) rfl ?_
  intro args os hp
  unfold ctSzS2 at hp ⊢
  dsimp only at hp ⊢
  split at hp
  · rename_i a b n
    refine ⟨by simp, fun φ0 w0 => ?_⟩
    obtain ⟨h1, h2, h3, h4⟩ : inS a ∧ inS b ∧ 0 ≤ n ∧ n ≤ 1048576 := hp
    obtain ⟨R, hR⟩ : ∃ R, szW (wS a ++ wS b) n = R := ⟨_, rfl⟩
    refine goh trivial ?_
    refine W_le (σ' := sgSzS2 a b n 0) [some 0] (by
      simp only [go_sem, inj_r, ↓reduceIte, reduceCtorEq, Nat.reduceAdd, Nat.reduceLT, Nat.reduceLeDiff, Nat.reduceEqDiff, Int.reduceEq]
      all_goals (repeat' refine And.intro ?_ ?_) <;> try exact shut7
      ) ?_
    refine W_loop (fun q σ => ∃ (i m : Int), 0 ≤ m ∧ m ≤ 1048576 ∧ ((i = 0 ∧ q = 2 ∧ szW (wS a ++ wS b) m = R) ∨ (i = 1 ∧ q = 1 ∧ szW (wS b) m = R) ∨ (i = 2 ∧ q = 0 ∧ m = R)) ∧ σ = sgSzS2 a b m i) 2 ⟨0, n, h3, h4, .inl ⟨rfl, rfl, hR⟩, rfl⟩ ?_
    rintro q σ ⟨i, m, hm1, hm2, ⟨rfl, rfl, hs⟩ | ⟨rfl, rfl, hs⟩ | ⟨rfl, rfl, rfl⟩, rfl⟩
    · unfold sgSzS2
      refine goh trivial ?_
      refine W_cnd ?_ ?_ <;> intro hlit <;> try (cases hlit; done)
      rw [szW_app _ _ _ hm1] at hs
      refine goh trivial ?_
      refine W_cnd ?_ ?_ <;> (try simp only [cnd_r]) <;> intro hn
      · rw [if_pos hn] at hs
        have hs2 : szW (wS a ++ wS b) n = -1 := by rw [hR, ← hs]
        refine goh trivial ?_
        exact finh [] hs2
      · rw [if_neg hn] at hs
        have hi := szW_in (wS a) m hm1
        refine goh trivial ?_
        refine ⟨1, [some 0], sgSzS2 a b (szW (wS a) m) 1, by omega, ?_, 1, _, by omega, by omega, .inr (.inl ⟨rfl, rfl, hs⟩), rfl⟩
        exact leh trivial
    · unfold sgSzS2
      refine goh trivial ?_
      refine W_cnd ?_ ?_ <;> intro hlit <;> try (cases hlit; done)
      refine goh trivial ?_
      refine W_cnd ?_ ?_ <;> (try simp only [cnd_r]) <;> intro hn
      · have hi := szW_in (wS b) m hm1
        have hs2 : szW (wS a ++ wS b) n = -1 := by rw [hR, ← hs]; omega
        refine goh trivial ?_
        exact finh [] hs2
      · have hi := szW_in (wS b) m hm1
        refine goh trivial ?_
        refine ⟨0, [some 0], sgSzS2 a b (szW (wS b) m) 2, by omega, ?_, 2, _, by omega, by omega, .inr (.inr ⟨rfl, rfl, hs⟩), rfl⟩
        exact leh trivial
    · unfold sgSzS2
      refine goh trivial ?_
      refine W_cnd ?_ ?_ <;> intro hlit <;> try (cases hlit; done)
      refine goh trivial ?_
      exact finh [] hR
  · simp [no, ifp] at hp
@[go_sem] def ctSzLate : Ct := ⟨false, [], fun args os => match args, os with
  | [.agg [.val (.int .i64 x), .val (.int .i64 y), .val (.string t)], .one (.val (.int .i64 n))], [] => ifp (t.size ≤ 9223372036854775807 ∧ 0 ≤ n ∧ n ≤ 1048576) (vi (szW [t.size] n))
  | _, _ => no⟩
theorem s_szLate_e : EnterOk Tryz.prog 181 := ⟨_, Tryz.func181, rfl, by decide⟩
@[go_sem] def s_szLate_lv : List (List Nat) := [[1, 2], [1], [1, 11], [4], [4]]
@[go_sem] noncomputable def s_szLate_K : Known := Known.nil
set_option maxHeartbeats 8000000 in
theorem s_szLate : Sound Tryz.prog 181 ctSzLate := by
  have ke := s_szLate_K.env []
  have kl : Lives s_szLate_lv := trivial
  refine sound_intro (E := ⟨ti, s_szLate_K.Γ, []⟩) ke Tryz.func181 Tryz.ntmps181 rfl (rs := [.tmp 4]) rfl ?_
  intro args os hp
  unfold ctSzLate at hp ⊢
  dsimp only at hp ⊢
  split at hp
  · rename_i x y t n
    refine ⟨by simp, fun φ0 w0 => ?_⟩
    obtain ⟨h1, h3, h4⟩ : t.size ≤ 9223372036854775807 ∧ 0 ≤ n ∧ n ≤ 1048576 := hp
    have e1 : IntKind.i64.wrap (n - t.size) = n - t.size := wrap_id _ (by omega) (by omega)
    refine goh e1 ?_
    refine W_cnd ?_ ?_ <;> (try simp only [cnd_r]) <;> intro hc
    · have e2 : szW [t.size] n = -1 := by unfold szW; rw [if_pos hc]
      refine goh trivial ?_
      exact finh [] e2
    · have e2 : szW [t.size] n = n - t.size := by unfold szW; rw [if_neg hc]; rfl
      refine goh trivial ?_
      exact finh [] e2
  · simp [no, ifp] at hp
@[go_sem] def ctSzL : Ct := ⟨false, [[some .late]], fun args os => match args, os with
  | [.one (.isl .late xs), .one (.val (.int .i64 n))], [] => ifp (inL xs ∧ 0 ≤ n ∧ n ≤ 1048576) (vi (szW (wL xs) n))
  | _, _ => no⟩
@[go_sem] def sgSzL (xs : List Late) (n : Int) (i : Nat) : Sg := ⟨[(0, .one (.isl .late xs)), (1, vi n), (5, vi i)], [], []⟩
theorem s_szL_e : EnterOk Tryz.prog 110 := ⟨_, Tryz.func110, rfl, by decide⟩
@[go_sem] def s_szL_lv : List (List Nat) := [[0, 1], [0, 1], [0, 1, 11], [4], [0, 1, 5], [0, 1, 5, 15], [0, 1, 5], [0, 1, 5], [0, 1, 5, 25], [4], [4]]
@[go_sem] noncomputable def s_szL_K : Known := (Known.nil).cons 181 ctSzLate s_szLate s_szLate_e
set_option maxHeartbeats 8000000 in
theorem s_szL : Sound Tryz.prog 110 ctSzL := by
  have ke := s_szL_K.env []
  have kl : Lives s_szL_lv := trivial
  refine sound_intro (E := ⟨ti, s_szL_K.Γ, []⟩) ke Tryz.func110 Tryz.ntmps110 rfl (rs := [.tmp 4]) rfl ?_
  intro args os hp
  unfold ctSzL at hp ⊢
  dsimp only at hp ⊢
  split at hp
  · rename_i xs n
    refine ⟨by simp, fun φ0 w0 => ?_⟩
    obtain ⟨⟨h1, h2⟩, h3, h4⟩ : inL xs ∧ 0 ≤ n ∧ n ≤ 1048576 := hp
    have e1 : IntKind.i64.wrap (n - xs.length) = n - xs.length := wrap_id _ (by omega) (by omega)
    refine goh e1 ?_
    refine W_cnd ?_ ?_ <;> (try simp only [cnd_r]) <;> intro hc
    · have e2 : szW (wL xs) n = -1 := by unfold wL szW; rw [if_pos hc]
      refine goh trivial ?_
      exact finh [] e2
    · obtain ⟨R, hR⟩ : ∃ R, szW (wL xs) n = R := ⟨_, rfl⟩
      have e2 : szW ((xs.map (·.text.size)).drop 0) (n - xs.length) = R := by rw [← hR]; show _ = szW (xs.length :: _) n; conv => rhs; unfold szW
                                                                              rw [if_neg hc]; rfl
      refine goh trivial ?_
      refine W_le (σ' := sgSzL xs (n - xs.length) 0) [] (by
        simp only [go_sem, inj_r, ↓reduceIte, reduceCtorEq, Nat.reduceAdd, Nat.reduceLT, Nat.reduceLeDiff, Nat.reduceEqDiff, Int.reduceEq]
        all_goals (repeat' refine And.intro ?_ ?_) <;> try exact shut7
        ) ?_
      refine W_loop (fun q σ => ∃ (i : Nat) (m : Int), i ≤ xs.length ∧ q = xs.length - i ∧ 0 ≤ m ∧ m ≤ 1048576 ∧ szW ((xs.map (·.text.size)).drop i) m = R ∧ σ = sgSzL xs m i) xs.length ⟨0, _, by omega, by omega, by omega, by omega, e2, rfl⟩ ?_
      rintro q σ ⟨i, m, hi, rfl, hm1, hm2, hs, rfl⟩
      unfold sgSzL
      refine goh trivial ?_
      refine W_cnd ?_ ?_ <;> (try simp only [cnd_r]) <;> intro hlt
      · have hli : i < xs.length := by omega
        have h5 := h2 i
        rw [drop_map _ _ _ ET.late.dflt hli] at hs
        have e3 := szW_app [(xs.getD i ET.late.dflt).text.size] ((xs.map (·.text.size)).drop (i + 1)) m hm1
        rw [List.singleton_append, hs] at e3
        have hin := szW_in [(xs.getD i ET.late.dflt).text.size] m hm1
        refine goh trivial ?_
        refine W_cnd ?_ ?_ <;> (try simp only [cnd_r]) <;> intro hn
        · rw [if_pos hn] at e3
          refine goh trivial ?_
          exact finh [] (And.intro hR e3)
        · rw [if_neg hn] at e3
          refine goh trivial ?_
          refine ⟨xs.length - (i + 1), [], sgSzL xs (szW [(xs.getD i ET.late.dflt).text.size] m) (i + 1), by omega, ?_, i + 1, _, by omega, rfl, by omega, by omega, e3.symm, rfl⟩
          exact leh trivial
      · rw [List.drop_of_length_le (by simp; omega)] at hs
        refine goh trivial ?_
        exact finh [] (And.intro hR hs)
  · simp [no, ifp] at hp
def Dk.wt (d : Dk) : List Nat := (wS d.a ++ wS d.b) ++ wL d.l
structure Dk.inn (d : Dk) : Prop where
  a : inS d.a
  b : inS d.b
  l : inL d.l
@[go_sem] def ctSzDisk : Ct := ⟨false, [[some .str, some .str, some .late]], fun args os => match args, os with
  | [.agg [.isl .str a, .isl .str b, .isl .late l], .one (.val (.int .i64 n))], [] => ifp ((Dk.mk a b l).inn ∧ 0 ≤ n ∧ n ≤ 1048576) (vi (szW (Dk.mk a b l).wt n))
  | _, _ => no⟩
theorem s_szDisk_e : EnterOk Tryz.prog 39 := ⟨_, Tryz.func39, rfl, by decide⟩
@[go_sem] def s_szDisk_lv : List (List Nat) := [[1, 2], [1, 2], [1, 2, 10], [4], [1], [1, 16], [4], [4]]
@[go_sem] noncomputable def s_szDisk_K : Known := ((Known.nil).cons 109 ctSzS2 s_szS2 s_szS2_e).cons 110 ctSzL s_szL s_szL_e
set_option maxHeartbeats 8000000 in
theorem s_szDisk : Sound Tryz.prog 39 ctSzDisk := by
  have ke := s_szDisk_K.env []
  have kl : Lives s_szDisk_lv := trivial
  refine sound_intro (E := ⟨ti, s_szDisk_K.Γ, []⟩) ke Tryz.func39 Tryz.ntmps39 rfl (rs := [.tmp 4]) rfl ?_
  intro args os hp
  unfold ctSzDisk at hp ⊢
  dsimp only at hp ⊢
  split at hp
  · rename_i a b l n
    refine ⟨by simp, fun φ0 w0 => ?_⟩
    obtain ⟨⟨h1, h2, h3⟩, h4, h5⟩ : (Dk.mk a b l).inn ∧ 0 ≤ n ∧ n ≤ 1048576 := hp
    simp only at h1 h2 h3
    have e1 := szW_app (wS a ++ wS b) (wL l) n h4
    have e2 : szW (Dk.mk a b l).wt n = szW ((wS a ++ wS b) ++ wL l) n := rfl
    have i1 := szW_in (wS a ++ wS b) n h4
    refine goh trivial ?_
    refine W_cnd ?_ ?_ <;> (try simp only [cnd_r]) <;> intro hc
    · rw [if_pos hc] at e1
      refine goh trivial ?_
      exact finh [] (And.intro e2 e1)
    · rw [if_neg hc] at e1
      have i2 := szW_in (wL l) (szW (wS a ++ wS b) n) (by omega)
      refine goh trivial ?_
      refine W_cnd ?_ ?_ <;> (try simp only [cnd_r]) <;> intro hd
      · have e3 : szW ((wS a ++ wS b) ++ wL l) n = -1 := by omega
        refine goh trivial ?_
        exact finh [] (And.intro e2 e3)
      · refine goh trivial ?_
        exact finh [] (And.intro e2 e1)
  · simp [no, ifp] at hp
theorem wt_small {d : Dk} {n : Int} (h : 0 ≤ szW d.wt n) : d.a.length ≤ n ∧ d.b.length ≤ n ∧ d.l.length ≤ n :=
  ⟨szW_mem h (by simp [Dk.wt, wS]), szW_mem h (by simp [Dk.wt, wS]), szW_mem h (by simp [Dk.wt, wL])⟩
end Go.Proofs.YtjedcphhajlnoaaGreatDoor
/- Functions of the exact laws: equal ones; copies. -/
namespace Go.Proofs.YtjedcphhajlnoaaGreatDoor
open Go.RowKit

@[go_sem] def ctEqS : Ct := ⟨false, [[some .str], [some .str]], fun args os => match args, os with
  | [.one (.isl .str xs), .one (.isl .str ys)], [] => ifp (xs = ys ∧ xs.length ≤ 4000000) (vb true)
  | _, _ => no⟩
@[go_sem] def sgEqS (xs : List ByteArray) (i : Nat) : Sg := ⟨[(0, .one (.isl .str xs)), (1, .one (.isl .str xs)), (5, vi i)], [], []⟩
theorem s_eqS_e : EnterOk Tryz.prog 185 := ⟨_, Tryz.func185, rfl, by decide⟩
@[go_sem] def s_eqS_lv : List (List Nat) := [[0, 1], [0, 1, 10], [4], [0, 1, 5], [0, 1, 5, 14], [0, 1, 5], [0, 1, 5, 25], [4], [4]]
@[go_sem] noncomputable def s_eqS_K : Known := Known.nil
set_option maxHeartbeats 8000000 in
theorem s_eqS : Sound Tryz.prog 185 ctEqS := by
  have ke := s_eqS_K.env []
  have kl : Lives s_eqS_lv := trivial
  refine sound_intro (E := ⟨ti, s_eqS_K.Γ, []⟩) ke Tryz.func185 Tryz.ntmps185 rfl (rs := [.tmp 4]) rfl ?_
  intro args os hp
  unfold ctEqS at hp ⊢
  dsimp only at hp ⊢
  split at hp
  · rename_i xs ys
    refine ⟨by simp, fun φ0 w0 => ?_⟩
    obtain ⟨rfl, hlen⟩ : xs = ys ∧ xs.length ≤ 4000000 := hp
    refine goh trivial ?_
    refine W_cnd ?_ ?_ <;> intro hlit <;> try (cases hlit; done)
    refine goh trivial ?_
    refine W_le (σ' := sgEqS xs 0) [] (by
      simp only [go_sem, inj_r, ↓reduceIte, reduceCtorEq, Nat.reduceAdd, Nat.reduceLT, Nat.reduceLeDiff, Nat.reduceEqDiff, Int.reduceEq]
      all_goals (repeat' refine And.intro ?_ ?_) <;> try exact shut7
      ) ?_
    refine W_loop (fun n σ => ∃ i : Nat, i ≤ xs.length ∧ n = xs.length - i ∧ σ = sgEqS xs i) xs.length ⟨0, by omega, by omega, rfl⟩ ?_
    rintro n σ ⟨i, hi, rfl, rfl⟩
    unfold sgEqS
    refine goh trivial ?_
    refine W_cnd ?_ ?_ <;> (try simp only [cnd_r]) <;> intro hlt
    · refine goh trivial ?_
      refine W_cnd ?_ ?_ <;> intro hlit <;> try (cases hlit; done)
      refine goh trivial ?_
      refine ⟨xs.length - (i + 1), [], sgEqS xs (i + 1), by omega, ?_, i + 1, by omega, rfl, rfl⟩
      exact leh trivial
    · refine goh trivial ?_
      exact finh [] trivial
  · simp [no, ifp] at hp
@[go_sem] def ctEqS2 : Ct := ⟨false, [[some .str, some .str], [some .str, some .str]], fun args os => match args, os with
  | [.agg [.isl .str a, .isl .str b], .agg [.isl .str c, .isl .str d]], [] => ifp ((a = c ∧ b = d) ∧ a.length ≤ 4000000 ∧ b.length ≤ 4000000) (vb true)
  | _, _ => no⟩
@[go_sem] def sgEqS2 (a b : List ByteArray) (i : Int) : Sg := ⟨[(2, .one (.ptr 0 0)), (3, .one (.ptr 1 0)), (5, vi i)], [some (.cells [.isl .str a, .isl .str b]), some (.cells [.isl .str a, .isl .str b])], []⟩
theorem s_eqS2_e : EnterOk Tryz.prog 115 := ⟨_, Tryz.func115, rfl, by decide⟩
@[go_sem] def s_eqS2_lv : List (List Nat) := [[2, 3], [2, 3, 5], [2, 3, 5, 7], [2, 3, 5], [2, 3, 5, 17], [4], [4]]
@[go_sem] noncomputable def s_eqS2_K : Known := (Known.nil).cons 185 ctEqS s_eqS s_eqS_e
set_option maxHeartbeats 8000000 in
theorem s_eqS2 : Sound Tryz.prog 115 ctEqS2 := by
  have ke := s_eqS2_K.env []
  have kl : Lives s_eqS2_lv := trivial
  refine sound_intro (E := ⟨ti, s_eqS2_K.Γ, []⟩) ke Tryz.func115 Tryz.ntmps115 rfl (rs := [.tmp 4]) rfl ?_
  intro args os hp
  unfold ctEqS2 at hp ⊢
  dsimp only at hp ⊢
  split at hp
  · rename_i a b c d
    refine ⟨by simp, fun φ0 w0 => ?_⟩
    obtain ⟨⟨rfl, rfl⟩, h1, h2⟩ : (a = c ∧ b = d) ∧ a.length ≤ 4000000 ∧ b.length ≤ 4000000 := hp
    refine goh trivial ?_
    refine W_le (σ' := sgEqS2 a b 0) [some 0, some 1] (by
      simp only [go_sem, inj_r, ↓reduceIte, reduceCtorEq, Nat.reduceAdd, Nat.reduceLT, Nat.reduceLeDiff, Nat.reduceEqDiff, Int.reduceEq]
      all_goals (repeat' refine And.intro ?_ ?_) <;> try exact shut7
      ) ?_
    refine W_loop (fun q σ => ∃ (i : Int), ((i = 0 ∧ q = 2) ∨ (i = 1 ∧ q = 1) ∨ (i = 2 ∧ q = 0)) ∧ σ = sgEqS2 a b i) 2 ⟨0, .inl ⟨rfl, rfl⟩, rfl⟩ ?_
    rintro q σ ⟨i, ⟨rfl, rfl⟩ | ⟨rfl, rfl⟩ | ⟨rfl, rfl⟩, rfl⟩
    · unfold sgEqS2
      refine goh trivial ?_
      refine W_cnd ?_ ?_ <;> intro hlit <;> try (cases hlit; done)
      refine goh trivial ?_
      refine W_cnd ?_ ?_ <;> intro hlit <;> try (cases hlit; done)
      refine goh trivial ?_
      refine ⟨1, [some 0, some 1], sgEqS2 a b 1, by omega, ?_, 1, .inr (.inl ⟨rfl, rfl⟩), rfl⟩
      exact leh trivial
    · unfold sgEqS2
      refine goh trivial ?_
      refine W_cnd ?_ ?_ <;> intro hlit <;> try (cases hlit; done)
      refine goh trivial ?_
      refine W_cnd ?_ ?_ <;> intro hlit <;> try (cases hlit; done)
      refine goh trivial ?_
      refine ⟨0, [some 0, some 1], sgEqS2 a b 2, by omega, ?_, 2, .inr (.inr ⟨rfl, rfl⟩), rfl⟩
      exact leh trivial
    · unfold sgEqS2
      refine goh trivial ?_
      refine W_cnd ?_ ?_ <;> intro hlit <;> try (cases hlit; done)
      refine goh trivial ?_
      exact finh [] trivial
  · simp [no, ifp] at hp
@[go_sem] def ctEqLate : Ct := ⟨false, [], fun args os => match args, os with
  | [.agg [.val (.int .i64 x), .val (.int .i64 y), .val (.string t)], .agg [.val (.int .i64 x'), .val (.int .i64 y'), .val (.string t')]], [] => ifp (x = x' ∧ y = y' ∧ t = t') (vb true)
  | _, _ => no⟩
theorem s_eqLate_e : EnterOk Tryz.prog 186 := ⟨_, Tryz.func186, rfl, by decide⟩
@[go_sem] def s_eqLate_lv : List (List Nat) := [[2, 3], [2, 3, 9], [4], [2, 3, 14], [4], [19], [4], [4]]
@[go_sem] noncomputable def s_eqLate_K : Known := Known.nil
set_option maxHeartbeats 8000000 in
theorem s_eqLate : Sound Tryz.prog 186 ctEqLate := by
  have ke := s_eqLate_K.env []
  have kl : Lives s_eqLate_lv := trivial
  refine sound_intro (E := ⟨ti, s_eqLate_K.Γ, []⟩) ke Tryz.func186 Tryz.ntmps186 rfl (rs := [.tmp 4]) rfl ?_
  intro args os hp
  unfold ctEqLate at hp ⊢
  dsimp only at hp ⊢
  split at hp
  · rename_i x y t x' y' t'
    refine ⟨by simp, fun φ0 w0 => ?_⟩
    obtain ⟨rfl, rfl, rfl⟩ : x = x' ∧ y = y' ∧ t = t' := hp
    refine goh trivial ?_
    refine W_cnd ?_ ?_ <;> intro hlit <;> try (cases hlit; done)
    refine goh trivial ?_
    refine W_cnd ?_ ?_ <;> intro hlit <;> try (cases hlit; done)
    refine goh trivial ?_
    refine W_cnd ?_ ?_ <;> intro hlit <;> try (cases hlit; done)
    refine goh trivial ?_
    exact finh [] trivial
  · simp [no, ifp] at hp
@[go_sem] def ctEqL : Ct := ⟨false, [[some .late], [some .late]], fun args os => match args, os with
  | [.one (.isl .late xs), .one (.isl .late ys)], [] => ifp (xs = ys ∧ xs.length ≤ 4000000) (vb true)
  | _, _ => no⟩
@[go_sem] def sgEqL (xs : List Late) (i : Nat) : Sg := ⟨[(0, .one (.isl .late xs)), (1, .one (.isl .late xs)), (5, vi i)], [], []⟩
theorem s_eqL_e : EnterOk Tryz.prog 116 := ⟨_, Tryz.func116, rfl, by decide⟩
@[go_sem] def s_eqL_lv : List (List Nat) := [[0, 1], [0, 1, 10], [4], [0, 1, 5], [0, 1, 5, 14], [0, 1, 5], [0, 1, 5, 26], [4], [4]]
@[go_sem] noncomputable def s_eqL_K : Known := (Known.nil).cons 186 ctEqLate s_eqLate s_eqLate_e
set_option maxHeartbeats 8000000 in
theorem s_eqL : Sound Tryz.prog 116 ctEqL := by
  have ke := s_eqL_K.env []
  have kl : Lives s_eqL_lv := trivial
  refine sound_intro (E := ⟨ti, s_eqL_K.Γ, []⟩) ke Tryz.func116 Tryz.ntmps116 rfl (rs := [.tmp 4]) rfl ?_
  intro args os hp
  unfold ctEqL at hp ⊢
  dsimp only at hp ⊢
  split at hp
  · rename_i xs ys
    refine ⟨by simp, fun φ0 w0 => ?_⟩
    obtain ⟨rfl, hlen⟩ : xs = ys ∧ xs.length ≤ 4000000 := hp
    refine goh trivial ?_
    refine W_cnd ?_ ?_ <;> intro hlit <;> try (cases hlit; done)
    refine goh trivial ?_
    refine W_le (σ' := sgEqL xs 0) [] (by
      simp only [go_sem, inj_r, ↓reduceIte, reduceCtorEq, Nat.reduceAdd, Nat.reduceLT, Nat.reduceLeDiff, Nat.reduceEqDiff, Int.reduceEq]
      all_goals (repeat' refine And.intro ?_ ?_) <;> try exact shut7
      ) ?_
    refine W_loop (fun n σ => ∃ i : Nat, i ≤ xs.length ∧ n = xs.length - i ∧ σ = sgEqL xs i) xs.length ⟨0, by omega, by omega, rfl⟩ ?_
    rintro n σ ⟨i, hi, rfl, rfl⟩
    unfold sgEqL
    refine goh trivial ?_
    refine W_cnd ?_ ?_ <;> (try simp only [cnd_r]) <;> intro hlt
    · refine goh trivial ?_
      refine W_cnd ?_ ?_ <;> intro hlit <;> try (cases hlit; done)
      refine goh trivial ?_
      refine ⟨xs.length - (i + 1), [], sgEqL xs (i + 1), by omega, ?_, i + 1, by omega, rfl, rfl⟩
      exact leh trivial
    · refine goh trivial ?_
      exact finh [] trivial
  · simp [no, ifp] at hp
@[go_sem] def ctEqDisk : Ct := ⟨false, [[some .str, some .str, some .late], [some .str, some .str, some .late]], fun args os => match args, os with
  | [.agg [.isl .str a, .isl .str b, .isl .late l], .agg [.isl .str c, .isl .str d, .isl .late m]], [] => ifp ((a = c ∧ b = d ∧ l = m) ∧ (Dk.mk a b l).small) (vb true)
  | _, _ => no⟩
theorem s_eqDisk_e : EnterOk Tryz.prog 44 := ⟨_, Tryz.func44, rfl, by decide⟩
@[go_sem] def s_eqDisk_lv : List (List Nat) := [[2, 3], [2, 3, 10], [4], [16], [4], [4]]
@[go_sem] noncomputable def s_eqDisk_K : Known := ((Known.nil).cons 115 ctEqS2 s_eqS2 s_eqS2_e).cons 116 ctEqL s_eqL s_eqL_e
set_option maxHeartbeats 8000000 in
theorem s_eqDisk : Sound Tryz.prog 44 ctEqDisk := by
  have ke := s_eqDisk_K.env []
  have kl : Lives s_eqDisk_lv := trivial
  refine sound_intro (E := ⟨ti, s_eqDisk_K.Γ, []⟩) ke Tryz.func44 Tryz.ntmps44 rfl (rs := [.tmp 4]) rfl ?_
  intro args os hp
  unfold ctEqDisk at hp ⊢
  dsimp only at hp ⊢
  split at hp
  · rename_i a b l c d m
    refine ⟨by simp, fun φ0 w0 => ?_⟩
    obtain ⟨⟨rfl, rfl, rfl⟩, h1, h2, h3⟩ : (a = c ∧ b = d ∧ l = m) ∧ (Dk.mk a b l).small := hp
    simp only at h1 h2 h3
    refine goh trivial ?_
    refine W_cnd ?_ ?_ <;> intro hlit <;> try (cases hlit; done)
    refine goh trivial ?_
    refine W_cnd ?_ ?_ <;> intro hlit <;> try (cases hlit; done)
    refine goh trivial ?_
    exact finh [] trivial
  · simp [no, ifp] at hp

@[go_sem] def ctToS : Ct := ⟨false, [[some .str]], fun args os => match args, os with
  | [.one (.isl .str xs)], [] => ⟨xs.length ≤ 4000000, .one (.osl .str 0 0 xs.length), [], [.arr .str xs]⟩
  | _, _ => no⟩
@[go_sem] def sgToS (xs : List ByteArray) (i : Nat) : Sg := ⟨[(0, .one (.isl .str xs)), (3, .one (.osl .str 0 0 xs.length)), (4, vi i)], [some (.arr .str (mix xs (List.replicate xs.length ET.str.dflt) i))], []⟩
theorem s_toS_e : EnterOk Tryz.prog 183 := ⟨_, Tryz.func183, rfl, by decide⟩
@[go_sem] def s_toS_lv : List (List Nat) := [[0], [0, 3], [0, 3, 4], [0, 3, 4, 11], [0, 3, 4], [0, 3, 4], [2]]
@[go_sem] noncomputable def s_toS_K : Known := Known.nil
set_option maxHeartbeats 8000000 in
theorem s_toS : Sound Tryz.prog 183 ctToS := by
  have ke := s_toS_K.env []
  have kl : Lives s_toS_lv := trivial
  refine sound_intro (E := ⟨ti, s_toS_K.Γ, []⟩) ke Tryz.func183 Tryz.ntmps183 rfl (rs := [.tmp 2]) rfl ?_
  intro args os hp
  unfold ctToS at hp ⊢
  dsimp only at hp ⊢
  split at hp
  · rename_i xs
    refine ⟨by simp, fun φ0 w0 => ?_⟩
    have hlen : xs.length ≤ 4000000 := hp
    clear hp
    refine goh trivial ?_
    refine W_le (σ' := sgToS xs 0) [some 0] (by
      simp only [go_sem, mix_zero, inj_r, ↓reduceIte, reduceCtorEq, Nat.reduceAdd, Nat.reduceLT, Nat.reduceLeDiff, Nat.reduceEqDiff, Int.reduceEq]
      all_goals (repeat' refine And.intro ?_ ?_) <;> try exact shut7
      ) ?_
    refine W_loop (fun n σ => ∃ i : Nat, i ≤ xs.length ∧ n = xs.length - i ∧ σ = sgToS xs i) xs.length ⟨0, by omega, by omega, rfl⟩ ?_
    rintro n σ ⟨i, hi, rfl, rfl⟩
    unfold sgToS
    have hm := mix_len xs (List.replicate xs.length ET.str.dflt) i (by simp)
    rw [List.length_replicate] at hm
    refine goh hm ?_
    refine W_cnd ?_ ?_ <;> (try simp only [cnd_r]) <;> intro hlt
    · have hs := mix_set xs (List.replicate xs.length ET.str.dflt) i ET.str.dflt (by simp) (by simp; omega) rfl
      refine goh hm ?_
      refine ⟨xs.length - (i + 1), [some 0], sgToS xs (i + 1), by omega, ?_, i + 1, by omega, rfl, rfl⟩
      exact leh (And.intro hs hm)
    · have hs := mix_all xs (List.replicate xs.length ET.str.dflt) i (by simp) (by simp; omega)
      refine goh hm ?_
      exact finh [some 0] hs
  · simp [no] at hp
end Go.Proofs.YtjedcphhajlnoaaGreatDoor
/- Functions: the reader of codes. -/
namespace Go.Proofs.YtjedcphhajlnoaaGreatDoor
open Go.RowKit

def sumAt (s : ByteArray) : Nat → Nat
  | 0 => 1 + s.size % 997
  | i + 1 => (257 * sumAt s i + (s.data.getD i 0).toNat + 1) % 65521
theorem sumAt_lt (s : ByteArray) : ∀ i, sumAt s i < 65521
  | 0 => by unfold sumAt; omega
  | i + 1 => by unfold sumAt; omega
def sumOf (s : ByteArray) : Nat := sumAt s s.size
@[go_sem] def ctSumOf : Ct := ⟨false, [], fun args os => match args, os with
  | [.one (.val (.string s))], [] => ifp (s.size ≤ 1000000000) (vi (sumOf s))
  | _, _ => no⟩
@[go_sem] def sgSum (s : ByteArray) (i : Nat) : Sg := ⟨[(0, .one (.val (.string s))), (3, vi (sumAt s i)), (10, vi s.size), (11, vi i)], [], []⟩
theorem sum_step (s : ByteArray) (i : Nat) (hi : i < s.size) : (IntKind.i64.wrap (IntKind.i64.wrap (IntKind.i64.wrap (257 * (sumAt s i : Int)) + IntKind.i64.wrap ((s.data.getD i 0).toNat : Int)) + 1)).tmod 65521 = (sumAt s (i + 1) : Nat) := by
  have h := sumAt_lt s i
  have hb : (s.data.getD i 0).toNat < 256 := (s.data.getD i 0).toNat_lt
  rw [wrap_id (257 * (sumAt s i : Int)) (by omega) (by omega), wrap_id ((s.data.getD i 0).toNat : Int) (by omega) (by omega), wrap_id (257 * (sumAt s i : Int) + ((s.data.getD i 0).toNat : Int)) (by omega) (by omega), wrap_id (257 * (sumAt s i : Int) + ((s.data.getD i 0).toNat : Int) + 1) (by omega) (by omega)]
  rw [show (257 * (sumAt s i : Int) + ((s.data.getD i 0).toNat : Int) + 1) = ((257 * sumAt s i + (s.data.getD i 0).toNat + 1 : Nat) : Int) by omega]
  show _ = (((257 * sumAt s i + (s.data.getD i 0).toNat + 1) % 65521 : Nat) : Int)
  exact (Int.ofNat_tmod _ _).symm
theorem sum_first (s : ByteArray) (h : s.size ≤ 1000000000) : IntKind.i64.wrap (1 + ((s.size : Int)).tmod 997) = (sumAt s 0 : Nat) := by
  have : ((s.size : Int)).tmod 997 = ((s.size % 997 : Nat) : Int) := (Int.ofNat_tmod _ _).symm
  rw [this, wrap_id _ (by omega) (by omega)]
  unfold sumAt
  omega
theorem s_sumOf_e : EnterOk Tryz.prog 168 := ⟨_, Tryz.func168, rfl, by decide⟩
@[go_sem] def s_sumOf_lv : List (List Nat) := [[0], [0, 3], [0, 3, 10, 11], [0, 3, 10, 11, 12], [0, 3, 4, 10, 11], [0, 3, 10, 11], [0, 3, 10, 11], [2]]
@[go_sem] noncomputable def s_sumOf_K : Known := Known.nil
set_option maxHeartbeats 8000000 in
theorem s_sumOf : Sound Tryz.prog 168 ctSumOf := by
  have ke := s_sumOf_K.env []
  have kl : Lives s_sumOf_lv := trivial
  refine sound_intro (E := ⟨ti, s_sumOf_K.Γ, []⟩) ke Tryz.func168 Tryz.ntmps168 rfl (rs := [.tmp 2]) rfl ?_
  intro args os hp
  unfold ctSumOf at hp ⊢
  dsimp only at hp ⊢
  split at hp
  · rename_i s
    refine ⟨by simp, fun φ0 w0 => ?_⟩
    have hlen : s.size ≤ 1000000000 := hp
    clear hp
    refine goh trivial ?_
    refine W_le (σ' := sgSum s 0) [] (by
      simp only [go_sem, ↓reduceIte, reduceCtorEq, Nat.reduceAdd, Nat.reduceLT, Nat.reduceLeDiff, Nat.reduceEqDiff, TC.val.injEq, Value.int.injEq, TV.one.injEq, sum_first s hlen]
      all_goals ((repeat' apply And.intro) <;> first | rfl | trivial)) ?_
    refine W_loop (fun n σ => ∃ i : Nat, i ≤ s.size ∧ n = s.size - i ∧ σ = sgSum s i) s.size ⟨0, by omega, by omega, rfl⟩ ?_
    rintro n σ ⟨i, hi, rfl, rfl⟩
    unfold sgSum
    refine goh trivial ?_
    refine W_cnd ?_ ?_ <;> (try simp only [cnd_r]) <;> intro hlt
    · refine goh trivial ?_
      refine ⟨s.size - (i + 1), [], sgSum s (i + 1), by omega, ?_, i + 1, by omega, rfl, rfl⟩
      have hst := sum_step s i (by omega)
      simp only [go_sem, ↓reduceIte, reduceCtorEq, Nat.reduceAdd, Nat.reduceLT, Nat.reduceLeDiff, Nat.reduceEqDiff, TC.val.injEq, Value.int.injEq, TV.one.injEq]
      (repeat' apply And.intro) <;> try first | rfl | trivial | exact hst | (rw [wrap_id] <;> omega)
    · refine goh trivial ?_
      have hi' : i = s.size := by omega
      subst hi'
      exact finh [] trivial
  · simp [no, ifp] at hp

/-- An open disk. -/
def dkOpen (n : Int) : Dk := if 1 ≤ n ∧ n ≤ 120 then ⟨List.replicate n.toNat ⟨#[]⟩, List.replicate n.toNat ⟨#[]⟩, []⟩ else ⟨[], [], []⟩
@[go_sem] def ctSpecOpen : Ct := ⟨false, [], fun args os => match args, os with
  | [.one (.val (.int .i64 n))], [] => ⟨True, (dkOpen n).v 0, [], (dkOpen n).objs⟩
  | _, _ => no⟩
theorem s_specOpen_e : EnterOk Tryz.prog 172 := ⟨_, Tryz.func172, rfl, by decide⟩
@[go_sem] def s_specOpen_lv : List (List Nat) := [[0, 2], [0, 2, 8], [2], [2]]
@[go_sem] noncomputable def s_specOpen_K : Known := Known.nil
set_option maxHeartbeats 8000000 in
theorem s_specOpen : Sound Tryz.prog 172 ctSpecOpen := by
  have ke := s_specOpen_K.env []
  have kl : Lives s_specOpen_lv := trivial
  refine sound_intro (E := ⟨ti, s_specOpen_K.Γ, []⟩) ke Tryz.func172 Tryz.ntmps172 rfl (rs := [.cell 2 39]) rfl ?_
  intro args os hp
  unfold ctSpecOpen at hp ⊢
  dsimp only at hp ⊢
  split at hp
  · rename_i n
    refine ⟨by simp, fun φ0 w0 => ?_⟩
    clear hp
    refine goh trivial ?_
    refine W_cond _ (by exact rfl) (by exact trivial) ?_ ?_ <;> intro hc
    · refine goh trivial ?_
      have hd : dkOpen n = ⟨[], [], []⟩ := by
        unfold dkOpen
        rw [if_neg]
        split at hc
        · omega
        · simp only [decide_eq_true_eq] at hc; omega
      rw [hd]
      exact finh [none, none, none] trivial
    · obtain ⟨n1, n2⟩ : 1 ≤ n ∧ n ≤ 120 := by
        split at hc
        · cases hc
        · simp only [decide_eq_false_iff_not] at hc; exact ⟨by omega, by omega⟩
      have hd : dkOpen n = ⟨List.replicate n.toNat ⟨#[]⟩, List.replicate n.toNat ⟨#[]⟩, []⟩ := by
        unfold dkOpen
        rw [if_pos ⟨n1, n2⟩]
      clear hc
      refine goh trivial ?_
      rw [hd]
      refine ⟨by (simp only [go_sem, ↓reduceIte, reduceCtorEq, Nat.reduceAdd, Nat.reduceLT, Nat.reduceLeDiff, Nat.reduceEqDiff]) <;> trivial, [some 1, some 2, none], ?_⟩
      all_goals try simp only [go_sem, inj_r, ↓reduceIte, reduceCtorEq, Nat.reduceAdd, Nat.reduceLT, Nat.reduceLeDiff, Nat.reduceEqDiff, Int.reduceEq]
      all_goals (repeat' refine And.intro ?_ ?_) <;> try exact shut7
      all_goals simp only [List.length_replicate]
  · simp [no] at hp

/-- A text of which half is written over another one. -/
def torn (old now : ByteArray) : ByteArray := if now.size / 2 < old.size then now.extract 0 (now.size / 2) ++ old.extract (now.size / 2) old.size else now.extract 0 (now.size / 2)
@[go_sem] def ctTorn : Ct := ⟨false, [], fun args os => match args, os with
  | [.one (.val (.string old)), .one (.val (.string now))], [] => ifp (old.size ≤ 1000000000 ∧ now.size ≤ 1000000000) (vs (torn old now))
  | _, _ => no⟩
theorem s_torn_e : EnterOk Tryz.prog 198 := ⟨_, Tryz.func198, rfl, by decide⟩
@[go_sem] def s_torn_lv : List (List Nat) := [[0, 1], [0, 1, 5], [0, 1, 5, 12], [4], [4]]
@[go_sem] noncomputable def s_torn_K : Known := Known.nil
set_option maxHeartbeats 8000000 in
theorem s_torn : Sound Tryz.prog 198 ctTorn := by
  have ke := s_torn_K.env []
  have kl : Lives s_torn_lv := trivial
  refine sound_intro (E := ⟨ti, s_torn_K.Γ, []⟩) ke Tryz.func198 Tryz.ntmps198 rfl (rs := [.tmp 4]) rfl ?_
  intro args os hp
  unfold ctTorn at hp ⊢
  dsimp only at hp ⊢
  split at hp
  · rename_i old now
    refine ⟨by simp, fun φ0 w0 => ?_⟩
    obtain ⟨h1, h2⟩ : old.size ≤ 1000000000 ∧ now.size ≤ 1000000000 := hp
    have hq : IntKind.i64.wrap ((now.size : Int).tdiv 2) = ((now.size / 2 : Nat) : Int) := by
      have : (now.size : Int).tdiv 2 = ((now.size / 2 : Nat) : Int) := (Int.ofNat_tdiv _ _).symm
      rw [this]
      exact wrap_id _ (by omega) (by omega)
    refine goh trivial ?_
    simp only [hq]
    refine W_cnd ?_ ?_ <;> (try simp only [cnd_r]) <;> intro hc
    · repeat' first
        | with_reducible refine red ?_
        | refine W_seq ?_
        | (refine W_reg (s_torn_K.env []) s_torn_lv fun K' hK' => ?_
           simp only [go_sem, ↓reduceIte, ↓reduceDIte, reduceCtorEq, Nat.reduceAdd, Nat.reduceMul, Nat.reduceSub, Nat.reduceDiv, Nat.reduceMod, Nat.reduceLT, Nat.reduceLeDiff, Nat.reduceEqDiff, Nat.reduceBEq, Int.reduceToNat, Int.reduceLE, Int.reduceLT, Int.reduceEq, Int.reduceNe, Int.reduceNeg]
           (repeat' refine And.intro ?_ ?_) <;> try first | with_reducible refine hK' ?_ | exact shut6)
        | with_reducible refine blockG_o (by decide) ?_
      · simp only [ByteArray.size_extract]; omega
      · skip
        refine ⟨by (simp only [go_sem, ↓reduceIte, reduceCtorEq, Nat.reduceAdd, Nat.reduceLT, Nat.reduceLeDiff, Nat.reduceEqDiff]) <;> trivial, [], ?_⟩
        all_goals try simp only [go_sem, inj_r, ↓reduceIte, reduceCtorEq, Nat.reduceAdd, Nat.reduceLT, Nat.reduceLeDiff, Nat.reduceEqDiff, Int.reduceEq]
        all_goals (repeat' refine And.intro ?_ ?_) <;> try exact shut7
        have : now.size / 2 < old.size := by omega
        unfold torn
        rw [if_pos this]
    · refine goh trivial ?_
      refine ⟨by (simp only [go_sem, ↓reduceIte, reduceCtorEq, Nat.reduceAdd, Nat.reduceLT, Nat.reduceLeDiff, Nat.reduceEqDiff]) <;> trivial, [], ?_⟩
      all_goals try simp only [go_sem, inj_r, ↓reduceIte, reduceCtorEq, Nat.reduceAdd, Nat.reduceLT, Nat.reduceLeDiff, Nat.reduceEqDiff, Int.reduceEq]
      all_goals (repeat' refine And.intro ?_ ?_) <;> try exact shut7
      have : ¬ now.size / 2 < old.size := by omega
      unfold torn
      rw [if_neg this]
  · simp [no, ifp] at hp
end Go.Proofs.YtjedcphhajlnoaaGreatDoor
/-
  DERIVED: THE SHELF's CONTRACTS AT THIS DUMP, IN PLAIN WORDS (tools/lay-plain.mjs out of 'YtjedcphhajlnoaaGreatDoorTSh3Q.lean', which tools/lay-shelf.mjs wrote): THE SAME DECLARATIONS UNDER THE SAME NAMES: 'import', 'namespace', 'open', 'def', 'theorem' AND NOTHING ELSE: no command of the shelf's: FOR A HAND-IN. Each laying: the table of numbers ('.._ren') and one theorem, a field a fact of the dump's own or the kernel's comparison; each contract: ONE APPLICATION.
-/
namespace Go.Proofs
open Go.Shelf
def Tryz.lays171_ren : Go.Shelf.Ren := ⟨fun | 171 => 100 | 243 => 176 | 246 => 231 | 283 => 267 | 284 => 268 | 285 => 269 | 286 => 270 | 129 => 291 | 317 => 290 | 318 => 292 | 319 => 293 | 320 => 294 | 337 => 301 | 338 => 302 | n => n, fun | 3 => 3 | 9 => 9 | 2 => 2 | 4 => 4 | 171 => 276 | 0 => 0 | 53 => 277 | 37 => 53 | 5 => 5 | 173 => 280 | 212 => 298 | 51 => 299 | 20 => 20 | 213 => 300 | 46 => 221 | 232 => 315 | 233 => 316 | n => n, fun | 17 => 3 | 18 => 6 | 19 => 7 | n => n⟩
theorem Tryz.lays171 : Go.Proofs.LaysM.n171 Tryz.prog Tryz.lays171_ren := {
  mixed := by kernel_rfl
  f129 := Tryz.func291.trans (congrArg some (by kernel_rfl))
  f171 := Tryz.func100.trans (congrArg some (by kernel_rfl))
  f243 := Tryz.func176.trans (congrArg some (by kernel_rfl))
  f246 := Tryz.func231.trans (congrArg some (by kernel_rfl))
  f283 := Tryz.func267.trans (congrArg some (by kernel_rfl))
  f284 := Tryz.func268.trans (congrArg some (by kernel_rfl))
  f285 := Tryz.func269.trans (congrArg some (by kernel_rfl))
  f286 := Tryz.func270.trans (congrArg some (by kernel_rfl))
  f317 := Tryz.func290.trans (congrArg some (by kernel_rfl))
  f318 := Tryz.func292.trans (congrArg some (by kernel_rfl))
  f319 := Tryz.func293.trans (congrArg some (by kernel_rfl))
  f320 := Tryz.func294.trans (congrArg some (by kernel_rfl))
  f337 := Tryz.func301.trans (congrArg some (by kernel_rfl))
  f338 := Tryz.func302.trans (congrArg some (by kernel_rfl))
  t0 := Tryz.underlying0
  a0 := Tryz.isAgg0
  z0 := Tryz.sizeOf0
  v0 := Tryz.zeroValue0
  t2 := Tryz.underlying2
  a2 := Tryz.isAgg2
  z2 := Tryz.sizeOf2
  v2 := Tryz.zeroValue2
  t3 := Tryz.underlying3
  a3 := Tryz.isAgg3
  z3 := Tryz.sizeOf3
  v3 := Tryz.zeroValue3
  t4 := Tryz.underlying4
  a4 := Tryz.isAgg4
  z4 := Tryz.sizeOf4
  v4 := Tryz.zeroValue4
  t5 := Tryz.underlying5
  a5 := Tryz.isAgg5
  z5 := Tryz.sizeOf5
  v5 := Tryz.zeroValue5
  t9 := Tryz.underlying9
  a9 := Tryz.isAgg9
  z9 := Tryz.sizeOf9
  v9 := Tryz.zeroValue9
  t20 := Tryz.underlying20
  a20 := Tryz.isAgg20
  z20 := Tryz.sizeOf20
  v20 := Tryz.zeroValue20
  t37 := Tryz.underlying53
  a37 := Tryz.isAgg53
  z37 := Tryz.sizeOf53
  v37 := Tryz.zeroValue53
  t46 := Tryz.underlying221
  a46 := Tryz.isAgg221
  z46 := Tryz.sizeOf221
  v46 := Tryz.zeroValue221
  t51 := Tryz.underlying299
  a51 := Tryz.isAgg299
  z51 := Tryz.sizeOf299
  v51 := Tryz.zeroValue299
  t53 := Tryz.underlying277
  a53 := Tryz.isAgg277
  z53 := Tryz.sizeOf277
  v53 := Tryz.zeroValue277
  t171 := Tryz.underlying276
  a171 := Tryz.isAgg276
  z171 := Tryz.sizeOf276
  v171 := Tryz.zeroValue276
  t173 := Tryz.underlying280
  a173 := Tryz.isAgg280
  z173 := Tryz.sizeOf280
  v173 := Tryz.zeroValue280
  t212 := Tryz.underlying298
  a212 := Tryz.isAgg298
  z212 := Tryz.sizeOf298
  v212 := Tryz.zeroValue298
  t213 := Tryz.underlying300
  a213 := Tryz.isAgg300
  z213 := Tryz.sizeOf300
  t232 := Tryz.underlying315
  a232 := Tryz.isAgg315
  z232 := Tryz.sizeOf315
  v232 := Tryz.zeroValue315
  t233 := Tryz.underlying316
  a233 := Tryz.isAgg316
  z233 := Tryz.sizeOf316
  v233 := Tryz.zeroValue316
  g17 := by kernel_rfl
  g18 := by kernel_rfl
  g19 := by kernel_rfl
  i0 := by kernel_rfl
  i2 := by kernel_rfl
  i3 := by kernel_rfl
  i4 := by kernel_rfl
  i5 := by kernel_rfl
  i9 := by kernel_rfl
  i20 := by kernel_rfl
  i37 := by kernel_rfl
  i46 := by kernel_rfl
  i51 := by kernel_rfl
  i53 := by kernel_rfl
  i171 := by kernel_rfl
  i173 := by kernel_rfl
  i212 := by kernel_rfl
  i232 := by kernel_rfl
  i233 := by kernel_rfl
  m17 := by kernel_rfl
  m18 := by kernel_rfl
  m19 := by kernel_rfl }
end Go.Proofs
/- Functions: numerals. -/
namespace Go.Proofs.YtjedcphhajlnoaaGreatDoor
open Go.RowKit

/-- The table of tens lies where it is looked for. -/
theorem glo_tab {w : World} (h : GloOk0 w) : Lib.TabIs Tryz.prog w "internal/strconv.uint64pow10" .u64 Lib.pow10Tab := by
  obtain ⟨c, e, f, h1, h2⟩ := h _ (List.mem_cons_self ..)
  have h2 : c = (Lib.pow10Tab.map fun z => Value.int .u64 z).toArray := h2
  subst h2
  unfold Lib.TabIs World.var?
  rw [show Tryz.prog.globalNamed "internal/strconv.uint64pow10" = some _ from by kernel_rfl]
  simp only [Option.bind_some]
  rw [h1]
def decS (n : Int) : ByteArray := ⟨(Lib.itoa n).toArray⟩
def decB (u : Nat) : ByteArray := ⟨(Lib.decDigits u).toArray⟩
theorem wrap_u8 {n : Nat} (h : n < 256) : IntKind.u8.wrap (n : Int) = n := IntWalk.u8_in _ ⟨by omega, by omega⟩
theorem ofNat_u8 {n : Nat} (h : n < 256) : (UInt8.ofNat n).toNat = n := by rw [UInt8.toNat_ofNat']; omega
theorem decS_nat (u : Nat) : decS u = decB u := by
  unfold decS decB Lib.itoa
  rw [if_neg (by omega), Int.toNat_natCast]
theorem decS_neg {n : Int} (h : n < 0) : decS n = ⟨#[45]⟩ ++ decB n.natAbs := by
  unfold decS decB Lib.itoa
  rw [if_pos h]
  apply ByteArray.ext
  simp
theorem decB_small {u : Nat} (h : u < 10) : decB u = ⟨#[UInt8.ofNat (48 + u)]⟩ := by unfold decB; rw [Lib.decDigits, dif_pos h]
theorem decB_big {u : Nat} (h : ¬ u < 10) : decB u = decB (u / 10) ++ ⟨#[UInt8.ofNat (48 + u % 10)]⟩ := by
  unfold decB
  rw [Lib.decDigits, dif_neg h]
  apply ByteArray.ext
  simp
theorem decB_size (k : Nat) : ∀ u : Nat, u < 10 ^ (k + 1) → (decB u).size ≤ k + 1 := by
  induction k with
  | zero => intro u hu; rw [decB_small (by omega)]; exact Nat.le_refl _
  | succ k ih =>
    intro u hu
    by_cases h : u < 10
    · rw [decB_small h]; show 1 ≤ _; omega
    · rw [decB_big h, ByteArray.size_append]
      have := ih (u / 10) (by rw [Nat.pow_succ] at hu; omega)
      have h1 : (⟨#[UInt8.ofNat (48 + u % 10)]⟩ : ByteArray).size = 1 := rfl
      omega
theorem decS_size {n : Int} (h0 : -9223372036854775808 ≤ n) (h1 : n ≤ 9223372036854775807) : (decS n).size ≤ 20 := by
  rcases Int.lt_or_le n 0 with h | h
  · rw [decS_neg h, ByteArray.size_append]
    have := decB_size 18 n.natAbs (by omega)
    have h1 : (⟨#[45]⟩ : ByteArray).size = 1 := rfl
    omega
  · obtain ⟨u, rfl⟩ := Int.eq_ofNat_of_zero_le h
    rw [decS_nat]
    have := decB_size 18 u (by omega)
    omega
@[go_sem] def ctItoa : Ct := ⟨false, [], fun args os => match args, os with
  | [.one (.val (.int .i64 n))], [] => ifp (-9223372036854775808 ≤ n ∧ n ≤ 9223372036854775807) (vs (decS n))
  | _, _ => no⟩
theorem s_itoa_e : EnterOk Tryz.prog 100 := ⟨_, Tryz.func100, rfl, by decide⟩
theorem s_itoa : Sound Tryz.prog 100 ctItoa := by
  refine sound_plain fun args os hp => ?_
  unfold ctItoa at hp ⊢
  dsimp only at hp ⊢
  split at hp
  · rename_i n
    obtain ⟨h0, h1⟩ : -9223372036854775808 ≤ n ∧ n ≤ 9223372036854775807 := hp
    refine ⟨rfl, [.int .i64 n], .string (decS n), rfl, rfl, fun w hw => ?_⟩
    refine (Any.strconv_Itoa Tryz.lays171 n h0 h1 w (glo_tab hw)).mono ?_
    rintro e w' ⟨he, k, os, rfl⟩
    refine ⟨he, rfl, rfl, rfl, ?_, fun j hj => ?_⟩
    · show w.heap.size ≤ (w.heap ++ os).size
      rw [Array.size_append]; omega
    · show (w.heap ++ os)[j]? = w.heap[j]?
      rw [Array.getElem?_append_left hj]
  · exact hp.elim
/-- The reference's numeral: for a number that is not negative n is 1, for all of them n is 2. -/
@[go_sem] def ctDec (k : Nat) : Ct := ⟨false, [], fun args os => match args, os with
  | [.one (.val (.int .i64 n))], [] => ifp (-9223372036854775808 ≤ n ∧ n ≤ 9223372036854775807 ∧ (0 ≤ n ∧ 1 ≤ k ∨ 2 ≤ k)) (vs (decS n))
  | _, _ => no⟩
theorem s_dec_e : EnterOk Tryz.prog 103 := ⟨_, Tryz.func103, rfl, by decide⟩
@[go_sem] def s_dec_lv : List (List Nat) := [[0], [0, 5], [2], [0, 7], [2], [0, 3], [0, 3, 13], [0, 3], [0, 3], [2]]
@[go_sem] noncomputable def s_dec_K (n : Nat) (ih : Sound Tryz.prog 103 (ctDec n)) : Known := (Known.nil).cons 103 (ctDec n) ih s_dec_e
set_option maxHeartbeats 8000000 in
theorem s_dec_step (n : Nat) (ih : Sound Tryz.prog 103 (ctDec n)) : Sound Tryz.prog 103 (ctDec (n + 1)) := by
  have ke := (s_dec_K n ih).env []
  have kl : Lives s_dec_lv := trivial
  refine sound_intro (E := ⟨ti, (s_dec_K n ih).Γ, []⟩) ke Tryz.func103 Tryz.ntmps103 rfl (rs := [.tmp 2]) rfl ?_
  intro args os hp
  unfold ctDec at hp ⊢
  dsimp only at hp ⊢
  split at hp
  · rename_i z
    refine ⟨by simp, fun φ0 w0 => ?_⟩
    obtain ⟨h0, h1, h2⟩ : -9223372036854775808 ≤ z ∧ z ≤ 9223372036854775807 ∧ (0 ≤ z ∧ 1 ≤ n + 1 ∨ 2 ≤ n + 1) := hp
    refine goh trivial ?_
    refine W_cnd ?_ ?_ <;> (try simp only [cnd_r]) <;> intro hc
    · obtain rfl : z = -9223372036854775808 := by omega
      have e : decS (-9223372036854775808) = ⟨#[45, 57, 50, 50, 51, 51, 55, 50, 48, 51, 54, 56, 53, 52, 55, 55, 53, 56, 48, 56]⟩ := by decide +kernel
      refine goh trivial ?_
      exact finh [] e
    · refine goh trivial ?_
      refine W_cnd ?_ ?_ <;> (try simp only [cnd_r]) <;> intro hn
      · have hw : IntKind.i64.wrap (0 - z) = -z := by rw [Int.zero_sub]; exact wrap_id _ (by omega) (by omega)
        obtain ⟨u, hu⟩ := Int.eq_ofNat_of_zero_le (show 0 ≤ -z by omega)
        have e : decS z = ⟨#[45]⟩ ++ decS (-z) := by
          rw [decS_neg hn, hu, decS_nat, show z.natAbs = u by omega]
        have hs := decS_size (n := -z) (by omega) (by omega)
        refine goh hw ?_
        exact finh [] e
      · obtain ⟨u, rfl⟩ := Int.eq_ofNat_of_zero_le (show 0 ≤ z by omega)
        have hsz := decB_size 18 u (by omega)
        refine goh trivial ?_
        refine W_le (σ' := ⟨[(0, vi u), (3, vs ⟨#[]⟩)], [], []⟩) [] (leh trivial) ?_
        refine W_loop (fun q σ => ∃ (m : Nat) (out : ByteArray), q = m ∧ m ≤ u ∧ decB m ++ out = decB u ∧ σ = ⟨[(0, vi m), (3, vs out)], [], []⟩) u ⟨u, ⟨#[]⟩, rfl, Nat.le_refl _, ByteArray.append_empty, rfl⟩ ?_
        rintro q σ ⟨m, out, rfl, hm, hd, rfl⟩
        have hos : out.size ≤ 20 := by
          have := congrArg ByteArray.size hd
          rw [ByteArray.size_append] at this
          omega
        refine goh trivial ?_
        refine W_cnd ?_ ?_ <;> (try simp only [cnd_r]) <;> intro hlt
        · have hr : ((q : Int)).tmod 10 = ((q % 10 : Nat) : Int) := (Int.ofNat_tmod q 10).symm
          have hv : ((q : Int)).tdiv 10 = ((q / 10 : Nat) : Int) := (Int.ofNat_tdiv q 10).symm
          have w1 : IntKind.i64.wrap ((q % 10 : Nat) : Int) = ((q % 10 : Nat) : Int) := wrap_id _ (by omega) (by omega)
          have w2 : IntKind.i64.wrap ((q / 10 : Nat) : Int) = ((q / 10 : Nat) : Int) := wrap_id _ (by omega) (by omega)
          have w3 : IntKind.i64.wrap (48 + ((q % 10 : Nat) : Int)) = ((48 + q % 10 : Nat) : Int) := wrap_id _ (by omega) (by omega)
          have w4 : IntKind.u8.wrap ((48 + q % 10 : Nat) : Int) = ((48 + q % 10 : Nat) : Int) := wrap_u8 (by omega)
          have hd2 : decB (q / 10) ++ (⟨#[UInt8.ofNat (48 + q % 10)]⟩ ++ out) = decB u := by
            rw [← ByteArray.append_assoc, ← decB_big (by omega), hd]
          have w5 : (UInt8.ofNat (48 + q % 10)).toNat = 48 + q % 10 := ofNat_u8 (by omega)
          refine goh (And.intro hr (And.intro hv (And.intro w1 (And.intro w2 (And.intro w3 (And.intro w4 w5)))))) ?_
          exact ⟨q / 10, [], ⟨[(0, vi (q / 10 : Nat)), (3, vs (⟨#[UInt8.ofNat (48 + q % 10)]⟩ ++ out))], [], []⟩, by omega, leh trivial, q / 10, _, rfl, by omega, hd2, rfl⟩
        · have w3 : IntKind.i64.wrap (48 + (q : Int)) = ((48 + q : Nat) : Int) := wrap_id _ (by omega) (by omega)
          have w4 : IntKind.u8.wrap ((48 + q : Nat) : Int) = ((48 + q : Nat) : Int) := wrap_u8 (by omega)
          have w5 : (UInt8.ofNat (48 + q)).toNat = 48 + q := ofNat_u8 (by omega)
          have e : decS u = ⟨#[UInt8.ofNat (48 + q)]⟩ ++ out := by rw [decS_nat, ← hd, decB_small (by omega)]
          refine goh (And.intro w3 (And.intro w4 w5)) ?_
          exact finh [] e
  · simp [no, ifp] at hp
theorem s_dec_all : ∀ n, Sound Tryz.prog 103 (ctDec n)
  | 0 => fun args os hp => by
    unfold ctDec at hp
    dsimp only at hp
    split at hp
    · obtain ⟨-, -, h⟩ : _ ∧ _ ∧ (_ ∧ 1 ≤ 0 ∨ 2 ≤ 0) := hp
      omega
    · exact hp.elim
  | n + 1 => s_dec_step n (s_dec_all n)
@[go_sem] def ctDecV : Ct := ⟨false, [], fun args os => match args, os with
  | [.one (.val (.int .i64 n))], [] => ifp (-9223372036854775808 ≤ n ∧ n ≤ 9223372036854775807) (vs (decS n))
  | _, _ => no⟩
theorem s_dec2 : Sound Tryz.prog 103 ctDecV := by
  intro args os hp
  unfold ctDecV at hp ⊢
  dsimp only at hp ⊢
  split at hp
  · rename_i n
    have h : -9223372036854775808 ≤ n ∧ n ≤ 9223372036854775807 := hp
    exact s_dec_all 2 [.one (.val (.int .i64 n))] [] (show _ ∧ _ ∧ _ from ⟨h.1, h.2, .inr (Nat.le_refl _)⟩)
  · exact hp.elim
theorem s_dec2_e : EnterOk Tryz.prog 103 := s_dec_e
end Go.Proofs.YtjedcphhajlnoaaGreatDoor
/- Plain facts: texts cut at a byte, numerals. -/
namespace Go.Proofs.YtjedcphhajlnoaaGreatDoor
open Go

abbrev Bs := List UInt8
/-- The pieces of a text between bytes c. -/
def cutL (c : UInt8) : Bs → List Bs
  | [] => [[]]
  | b :: r => if b = c then [] :: cutL c r else match cutL c r with
    | w :: ws => (b :: w) :: ws
    | [] => [[b]]
/-- Texts with a text between them. -/
def joinL (s : Bs) : List Bs → Bs
  | [] => []
  | [w] => w
  | w :: ws => w ++ s ++ joinL s ws
theorem cutL_ne (c : UInt8) : ∀ l, cutL c l ≠ []
  | [] => by simp [cutL]
  | b :: r => by
    unfold cutL
    split
    · simp
    · split <;> simp
theorem joinL_cons (s w : Bs) {ws : List Bs} (h : ws ≠ []) : joinL s (w :: ws) = w ++ s ++ joinL s ws := by
  cases ws with
  | nil => exact absurd rfl h
  | cons => rfl
theorem join_cut (c : UInt8) : ∀ l, joinL [c] (cutL c l) = l
  | [] => rfl
  | b :: r => by
    have ih := join_cut c r
    unfold cutL
    split
    · rename_i h
      rw [joinL_cons _ _ (cutL_ne c r), ih, h]; rfl
    · cases hc : cutL c r with
      | nil => exact absurd hc (cutL_ne c r)
      | cons w ws =>
        rw [hc] at ih
        cases ws with
        | nil => simpa [joinL] using ih
        | cons v vs =>
          simp only [joinL] at ih ⊢
          rw [← ih]; rfl
theorem cut_hit (c : UInt8) (r : Bs) : cutL c (c :: r) = [] :: cutL c r := by
  conv => lhs; unfold cutL
  rw [if_pos rfl]
theorem cut_miss {b c : UInt8} (h : ¬ b = c) {r w : Bs} {ws : List Bs} (hr : cutL c r = w :: ws) : cutL c (b :: r) = (b :: w) :: ws := by
  conv => lhs; unfold cutL
  rw [if_neg h, hr]
theorem cut_none (c : UInt8) : ∀ l : Bs, c ∉ l → cutL c l = [l]
  | [], _ => rfl
  | b :: r, h => by
    rw [List.mem_cons, not_or] at h
    exact cut_miss (fun e => h.1 e.symm) (cut_none c r h.2)
theorem cut_app (c : UInt8) : ∀ (w : Bs) (r : Bs), c ∉ w → cutL c (w ++ c :: r) = w :: cutL c r
  | [], r, _ => cut_hit c r
  | b :: w, r, h => by
    rw [List.mem_cons, not_or] at h
    exact cut_miss (fun e => h.1 e.symm) (cut_app c w r h.2)
theorem cut_join (c : UInt8) : ∀ ws : List Bs, ws ≠ [] → (∀ w ∈ ws, c ∉ w) → cutL c (joinL [c] ws) = ws
  | [], h, _ => absurd rfl h
  | [w], _, h => cut_none c w (h w (by simp))
  | w :: v :: ws, _, h => by
    show cutL c (w ++ [c] ++ joinL [c] (v :: ws)) = _
    rw [List.append_assoc, List.singleton_append, cut_app c w _ (h w (by simp)), cut_join c (v :: ws) (by simp) fun x hx => h x (List.mem_cons_of_mem _ hx)]
theorem cut_mem (c : UInt8) : ∀ (l : Bs), ∀ w ∈ cutL c l, c ∉ w
  | [], w, hw => by simp [cutL] at hw; subst hw; simp
  | b :: r, w, hw => by
    unfold cutL at hw
    split at hw
    · rcases List.mem_cons.1 hw with rfl | hw
      · simp
      · exact cut_mem c r w hw
    · rename_i hb
      cases hc : cutL c r with
      | nil => exact absurd hc (cutL_ne c r)
      | cons v vs =>
        rw [hc] at hw
        have h2 := cut_mem c r
        rw [hc] at h2
        simp only [List.mem_cons] at hw
        rcases hw with rfl | hw
        · rw [List.mem_cons, not_or]
          exact ⟨fun e => hb e.symm, h2 v (by simp)⟩
        · exact h2 w (List.mem_cons_of_mem _ hw)
theorem cut_len (c : UInt8) : ∀ l : Bs, (cutL c l).length ≤ l.length + 1
  | [] => by simp [cutL]
  | b :: r => by
    have ih := cut_len c r
    unfold cutL
    split
    · simpa using ih
    · split
      · rename_i h; rw [h] at ih; simp at ih ⊢; omega
      · simp

/-! Numerals. -/
def isDig (b : UInt8) : Prop := 48 ≤ b.toNat ∧ b.toNat ≤ 57
instance (b : UInt8) : Decidable (isDig b) := inferInstanceAs (Decidable (_ ∧ _))
theorem dig_of {k : Nat} (h : k < 10) : (UInt8.ofNat (48 + k)).toNat = 48 + k := by
  rw [UInt8.toNat_ofNat']; omega
theorem decD_small {u : Nat} (h : u < 10) : Lib.decDigits u = [UInt8.ofNat (48 + u)] := by rw [Lib.decDigits, dif_pos h]
theorem decD_big {u : Nat} (h : ¬ u < 10) : Lib.decDigits u = Lib.decDigits (u / 10) ++ [UInt8.ofNat (48 + u % 10)] := by rw [Lib.decDigits, dif_neg h]
theorem decD_dig (u : Nat) : ∀ b ∈ Lib.decDigits u, isDig b := by
  induction u using Nat.strongRecOn with
  | _ u ih =>
    intro b hb
    by_cases h : u < 10
    · rw [decD_small h] at hb
      simp only [List.mem_singleton] at hb
      subst hb
      unfold isDig; rw [dig_of h]; omega
    · rw [decD_big h, List.mem_append] at hb
      rcases hb with hb | hb
      · exact ih _ (by omega) b hb
      · simp only [List.mem_singleton] at hb
        subst hb
        unfold isDig; rw [dig_of (by omega)]; omega
theorem decD_ne (u : Nat) : Lib.decDigits u ≠ [] := by
  by_cases h : u < 10
  · rw [decD_small h]; simp
  · rw [decD_big h]; simp
theorem decD_len (k : Nat) : ∀ u : Nat, u < 10 ^ (k + 1) → (Lib.decDigits u).length ≤ k + 1 := by
  induction k with
  | zero => intro u hu; rw [decD_small (by omega)]; exact Nat.le_refl _
  | succ k ih =>
    intro u hu
    by_cases h : u < 10
    · rw [decD_small h]; simp
    · rw [decD_big h, List.length_append]
      have := ih (u / 10) (by rw [Nat.pow_succ] at hu; omega)
      simp; omega
/-- No leading zero, but of zero itself. -/
theorem decD_head (u : Nat) : 0 < u → ∃ b r, Lib.decDigits u = b :: r ∧ b.toNat ≠ 48 := by
  induction u using Nat.strongRecOn with
  | _ u ih =>
    intro hu
    by_cases h : u < 10
    · exact ⟨_, _, decD_small h, by rw [dig_of h]; omega⟩
    · obtain ⟨b, r, hb, h2⟩ := ih (u / 10) (by omega) (by omega)
      exact ⟨b, r ++ [_], by rw [decD_big h, hb]; rfl, h2⟩
theorem decFrom_app : ∀ (l : Bs) (acc : Nat) (m : Bs), Lib.decFrom acc (l ++ m) = (Lib.decFrom acc l).bind fun a => Lib.decFrom a m
  | [], acc, m => by simp [Lib.decFrom]
  | b :: l, acc, m => by
    simp only [List.cons_append, Lib.decFrom]
    cases h : Lib.digitVal b with
    | none => rfl
    | some d => exact decFrom_app l _ m
theorem digitVal_of {k : Nat} (h : k < 10) : Lib.digitVal (UInt8.ofNat (48 + k)) = some k := by
  unfold Lib.digitVal
  rw [dig_of h, if_pos (by omega)]
  congr 1; omega
theorem decFrom_decD (u : Nat) : Lib.decFrom 0 (Lib.decDigits u) = some u := by
  induction u using Nat.strongRecOn with
  | _ u ih =>
    by_cases h : u < 10
    · rw [decD_small h]
      simp only [Lib.decFrom, digitVal_of h]
      congr 1; omega
    · rw [decD_big h, decFrom_app, ih (u / 10) (by omega)]
      simp only [Option.bind_some, Lib.decFrom, digitVal_of (show u % 10 < 10 by omega)]
      congr 1; omega
theorem decD_inj {u v : Nat} (h : Lib.decDigits u = Lib.decDigits v) : u = v := by
  have h1 := decFrom_decD u
  rw [h, decFrom_decD] at h1
  exact (Option.some.inj h1).symm
end Go.Proofs.YtjedcphhajlnoaaGreatDoor
/- Plain facts: the library's words are texts cut at a byte. -/
namespace Go.Proofs.YtjedcphhajlnoaaGreatDoor
open Go

def bytesL (l : Bs) : ByteArray := ⟨l.toArray⟩
theorem bytesL_data (s : ByteArray) : bytesL s.data.toList = s := by
  cases s; simp [bytesL]
theorem bytesL_list (l : Bs) : (bytesL l).data.toList = l := by simp [bytesL]
theorem bytesL_app (l m : Bs) : bytesL (l ++ m) = bytesL l ++ bytesL m := by
  apply ByteArray.ext; simp [bytesL]
theorem bytesL_inj {l m : Bs} (h : bytesL l = bytesL m) : l = m := by
  have := congrArg (fun s : ByteArray => s.data.toList) h
  simpa [bytesL_list] using this
theorem index_not (c : UInt8) : ∀ l : Bs, c ∉ l → Lib.index l [c] = -1
  | [], _ => rfl
  | b :: l, h => by
    rw [List.mem_cons, not_or] at h
    have h1 : List.isPrefixOf [c] (b :: l) = false := by simp [List.isPrefixOf, h.1]
    unfold Lib.index
    rw [h1, index_not c l h.2]; rfl
theorem index_at (c : UInt8) : ∀ (w r : Bs), c ∉ w → Lib.index (w ++ c :: r) [c] = (w.length : Int)
  | [], r, _ => by
    have h1 : List.isPrefixOf [c] (c :: r) = true := by simp [List.isPrefixOf]
    show Lib.index (c :: r) [c] = 0
    unfold Lib.index
    rw [if_pos h1]
  | b :: w, r, h => by
    rw [List.mem_cons, not_or] at h
    have h1 : List.isPrefixOf [c] (b :: (w ++ c :: r)) = false := by simp [List.isPrefixOf, h.1]
    show Lib.index (b :: (w ++ c :: r)) [c] = _
    unfold Lib.index
    rw [h1, index_at c w r h.2]
    have : (((w.length : Int)) == -1) = false := by rw [beq_eq_false_iff_ne]; omega
    rw [this]
    simp
theorem split_cut (c : UInt8) : ∀ (n : Nat) (l : Bs), l.length ≤ n → Lib.splitK [c] 0 (Lib.count l [c]) l = cutL c l
  | n, l, hn => by
    by_cases hc : c ∈ l
    · obtain ⟨w, r, rfl, hw⟩ := List.eq_append_cons_of_mem hc
      have hi := index_at c w r hw
      rw [Lib.count_hit (by simp) hi, cut_app c w r hw, Nat.add_comm]
      have hm : ¬ (Lib.index (w ++ c :: r) [c] == -1) = true := fun e => by have := beq_iff_eq.1 e; omega
      rw [Lib.splitK, if_neg hm, hi]
      have e1 : (w ++ c :: r).drop ((w.length : Int).toNat + [c].length) = r := by
        rw [Int.toNat_natCast, List.length_singleton, show w ++ c :: r = (w ++ [c]) ++ r by simp]
        rw [List.drop_append, List.drop_eq_nil_of_le (by simp)]
        simp
      have e3 : (w ++ c :: r).drop (w.length + [c].length) = r := e1
      have e2 : (w ++ c :: r).take ((w.length : Int).toNat + 0) = w := by simp
      rw [e1, e2, e3]
      cases n with
      | zero => simp at hn
      | succ n =>
        rw [split_cut c n r (by simp at hn; omega)]
    · rw [Lib.count_miss (index_not c l hc), cut_none c l hc]
      rfl
def splitV (c : UInt8) (s : ByteArray) : List ByteArray := (cutL c s.data.toList).map bytesL
theorem split_lib (c : UInt8) (s : ByteArray) : Lib.splitB ⟨#[c]⟩ 0 (Lib.countB s ⟨#[c]⟩) s = splitV c s := by
  have h := Lib.splitB_data ⟨#[c]⟩ 0 (Lib.countB s ⟨#[c]⟩) s
  have h2 : Lib.splitK [c] 0 (Lib.count s.data.toList [c]) s.data.toList = cutL c s.data.toList := split_cut c _ _ (Nat.le_refl _)
  have h3 : (Lib.splitB ⟨#[c]⟩ 0 (Lib.countB s ⟨#[c]⟩) s).map (·.data.toList) = cutL c s.data.toList := h.trans h2
  unfold splitV
  rw [← h3, List.map_map]
  conv => lhs; rw [← List.map_id (Lib.splitB ⟨#[c]⟩ 0 (Lib.countB s ⟨#[c]⟩) s)]
  apply List.map_congr_left
  intro x _
  exact (bytesL_data x).symm
theorem splitV_len (c : UInt8) (s : ByteArray) : (splitV c s).length ≤ s.size + 1 := by
  unfold splitV
  rw [List.length_map]
  exact cut_len c _
/-- What stands before the first c, and behind it; is there one? -/
def cutV (c : UInt8) (s : ByteArray) : ByteArray × ByteArray × Bool :=
  (bytesL (Lib.cut s.data.toList [c]).1, bytesL (Lib.cut s.data.toList [c]).2.1, (Lib.cut s.data.toList [c]).2.2)
theorem cutV_not {c : UInt8} {s : ByteArray} (h : c ∉ s.data.toList) : cutV c s = (s, ⟨#[]⟩, false) := by
  unfold cutV Lib.cut
  rw [index_not c _ h, if_neg (by decide)]
  simp only [bytesL_data]; rfl
theorem cutV_at {c : UInt8} {s : ByteArray} {w r : Bs} (h : s.data.toList = w ++ c :: r) (hw : c ∉ w) : cutV c s = (bytesL w, bytesL r, true) := by
  unfold cutV Lib.cut
  rw [h, index_at c w r hw, if_pos (by omega)]
  have e1 : (w ++ c :: r).drop ((w.length : Int).toNat + [c].length) = r := by
    rw [Int.toNat_natCast, List.length_singleton, show w ++ c :: r = (w ++ [c]) ++ r by simp]
    rw [List.drop_append, List.drop_eq_nil_of_le (by simp)]
    simp
  have e2 : (w ++ c :: r).take (w.length : Int).toNat = w := by simp
  rw [e1, e2]
def joinV (sep : ByteArray) (xs : List ByteArray) : ByteArray := bytesL (Lib.join (xs.map (·.data.toList)) sep.data.toList)
theorem lib_join (sep : Bs) : ∀ xs : List Bs, Lib.join xs sep = joinL sep xs
  | [] => rfl
  | [x] => Lib.join_one x sep
  | x :: y :: r => by
    rw [joinL_cons _ _ (by simp), ← lib_join sep (y :: r)]
    simp [Lib.join, List.intercalate]
theorem splitV_join {c : UInt8} {ws : List ByteArray} (hn : ws ≠ []) (h : ∀ w ∈ ws, c ∉ w.data.toList) : splitV c (joinV ⟨#[c]⟩ ws) = ws := by
  unfold splitV joinV
  rw [bytesL_list, lib_join]
  have e : (⟨#[c]⟩ : ByteArray).data.toList = [c] := rfl
  rw [e, cut_join c _ (by simpa using hn) (by
    intro w hw
    obtain ⟨x, hx, rfl⟩ := List.mem_map.1 hw
    exact h x hx), List.map_map]
  conv => rhs; rw [← List.map_id ws]
  apply List.map_congr_left
  intro x _
  exact bytesL_data x
theorem joinV_split (c : UInt8) (s : ByteArray) : joinV ⟨#[c]⟩ (splitV c s) = s := by
  unfold splitV joinV
  rw [lib_join, List.map_map]
  have e : (cutL c s.data.toList).map ((fun x : ByteArray => x.data.toList) ∘ bytesL) = cutL c s.data.toList := by
    conv => rhs; rw [← List.map_id (cutL c s.data.toList)]
    apply List.map_congr_left
    intro x _
    exact bytesL_list x
  rw [e]
  have e2 : (⟨#[c]⟩ : ByteArray).data.toList = [c] := rfl
  rw [e2, join_cut, bytesL_data]
theorem joinV_three (c : UInt8) (x y z : ByteArray) : joinV ⟨#[c]⟩ [x, y, z] = x ++ ⟨#[c]⟩ ++ y ++ ⟨#[c]⟩ ++ z := by
  unfold joinV
  rw [lib_join]
  show bytesL (x.data.toList ++ [c] ++ (y.data.toList ++ [c] ++ z.data.toList)) = _
  rw [bytesL_app, bytesL_app, bytesL_app, bytesL_app, bytesL_data, bytesL_data, bytesL_data]
  have e : bytesL [c] = ⟨#[c]⟩ := rfl
  rw [e]
  simp only [ByteArray.append_assoc]
end Go.Proofs.YtjedcphhajlnoaaGreatDoor
/-
  DERIVED: THE SHELF's CONTRACTS AT THIS DUMP, IN PLAIN WORDS (tools/lay-plain.mjs out of 'YtjedcphhajlnoaaGreatDoorTSh4Q.lean', which tools/lay-shelf.mjs wrote): THE SAME DECLARATIONS UNDER THE SAME NAMES: 'import', 'namespace', 'open', 'def', 'theorem' AND NOTHING ELSE: no command of the shelf's: FOR A HAND-IN. Each laying: the table of numbers ('.._ren') and one theorem, a field a fact of the dump's own or the kernel's comparison; each contract: ONE APPLICATION.
-/
namespace Go.Proofs
open Go.Shelf
def Tryz.lays146_ren : Go.Shelf.Ren := ⟨fun | 146 => 107 | 221 => 177 | 268 => 232 | 138 => 233 | 143 => 234 | 195 => 271 | 197 => 272 | 218 => 273 | 219 => 255 | 260 => 295 | 217 => 256 | 225 => 282 | 224 => 283 | 267 => 284 | 266 => 285 | 314 => 300 | n => n, fun | 9 => 9 | 31 => 22 | 3 => 3 | 4 => 4 | 0 => 0 | 105 => 282 | 21 => 21 | 5 => 5 | 46 => 221 | 119 => 310 | 139 => 313 | 138 => 312 | 146 => 307 | 51 => 299 | n => n, fun | 1 => 2 | 3 => 4 | 4 => 5 | n => n⟩
theorem Tryz.lays146 : Go.Proofs.LaysM.n146 Tryz.prog Tryz.lays146_ren := {
  mixed := by kernel_rfl
  f138 := Tryz.func233.trans (congrArg some (by kernel_rfl))
  f143 := Tryz.func234.trans (congrArg some (by kernel_rfl))
  f146 := Tryz.func107.trans (congrArg some (by kernel_rfl))
  f195 := Tryz.func271.trans (congrArg some (by kernel_rfl))
  f197 := Tryz.func272.trans (congrArg some (by kernel_rfl))
  f217 := Tryz.func256.trans (congrArg some (by kernel_rfl))
  f218 := Tryz.func273.trans (congrArg some (by kernel_rfl))
  f219 := Tryz.func255.trans (congrArg some (by kernel_rfl))
  f221 := Tryz.func177.trans (congrArg some (by kernel_rfl))
  f224 := Tryz.func283.trans (congrArg some (by kernel_rfl))
  f225 := Tryz.func282.trans (congrArg some (by kernel_rfl))
  f260 := Tryz.func295.trans (congrArg some (by kernel_rfl))
  f266 := Tryz.func285.trans (congrArg some (by kernel_rfl))
  f267 := Tryz.func284.trans (congrArg some (by kernel_rfl))
  f268 := Tryz.func232.trans (congrArg some (by kernel_rfl))
  f314 := Tryz.func300.trans (congrArg some (by kernel_rfl))
  t0 := Tryz.underlying0
  a0 := Tryz.isAgg0
  z0 := Tryz.sizeOf0
  v0 := Tryz.zeroValue0
  t3 := Tryz.underlying3
  a3 := Tryz.isAgg3
  z3 := Tryz.sizeOf3
  v3 := Tryz.zeroValue3
  t4 := Tryz.underlying4
  a4 := Tryz.isAgg4
  z4 := Tryz.sizeOf4
  v4 := Tryz.zeroValue4
  t5 := Tryz.underlying5
  a5 := Tryz.isAgg5
  z5 := Tryz.sizeOf5
  v5 := Tryz.zeroValue5
  t9 := Tryz.underlying9
  a9 := Tryz.isAgg9
  z9 := Tryz.sizeOf9
  v9 := Tryz.zeroValue9
  t21 := Tryz.underlying21
  a21 := Tryz.isAgg21
  z21 := Tryz.sizeOf21
  v21 := Tryz.zeroValue21
  t31 := Tryz.underlying22
  a31 := Tryz.isAgg22
  z31 := Tryz.sizeOf22
  v31 := Tryz.zeroValue22
  t46 := Tryz.underlying221
  a46 := Tryz.isAgg221
  z46 := Tryz.sizeOf221
  v46 := Tryz.zeroValue221
  t51 := Tryz.underlying299
  a51 := Tryz.isAgg299
  z51 := Tryz.sizeOf299
  v51 := Tryz.zeroValue299
  t105 := Tryz.underlying282
  a105 := Tryz.isAgg282
  z105 := Tryz.sizeOf282
  v105 := Tryz.zeroValue282
  t119 := Tryz.underlying310
  a119 := Tryz.isAgg310
  z119 := Tryz.sizeOf310
  t138 := Tryz.underlying312
  a138 := Tryz.isAgg312
  z138 := Tryz.sizeOf312
  v138 := Tryz.zeroValue312
  t139 := Tryz.underlying313
  a139 := Tryz.isAgg313
  z139 := Tryz.sizeOf313
  v139 := Tryz.zeroValue313
  t146 := Tryz.underlying307
  a146 := Tryz.isAgg307
  z146 := Tryz.sizeOf307
  v146 := Tryz.zeroValue307
  g1 := by kernel_rfl
  g3 := by kernel_rfl
  g4 := by kernel_rfl
  i0 := by kernel_rfl
  i3 := by kernel_rfl
  i4 := by kernel_rfl
  i5 := by kernel_rfl
  i9 := by kernel_rfl
  i21 := by kernel_rfl
  i31 := by kernel_rfl
  i46 := by kernel_rfl
  i51 := by kernel_rfl
  i105 := by kernel_rfl
  i138 := by kernel_rfl
  i139 := by kernel_rfl
  i146 := by kernel_rfl
  m1 := by kernel_rfl
  s1_3 := fun w h => Go.Proofs.cell_of_shapedOpen_int (zero := #[.int .i64 0]) (t := 3) h (of_decide_eq_true (by kernel_rfl)) (by kernel_rfl) rfl (by kernel_rfl) (by kernel_rfl) Tryz.underlying3
  m3 := by kernel_rfl
  m4 := by kernel_rfl }
end Go.Proofs
