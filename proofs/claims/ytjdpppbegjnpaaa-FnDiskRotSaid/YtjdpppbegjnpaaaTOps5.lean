/- Numbers, strings, slices' parts, and what else looks at no object or only looks. -/
import Derived.Test.YtjdpppbegjnpaaaTOps4
import Derived.WalkKit
import Derived.Laws.Small
import Derived.Laws.StructEq
set_option linter.unusedSimpArgs false
set_option linter.unusedVariables false
set_option linter.unusedSectionVars false
namespace Go.Proofs.Ytjdpppbegjnpaaa
open Go.RowKit

theorem eqGuard_run (P : Program) (op : BinOp) (t : TypeId) (x y : Operand) (a b : Value) (w : World) (h1 : a ≠ .nilIface ∨ b ≠ .nilIface) (h2 : (∀ c, a ≠ .agg c) ∨ ∀ c, b ≠ .agg c) :
    (eqGuard op t x y a b).run P w = .ok () w := by
  have key : (match a, b with
      | .nilIface, .nilIface => (unsupported (.noEntry "") : Sem Unit)
      | .agg _, .agg _ => unsupported (.noEntry "")
      | _, _ => pure ()) = pure () := by
    split
    · rcases h1 with h | h <;> exact absurd rfl h
    · rcases h2 with h | h <;> exact absurd rfl (h _)
    · rfl
  unfold eqGuard
  split <;> simp only [Bool.not_true, Bool.not_false, if_true, Bool.false_eq_true, if_false, Sem.run_pure] <;>
    (split
     · rcases h1 with h | h <;> exact absurd rfl h
     · rcases h2 with h | h <;> exact absurd rfl (h _)
     · rfl)

theorem run_equalIn_slnil (P : Program) (w : World) (d : Nat) (t e : TypeId) (a : Option Addr) (l c : Nat) (h : P.underlying t = some (.slice e)) : (Op.equalIn (d + 1) t (.slice a l c) (.slice none 0 0)).run P w = .ok a.isNone w := by
  cases a <;> simp [Op.equalIn, run_under' h]
theorem run_eql_slnil (P : Program) (w : World) (t e : TypeId) (a : Option Addr) (l c : Nat) (h : P.underlying t = some (.slice e)) : (binOp .eql t (.slice a l c) (.slice none 0 0)).run P w = .ok (.bool a.isNone) w := by
  have := run_equalIn_slnil P w 9999 t e a l c h
  simp only [binOp]
  simp [Op.equal, Op.maxDepth, this]
theorem run_neq_slnil (P : Program) (w : World) (t e : TypeId) (a : Option Addr) (l c : Nat) (h : P.underlying t = some (.slice e)) : (binOp .neq t (.slice a l c) (.slice none 0 0)).run P w = .ok (.bool (!a.isNone)) w := by
  have := run_equalIn_slnil P w 9999 t e a l c h
  simp only [binOp]
  simp [Op.equal, Op.maxDepth, this]
theorem plain_R {φ : Phi} {T : Tab} {w : World} : ∀ {cs : List TC} {vs : List Value} {xs : List Value}, plain cs = some vs → All2 (CR φ T w) cs xs → xs = vs
  | [], vs, xs, h, ha => by
    cases xs with
    | nil => simp [plain] at h; exact h.symm
    | cons => exact ha.elim
  | c :: cs, vs, [], h, ha => ha.elim
  | c :: cs, vs, x :: xs, h, ha => by
    unfold plain at h
    split at h
    · rename_i v us hv hus
      cases h
      rw [plain_R hus ha.2]
      cases c <;> simp [tcv] at hv
      subst hv
      have := ha.1
      simp only [CR] at this
      rw [this]
    · cases h

theorem binv_int (P : Program) (op : BinOp) (t : TypeId) (k k' : IntKind) (a b : Int) (w : World) (hp : (binv op (.int k a) (.int k' b)).pre) :
    ∃ r, (binOp op t (.int k a) (.int k' b)).run P w = .ok r w ∧ (binv op (.int k a) (.int k' b)).v = .one (.val r) := by
  cases op <;> simp only [binv, ifp, no] at hp ⊢ <;> first
    | exact hp.elim
    | (subst hp; refine ⟨_, ?_, rfl⟩; simp [binOp, Op.intArith, Op.intCmp, Op.intBits]; done)
    | (obtain ⟨rfl, hy⟩ := hp; refine ⟨_, ?_, rfl⟩; simp [binOp, Op.intDiv, hy]; done)
    | (refine ⟨_, ?_, rfl⟩; simp [binOp, Op.shift, Int.not_lt.2 hp]; done)
theorem binv_str (P : Program) (op : BinOp) (t : TypeId) (a b : ByteArray) (w : World) (hp : (binv op (.string a) (.string b)).pre) :
    ∃ r, (binOp op t (.string a) (.string b)).run P w = .ok r w ∧ (binv op (.string a) (.string b)).v = .one (.val r) := by
  cases op <;> simp only [binv, ifp, is, no] at hp ⊢ <;> first
    | exact hp.elim
    | (refine ⟨_, ?_, rfl⟩; simp [binOp, Op.stringOp]; done)
    | (refine ⟨_, ?_, rfl⟩; simp only [binOp, Op.stringOp]; rw [if_neg (by simp [IntKind.max, IntKind.signed, IntKind.bits]; omega)]; rfl)

section
variable {P : Program} {ti : TypeId → TI} (hti : ∀ t, ((ti t).k ≠ .other ∨ 0 < (ti t).sz) → TIok P t (ti t))
variable {φ : Phi} {T : Tab} {w : World} {n : Nat} {rd : Nat → Option Obj} (hrel : Rel φ T w)
include hti hrel

theorem run_equalIn_held (d : Nat) {t u : TypeId} {v : Value} (h : ∃ ms, P.underlying t = some (.interface ms)) : (Op.equalIn (d + 1) t (.iface u v) .nilIface).run P w = .ok false w := by
  obtain ⟨ms, h⟩ := h
  simp [Op.equalIn, run_under' h]
theorem run_equal_held {t u : TypeId} {v : Value} (h : ∃ ms, P.underlying t = some (.interface ms)) : (Op.equal t (.iface u v) .nilIface).run P w = .ok false w := run_equalIn_held hti hrel 9999 h
theorem eq_ran {op : BinOp} {t : TypeId} {o1 o2 : Operand} {x y : TV} {u v : Value} (hx : VR φ T w x u) (hy : VR φ T w y v) (hp : (eqop ti op t x y).pre) :
    Ran P φ T w n (eqop ti op t x y) (do eqGuard op t o1 o2 u v; binOp op t u v) := by
  unfold eqop eqv at hp ⊢
  split at hp
  · split at hp
    · rename_i hk
      have ok := hti t (.inl (by rw [hk]; simp))
      have hu := ok.kind; rw [hk] at hu
      simp only [VR, CR] at hx hy
      obtain ⟨t', u', rfl⟩ := hx
      subst hy
      refine Ran.pure hrel ⟨rfl, rfl⟩ ⟨.bool _, ?_, rfl⟩
      simp only [Sem.run_bind, eqGuard_run P _ t o1 o2 (.iface t' u') .nilIface w (.inl (by simp)) (.inl (by simp)), Result.andThen_ok, binOp, run_equal_held hti hrel hu]
      rfl
    · rename_i e t' xs hk
      have ok := hti t (.inl (by rw [hk]; simp))
      have hu := ok.kind; rw [hk] at hu
      simp only [VR, CR] at hx hy
      obtain ⟨a, cap, rfl, hl, hnone, -, -⟩ := hx
      subst hy
      refine Ran.pure hrel ⟨rfl, rfl⟩ ⟨.bool _, by
        simp only [Sem.run_bind, eqGuard_run P _ t o1 o2 (.slice a xs.length cap) (.slice none 0 0) w (.inl (by simp)) (.inl (by simp)), Result.andThen_ok]
        exact run_eql_slnil P w t e a _ cap hu, ?_⟩
      have hx0 : a.isNone = true → xs = [] := fun ha => by
        have := hnone (by simpa using ha)
        exact List.length_eq_zero_iff.1 (by omega)
      simp only [is, VR, CR, Bool.false_eq_true, if_false, if_true]
      exact ⟨_, rfl, by simpa using hx0⟩
    · rename_i e t' k off len hk
      have ok := hti t (.inl (by rw [hk]; simp))
      have hu := ok.kind; rw [hk] at hu
      simp only [VR, CR] at hx hy
      obtain ⟨a, cap, rfl, hl, hnone, -, -⟩ := hx
      subst hy
      refine Ran.pure hrel ⟨rfl, rfl⟩ ⟨.bool _, by
        simp only [Sem.run_bind, eqGuard_run P _ t o1 o2 (.slice a len cap) (.slice none 0 0) w (.inl (by simp)) (.inl (by simp)), Result.andThen_ok]
        exact run_eql_slnil P w t e a _ cap hu, ?_⟩
      have hx0 : a.isNone = true → len = 0 := fun ha => by
        have := hnone (by simpa using ha)
        omega
      simp only [is, VR, CR, Bool.false_eq_true, if_false, if_true]
      exact ⟨_, rfl, by simpa using hx0⟩
    · rename_i fs xs ys hk
      split at hp
      · rename_i e het
        split at hp
        · rename_i ks us vs' hks hus hvs
          obtain ⟨h1, h2⟩ := hp
          have ok := hti t (.inl (by rw [hk]; simp))
          obtain ⟨hg, heq⟩ := ok.cmp e ks het hks
          simp only [VR] at hx hy
          obtain ⟨xa, rfl, hxa⟩ := hx
          obtain ⟨ya, rfl, hya⟩ := hy
          have e1 := plain_R hus hxa
          have e2 := plain_R hvs hya
          refine Ran.pure hrel ⟨rfl, rfl⟩ ⟨.bool _, ?_, rfl⟩
          simp only [Sem.run_bind, run_eqGuard_agg w _ t o1 o2 xa ya hg, Result.andThen_ok, run_eql_struct]
          have := heq w us vs' h1 h2
          rw [← e1, ← e2] at this
          simp only [Array.toArray_toList] at this
          rw [this, e1, e2]; simp
        · exact hp.elim
      · exact hp.elim
    · exact hp.elim
  · split at hp
    · rename_i hk
      have ok := hti t (.inl (by rw [hk]; simp))
      have hu := ok.kind; rw [hk] at hu
      simp only [VR, CR] at hx hy
      obtain ⟨t', u', rfl⟩ := hx
      subst hy
      refine Ran.pure hrel ⟨rfl, rfl⟩ ⟨.bool _, ?_, rfl⟩
      simp only [Sem.run_bind, eqGuard_run P _ t o1 o2 (.iface t' u') .nilIface w (.inl (by simp)) (.inl (by simp)), Result.andThen_ok, binOp, run_equal_held hti hrel hu]
      rfl
    · rename_i e t' xs hk
      have ok := hti t (.inl (by rw [hk]; simp))
      have hu := ok.kind; rw [hk] at hu
      simp only [VR, CR] at hx hy
      obtain ⟨a, cap, rfl, hl, hnone, -, -⟩ := hx
      subst hy
      refine Ran.pure hrel ⟨rfl, rfl⟩ ⟨.bool _, by
        simp only [Sem.run_bind, eqGuard_run P _ t o1 o2 (.slice a xs.length cap) (.slice none 0 0) w (.inl (by simp)) (.inl (by simp)), Result.andThen_ok]
        exact run_neq_slnil P w t e a _ cap hu, ?_⟩
      have hx0 : a.isNone = true → xs = [] := fun ha => by
        have := hnone (by simpa using ha)
        exact List.length_eq_zero_iff.1 (by omega)
      simp only [is, VR, CR, Bool.false_eq_true, if_false, if_true]
      exact ⟨_, rfl, by simpa using hx0⟩
    · rename_i e t' k off len hk
      have ok := hti t (.inl (by rw [hk]; simp))
      have hu := ok.kind; rw [hk] at hu
      simp only [VR, CR] at hx hy
      obtain ⟨a, cap, rfl, hl, hnone, -, -⟩ := hx
      subst hy
      refine Ran.pure hrel ⟨rfl, rfl⟩ ⟨.bool _, by
        simp only [Sem.run_bind, eqGuard_run P _ t o1 o2 (.slice a len cap) (.slice none 0 0) w (.inl (by simp)) (.inl (by simp)), Result.andThen_ok]
        exact run_neq_slnil P w t e a _ cap hu, ?_⟩
      have hx0 : a.isNone = true → len = 0 := fun ha => by
        have := hnone (by simpa using ha)
        omega
      simp only [is, VR, CR, Bool.false_eq_true, if_false, if_true]
      exact ⟨_, rfl, by simpa using hx0⟩
    · rename_i fs xs ys hk
      split at hp
      · rename_i e het
        split at hp
        · rename_i ks us vs' hks hus hvs
          obtain ⟨h1, h2⟩ := hp
          have ok := hti t (.inl (by rw [hk]; simp))
          obtain ⟨hg, heq⟩ := ok.cmp e ks het hks
          simp only [VR] at hx hy
          obtain ⟨xa, rfl, hxa⟩ := hx
          obtain ⟨ya, rfl, hya⟩ := hy
          have e1 := plain_R hus hxa
          have e2 := plain_R hvs hya
          refine Ran.pure hrel ⟨rfl, rfl⟩ ⟨.bool _, ?_, rfl⟩
          simp only [Sem.run_bind, run_eqGuard_agg w _ t o1 o2 xa ya hg, Result.andThen_ok, run_neq_struct]
          have := heq w us vs' h1 h2
          rw [← e1, ← e2] at this
          simp only [Array.toArray_toList] at this
          rw [this, e1, e2]; simp
        · exact hp.elim
      · exact hp.elim
    · exact hp.elim
  · exact hp.elim

theorem binOp_ran {op : BinOp} {t : TypeId} {o1 o2 : Operand} {x y : TV} {u v : Value} (hx : VR φ T w x u) (hy : VR φ T w y v) (hp : (binOpv ti op t x y).pre) :
    Ran P φ T w n (binOpv ti op t x y) (do eqGuard op t o1 o2 u v; binOp op t u v) := by
  unfold binOpv at hp ⊢
  split at hp
  · rename_i p q
    simp only [VR, CR] at hx hy
    subst hx hy
    split at hp
    · rename_i hk
      have ok := hti t (.inl (by rw [hk]; simp))
      have hu : P.underlying t = some .bool := by have := ok.kind; rwa [hk] at this
      refine Ran.pure hrel ⟨rfl, rfl⟩ ⟨.bool _, ?_, rfl⟩
      simp only [Sem.run_bind, eqGuard_run P _ t o1 o2 (.bool p) (.bool q) w (.inl (by simp)) (.inl (by simp)), Result.andThen_ok, binOp, run_equal_bool w t p q hu]
      rfl
    · rename_i hk
      have ok := hti t (.inl (by rw [hk]; simp))
      have hu : P.underlying t = some .bool := by have := ok.kind; rwa [hk] at this
      refine Ran.pure hrel ⟨rfl, rfl⟩ ⟨.bool _, ?_, rfl⟩
      simp only [Sem.run_bind, eqGuard_run P _ t o1 o2 (.bool p) (.bool q) w (.inl (by simp)) (.inl (by simp)), Result.andThen_ok, binOp, run_equal_bool w t p q hu]
      rfl
    · exact hp.elim
  · rename_i k a k' b
    simp only [VR, CR] at hx hy
    subst hx hy
    obtain ⟨r, h1, h2⟩ := binv_int P op t k k' a b w hp
    refine Ran.pure hrel ?_ ⟨r, ?_, ?_⟩
    · cases op <;> exact ⟨rfl, rfl⟩
    · simp only [Sem.run_bind, eqGuard_run P op t o1 o2 (.int k a) (.int k' b) w (.inl (by simp)) (.inl (by simp)), Result.andThen_ok, h1]
    · rw [h2]; rfl
  · rename_i a b
    simp only [VR, CR] at hx hy
    subst hx hy
    obtain ⟨r, h1, h2⟩ := binv_str P op t a b w hp
    refine Ran.pure hrel ?_ ⟨r, ?_, ?_⟩
    · cases op <;> exact ⟨rfl, rfl⟩
    · simp only [Sem.run_bind, eqGuard_run P op t o1 o2 (.string a) (.string b) w (.inl (by simp)) (.inl (by simp)), Result.andThen_ok, h1]
    · rw [h2]; rfl
  · exact eq_ran hti hrel hx hy hp

theorem unv_ran {op : UnOp} {x : TV} {u : Value} (hx : VR φ T w x u) (hp : (unv op x).pre) : Ran P φ T w n (unv op x) (Op.unary op u) := by
  unfold unv at hp ⊢
  split at hp
  · simp only [VR, CR] at hx; subst hx
    exact Ran.pure hrel ⟨rfl, rfl⟩ ⟨_, rfl, rfl⟩
  · simp only [VR, CR] at hx; subst hx
    exact Ran.pure hrel ⟨rfl, rfl⟩ ⟨_, rfl, rfl⟩
  · exact hp.elim

theorem lenv_ran {t ty : TypeId} {x : TV} {u : Value} (hx : VR φ T w x u) (hp : (lenv ti t x).pre) : Ran P φ T w n (lenv ti t x) (Builtin.len_ #[t] ty #[u]) := by
  have key : ∀ d, P.underlying t = some d → (Builtin.len_ #[t] ty #[u]).run P w = (match d, u with
    | .string, .string s => (pure (goInt s.size) : Sem Value)
    | .array n _, _ => pure (goInt n)
    | .slice _, .slice _ n _ => pure (goInt n)
    | _, _ => (Builtin.len_ #[t] ty #[u])).run P w := by
    intro d hd
    split <;> first | rfl | simp [Builtin.len_, run_under' hd]
  unfold lenv at hp ⊢
  split at hp
  · rename_i s hk
    have ok := hti t (.inl (by rw [hk]; simp))
    have hu : P.underlying t = some .string := by have := ok.kind; rwa [hk] at this
    simp only [VR, CR] at hx; subst hx
    exact Ran.pure hrel ⟨rfl, rfl⟩ ⟨_, (key _ hu).trans rfl, rfl⟩
  · rename_i e t' xs hk
    have ok := hti t (.inl (by rw [hk]; simp))
    have hu : P.underlying t = some (.slice e) := by have := ok.kind; rwa [hk] at this
    simp only [VR, CR] at hx
    obtain ⟨a, cap, rfl, -⟩ := hx
    exact Ran.pure hrel ⟨rfl, rfl⟩ ⟨_, (key _ hu).trans rfl, rfl⟩
  · rename_i e t' k off len hk
    have ok := hti t (.inl (by rw [hk]; simp))
    have hu : P.underlying t = some (.slice e) := by have := ok.kind; rwa [hk] at this
    simp only [VR, CR] at hx
    obtain ⟨a, cap, rfl, -⟩ := hx
    exact Ran.pure hrel ⟨rfl, rfl⟩ ⟨_, (key _ hu).trans rfl, rfl⟩
  · rename_i e hk
    have ok := hti t (.inl (by rw [hk]; simp))
    have hu : P.underlying t = some (.slice e) := by have := ok.kind; rwa [hk] at this
    simp only [VR, CR] at hx; subst hx
    exact Ran.pure hrel ⟨rfl, rfl⟩ ⟨_, (key _ hu).trans rfl, rfl⟩
  · rename_i m e hk
    have ok := hti t (.inl (by rw [hk]; simp))
    have hu : P.underlying t = some (.array m e) := by have := ok.kind; rwa [hk] at this
    refine Ran.pure hrel ⟨rfl, rfl⟩ ⟨_, (key _ hu).trans rfl, rfl⟩
  · exact hp.elim

theorem indexOf_ran {t : TypeId} {x ix : TV} {u v : Value} (hx : VR φ T w x u) (hix : VR φ T w ix v) (hp : (indexOf ti t x ix).pre) : Ran P φ T w n (indexOf ti t x ix) (Instr.index t u v) := by
  unfold indexOf at hp ⊢
  split at hp
  · exact hp.elim
  rename_i i hi
  obtain ⟨ik, rfl⟩ := asI_val hti hrel hix hi
  split at hp
  · rename_i s hk
    have ok := hti t (.inl (by rw [hk]; simp))
    have hu : P.underlying t = some .string := by have := ok.kind; rwa [hk] at this
    simp only [VR, CR] at hx; subst hx
    have hlt : i.toNat < s.size := by have := hp.1; have := hp.2; omega
    refine Ran.pure hrel ⟨rfl, rfl⟩ ⟨.int .u8 s[i.toNat].toNat, ?_, ?_⟩
    · simp only [Instr.index, asIntOf, Sem.run_bind, Sem.run_pure, Result.andThen_ok, run_under' hu, if_pos hp.1]
      simp [hlt]
    · simp only [ifp, VR, CR]
      congr 2
      have : s.data.getD i.toNat 0 = s[i.toNat] := by
        simp only [Array.getD_eq_getD_getElem?]
        rw [Array.getElem?_eq_getElem (by simpa using hlt)]; rfl
      rw [this]
  · exact hp.elim
end
end Go.Proofs.Ytjdpppbegjnpaaa
