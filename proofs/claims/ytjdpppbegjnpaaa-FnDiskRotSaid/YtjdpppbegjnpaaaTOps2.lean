/- Reads, writes and places. -/
import Derived.Test.YtjdpppbegjnpaaaTOps
set_option linter.unusedSimpArgs false
set_option linter.unusedVariables false
set_option linter.unusedSectionVars false
namespace Go.Proofs.Ytjdpppbegjnpaaa
open Go.RowKit

def updT (T : Tab) : List (Nat × Option Obj) → Tab
  | [] => T
  | (k, o) :: r => updT (fun j => if j = k ∧ T k ≠ none then o else T j) r
def addT (T : Tab) (n : Nat) (news : List Obj) : Tab := fun k => if n ≤ k then (match news[k - n]? with | some o => some o | none => T k) else T k
def newT (T : Tab) (n : Nat) (s : St) : Tab := addT (updT T s.upd) n s.news
def Dom (φ φ' : Phi) (n m : Nat) : Prop := ∀ k, φ' k ≠ none → φ k ≠ none ∨ (n ≤ k ∧ k < n + m)

theorem addT_nil (T : Tab) (n : Nat) : addT T n [] = T := by
  funext k; simp [addT]

/-- The blocks of no object among U are as they were. -/
def Kept (φ : Phi) (T : Tab) (U : Nat → Prop) (w w' : World) : Prop := ∀ b, b < w.heap.size → (∀ k base, U k → T k ≠ none → φ k ≠ some (b, base)) → w'.heap[b]? = w.heap[b]?

/-- What a computation does that the evaluator tells. -/
def Ran (P : Program) (φ : Phi) (T : Tab) (w : World) (n : Nat) (s : St) (m : Sem Value) : Prop :=
  ∃ r w' φ', m.run P w = .ok r w' ∧ VR φ' (newT T n s) w' s.v r ∧ Rel φ' (newT T n s) w' ∧ Ge φ T w φ' (newT T n s) w' ∧ Dom φ φ' n s.news.length ∧ Kept φ T (fun k => ∃ o, (k, o) ∈ s.upd) w w'

theorem newT_pure (T : Tab) (n : Nat) (s : St) (h : s.upd = []) (h' : s.news = []) : newT T n s = T := by simp [newT, h, h', updT, addT_nil]
theorem Ran.pure {P : Program} {φ : Phi} {T : Tab} {w : World} {n : Nat} {s : St} {m : Sem Value} (hr : Rel φ T w) (h : s.upd = [] ∧ s.news = []) (hm : ∃ r, m.run P w = .ok r w ∧ VR φ T w s.v r) : Ran P φ T w n s m := by
  obtain ⟨r, h1, h2⟩ := hm
  refine ⟨r, w, φ, h1, ?_⟩
  rw [newT_pure T n s h.1 h.2]
  exact ⟨h2, hr, Ge.refl _ _ _, fun k hk => .inl hk, fun _ _ _ => rfl⟩

section
variable {P : Program} {ti : TypeId → TI} (hti : ∀ t, ((ti t).k ≠ .other ∨ 0 < (ti t).sz) → TIok P t (ti t))
variable {φ : Phi} {T : Tab} {w : World} {n : Nat} {rd : Nat → Option Obj} (hrel : Rel φ T w)
include hti hrel

theorem loadv_ran {t : TypeId} {x : TV} {v : Value} (hrd : ∀ k, k ∈ refsV true x → T k = rd k) (hx : VR φ T w x v) (hp : (loadv ti rd t x).pre) :
    Ran P φ T w n (loadv ti rd t x) (Instr.loadAt t v) := by
  unfold loadv at hp ⊢
  split at hp
  case h_1 k off =>
    have hk := hrd k (by simp [refsV, refsC])
    simp only [VR, CR, CapR] at hx
    obtain ⟨b, base, hφ, rfl⟩ := hx
    split at hp
    case h_1 cs hcs =>
      have ok := hti t (.inr hp.2)
      obtain ⟨b', base', c, hφ', hC, hcells⟩ := hrel.obj k _ (hk.trans hcs)
      rw [hφ] at hφ'; cases hφ'
      try simp only [hcs]
      refine Ran.pure hrel ⟨rfl, rfl⟩ ?_
      simp only [Instr.loadAt, Instr.sureAddr, Sem.run_bind, Sem.run_pure, Result.andThen_ok, ifp]
      exact run_loadVar ok off hp.1 hp.2 fun i tc h => by
        obtain ⟨u, hu, hr⟩ := hcells i tc h
        exact ⟨u, by rw [cell_of_Cells hC]; exact hu, hr⟩
    case h_2 => exact hp.elim
  case h_2 k sz i j =>
    have hk := hrd k (by simp [refsV, refsC])
    simp only [VR, CR, CapR] at hx
    obtain ⟨b, base, hφ, rfl⟩ := hx
    split at hp
    case h_1 t' xs hcs =>
      obtain ⟨hi, hsz, hj, hpos⟩ := hp
      have ok := hti t (.inr hpos)
      rcases hrel.obj k _ (hk.trans hcs) with ⟨-, hnil⟩ | ⟨b', base', c, hφ', hC, hcells⟩
      · subst hnil; simp at hi
      rw [hφ] at hφ'; cases hφ'
      try simp only [hcs]
      refine Ran.pure hrel ⟨rfl, rfl⟩ ?_
      simp only [Instr.loadAt, Instr.sureAddr, Sem.run_bind, Sem.run_pure, Result.andThen_ok, ifp]
      subst hsz
      have hat : t'.at xs i = xs[i] := by simp [ET.at, List.getD, List.getElem?_eq_getElem hi]
      have hl := ET.cells_len t' (t'.at xs i)
      rw [show base + (i * t'.sz + j) = (base + i * t'.sz) + j by omega]
      refine run_loadVar (cs := (t'.cells (t'.at xs i)).map .val) ok j (by simp [hl]; omega) hpos fun q tc h => ?_
      simp only [List.getElem?_map, Option.map_eq_some_iff] at h
      obtain ⟨u, hu, rfl⟩ := h
      refine ⟨u, ?_, rfl⟩
      rw [cell_of_Cells hC, Nat.add_assoc]
      refine hcells _ _ ?_
      rw [flat_get t' xs i q hi (by have := (List.getElem?_eq_some_iff.1 hu).1; omega), ← hat]; exact hu
    case h_2 => exact hp.elim
  case h_3 cs off =>
    simp only [VR, CR] at hx
    obtain ⟨b, o, rfl, hi, hcs⟩ := hx
    have ok := hti t (.inr hp.2)
    refine Ran.pure hrel ⟨rfl, rfl⟩ ?_
    simp only [Instr.loadAt, Instr.sureAddr, Sem.run_bind, Sem.run_pure, Result.andThen_ok, ifp]
    refine run_loadVar (cs := cs.map .val) ok off (by simpa using hp.1) hp.2 fun q tc h => ?_
    simp only [List.getElem?_map, Option.map_eq_some_iff] at h
    obtain ⟨u, hu, rfl⟩ := h
    exact ⟨u, hcs q u hu, rfl⟩
  case h_4 => exact hp.elim

theorem fieldv_ran {s : TypeId} {f : Nat} {x : TV} {v : Value} (hx : VR φ T w x v) (hp : (fieldv ti s f x).pre) : Ran P φ T w n (fieldv ti s f x) (Instr.fieldAt s v f) := by
  unfold fieldv at hp ⊢
  split at hp
  · exact hp.elim
  rename_i o ft hf
  unfold fieldAt at hf
  split at hf
  case h_2 => exact absurd hf (by simp)
  rename_i fs hk
  have ok := hti s (.inl (by rw [hk]; simp))
  have hkind := ok.kind
  rw [hk] at hkind
  obtain ⟨fields, hu, hfs⟩ := hkind
  have hfield : ∃ fl, fields[f]? = some fl ∧ fl.offset = o ∧ fl.type = ft := by
    rw [← hfs] at hf
    simp only [List.getElem?_map, Option.map_eq_some_iff] at hf
    obtain ⟨fl, h1, h2⟩ := hf
    cases h2
    exact ⟨fl, by simpa using h1, rfl, rfl⟩
  obtain ⟨fl, hfl, rfl, rfl⟩ := hfield
  have key : ∀ b o', 0 < (ti fl.type).sz → (Instr.fieldAt s (.pointer (some ⟨b, o', none⟩)) f).run P w = .ok (.pointer (some ⟨b, o' + fl.offset, none⟩)) w := by
    intro b o' hpos
    have okf := hti fl.type (.inr hpos)
    simp only [Instr.fieldAt, Sem.run_bind, run_under' hu, Result.andThen_ok, hfl, Instr.sureAddr, Sem.run_pure, fieldPlace, okf.run_sizeOf]
    rw [if_neg (by omega)]
    simp [add_addr]
  try simp only [hf]
  split at hp
  · rename_i k off
    simp only [VR, CR, CapR] at hx
    obtain ⟨b, base, hφ, rfl⟩ := hx
    refine Ran.pure hrel ⟨rfl, rfl⟩ ⟨_, key _ _ hp, ?_⟩
    simp only [ifp, VR, CR, CapR]
    exact ⟨b, base, hφ, by simp [Nat.add_assoc]⟩
  · rename_i k sz i j
    simp only [VR, CR, CapR] at hx
    obtain ⟨b, base, hφ, rfl⟩ := hx
    refine Ran.pure hrel ⟨rfl, rfl⟩ ⟨_, key _ _ hp, ?_⟩
    simp only [ifp, VR, CR, CapR]
    exact ⟨b, base, hφ, by simp [Nat.add_assoc]⟩
  · rename_i cs off
    simp only [VR, CR] at hx
    obtain ⟨b, o, rfl, hi, hcs⟩ := hx
    refine Ran.pure hrel ⟨rfl, rfl⟩ ⟨_, key _ _ hp, ?_⟩
    simp only [ifp, VR, CR]
    exact ⟨b, o, by simp [Nat.add_assoc], hi, hcs⟩
  · exact hp.elim

theorem asI_val {x : TV} {v : Value} {i : Int} (hx : VR φ T w x v) (h : asI x = some i) : ∃ k, v = .int k i := by
  unfold asI at h
  split at h
  · cases h; simp only [VR, CR] at hx; exact ⟨_, hx⟩
  · exact absurd h (by simp)

theorem indexv_ran {t : TypeId} {x ix : TV} {v u : Value} (hrd : ∀ k, k ∈ refsV true x → T k = rd k) (hx : VR φ T w x v) (hix : VR φ T w ix u) (hp : (indexv ti rd t x ix).pre) :
    Ran P φ T w n (indexv ti rd t x ix) (Instr.indexAt t v u) := by
  unfold indexv at hp ⊢
  split at hp
  · exact hp.elim
  rename_i i hi
  try simp only [hi]
  obtain ⟨ik, rfl⟩ := asI_val hti hrel hix hi
  split at hp
  · rename_i len e hk
    have ok := hti t (.inl (by rw [hk]; simp))
    have hu : P.underlying t = some (.array len e) := by have := ok.kind; rwa [hk] at this
    try simp only [hk]
    have key : ∀ b o, 0 ≤ i ∧ i < len → (Instr.indexAt t (.pointer (some ⟨b, o, none⟩)) (.int ik i)).run P w = Result.andThen ((sizeOf e).run P w) (fun s w' => .ok (.pointer (some ⟨b, o + i.toNat * s, none⟩)) w') := by
      intro b o hb
      simp only [Instr.indexAt, asIntOf, Sem.run_bind, Sem.run_pure, Result.andThen_ok, run_under' hu, Instr.sureAddr, if_pos hb]
      cases (sizeOf e).run P w <;> simp [add_addr]
    have hsz : ∀ q : Prop, 0 ≤ i ∧ i < len → True := fun _ _ => trivial
    split at hp
    · rename_i k off
      simp only [VR, CR, CapR] at hx
      obtain ⟨b, base, hφ, rfl⟩ := hx
      have oke := hti e (.inr hp.2)
      refine Ran.pure hrel ⟨rfl, rfl⟩ ⟨_, (key _ _ hp.1).trans (by rw [oke.run_sizeOf]; rfl), ?_⟩
      simp only [ifp, VR, CR, CapR]
      exact ⟨b, base, hφ, by simp [Nat.add_assoc]⟩
    · rename_i k sz i0 j
      simp only [VR, CR, CapR] at hx
      obtain ⟨b, base, hφ, rfl⟩ := hx
      have oke := hti e (.inr hp.2)
      refine Ran.pure hrel ⟨rfl, rfl⟩ ⟨_, (key _ _ hp.1).trans (by rw [oke.run_sizeOf]; rfl), ?_⟩
      simp only [ifp, VR, CR, CapR]
      exact ⟨b, base, hφ, by simp [Nat.add_assoc]⟩
    · rename_i cs off
      simp only [VR, CR] at hx
      obtain ⟨b, o, rfl, him, hcs⟩ := hx
      have oke := hti e (.inr hp.2)
      refine Ran.pure hrel ⟨rfl, rfl⟩ ⟨_, (key _ _ hp.1).trans (by rw [oke.run_sizeOf]; rfl), ?_⟩
      simp only [ifp, VR, CR]
      exact ⟨b, o, by simp [Nat.add_assoc], him, hcs⟩
    · exact hp.elim
  · rename_i e hk
    have ok := hti t (.inl (by rw [hk]; simp))
    have hu : P.underlying t = some (.slice e) := by have := ok.kind; rwa [hk] at this
    try simp only [hk]
    have key : ∀ b o (len cap : Nat), 0 ≤ i ∧ i < len → (Instr.indexAt t (.slice (some ⟨b, o, none⟩) len cap) (.int ik i)).run P w = Result.andThen ((sizeOf e).run P w) (fun s w' => .ok (.pointer (some ⟨b, o + i.toNat * s, none⟩)) w') := by
      intro b o len cap hb
      simp only [Instr.indexAt, asIntOf, Sem.run_bind, Sem.run_pure, Result.andThen_ok, run_under' hu, Instr.sureAddr, if_pos hb]
      cases (sizeOf e).run P w <;> simp [add_addr]
    split at hp
    · rename_i t' xs
      simp only [VR, CR] at hx
      obtain ⟨a, cap, rfl, hcap, -, -, hne⟩ := hx
      obtain ⟨h0, h1, h2⟩ := hp
      have hlt : i.toNat < xs.length := by omega
      obtain ⟨b, o, rfl, him, hcs⟩ := hne (by intro hnil; rw [hnil] at hlt; simp at hlt)
      have oke := hti e (.inr (by rw [h2]; exact t'.sz_pos))
      refine Ran.pure hrel ⟨rfl, rfl⟩ ⟨_, (key _ _ _ _ ⟨h0, h1⟩).trans (by rw [oke.run_sizeOf]; rfl), ?_⟩
      simp only [ifp, VR, CR]
      refine ⟨b, o + i.toNat * t'.sz, by simp [h2], him, fun q u hq => ?_⟩
      have hat : t'.at xs i.toNat = xs[i.toNat] := by simp [ET.at, List.getD, List.getElem?_eq_getElem hlt]
      have hl := ET.cells_len t' (t'.at xs i.toNat)
      rw [Nat.add_assoc]
      refine hcs _ _ ?_
      rw [flat_get t' xs i.toNat q hlt (by have := (List.getElem?_eq_some_iff.1 hq).1; omega), ← hat]; exact hq
    · rename_i t' k off len
      have hkk := hrd k (by simp [refsV, refsC])
      simp only [VR, CR] at hx
      obtain ⟨a, cap, rfl, hcap, -, -, hne⟩ := hx
      split at hp
      · rename_i t'' xs hcs
        obtain ⟨h0, h1, h2, h3, h4⟩ := hp
        subst h4
        obtain ⟨b, base, hφ, rfl, hs⟩ := hne (by omega)
        have oke := hti e (.inr (by rw [h3]; exact t'.sz_pos))
        try simp only [hcs]
        refine Ran.pure hrel ⟨rfl, rfl⟩ ⟨_, (key _ _ _ _ ⟨h0, h1⟩).trans (by rw [oke.run_sizeOf]; rfl), ?_⟩
        simp only [ifp, VR, CR, CapR]
        exact ⟨b, base, hφ, by simp [h3, Nat.add_mul, Nat.add_assoc]⟩
      · exact hp.elim
    · exact hp.elim
  · exact hp.elim
end
end Go.Proofs.Ytjdpppbegjnpaaa
