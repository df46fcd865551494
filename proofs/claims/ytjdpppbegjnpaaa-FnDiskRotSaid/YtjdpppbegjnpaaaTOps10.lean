/- Literals. -/
import Derived.Test.YtjdpppbegjnpaaaTOps9
set_option linter.unusedSimpArgs false
set_option linter.unusedVariables false
set_option linter.unusedSectionVars false
namespace Go.Proofs.Ytjdpppbegjnpaaa
open Go.RowKit

theorem fold_lay : ∀ (vs : List Value) (k off : Nat) (cs : Array Value), ((vs.zipIdx k).foldl (fun cs q => cs.setIfInBounds (off + q.2) q.1) cs).toList = layV (off + k) vs cs.toList
  | [], k, off, cs => rfl
  | v :: vs, k, off, cs => by
    rw [List.zipIdx_cons, List.foldl_cons, fold_lay vs (k + 1) off, layV, Nat.add_assoc]
    simp
theorem fold_lay' (v : Value) (off : Nat) (cs : Array Value) : (v.cells.zipIdx.foldl (fun cs (c, j) => cs.setIfInBounds (off + j) c) cs).toList = layV off v.cells.toList cs.toList := by
  have := fold_lay v.cells.toList 0 off cs
  rw [Nat.add_zero] at this
  rw [← this, ← Array.foldl_toList, Array.toList_zipIdx]

theorem All2.lay {R : TC → Value → Prop} {vs cs : List TC} {us ds : List Value} (off : Nat) (h : All2 R cs ds) (k : All2 R vs us) (hl : off + vs.length ≤ cs.length) : All2 R (lay off vs cs) (layV off us ds) := by
  have h1 := h.length
  have h2 := k.length
  refine All2.of_get (by rw [lay_len, layV_len, h1]) fun i a b ha hb => ?_
  rw [lay_get _ _ _ _ hl] at ha
  rw [layV_get _ _ _ _ (by omega)] at hb
  by_cases hi : off ≤ i ∧ i < off + vs.length
  · rw [if_pos hi] at ha
    rw [if_pos (by omega)] at hb
    obtain ⟨b', hb', hr⟩ := k.get _ _ ha
    rw [hb'] at hb; cases hb; exact hr
  · rw [if_neg hi] at ha
    rw [if_neg (by omega)] at hb
    obtain ⟨b', hb', hr⟩ := h.get _ _ ha
    rw [hb'] at hb; cases hb; exact hr

/-- The parts' values, one by one. -/
def PartsR (φ : Phi) (T : Tab) (w : World) : List (Nat × TV) → List (Nat × Value) → Prop
  | [], [] => True
  | (i, x) :: r, (j, v) :: s => i = j ∧ VR φ T w x v ∧ PartsR φ T w r s
  | _, _ => False

theorem fills_run {φ : Phi} {T : Tab} {w : World} {place : Nat → Option (Nat × Nat)} {place' : Nat → Option (Nat × Nat)} (hpl : ∀ i q, place i = some q → place' i = some q) :
    ∀ (parts : List (Nat × TV)) (rparts : List (Nat × Value)) (cs : List TC) (cells : Array Value) (p : Prop) (ds : List TC), PartsR φ T w parts rparts → All2 (CR φ T w) cs cells.toList → fills place cs parts = some (p, ds) → p →
      ∃ cells', Instr.fill place' cells rparts = some cells' ∧ All2 (CR φ T w) ds cells'.toList
  | [], [], cs, cells, p, ds, _, h, hf, hp => by
    simp only [fills, Option.some.injEq, Prod.mk.injEq] at hf
    obtain ⟨-, rfl⟩ := hf
    exact ⟨cells, rfl, h⟩
  | (i, x) :: parts, (j, v) :: rparts, cs, cells, p, ds, ⟨hij, hx, hr⟩, h, hf, hp => by
    subst hij
    unfold fills at hf
    split at hf
    · exact absurd hf (by simp)
    · rename_i off sz hi
      split at hf
      · rename_i p' ds' hf'
        simp only [Option.some.injEq, Prod.mk.injEq] at hf
        obtain ⟨rfl, rfl⟩ := hf
        obtain ⟨h1, h2, hpos, h3, h4⟩ := hp
        have hne : x.cells ≠ [] := by intro h; rw [h] at h1; simp at h1; omega
        have hv := (hx.cells' hne (isAgg_or hne h3)).1
        have hvl := hv.length
        have hcl := h.length
        obtain ⟨cells', k1, k2⟩ := fills_run hpl parts rparts (lay off x.cells cs) (v.cells.zipIdx.foldl (fun cs (c, j) => cs.setIfInBounds (off + j) c) cells) p' ds' hr (by rw [fold_lay']; exact h.lay off hv (by omega)) hf' h4
        refine ⟨cells', ?_, k2⟩
        unfold Instr.fill
        rw [hpl i _ hi]
        simp only
        rw [if_neg]
        · exact k1
        · simp only [Array.length_toList] at hvl hcl
          simp; omega
      · exact absurd hf (by simp)
  | [], _ :: _, _, _, _, _, h, _, _, _ => h.elim
  | _ :: _, [], _, _, _, _, h, _, _, _ => h.elim

section
variable {P : Program} {ti : TypeId → TI} (hti : ∀ t, ((ti t).k ≠ .other ∨ 0 < (ti t).sz) → TIok P t (ti t))
variable {φ : Phi} {T : Tab} {w : World} {n : Nat} {rd : Nat → Option Obj} (hrel : Rel φ T w)
include hti hrel

theorem zero_All2 {t : TypeId} (ok : TIok P t (ti t)) : ∃ z, (zeroValue t).run P w = .ok z w ∧ All2 (CR φ T w) ((ti t).zero.map .val) z.cells.toList := by
  obtain ⟨z, hz, h1, -, -⟩ := ok.run_zero w
  refine ⟨z, hz, ?_⟩
  rw [h1]
  exact All2.of_get (by simp) fun i a b ha hb => by
    simp only [List.getElem?_map, Option.map_eq_some_iff] at ha
    obtain ⟨u, hu, rfl⟩ := ha
    rw [hu] at hb; cases hb; rfl

theorem mapM_fields {fields : Array Field} (h : ∀ f ∈ fields.toList, 0 < (ti f.type).sz) : (fields.mapM fun f => (do pure (f.offset, ← sizeOf f.type) : Sem (Nat × Nat))).run P w = .ok (fields.map fun f => (f.offset, (ti f.type).sz)) w := by
  rw [Array.mapM_eq_mapM_toList]
  have : ∀ (l : List Field), (∀ f ∈ l, 0 < (ti f.type).sz) → (l.mapM fun f => (do pure (f.offset, ← sizeOf f.type) : Sem (Nat × Nat))).run P w = .ok (l.map fun f => (f.offset, (ti f.type).sz)) w := by
    intro l
    induction l with
    | nil => intro _; rfl
    | cons f l ih =>
      intro hl
      have ok := hti f.type (.inr (hl f (by simp)))
      simp only [List.mapM_cons, Sem.run_bind, ok.run_sizeOf, Result.andThen_ok, Sem.run_pure, ih fun g hg => hl g (by simp [hg]), List.map_cons]
  simp only [Sem.run_map, this _ h, Result.andThen_ok]
  congr 1
  apply Array.ext'
  simp

theorem buildv_ran {t : TypeId} {parts : List (Nat × TV)} {rparts : Array (Nat × Value)} (hparts : PartsR φ T w parts rparts.toList) (hp : (buildv ti t parts).pre) : Ran P φ T w n (buildv ti t parts) (Instr.build t rparts) := by
  unfold buildv at hp ⊢
  split at hp
  case h_2 => exact hp.elim
  rename_i p cs hf
  obtain ⟨hagg, hall, hp⟩ := hp
  unfold knownAll at hall
  split at hall
  · rename_i fs hk
    have ok := hti t (.inl (by rw [hk]; simp))
    have hkind := ok.kind
    rw [hk] at hkind
    obtain ⟨fields, hu, hfs⟩ := hkind
    obtain ⟨z, hz, hzr⟩ := zero_All2 hti hrel (φ := φ) (T := T) (w := w) ok
    have hsz : ∀ f ∈ fields.toList, 0 < (ti f.type).sz := by
      intro f hf
      rw [← hfs] at hall
      simp only [List.all_map, List.all_eq_true] at hall
      simpa using hall f hf
    obtain ⟨cells', h1, h2⟩ := fills_run (place := placeOf ti t) (place' := fun i => (fields.map fun f => (f.offset, (ti f.type).sz))[i]?) (by
      intro i q hq
      unfold placeOf at hq
      rw [hk] at hq
      simp only [← hfs, List.getElem?_map, Option.map_map, Option.map_eq_some_iff] at hq
      obtain ⟨f, hf, rfl⟩ := hq
      rw [Array.getElem?_toList] at hf
      simp [hf]) parts rparts.toList _ z.cells p cs hparts hzr hf hp
    refine Ran.pure hrel ⟨rfl, rfl⟩ ⟨.agg cells', ?_, ?_⟩
    · simp only [Instr.build, Sem.run_bind, hz, Result.andThen_ok, run_under' hu, mapM_fields hti hrel hsz, h1, Sem.run_pure]
    · simp only [ifp, VR]; exact ⟨cells', rfl, h2⟩
  · rename_i m e hk
    have ok := hti t (.inl (by rw [hk]; simp))
    have hu : P.underlying t = some (.array m e) := by have := ok.kind; rwa [hk] at this
    have oke := hti e (.inr (by simpa using hall))
    obtain ⟨z, hz, hzr⟩ := zero_All2 hti hrel (φ := φ) (T := T) (w := w) ok
    obtain ⟨cells', h1, h2⟩ := fills_run (place := placeOf ti t) (place' := fun i => some (i * (ti e).sz, (ti e).sz)) (by
      intro i q hq
      unfold placeOf at hq
      rw [hk] at hq
      exact hq) parts rparts.toList _ z.cells p cs hparts hzr hf hp
    refine Ran.pure hrel ⟨rfl, rfl⟩ ⟨.agg cells', ?_, ?_⟩
    · simp only [Instr.build, Sem.run_bind, hz, Result.andThen_ok, run_under' hu, oke.run_sizeOf, h1, Sem.run_pure]
    · simp only [ifp, VR]; exact ⟨cells', rfl, h2⟩
  · simp at hall
end
end Go.Proofs.Ytjdpppbegjnpaaa
