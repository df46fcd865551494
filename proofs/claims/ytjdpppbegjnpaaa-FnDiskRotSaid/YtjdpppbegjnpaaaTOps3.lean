/- New objects, and writes. -/
import Derived.Test.YtjdpppbegjnpaaaTOps2
set_option linter.unusedSimpArgs false
set_option linter.unusedVariables false
set_option linter.unusedSectionVars false
namespace Go.Proofs.Ytjdpppbegjnpaaa
open Go.RowKit

theorem Cells.of_block {w w' : World} {b : Nat} {c : Array Value} (h : Cells w b c) (hb : w'.heap[b]? = w.heap[b]?) : Cells w' b c := by
  obtain ⟨e, fr, h1, h2⟩ := h
  exact ⟨e, fr, hb.trans h1, h2⟩
theorem ObjR.mono {φ φ' : Phi} {T T' : Tab} {w w' : World} (g : Ge φ T w φ' T' w') {k : Nat} {o : Obj} (hb : ∀ b base, φ k = some (b, base) → w'.heap[b]? = w.heap[b]?) (hn : φ k = none → φ' k = none) (h : ObjR φ T w k o) : ObjR φ' T' w' k o := by
  cases o with
  | cells cs =>
    obtain ⟨b, base, c, hφ, hC, hcs⟩ := h
    refine ⟨b, base, c, g.phi _ _ hφ, hC.of_block (hb _ _ hφ), fun i tc hi => ?_⟩
    obtain ⟨v, hv, hr⟩ := hcs i tc hi
    exact ⟨v, hv, hr.mono g⟩
  | arr t xs =>
    rcases h with ⟨h1, h2⟩ | ⟨b, base, c, hφ, hC, hcs⟩
    · exact .inl ⟨hn h1, h2⟩
    · exact .inr ⟨b, base, c, g.phi _ _ hφ, hC.of_block (hb _ _ hφ), hcs⟩
theorem Cells.lt {w : World} {b : Nat} {c : Array Value} (h : Cells w b c) : b < w.heap.size := by
  obtain ⟨e, fr, h1, -⟩ := h
  rcases Nat.lt_or_ge b w.heap.size with h | h
  · exact h
  · rw [Array.getElem?_eq_none h] at h1; exact absurd h1 (by simp)
theorem ObjR.lt {φ : Phi} {T : Tab} {w : World} {k : Nat} {o : Obj} (h : ObjR φ T w k o) {b base : Nat} (hφ : φ k = some (b, base)) : b < w.heap.size := by
  cases o with
  | cells cs => obtain ⟨b', base', c, hφ', hC, -⟩ := h; rw [hφ] at hφ'; cases hφ'; exact hC.lt
  | arr t xs =>
    rcases h with ⟨h1, -⟩ | ⟨b', base', c, hφ', hC, -⟩
    · rw [hφ] at h1; cases h1
    · rw [hφ] at hφ'; cases hφ'; exact hC.lt
theorem Own.lt {φ : Phi} {T : Tab} {w : World} (h : Rel φ T w) {b : Nat} (ho : Own φ T b) : b < w.heap.size := by
  obtain ⟨k, base, hk, hφ⟩ := ho
  cases hT : T k with
  | none => exact absurd hT hk
  | some o => exact (h.obj k o hT).lt hφ

def putPhi (φ : Phi) (n : Nat) (p : Option (Nat × Nat)) : Phi := ⟨fun k => if k = n then p else φ k, φ.fr⟩
theorem Ge.frd {φ φ' : Phi} {T T' : Tab} {w w' : World} (h : Rel φ T w) (g : Ge φ T w φ' T' w') : ∀ b, φ'.fr b → b < w'.heap.size ∧ ¬ Own φ' T' b := fun b hb =>
  let ⟨h1, h2⟩ := h.frd b ((g.fr b).1 hb)
  ⟨Nat.lt_of_lt_of_le h1 g.size, fun ho => h2 (g.own b h1 ho)⟩

theorem addT_one_self (T : Tab) (n : Nat) (o : Obj) : addT T n [o] n = some o := by simp [addT]
theorem addT_one_ne (T : Tab) (n : Nat) (o : Obj) {k : Nat} (h : k ≠ n) : addT T n [o] k = T k := by
  unfold addT
  split
  · have : k - n ≠ 0 := by omega
    rw [List.getElem?_eq_none (by simp; omega)]
  · rfl
/-- A new block for a new object. -/
theorem new_obj {φ : Phi} {T : Tab} {w : World} {n : Nat} (hrel : Rel φ T w) (hn : φ n = none) (hT : T n = none) (e : TypeId) (cells : Array Value) (o : Obj) (fr : Nat × Nat) (hfr : ∀ j, j < cells.size → ¬ (fr.1 ≤ j ∧ j < fr.2))
    (ho : ∀ φ' T' w', Ge φ T w φ' T' w' → φ' n = some (w.heap.size, 0) → Cells w' w.heap.size cells → ObjR φ' T' w' n o) :
    let w' : World := { w with heap := w.heap.push (.cells cells e fr) }
    let φ' := putPhi φ n (some (w.heap.size, 0))
    Rel φ' (addT T n [o]) w' ∧ Ge φ T w φ' (addT T n [o]) w' ∧ Dom φ φ' n 1 ∧ ∀ b, b < w.heap.size → w'.heap[b]? = w.heap[b]? := by
  intro w' φ'
  have hblock : ∀ b, b < w.heap.size → w'.heap[b]? = w.heap[b]? := fun b hb => by
    show (w.heap.push _)[b]? = _
    rw [Array.getElem?_push, if_neg (by omega)]
  have hphi : ∀ k p, φ k = some p → φ' k = some p := fun k p hk => by
    show (if k = n then _ else _) = _
    rw [if_neg (by intro h; subst h; rw [hn] at hk; cases hk)]; exact hk
  have hown : ∀ b, b < w.heap.size → Own φ' (addT T n [o]) b → Own φ T b := by
    rintro b hb ⟨k, base, hk, hφ⟩
    by_cases h : k = n
    · subst h
      have : φ' k = some (w.heap.size, 0) := by show (if k = k then _ else _) = _; simp
      rw [this] at hφ; cases hφ; omega
    · refine ⟨k, base, by rwa [addT_one_ne T n o h] at hk, ?_⟩
      have : φ' k = φ k := by show (if k = n then _ else _) = _; rw [if_neg h]
      rw [← this]; exact hφ
  have hge : Ge φ T w φ' (addT T n [o]) w' := {
    os := rfl, tape := rfl, output := rfl
    size := by show _ ≤ (w.heap.push _).size; simp
    phi := hphi
    block := fun b hb _ => hblock b hb
    own := hown
    sizes := fun b hb => by unfold sizeAt; rw [hblock b hb]
    fr := fun _ => Iff.rfl }
  refine ⟨⟨?_, ?_, Ge.frd hrel hge⟩, hge, ?_, hblock⟩
  · intro k o' hk
    by_cases h : k = n
    · subst h
      rw [addT_one_self] at hk; cases hk
      refine ho φ' _ w' hge (by show (if k = k then _ else _) = _; simp) ⟨e, fr, ?_, hfr⟩
      show (w.heap.push _)[w.heap.size]? = _
      simp
    · rw [addT_one_ne T n o h] at hk
      have hR := hrel.obj k o' hk
      refine hR.mono hge (fun b base hφ => hblock b (hR.lt hφ)) fun hnone => ?_
      show (if k = n then _ else _) = _
      rw [if_neg h]; exact hnone
  · intro k k' b base base' hk hk' hφ hφ'
    have hb : ∀ i c, addT T n [o] i ≠ none → i ≠ n → φ' i = some (b, c) → b < w.heap.size := by
      intro i c hi hne hφi
      rw [addT_one_ne T n o hne] at hi
      have : φ i = some (b, c) := by rw [← hφi]; show _ = if i = n then _ else _; rw [if_neg hne]
      cases hTi : T i with
      | none => exact absurd hTi hi
      | some oi => exact (hrel.obj i oi hTi).lt this
    have hself : φ' n = some (w.heap.size, 0) := by show (if n = n then _ else _) = _; simp
    by_cases h : k = n
    · by_cases h' : k' = n
      · rw [h, h']
      · have := hb k' base' hk' h' hφ'
        subst h; rw [hself] at hφ; cases hφ; omega
    · by_cases h' : k' = n
      · have := hb k base hk h hφ
        subst h'; rw [hself] at hφ'; cases hφ'; omega
      · rw [addT_one_ne T n o h] at hk
        rw [addT_one_ne T n o h'] at hk'
        refine hrel.inj k k' b base base' hk hk' ?_ ?_
        · rw [← hφ]; show _ = if k = n then _ else _; rw [if_neg h]
        · rw [← hφ']; show _ = if k' = n then _ else _; rw [if_neg h']
  · intro k hk
    by_cases h : k = n
    · exact .inr ⟨by omega, by omega⟩
    · left
      have : φ' k = φ k := by show (if k = n then _ else _) = _; rw [if_neg h]
      rwa [this] at hk

theorem VR.cells' {φ : Phi} {T : Tab} {w : World} {x : TV} {v : Value} (h : VR φ T w x v) (hx : x.cells ≠ []) (hs : x.isAgg = true ∨ ∃ c, x = .one c ∧ storable c) :
    All2 (CR φ T w) x.cells v.cells.toList ∧ ∀ u ∈ v.cells.toList, True := by
  refine ⟨?_, fun _ _ => trivial⟩
  refine h.cells ?_ ?_ ?_
  · rintro l rfl; simp [TV.cells] at hx
  · rintro c u rfl; simp [TV.cells] at hx
  · rcases hs with hs | ⟨c, rfl, hc⟩
    · exact .inl hs
    · right
      unfold VR at h
      cases c with
      | val u => cases h; exact hc
      | ptr k off => obtain ⟨b, base, -, rfl⟩ := h; rfl
      | eptr k sz i j => obtain ⟨b, base, -, rfl⟩ := h; rfl
      | osl t k off len => obtain ⟨a, cap, rfl, -⟩ := h; rfl
      | isl t xs => obtain ⟨a, cap, rfl, -⟩ := h; rfl
      | ip cs off => obtain ⟨b, o, rfl, -⟩ := h; rfl
      | fn f caps => obtain ⟨vs, rfl, -⟩ := h; rfl
      | ifc => obtain ⟨t, u, rfl⟩ := h; rfl
      | nb p q => obtain ⟨b, rfl, -⟩ := h; rfl
      | any => exact hc.elim

theorem storable_one {φ : Phi} {T : Tab} {w : World} {c : TC} {v : Value} (h : CR φ T w c v) (hc : storable c) : v.oneCell' = true := by
  cases c with
  | val u => cases h; unfold storable at hc; cases v <;> simp_all [oneCell, Value.oneCell']
  | ptr k off => obtain ⟨b, base, -, rfl⟩ := h; rfl
  | eptr k sz i j => obtain ⟨b, base, -, rfl⟩ := h; rfl
  | osl t k off len => obtain ⟨a, cap, rfl, -⟩ := h; rfl
  | isl t xs => obtain ⟨a, cap, rfl, -⟩ := h; rfl
  | ip cs off => obtain ⟨b, o, rfl, -⟩ := h; rfl
  | fn f caps => obtain ⟨vs, rfl, -⟩ := h; rfl
  | ifc => obtain ⟨t, u, rfl⟩ := h; rfl
  | nb p q => obtain ⟨b, rfl, -⟩ := h; rfl
  | any => exact hc.elim
theorem allStorable_mem : ∀ {cs : List TC}, allStorable cs → ∀ c ∈ cs, storable c
  | [], _, c, h => by simp at h
  | a :: as, ⟨h1, h2⟩, c, h => by
    rcases List.mem_cons.1 h with rfl | h
    · exact h1
    · exact allStorable_mem h2 c h
theorem isAgg_or {x : TV} (hl : x.cells ≠ []) (hs : allStorable x.cells) : x.isAgg = true ∨ ∃ c, x = .one c ∧ storable c := by
  cases x with
  | one c => exact .inr ⟨c, rfl, hs.1⟩
  | agg cs => exact .inl rfl
  | tup l => simp [TV.cells] at hl
  | gd c u => simp [TV.cells] at hl

section
variable {P : Program} {ti : TypeId → TI} (hti : ∀ t, ((ti t).k ≠ .other ∨ 0 < (ti t).sz) → TIok P t (ti t))
variable {φ : Phi} {T : Tab} {w : World} {n : Nat} {rd : Nat → Option Obj} (hrel : Rel φ T w)
include hti hrel

theorem box_ran {t : TypeId} {x : TV} {v : Value} (hn : φ n = none) (hT : T n = none) (hx : VR φ T w x v) (hp : (boxv ti n t x).pre) : Ran P φ T w n (boxv ti n t x) (Instr.box t v) := by
  obtain ⟨hl, hpos, -, hst⟩ := hp
  have hne : x.cells ≠ [] := by intro h; rw [h] at hl; simp at hl; omega
  have hcs := (hx.cells' hne (isAgg_or hne hst)).1
  obtain ⟨h1, h2, h3, h4⟩ := new_obj hrel hn hT t v.cells (.cells x.cells) (0, 0) (fun _ _ => by simp) fun φ' T' w' g hφ hC => by
    refine ⟨_, _, _, hφ, hC, fun i tc hi => ?_⟩
    obtain ⟨u, hu, hr⟩ := hcs.get i tc hi
    exact ⟨u, by simpa using hu, hr.mono g⟩
  refine ⟨.pointer (some ⟨w.heap.size, 0, none⟩), _, _, ?_, ?_, h1, h2, h3, fun b hb _ => h4 b hb⟩
  · simp [Instr.box, newVar, newRow, newObj, Sem.run]
  · simp only [boxv, VR, CR, CapR]
    exact ⟨w.heap.size, 0, by simp [putPhi], rfl⟩

theorem zeroOf_VR {t : TypeId} (ok : TIok P t (ti t)) : ∃ z, (zeroValue t).run P w = .ok z w ∧ VR φ T w (zeroOf ti t) z := by
  obtain ⟨z, hz, h1, h2, h3⟩ := ok.run_zero w
  refine ⟨z, hz, ?_⟩
  unfold zeroOf
  cases ha : (ti t).agg with
  | true =>
    obtain ⟨cs, rfl⟩ := h2 ha
    simp only [if_true, VR]
    refine ⟨cs, rfl, All2.of_get (by simp [← h1, Value.cells]) fun i a b hi hb => ?_⟩
    simp only [← h1, Value.cells, List.getElem?_map, Option.map_eq_some_iff] at hi
    obtain ⟨u, hu, rfl⟩ := hi
    rw [hu] at hb; cases hb; rfl
  | false =>
    simp only [Bool.false_eq_true, if_false, VR, h3 ha]
    rfl
theorem alloc_ran {t : TypeId} (hn : φ n = none) (hT : T n = none) (hp : (boxv ti n t (zeroOf ti t)).pre) : Ran P φ T w n (boxv ti n t (zeroOf ti t)) (Instr.alloc t true (.tuple #[])) := by
  have ok := hti t (.inr hp.2.1)
  obtain ⟨z, hz, hv⟩ := zeroOf_VR hti hrel (w := w) (φ := φ) (T := T) ok
  have := box_ran hti hrel hn hT hv hp
  obtain ⟨r, w', φ', h, rest⟩ := this
  refine ⟨r, w', φ', ?_, rest⟩
  simp only [Instr.alloc, Sem.run_bind, hz, Result.andThen_ok]
  simpa [Instr.box] using h
end
end Go.Proofs.Ytjdpppbegjnpaaa
