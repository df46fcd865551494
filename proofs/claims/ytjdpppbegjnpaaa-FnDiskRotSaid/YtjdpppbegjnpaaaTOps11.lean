/- Slices' literals, conversions, minima. -/
import Derived.Test.YtjdpppbegjnpaaaTOps10
set_option linter.unusedSimpArgs false
set_option linter.unusedVariables false
set_option linter.unusedSectionVars false
namespace Go.Proofs.Ytjdpppbegjnpaaa
open Go.RowKit

theorem plain_cells {φ : Phi} {T : Tab} {w : World} {x : TV} {v : Value} {vs : List Value} (hx : VR φ T w x v) (hne : vs ≠ []) (hp : plain x.cells = some vs) (hs : allStorable x.cells) : v.cells.toList = vs := by
  have hxc := plain_eq hp
  have hcne : x.cells ≠ [] := by rw [hxc]; simpa using hne
  have hvr := (hx.cells' hcne (isAgg_or hcne hs)).1
  have hlen := hvr.length
  rw [hxc] at hlen; simp at hlen
  apply List.ext_getElem?
  intro q
  by_cases hq : q < vs.length
  · obtain ⟨z, hz, hr⟩ := hvr.get q (.val vs[q]) (by rw [hxc]; simp [hq])
    rw [hz, List.getElem?_eq_getElem hq]; exact congrArg some hr
  · rw [List.getElem?_eq_none (by rw [Array.length_toList]; omega), List.getElem?_eq_none (by omega)]

theorem elems_run {φ : Phi} {T : Tab} {w : World} {t : ET} : ∀ (parts : List (Nat × TV)) (rparts : List (Nat × Value)) (i : Nat) (cells : Array Value) (p : Prop) (xs : List t.α), PartsR φ T w parts rparts → elems t i parts = some (p, xs) → p → cells.size = (i + xs.length) * t.sz →
      ∃ cells', Instr.fill (fun i => some (i * t.sz, t.sz)) cells rparts = some cells' ∧ cells'.size = cells.size ∧ (∀ q, q < i * t.sz → cells'[q]? = cells[q]?) ∧ ∀ q v, (xs.flatMap t.cells)[q]? = some v → cells'[i * t.sz + q]? = some v
  | [], [], i, cells, p, xs, _, hf, hp, hsz => by
    simp only [elems, Option.some.injEq, Prod.mk.injEq] at hf
    obtain ⟨-, rfl⟩ := hf
    exact ⟨cells, rfl, rfl, fun _ _ => rfl, fun q v h => by simp at h⟩
  | (j, x) :: parts, (j', v) :: rparts, i, cells, p, xs, ⟨hij, hx, hr⟩, hf, hp, hsz => by
    subst hij
    unfold elems at hf
    split at hf
    · rename_i vs p' xs' hvs hf'
      simp only [Option.some.injEq, Prod.mk.injEq] at hf
      obtain ⟨rfl, rfl⟩ := hf
      obtain ⟨rfl, hst, hcell, hp'⟩ := hp
      have hvl : vs.length = t.sz := by rw [← hcell, ET.cells_len]
      have hne : vs ≠ [] := by intro h; rw [h] at hvl; have := t.sz_pos; simp at hvl; omega
      have hveq := plain_cells hx hne hvs hst
      have hfold := fold_lay' v (i * t.sz) cells
      rw [hveq] at hfold
      have hroom : i * t.sz + t.sz ≤ cells.size := by
        rw [hsz, List.length_cons, show i + (xs'.length + 1) = (i + 1) + xs'.length by omega, Nat.add_mul, Nat.succ_mul]; omega
      have hfs : (v.cells.zipIdx.foldl (fun cs (c, j) => cs.setIfInBounds (i * t.sz + j) c) cells).size = cells.size := by
        rw [← Array.length_toList, hfold, layV_len, Array.length_toList]
      obtain ⟨cells', k1, k2, k3, k4⟩ := elems_run parts rparts (i + 1) _ p' xs' hr hf' hp' (by rw [hfs, hsz, List.length_cons]; congr 1; omega)
      have hget : ∀ q, (v.cells.zipIdx.foldl (fun cs (c, j) => cs.setIfInBounds (i * t.sz + j) c) cells)[q]? = if i * t.sz ≤ q ∧ q < i * t.sz + vs.length then vs[q - i * t.sz]? else cells[q]? := by
        intro q
        rw [← Array.getElem?_toList, hfold, layV_get _ _ _ _ (by rw [hvl, Array.length_toList]; exact hroom)]
        split <;> simp
      refine ⟨cells', ?_, by rw [k2, hfs], fun q hq => ?_, fun q u hu => ?_⟩
      · unfold Instr.fill
        simp only
        rw [if_neg]
        · exact k1
        · have : v.cells.size = t.sz := by rw [← hvl, ← hveq]; simp
          simp; omega
      · rw [k3 q (by rw [Nat.succ_mul]; omega), hget, if_neg (by omega)]
      · rw [List.flatMap_cons] at hu
        have hl := ET.cells_len t (t.ofCells vs)
        by_cases hq : q < t.sz
        · rw [List.getElem?_append_left (by omega), hcell] at hu
          rw [k3 _ (by rw [Nat.succ_mul]; omega), hget, if_pos ⟨by omega, by omega⟩, show i * t.sz + q - i * t.sz = q by omega]; exact hu
        · rw [List.getElem?_append_right (by omega), hl] at hu
          have := k4 _ _ hu
          rwa [Nat.succ_mul, show i * t.sz + t.sz + (q - t.sz) = i * t.sz + q by omega] at this
    · exact absurd hf (by simp)
  | [], _ :: _, _, _, _, _, h, _, _, _ => h.elim
  | _ :: _, [], _, _, _, _, h, _, _, _ => h.elim

section
variable {P : Program} {ti : TypeId → TI} (hti : ∀ t, ((ti t).k ≠ .other ∨ 0 < (ti t).sz) → TIok P t (ti t))
variable {φ : Phi} {T : Tab} {w : World} {n : Nat} {rd : Nat → Option Obj} (hrel : Rel φ T w)
include hti hrel

theorem litv_ran {t : TypeId} {len : Nat} {parts : List (Nat × TV)} {rparts : Array (Nat × Value)} (hn : φ n = none) (hTn : T n = none) (hparts : PartsR φ T w parts rparts.toList) (hp : (litv ti n t len parts).pre) :
    Ran P φ T w n (litv ti n t len parts) (Instr.buildSlice t len rparts) := by
  unfold litv at hp ⊢
  split at hp
  case h_2 => exact hp.elim
  rename_i e hk
  split at hp
  case h_2 => exact hp.elim
  rename_i t' het
  split at hp
  case h_2 => exact hp.elim
  rename_i p xs hf
  obtain ⟨hp, rfl, hsz, hmax⟩ := hp
  have ok := hti t (.inl (by rw [hk]; simp))
  have hu : P.underlying t = some (.slice e) := by have := ok.kind; rwa [hk] at this
  have oke := hti e (.inr (by rw [hsz]; exact t'.sz_pos))
  obtain ⟨z, hz, hz1, -, -⟩ := oke.run_zero w
  have hmake : ∀ zero : Array Value, ∃ cells', Instr.fill (fun i => some (i * t'.sz, t'.sz)) ((Array.range (xs.length * t'.sz)).map (zero[· % zero.size]!)) rparts.toList = some cells' ∧ cells' = (xs.flatMap t'.cells).toArray := by
    intro zero
    obtain ⟨cells', k1, k2, -, k4⟩ := elems_run parts rparts.toList 0 ((Array.range (xs.length * t'.sz)).map (zero[· % zero.size]!)) p xs hparts hf hp (by simp)
    refine ⟨cells', k1, ?_⟩
    apply Array.ext_getElem?
    intro q
    have hfl := flat_len t' xs
    by_cases hq : q < xs.length * t'.sz
    · have := k4 q _ (List.getElem?_eq_getElem (by omega))
      rw [Nat.zero_mul, Nat.zero_add] at this
      rw [this]; simp [hfl, hq]
    · rw [Array.getElem?_eq_none (by rw [k2]; simp; omega), Array.getElem?_eq_none (by simp [hfl]; omega)]
  obtain ⟨r1, r2, r3, r4⟩ := new_obj hrel hn hTn e (xs.flatMap t'.cells).toArray (.arr t' xs) (0, 0) (fun _ _ => by simp) fun φ' T' w' g hφ hC => .inr ⟨_, _, _, hφ, hC, fun i v hv => by
    simpa using hv⟩
  refine ⟨.slice (some ⟨w.heap.size, 0, none⟩) xs.length xs.length, _, _, ?_, ?_, r1, r2, r3, fun b hb _ => r4 b hb⟩
  · simp only [Instr.buildSlice, Sem.run_bind, run_under' hu, Result.andThen_ok, oke.run_sizeOf, hsz]
    rw [if_neg (by omega)]
    by_cases h : xs.length * t'.sz = 0
    · obtain ⟨cells', k1, rfl⟩ := hmake #[]
      simp only [if_pos h, Sem.run_bind, Sem.run_pure, Result.andThen_ok, k1, newRow, newObj, Sem.run]
    · obtain ⟨cells', k1, rfl⟩ := hmake z.cells
      simp only [if_neg h, Sem.run_bind, hz, Sem.run_pure, Result.andThen_ok, k1, newRow, newObj, Sem.run]
  · simp only [VR, CR]
    refine ⟨_, xs.length, rfl, Nat.le_refl _, fun h => by simp at h, fun ad h => by simp at h; rw [← h], fun _ => ⟨w.heap.size, 0, by simp [putPhi], by simp, ?_⟩⟩
    unfold sizeAt
    simp only [Array.getElem?_push_size, List.size_toArray, flat_len]
    simp

theorem minv_ran {ts : Array TypeId} {ty : TypeId} {xs : List TV} {us : List Value} (hx : VRs φ T w xs us) (hp : (minv xs).pre) : Ran P φ T w n (minv xs) (Builtin.min_ ts ty us.toArray) := by
  unfold minv at hp ⊢
  split at hp
  · rename_i k a k' b
    match us, hx with
    | [u, v], hx =>
      simp only [VRs, VR, CR] at hx
      obtain ⟨rfl, rfl, -⟩ := hx
      refine Ran.pure hrel ⟨rfl, rfl⟩ ⟨.int k (if b < a then b else a), ?_, rfl⟩
      simp [Builtin.min_, Builtin.min2]
  · exact hp.elim
end
end Go.Proofs.Ytjdpppbegjnpaaa
