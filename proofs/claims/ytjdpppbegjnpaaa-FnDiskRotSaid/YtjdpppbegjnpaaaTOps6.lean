/- Slice expressions, conversions, literals. -/
import Derived.Test.YtjdpppbegjnpaaaTOps5
set_option linter.unusedSimpArgs false
set_option linter.unusedVariables false
set_option linter.unusedSectionVars false
namespace Go.Proofs.Ytjdpppbegjnpaaa
open Go.RowKit

def OptVR (φ : Phi) (T : Tab) (w : World) : Option TV → Option Value → Prop
  | none, none => True
  | some x, some v => VR φ T w x v
  | _, _ => False

theorem flat_drop (t : ET) : ∀ (xs : List t.α) (l : Nat), (xs.drop l).flatMap t.cells = (xs.flatMap t.cells).drop (l * t.sz)
  | xs, 0 => by simp
  | [], l + 1 => by simp
  | x :: xs, l + 1 => by
    have := ET.cells_len t x
    have e : (l + 1) * t.sz = (t.cells x).length + l * t.sz := by rw [this, Nat.succ_mul]; omega
    rw [List.drop_succ_cons, flat_drop t xs l, List.flatMap_cons, e, List.drop_append]
    rw [List.drop_eq_nil_of_le (show (t.cells x).length ≤ (t.cells x).length + l * t.sz by omega), List.nil_append]
    rw [show (t.cells x).length + l * t.sz - (t.cells x).length = l * t.sz by omega]
theorem flat_take (t : ET) : ∀ (xs : List t.α) (l : Nat), (xs.take l).flatMap t.cells = (xs.flatMap t.cells).take (l * t.sz)
  | xs, 0 => by simp
  | [], l + 1 => by simp
  | x :: xs, l + 1 => by
    have := ET.cells_len t x
    have e : (l + 1) * t.sz = (t.cells x).length + l * t.sz := by rw [this, Nat.succ_mul]; omega
    rw [List.take_succ_cons, List.flatMap_cons, flat_take t xs l, List.flatMap_cons, e, List.take_append]
    rw [List.take_of_length_le (show (t.cells x).length ≤ (t.cells x).length + l * t.sz by omega)]
    rw [show (t.cells x).length + l * t.sz - (t.cells x).length = l * t.sz by omega]
theorem flat_part (t : ET) (xs : List t.α) (l m i : Nat) (v : Value) (h : (((xs.drop l).take m).flatMap t.cells)[i]? = some v) : (xs.flatMap t.cells)[l * t.sz + i]? = some v := by
  rw [flat_take, flat_drop, List.getElem?_take] at h
  split at h
  · rwa [List.getElem?_drop] at h
  · exact absurd h (by simp)

section
variable {P : Program} {ti : TypeId → TI} (hti : ∀ t, ((ti t).k ≠ .other ∨ 0 < (ti t).sz) → TIok P t (ti t))
variable {φ : Phi} {T : Tab} {w : World} {n : Nat} {rd : Nat → Option Obj} (hrel : Rel φ T w)
include hti hrel

theorem bounds_run {lo hi : Option TV} {low high : Option Value} {isS : Bool} {len cap : Nat} (hlo : OptVR φ T w lo low) (hhi : OptVR φ T w hi high) (hp : (lohi len lo hi).1) (hc : len ≤ cap) :
    (Instr.sliceBounds isS len cap low high none).run P w = .ok ((lohi len lo hi).2.1, (lohi len lo hi).2.2, cap) w ∧ (lohi len lo hi).2.1 ≤ (lohi len lo hi).2.2 ∧ (lohi len lo hi).2.2 ≤ len := by
  have hb : ∀ (k : IntKind) (i : Int) (y : Nat) (c : BoundsCode), 0 ≤ i → i ≤ y → (Instr.sliceBound (.int k i) y c).run P w = .ok i.toNat w := by
    intro k i y c h0 h1
    simp only [Instr.sliceBound, asIntOf, Sem.run_bind, Sem.run_pure, Result.andThen_ok, if_pos (And.intro h0 h1)]
  unfold lohi at hp ⊢
  cases lo with
  | none =>
    cases low with
    | some _ => exact hlo.elim
    | none =>
      cases hi with
      | none =>
        cases high with
        | some _ => exact hhi.elim
        | none => exact ⟨by simp [Instr.sliceBounds], by simp, by simp⟩
      | some h =>
        cases high with
        | none => exact hhi.elim
        | some hv =>
          simp only at hp ⊢
          cases hj : asI h with
          | none => rw [hj] at hp; exact hp.elim
          | some j =>
            rw [hj] at hp
            obtain ⟨k, rfl⟩ := asI_val hti hrel hhi hj
            obtain ⟨h0, h1⟩ := hp
            refine ⟨?_, by simp, by simp; omega⟩
            simp only [Instr.sliceBounds, Sem.run_bind, Sem.run_pure, Result.andThen_ok, hb k j cap _ h0 (by omega)]
  | some l =>
    cases low with
    | none => exact hlo.elim
    | some lv =>
      cases hi with
      | none =>
        cases high with
        | some _ => exact hhi.elim
        | none =>
          simp only at hp ⊢
          cases hj : asI l with
          | none => rw [hj] at hp; exact hp.elim
          | some j =>
            rw [hj] at hp
            obtain ⟨k, rfl⟩ := asI_val hti hrel hlo hj
            obtain ⟨h0, h1⟩ := hp
            refine ⟨?_, by simp; omega, by simp⟩
            simp only [Instr.sliceBounds, Sem.run_bind, Sem.run_pure, Result.andThen_ok, hb k j len _ h0 h1]
      | some h =>
        cases high with
        | none => exact hhi.elim
        | some hv =>
          simp only at hp ⊢
          cases hi' : asI l with
          | none => rw [hi'] at hp; exact hp.elim
          | some i =>
            cases hj : asI h with
            | none => rw [hi', hj] at hp; exact hp.elim
            | some j =>
              rw [hi', hj] at hp
              obtain ⟨k, rfl⟩ := asI_val hti hrel hlo hi'
              obtain ⟨k', rfl⟩ := asI_val hti hrel hhi hj
              obtain ⟨h0, h1, h2⟩ := hp
              refine ⟨?_, by simp; omega, by simp; omega⟩
              simp only [Instr.sliceBounds, Sem.run_bind, Sem.run_pure, Result.andThen_ok, hb k' j cap _ (by omega) (by omega), hb k i j.toNat _ h0 (by omega)]

theorem slicev_ran {t : TypeId} {x : TV} {v : Value} {lo hi : Option TV} {low high : Option Value} (hrd : ∀ k, k ∈ refsV true x → T k = rd k) (hx : VR φ T w x v) (hlo : OptVR φ T w lo low) (hhi : OptVR φ T w hi high)
    (hp : (slicev ti rd t x lo hi).pre) : Ran P φ T w n (slicev ti rd t x lo hi) (Instr.sliceAt t v low high none) := by
  unfold slicev at hp ⊢
  split at hp
  · rename_i s hk
    have ok := hti t (.inl (by rw [hk]; simp))
    have hu : P.underlying t = some .string := by have := ok.kind; rwa [hk] at this
    simp only [VR, CR] at hx; subst hx
    obtain ⟨h1, h2, h3⟩ := bounds_run hti hrel (isS := false) (cap := s.size) hlo hhi hp (Nat.le_refl _)
    refine Ran.pure hrel ⟨rfl, rfl⟩ ⟨_, ?_, rfl⟩
    simp only [Instr.sliceAt, Instr.slice, Sem.run_bind, run_under' hu, Result.andThen_ok, h1, Sem.run_pure, Option.isSome_none, Bool.false_eq_true, if_false]
  · rename_i e t' xs hk
    have ok := hti t (.inl (by rw [hk]; simp))
    have hu : P.underlying t = some (.slice e) := by have := ok.kind; rwa [hk] at this
    simp only [VR, CR] at hx
    obtain ⟨a, cap, rfl, hcap, hnone, hspot, hne⟩ := hx
    obtain ⟨hp, hsz⟩ := hp
    have oke := hti e (.inr (by rw [hsz]; exact t'.sz_pos))
    obtain ⟨h1, h2, h3⟩ := bounds_run hti hrel (isS := true) (cap := cap) hlo hhi hp hcap
    generalize (lohi xs.length lo hi).2.1 = l at *
    generalize (lohi xs.length lo hi).2.2 = h at *
    refine Ran.pure hrel ⟨rfl, rfl⟩ ⟨.slice (if cap = l then a else a.map (·.add (l * t'.sz))) (h - l) (cap - l), ?_, ?_⟩
    · simp only [Instr.sliceAt, Instr.slice, Sem.run_bind, run_under' hu, Result.andThen_ok, h1, Sem.run_pure, oke.run_sizeOf, hsz]
    · simp only [ifp, VR, CR]
      have hl : ((xs.drop l).take (h - l)).length = h - l := by simp; omega
      refine ⟨_, _, by rw [hl], by rw [hl]; omega, ?_, ?_, ?_⟩
      · intro ha
        by_cases hm : cap = l
        · omega
        · rw [if_neg hm] at ha
          cases a with
          | none => have := hnone rfl; omega
          | some ad => simp at ha
      · intro ad ha
        by_cases hm : cap = l
        · rw [if_pos hm] at ha; exact hspot ad ha
        · rw [if_neg hm] at ha
          cases a with
          | none => simp at ha
          | some ad' =>
            have := hspot ad' rfl
            simp at ha; subst ha
            unfold Addr.add; split <;> simp_all
      · intro hnil
        have hlt : l < h := by
          rcases Nat.lt_or_ge l h with hh | hh
          · exact hh
          · exact absurd (List.length_eq_zero_iff.1 (by rw [hl]; omega)) hnil
        obtain ⟨b, o, rfl, him, hcs⟩ := hne (by intro h; rw [h] at h3; simp at h3; omega)
        refine ⟨b, o + l * t'.sz, ?_, him, fun i u hu => ?_⟩
        · rw [if_neg (by omega)]; simp [add_addr]
        · rw [Nat.add_assoc]; exact hcs _ _ (flat_part t' xs l _ i u hu)
  · rename_i e t' k off len hk
    have hkk := hrd k (by simp [refsV, refsC])
    have ok := hti t (.inl (by rw [hk]; simp))
    have hu : P.underlying t = some (.slice e) := by have := ok.kind; rwa [hk] at this
    simp only [VR, CR] at hx
    obtain ⟨a, cap, rfl, hcap, hnone, hspot, hne⟩ := hx
    split at hp
    · rename_i t'' xs hcs
      obtain ⟨rfl, hin, hp, hsz⟩ := hp
      try simp only [hcs]
      have oke := hti e (.inr (by rw [hsz]; exact t'.sz_pos))
      obtain ⟨h1, h2, h3⟩ := bounds_run hti hrel (isS := true) (cap := cap) hlo hhi hp hcap
      generalize (lohi len lo hi).2.1 = l at *
      generalize (lohi len lo hi).2.2 = h at *
      refine Ran.pure hrel ⟨rfl, rfl⟩ ⟨.slice (if cap = l then a else a.map (·.add (l * t'.sz))) (h - l) (cap - l), ?_, ?_⟩
      · simp only [Instr.sliceAt, Instr.slice, Sem.run_bind, run_under' hu, Result.andThen_ok, h1, Sem.run_pure, oke.run_sizeOf, hsz]
      · simp only [ifp, VR, CR]
        refine ⟨_, _, rfl, by omega, ?_, ?_, ?_⟩
        · intro ha
          by_cases hm : cap = l
          · omega
          · rw [if_neg hm] at ha
            cases a with
            | none => have := hnone rfl; omega
            | some ad => simp at ha
        · intro ad ha
          by_cases hm : cap = l
          · rw [if_pos hm] at ha; exact hspot ad ha
          · rw [if_neg hm] at ha
            cases a with
            | none => simp at ha
            | some ad' =>
              have := hspot ad' rfl
              simp at ha; subst ha
              unfold Addr.add; split <;> simp_all
        · intro hcl
          obtain ⟨b, base, hφ, rfl, hs⟩ := hne (by omega)
          refine ⟨b, base, hφ, ?_, ?_⟩
          · rw [if_neg (by omega)]; simp [add_addr, Nat.add_mul, Nat.add_assoc]
          · rw [show off + l + (cap - l) = off + cap by omega]; exact hs
    · exact hp.elim
  · exact hp.elim

theorem fieldOf_ran {s : TypeId} {f : Nat} {x : TV} {v : Value} (hx : VR φ T w x v) (hp : (fieldOf ti s f x).pre) : Ran P φ T w n (fieldOf ti s f x) (Instr.field s v f) := by
  unfold fieldOf at hp ⊢
  split at hp
  · rename_i o ft cs hf
    unfold fieldAt at hf
    split at hf
    case h_2 => exact absurd hf (by simp)
    rename_i fs hk
    have ok := hti s (.inl (by rw [hk]; simp))
    have hkind := ok.kind
    rw [hk] at hkind
    obtain ⟨fields, hu, hfs⟩ := hkind
    have hfield : ∃ fl, fields[f]? = some fl ∧ fl.offset = o ∧ fl.type = ft := by
      rw [← hfs] at hf
      simp only [List.getElem?_map, Option.map_eq_some_iff] at hf
      obtain ⟨fl, h1, h2⟩ := hf
      cases h2
      exact ⟨fl, by simpa using h1, rfl, rfl⟩
    obtain ⟨fl, hfl, rfl, rfl⟩ := hfield
    simp only [VR] at hx
    obtain ⟨vs, rfl, ha⟩ := hx
    have okf := hti fl.type (.inr hp.2)
    have hlen := ha.length
    cases hagg : (ti fl.type).agg with
    | true =>
      refine Ran.pure hrel ⟨rfl, rfl⟩ ⟨.agg (vs.extract fl.offset (fl.offset + (ti fl.type).sz)), ?_, ?_⟩
      · simp only [Instr.field, Go.part, Sem.run_bind, run_under' hu, Result.andThen_ok, hfl, asAgg, Sem.run_pure, okf.run_isAgg, hagg, if_true, okf.run_sizeOf]
      · simp only [ifp, asVal, hagg, if_true, VR]
        refine ⟨_, rfl, All2.of_get (by simp [part] at *; omega) fun i a b hi hb => ?_⟩
        simp only [part, List.getElem?_take, List.getElem?_drop] at hi
        split at hi
        · obtain ⟨z, hz, hr⟩ := ha.get _ _ hi
          have : (vs.extract fl.offset (fl.offset + (ti fl.type).sz)).toList[i]? = vs.toList[fl.offset + i]? := by
            rename_i hlt _
            have h1 := hp.1
            rw [Array.getElem?_toList, Array.getElem?_toList, Array.getElem?_extract, if_pos]
            simp at hlen; omega
          rw [this, hz] at hb; cases hb; exact hr
        · exact absurd hi (by simp)
    | false =>
      have hlt : fl.offset < cs.length := by have := hp.1; have := hp.2; omega
      obtain ⟨z, hz, hr⟩ := ha.get fl.offset _ (List.getElem?_eq_getElem hlt)
      refine Ran.pure hrel ⟨rfl, rfl⟩ ⟨z, ?_, ?_⟩
      · simp only [Instr.field, Go.part, Sem.run_bind, run_under' hu, Result.andThen_ok, hfl, asAgg, Sem.run_pure, okf.run_isAgg, hagg, Bool.false_eq_true, if_false]
        rw [Array.getElem?_toList] at hz
        simp [hz]
      · simp only [ifp, asVal, hagg, Bool.false_eq_true, if_false, VR]
        rw [List.getD_eq_getElem?_getD, List.getElem?_eq_getElem hlt]; exact hr
  · exact hp.elim
end
end Go.Proofs.Ytjdpppbegjnpaaa
