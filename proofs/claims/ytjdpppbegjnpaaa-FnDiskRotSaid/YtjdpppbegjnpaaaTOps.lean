/- Each operation of the model does what the evaluator says. -/
import Derived.Test.YtjdpppbegjnpaaaTRel
import Derived.Laws.Sem
import Derived.Laws.Cells
import Derived.Laws.IdiomCopy
set_option linter.unusedSectionVars false
set_option linter.unusedSimpArgs false
set_option linter.unusedVariables false
namespace Go.Proofs.Ytjdpppbegjnpaaa
open Go.RowKit

def kindOk (u : Option TypeDesc) : TK → Prop
  | .int k => u = some (.int k)
  | .str => u = some .string
  | .bool => u = some .bool
  | .iface => ∃ ms, u = some (.interface ms)
  | .sl e => u = some (.slice e)
  | .arr n e => u = some (.array n e)
  | .st fs => ∃ fields, u = some (.struct fields) ∧ fields.toList.map (fun f => (f.offset, f.type)) = fs
  | .ptr e => u = some (.pointer e)
  | .other => True
def aggDesc : TypeDesc → Bool
  | .struct _ => true
  | .array _ _ => true
  | _ => false
/-- Two values of such a type are compared so. -/
def EqOk (P : Program) (t : TypeId) (ks : List TK) : Prop :=
  P.eqGuardType P.depth t = false ∧ ∀ (w : World) (xs ys : List Value), kindsOk ks xs = true → kindsOk ks ys = true → (Op.equalIn 10000 t (.agg xs.toArray) (.agg ys.toArray)).run P w = .ok (valsEq xs ys) w
structure TIok (P : Program) (t : TypeId) (x : TI) : Prop where
  info : ∃ i, P.info? t = some i ∧ i.size = x.sz ∧ i.bytes = x.bytes ∧ ∃ z, i.zero = some z ∧ z.cells.toList = x.zero ∧ (x.agg = true → ∃ cs, z = .agg cs) ∧ (x.agg = false → x.zero = [z])
  zlen : x.zero.length = x.sz
  kind : kindOk (P.underlying t) x.k
  agg : ∃ d, P.underlying t = some d ∧ aggDesc d = x.agg
  cmp : ∀ e ks, x.et = some e → e.kinds = some ks → EqOk P t ks

section
variable {P : Program} {t : TypeId} {x : TI} (h : TIok P t x) (w : World)
include h
theorem TIok.run_sizeOf : (sizeOf t).run P w = .ok x.sz w := by
  obtain ⟨i, hi, hs, -⟩ := h.info
  simp [sizeOf, typeInfo, program, Sem.run, hi, hs]
theorem TIok.run_isAgg : (isAgg t).run P w = .ok x.agg w := by
  obtain ⟨d, hd, ha⟩ := h.agg
  cases d <;> simp [isAgg, underlying, program, Sem.run, hd, aggDesc] at ha ⊢ <;> exact ha
theorem TIok.run_under {d : TypeDesc} (hd : P.underlying t = some d) : (underlying t).run P w = .ok d w := by
  simp [underlying, program, Sem.run, hd]
theorem TIok.run_info : ∃ i, (typeInfo t).run P w = .ok i w ∧ i.size = x.sz ∧ i.bytes = x.bytes := by
  obtain ⟨i, hi, hs, hb, -⟩ := h.info
  exact ⟨i, by simp [typeInfo, program, Sem.run, hi], hs, hb⟩
theorem TIok.run_zero : ∃ z, (zeroValue t).run P w = .ok z w ∧ z.cells.toList = x.zero ∧ (x.agg = true → ∃ cs, z = .agg cs) ∧ (x.agg = false → x.zero = [z]) := by
  obtain ⟨i, hi, hs, hb, z, hz, h1, h2, h3⟩ := h.info
  exact ⟨z, by simp [zeroValue, typeInfo, program, Sem.run, hi, hz], h1, h2, h3⟩
end

theorem run_under' {P : Program} {t : TypeId} {d : TypeDesc} (hd : P.underlying t = some d) (w : World) : (underlying t).run P w = .ok d w := by
  simp [underlying, program, Sem.run, hd]

theorem add_addr (b o n : Nat) : (⟨b, o, none⟩ : Addr).add n = ⟨b, o + n, none⟩ := by unfold Addr.add; split <;> simp_all

/-- A value's cells. -/
theorem VR.cells {φ : Phi} {T : Tab} {w : World} {x : TV} {v : Value} (h : VR φ T w x v) (hx : ∀ l, x ≠ .tup l) (hg : ∀ c u, x ≠ .gd c u) (hs : x.isAgg = true ∨ oneCell v = true) :
    All2 (CR φ T w) x.cells v.cells.toList := by
  cases x with
  | one c =>
    unfold VR at h
    simp only [TV.cells]
    rcases hs with hs | hs
    · simp [TV.isAgg] at hs
    · have : v.cells = #[v] := by cases v <;> first | rfl | simp [oneCell] at hs
      rw [this]; exact ⟨h, trivial⟩
  | agg cs => unfold VR at h; obtain ⟨vs, rfl, ha⟩ := h; simpa [TV.cells, Value.cells] using ha
  | tup l => exact absurd rfl (hx l)
  | gd c u => exact absurd rfl (hg c u)

/-- The cells from a place on, read as a value of a type. -/
theorem run_loadVar {P : Program} {t : TypeId} {x : TI} (ok : TIok P t x) {φ : Phi} {T : Tab} {w : World} {b o : Nat} {cs : List TC} (off : Nat) (hlen : off + x.sz ≤ cs.length) (hpos : 0 < x.sz)
    (hc : ∀ i c, cs[i]? = some c → ∃ v, w.cell? ⟨b, o + i, none⟩ = some v ∧ CR φ T w c v) :
    ∃ v, (loadVar t ⟨b, o + off, none⟩).run P w = .ok v w ∧ VR φ T w (asVal x.agg x.sz off cs) v := by
  cases ha : x.agg with
  | true =>
    let f : Nat → Value := fun j => (w.cell? ⟨b, o + off + j, none⟩).getD undef
    have hf : ∀ j, j < x.sz → w.cell? ((⟨b, o + off, none⟩ : Addr).add j) = some (f j) := by
      intro j hj
      obtain ⟨v, hv, -⟩ := hc (off + j) _ (List.getElem?_eq_getElem (by omega))
      rw [add_addr]; simp only [f, Nat.add_assoc, hv, Option.getD_some]
    refine ⟨.agg ((List.range x.sz).map f).toArray, ?_, ?_⟩
    · simp only [loadVar, Sem.run_bind, ok.run_isAgg, ha, Result.andThen_ok, if_true, ok.run_sizeOf]
      rw [run_loadCells w _ _ f hf]
      rfl
    · simp only [asVal, if_true, VR]
      refine ⟨_, rfl, ?_⟩
      refine All2.of_get (by simp [part]; omega) ?_
      intro i a v hi hv
      simp only [part, List.getElem?_take, List.getElem?_drop] at hi
      split at hi
      · rename_i hlt
        obtain ⟨u, hu, hr⟩ := hc _ _ hi
        simp only [List.getElem?_map, List.getElem?_range hlt, Option.map_some, Option.some.injEq] at hv
        simp only [f, Nat.add_assoc, hu, Option.getD_some] at hv
        exact hv ▸ hr
      · exact absurd hi (by simp)
  | false =>
    have hlt : off < cs.length := by omega
    obtain ⟨v, hv, hr⟩ := hc off _ (List.getElem?_eq_getElem hlt)
    refine ⟨v, ?_, ?_⟩
    · simp only [loadVar, Sem.run_bind, ok.run_isAgg, ha, Result.andThen_ok, Bool.false_eq_true, if_false, run_load, hv]
    · simp only [asVal, Bool.false_eq_true, if_false, VR]
      rw [List.getD_eq_getElem?_getD, List.getElem?_eq_getElem hlt]; exact hr

theorem cell_of_Cells {w : World} {b : Nat} {c : Array Value} (h : Cells w b c) (i : Nat) : w.cell? ⟨b, i, none⟩ = c[i]? := by
  obtain ⟨e, fr, hb, -⟩ := h
  simp [World.cell?, hb]
end Go.Proofs.Ytjdpppbegjnpaaa
