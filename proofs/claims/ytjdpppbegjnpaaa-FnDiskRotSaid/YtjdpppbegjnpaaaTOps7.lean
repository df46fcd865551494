/- Appending, making, converting. -/
import Derived.Test.YtjdpppbegjnpaaaTOps6
set_option linter.unusedSimpArgs false
set_option linter.unusedVariables false
set_option linter.unusedSectionVars false
namespace Go.Proofs.Ytjdpppbegjnpaaa
open Go.RowKit

theorem Ge.of_heap {φ : Phi} {T : Tab} {w w' : World} (h : w'.heap = w.heap) (h1 : w'.os = w.os) (h2 : w'.tape = w.tape) (h3 : w'.output = w.output) : Ge φ T w φ T w' :=
  ⟨h1, h2, h3, by rw [h]; exact Nat.le_refl _, fun _ _ h => h, fun b _ _ => by rw [h], fun _ _ h => h, fun b _ => by unfold sizeAt; rw [h], fun _ => Iff.rfl⟩
theorem Rel.of_heap {φ : Phi} {T : Tab} {w w' : World} (hr : Rel φ T w) (h : w'.heap = w.heap) (h1 : w'.os = w.os) (h2 : w'.tape = w.tape) (h3 : w'.output = w.output) : Rel φ T w' :=
  ⟨fun k o hk => (hr.obj k o hk).mono (Ge.of_heap h h1 h2 h3) (fun b _ _ => by rw [h]) fun h => h, hr.inj, Ge.frd hr (Ge.of_heap h h1 h2 h3)⟩

theorem cast_flat {t t' : ET} (h : t' = t) (xs : List t'.α) : ((h ▸ xs : List t.α)).flatMap t.cells = xs.flatMap t'.cells := by subst h; rfl
theorem cast_len {t t' : ET} (h : t' = t) (xs : List t'.α) : ((h ▸ xs : List t.α)).length = xs.length := by subst h; rfl

/-- Where a slice's content lies. -/
theorem content_at {φ : Phi} {T : Tab} {w : World} {rd : Nat → Option Obj} (hrel : Rel φ T w) {t : ET} {c : TC} {v : Value} {xs : List t.α} (hrd : ∀ k, k ∈ refsC true c → T k = rd k) (hv : CR φ T w c v) (hc : content rd t c = some xs) :
    ∃ a cap, v = .slice a xs.length cap ∧ xs.length ≤ cap ∧ (a = none → cap = 0) ∧ (∀ ad, a = some ad → ad.spot = none) ∧ (xs ≠ [] → ∃ b o, a = some ⟨b, o, none⟩ ∧ CellsAt w b o (xs.flatMap t.cells)) := by
  unfold content at hc
  split at hc
  · rename_i t' ys
    split at hc
    · rename_i h
      subst h; cases hc
      obtain ⟨a, cap, h1, h2, h3, h4, h5⟩ := hv
      exact ⟨a, cap, h1, h2, h3, h4, fun hne => by obtain ⟨b, o, ha, -, hcs⟩ := h5 hne; exact ⟨b, o, ha, hcs⟩⟩
    · exact absurd hc (by simp)
  · rename_i t' k off len
    have hk := hrd k (by simp [refsC])
    split at hc
    · rename_i t'' ys hcs
      split at hc
      · rename_i h
        subst h
        split at hc
        · rename_i h'
          subst h'
          split at hc
          · rename_i hin
            cases hc
            obtain ⟨a, cap, rfl, h2, h3, h4, h5⟩ := hv
            have hl : ((ys.drop off).take len).length = len := by simp; omega
            refine ⟨a, cap, by rw [hl], by rw [hl]; exact h2, h3, h4, fun hne => ?_⟩
            have hpos : len ≠ 0 := by intro h; rw [h] at hne; simp at hne
            obtain ⟨b, base, hφ, rfl, hs⟩ := h5 (by omega)
            refine ⟨b, base + off * t'.sz, rfl, fun i u hu => ?_⟩
            have hT := hk.trans hcs
            rcases hrel.obj k _ hT with ⟨hn, -⟩ | ⟨b', base', c, hφ', hC, hcells⟩
            · rw [hφ] at hn; cases hn
            rw [hφ] at hφ'; cases hφ'
            rw [cell_of_Cells hC, Nat.add_assoc]
            exact hcells _ _ (flat_part t' ys off len i u hu)
          · exact absurd hc (by simp)
        · exact absurd hc (by simp)
      · exact absurd hc (by simp)
    · exact absurd hc (by simp)
  · cases hc
    cases hv
    exact ⟨none, 0, rfl, Nat.le_refl _, fun _ => rfl, fun _ h => by simp at h, fun h => absurd rfl h⟩
  · exact absurd hc (by simp)

theorem nextcap_le (need old : Nat) (h : old < need) : Builtin.nextslicecap need old ≤ 2 * need + 1024 := by
  have hg : ∀ (r c : Nat), c < need + 0 ∨ c ≤ 2 * need + 1024 → Builtin.growBy need r c ≤ 2 * need + 1024 := by
    intro r
    induction r with
    | zero => intro c hc; simp only [Builtin.growBy]; omega
    | succ r ih =>
      intro c hc
      simp only [Builtin.growBy]
      split
      · omega
      · exact ih _ (.inr (by omega))
  unfold Builtin.nextslicecap
  split
  · omega
  · split
    · omega
    · exact hg _ _ (.inl (by omega))

section
variable {P : Program} {ti : TypeId → TI} (hti : ∀ t, ((ti t).k ≠ .other ∨ 0 < (ti t).sz) → TIok P t (ti t))
variable {φ : Phi} {T : Tab} {w : World} {n : Nat} {rd : Nat → Option Obj} (hrel : Rel φ T w)
include hti hrel

omit hti hrel in
theorem firstCells_run {a : Option Addr} {t : ET} {xs : List t.α} {cap : Nat} {w : World} (hne : xs ≠ [] → ∃ b o, a = some ⟨b, o, none⟩ ∧ CellsAt w b o (xs.flatMap t.cells)) :
    (Builtin.firstCells t.sz xs.length (.slice a xs.length cap)).run P w = .ok (xs.flatMap t.cells).toArray w := by
  by_cases hnil : xs = []
  · subst hnil
    cases a with
    | none => simp [Builtin.firstCells]
    | some ad => simp [Builtin.firstCells, loadCells, loadCellsFrom]
  · obtain ⟨b, o, rfl, hcs⟩ := hne hnil
    have := run_loadCells_list (P := P) w ⟨b, o, none⟩ (xs.flatMap t.cells) (fun j v hv => by rw [add_addr]; exact hcs j v hv)
    rw [flat_len] at this
    exact this

omit hti hrel in
/-- Appending, told of the real slices. -/
theorem append_run {sT xT ty e xe : TypeId} {t : ET} {s x : Value} {a a' : Option Addr} {xs ys : List t.α} {cap cap' : Nat} (hs : s = .slice a xs.length cap) (hx : x = .slice a' ys.length cap')
    (hsT : P.underlying sT = some (.slice e)) (hxT : P.underlying xT = some (.slice xe)) (oke : TIok P e (ti e)) (hsz : (ti e).sz = t.sz) (hb : 0 < (ti e).bytes) (hroom : (2 * (xs.length + ys.length) + 1024) * (ti e).bytes ≤ bytesMax)
    (hle : xs.length ≤ cap)
    (h1 : xs ≠ [] → ∃ b o, a = some ⟨b, o, none⟩ ∧ CellsAt w b o (xs.flatMap t.cells)) (h2 : ys ≠ [] → ∃ b o, a' = some ⟨b, o, none⟩ ∧ CellsAt w b o (ys.flatMap t.cells)) :
    (xs.length + ys.length ≤ cap ∧ (Builtin.append_ #[sT, xT] ty #[s, x]).run P w = Result.andThen ((match a with | some ad => storeCells (ad.add (xs.length * t.sz)) (ys.flatMap t.cells) | none => (pure () : Sem Unit)).run P w) (fun _ w' => .ok (.slice a (xs.length + ys.length) cap) w')) ∨
    (cap < xs.length + ys.length ∧ ∃ (newCap : Nat) (rest : Array Value), xs.length + ys.length ≤ newCap ∧ rest.size = (newCap - (xs.length + ys.length)) * t.sz ∧
      (Builtin.append_ #[sT, xT] ty #[s, x]).run P w = .ok (.slice (some ⟨w.heap.size, 0, none⟩) (xs.length + ys.length) newCap) { w with drawn := w.drawn + 1, heap := w.heap.push (.cells ((xs ++ ys).flatMap t.cells ++ rest.toList).toArray e) }) := by
  subst hs hx
  obtain ⟨i, hi, hisz, hib⟩ := oke.run_info w
  have hfx := firstCells_run (P := P) (cap := cap') h2
  have hfs := firstCells_run (P := P) (cap := cap) h1
  by_cases hc : xs.length + ys.length ≤ cap
  · left
    refine ⟨hc, ?_⟩
    simp only [Builtin.append_, List.getElem?_toArray, List.getElem?_cons_zero, List.getElem?_cons_succ, Sem.run_bind, run_under' hsT, run_under' hxT, Result.andThen_ok, Sem.run_pure, oke.run_sizeOf, hsz, Builtin.lenOf, Bool.false_eq_true, if_false, if_pos hc, Bool.not_false, if_true, hfx]
    cases a with
    | none => rfl
    | some ad =>
      simp only [Sem.run_bind, List.toList_toArray]
      rfl
  · right
    refine ⟨by omega, ?_⟩
    obtain ⟨z, hz, hz1, -, -⟩ := oke.run_zero { w with drawn := w.drawn + 1 }
    have hneed : ¬ ((((xs.length + ys.length : Nat) : Int) > IntKind.i64.max) ∧ (False ∨ i.bytes = 0)) := by rw [hib]; simp; omega
    have hcap : ¬ (Builtin.nextslicecap (xs.length + ys.length) cap * i.bytes > 2 ^ 48) := by
      have h1 := nextcap_le (xs.length + ys.length) cap (by omega)
      have h2 := Nat.mul_le_mul_right (ti e).bytes h1
      rw [hib]; unfold bytesMax at hroom; omega
    have hfs' := firstCells_run (P := P) (cap := cap) (w := { w with drawn := w.drawn + 1 }) h1
    have hfx' := firstCells_run (P := P) (cap := cap') (w := { w with drawn := w.drawn + 1 }) h2
    obtain ⟨nc, hnc⟩ : ∃ nc, nc = (Question.appendCap (xs.length + ys.length) cap e).cut (w.tape w.drawn (.appendCap (xs.length + ys.length) cap e)) := ⟨_, rfl⟩
    have hge : xs.length + ys.length ≤ nc := by rw [hnc]; simp only [Question.cut]; omega
    refine ⟨nc, Builtin.zeroCells z.cells (nc - (xs.length + ys.length)), hge, ?_, ?_⟩
    · have hzs : z.cells.size = t.sz := by rw [← hsz, ← oke.zlen, ← hz1]; simp
      simp [Builtin.zeroCells, hzs]
    · simp only [Builtin.append_, List.getElem?_toArray, List.getElem?_cons_zero, List.getElem?_cons_succ, Sem.run_bind, run_under' hsT, run_under' hxT, Result.andThen_ok, Sem.run_pure, oke.run_sizeOf, hsz, Builtin.lenOf, Bool.false_eq_true, if_false, if_neg hc, Bool.not_false, if_true, hi, if_neg hneed, if_neg hcap]
      have hch : (choose (.appendCap (xs.length + ys.length) cap e)).run P w = .ok nc { w with drawn := w.drawn + 1 } := by
        simp [choose, Sem.run, Question.forced, hnc]
      have hinfo' : (typeInfo e).run P { w with drawn := w.drawn + 1 } = .ok i { w with drawn := w.drawn + 1 } := by
        obtain ⟨i', hi', -⟩ := oke.info
        have : (typeInfo e).run P w = .ok i' w := by simp [typeInfo, program, Sem.run, hi']
        rw [hi] at this; cases this
        simp [typeInfo, program, Sem.run, hi']
      have hask : ∀ m, (askRoom m).run P { w with drawn := w.drawn + 1 } = .ok () { w with drawn := w.drawn + 1 } := by
        intro m; unfold askRoom; split <;> rfl
      simp only [hch, Result.andThen_ok, hinfo', hask, hfs', hfx', hz]
      simp [newRow, newObj, Sem.run]
      refine ⟨?_, rfl, rfl⟩
      show w.heap.push _ = _
      congr 2
      apply Array.ext'
      simp
end
end Go.Proofs.Ytjdpppbegjnpaaa
