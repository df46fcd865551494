/- The rest of the operations. -/
import Derived.Test.YtjdpppbegjnpaaaTOps8
import Derived.IntWalk
set_option linter.unusedSimpArgs false
set_option linter.unusedVariables false
set_option linter.unusedSectionVars false
namespace Go.Proofs.Ytjdpppbegjnpaaa
open Go.RowKit

theorem wrap_id (n : Int) (h0 : -9223372036854775808 ≤ n) (h1 : n ≤ 9223372036854775807) : IntKind.i64.wrap n = n :=
  IntWalk.i64_in _ ⟨by omega, by omega⟩

section
variable {P : Program} {ti : TypeId → TI} (hti : ∀ t, ((ti t).k ≠ .other ∨ 0 < (ti t).sz) → TIok P t (ti t))
variable {φ : Phi} {T : Tab} {w : World} {n : Nat} {rd : Nat → Option Obj} (hrel : Rel φ T w)
include hti hrel

theorem append_nil_ran {sT xT ty e xe : TypeId} {t : ET} {x : Value} {ys : List t.α} {xc : TC} (hn : φ n = none) (hTn : T n = none)
    (hsT : P.underlying sT = some (.slice e)) (hxT : P.underlying xT = some (.slice xe)) (oke : TIok P e (ti e)) (hsz : (ti e).sz = t.sz) (hb : 0 < (ti e).bytes) (hroom : (2 * ys.length + 1024) * (ti e).bytes ≤ bytesMax)
    (hx : CR φ T w xc x) (hrd : ∀ k, k ∈ refsC true xc → T k = rd k) (hc : content rd t xc = some ys) :
    ∃ r w' φ', (Builtin.append_ #[sT, xT] ty #[.slice none 0 0, x]).run P w = .ok r w' ∧ CR φ' (addT T n [.arr t ys]) w' (.osl t n 0 ys.length) r ∧
      Rel φ' (addT T n [.arr t ys]) w' ∧ Ge φ T w φ' (addT T n [.arr t ys]) w' ∧ Dom φ φ' n 1 ∧ Kept φ T (fun _ => False) w w' := by
  obtain ⟨a', cap', rfl, hc1, hc2, hc3, hc4⟩ := content_at hrel hrd hx hc
  rcases append_run (P := P) (ti := ti) (w := w) (ty := ty) (e := e) (xe := xe) (sT := sT) (xT := xT) (t := t) (xs := []) (ys := ys) (cap := 0) (cap' := cap') (a := none) (a' := a') rfl rfl hsT hxT oke hsz hb (by simpa using hroom) (by simp) (by simp) hc4 with ⟨hfit, hrun⟩ | ⟨hgrow, nc, rest, hnc, hrest, hrun⟩
  · have h1 : ys = [] := List.length_eq_zero_iff.1 (by simpa using hfit)
    subst h1
    obtain ⟨g1, g2⟩ := ghost hrel hn hTn t
    refine ⟨.slice none 0 0, w, φ, hrun.trans rfl, ?_, g1, g2, fun j hj => .inl hj, fun _ _ _ => rfl⟩
    exact ⟨none, 0, rfl, by simp, fun _ => rfl, fun _ h => by simp at h, fun h => absurd rfl h⟩
  · obtain ⟨r1, r2, r3, r4⟩ := new_row hti hrel (e := e) (t := t) (zs := ys) (rest := rest.toList) (k := none) hn hTn
    simp only [List.length_nil, Nat.zero_add, List.nil_append] at hgrow hnc hrest hrun
    refine ⟨_, _, _, hrun, ?_, r1, r2, r3, fun b hb _ => r4 b hb⟩
    refine ⟨_, nc, rfl, hnc, fun h => by simp at h, fun ad h => by simp at h; rw [← h], fun _ => ⟨w.heap.size, 0, by simp [putPhi], by simp, ?_⟩⟩
    unfold sizeAt
    simp only [Array.getElem?_push_size]
    simp only [List.size_toArray, List.length_append, flat_len, Array.length_toList, hrest, Nat.zero_add]
    rw [← Nat.add_mul]
    exact Nat.mul_le_mul_right _ (by omega)

theorem appendv_ran {sT xT ty : TypeId} {x y : TV} {u v : Value} (hn : φ n = none) (hTn : T n = none) (hrd : ∀ k, k ∈ refsV true x ++ refsV true y → T k = rd k) (hx : VR φ T w x u) (hy : VR φ T w y v)
    (hp : (appendv ti rd n sT xT x y).pre) : Ran P φ T w n (appendv ti rd n sT xT x y) (Builtin.append_ #[sT, xT] ty #[u, v]) := by
  unfold appendv at hp ⊢
  split at hp
  case h_2 => exact hp.elim
  rename_i e hsk
  split at hp
  case h_2 => exact hp.elim
  rename_i t xe het hxk
  have oks := hti sT (.inl (by rw [hsk]; simp))
  have hsT : P.underlying sT = some (.slice e) := by have := oks.kind; rwa [hsk] at this
  have okx := hti xT (.inl (by rw [hxk]; simp))
  have hxT : P.underlying xT = some (.slice xe) := by have := okx.kind; rwa [hxk] at this
  split at hp
  · rename_i t' k off len xc
    split at hp
    · rename_i xs ys hxs hys
      obtain ⟨rfl, hsz, hroom, hb⟩ := hp
      have oke := hti e (.inr (by rw [hsz]; exact t'.sz_pos))
      have hTk := hrd k (by simp [refsV, refsC])
      unfold content at hxs
      simp only at hxs
      split at hxs
      · rename_i t'' ws hrk
        split at hxs
        · rename_i h
          subst h
          simp only [if_true] at hxs
          split at hxs
          · rename_i hin
            cases hxs
            simp only [VR] at hx hy
            obtain ⟨r, w', φ', h1, h2, h3, h4, h5, h6⟩ := append_ran hti hrel (rd := rd) (ty := ty) (hTk.trans hrk) hin hn hTn hsT hxT oke hsz hb hroom hx hy (fun k' hk' => hrd k' (by simp [refsV, hk'])) hys
            exact ⟨r, w', φ', h1, h2, h3, h4, h5, fun b hb hU => h6 b hb fun j base hj => hU j base ⟨none, by simp [hj]⟩⟩
          · cases hxs
        · cases hxs
      · cases hxs
    · exact hp.elim
  · rename_i xc
    split at hp
    · rename_i ys hys
      obtain ⟨hsz, hroom, hb⟩ := hp
      have oke := hti e (.inr (by rw [hsz]; exact t.sz_pos))
      simp only [VR, CR] at hx
      subst hx
      simp only [VR] at hy
      obtain ⟨r, w', φ', h1, h2, h3, h4, h5, h6⟩ := append_nil_ran hti hrel (rd := rd) (ty := ty) hn hTn hsT hxT oke hsz hb hroom hy (fun k' hk' => hrd k' (by simp [refsV, hk'])) hys
      exact ⟨r, w', φ', h1, h2, h3, h4, h5, fun b hb hU => h6 b hb fun j base hj => hj.elim⟩
    · exact hp.elim
  · exact hp.elim

omit hti hrel in
theorem flat_replicate (t : ET) (x : t.α) : ∀ (m : Nat), (List.replicate m x).flatMap t.cells = (List.range (m * t.sz)).map fun i => (t.cells x).getD (i % t.sz) undef
  | 0 => by simp
  | m + 1 => by
    have hl := ET.cells_len t x
    have hp := t.sz_pos
    have h1 : (List.range t.sz).map (fun i => (t.cells x).getD (i % t.sz) undef) = t.cells x := by
      apply List.ext_getElem?
      intro i
      by_cases hi : i < t.sz
      · simp [List.getElem?_range hi, Nat.mod_eq_of_lt hi, List.getD, List.getElem?_eq_getElem (show i < (t.cells x).length by omega)]
      · rw [List.getElem?_eq_none (by simp; omega), List.getElem?_eq_none (by omega)]
    have e : (m + 1) * t.sz = t.sz + m * t.sz := by rw [Nat.succ_mul]; omega
    rw [List.replicate_succ, List.flatMap_cons, flat_replicate t x m, e, List.range_add, List.map_append, h1, List.map_map]
    congr 1
    apply List.map_congr_left
    intro i _
    simp [Nat.add_mod_left]

theorem makev_ran {t : TypeId} {l c : TV} {u v : Value} (hn : φ n = none) (hTn : T n = none) (hl : VR φ T w l u) (hc : VR φ T w c v) (hp : (makev ti n t l c).pre) : Ran P φ T w n (makev ti n t l c) (Instr.makeSlice t u v) := by
  unfold makev at hp ⊢
  split at hp
  case h_2 => exact hp.elim
  rename_i e hk
  split at hp
  case h_2 => exact hp.elim
  rename_i t' l' c' het hl' hc'
  obtain ⟨h0, rfl, hsz, hb, hz, hbp⟩ := hp
  have ok := hti t (.inl (by rw [hk]; simp))
  have hu : P.underlying t = some (.slice e) := by have := ok.kind; rwa [hk] at this
  have oke := hti e (.inr (by rw [hsz]; exact t'.sz_pos))
  obtain ⟨k1, rfl⟩ := asI_val hti hrel hl hl'
  obtain ⟨k2, rfl⟩ := asI_val hti hrel hc hc'
  obtain ⟨i, hi, hisz, hib⟩ := oke.run_info w
  obtain ⟨z, hzr, hz1, -, -⟩ := oke.run_zero w
  have hmax : l' ≤ 281474976710656 := by
    have h1 : l' * 1 ≤ l' * ((ti e).bytes : Int) := Int.mul_le_mul_of_nonneg_left (by omega) h0
    unfold bytesMax at hb; omega
  have hw : IntKind.i64.wrap l' = l' := wrap_id l' (by omega) (by omega)
  have hbig : ¬ (((ti e).bytes : Int) * l' > 2 ^ 48) := by rw [Int.mul_comm]; unfold bytesMax at hb; omega
  have hcells : (Array.map (fun j => (if l'.toNat * t'.sz = 0 then (#[] : Array Value) else z.cells)[j % (if l'.toNat * t'.sz = 0 then (#[] : Array Value) else z.cells).size]!) (Array.range (l'.toNat * t'.sz))) = ((List.replicate l'.toNat t'.dflt).flatMap t'.cells ++ []).toArray := by
    rw [List.append_nil, flat_replicate]
    by_cases h : l'.toNat * t'.sz = 0
    · simp [h]
    · simp only [if_neg h]
      apply Array.ext'
      simp only [Array.toList_map, Array.toList_range]
      apply List.map_congr_left
      intro j _
      have hzs : z.cells.size = t'.sz := by rw [← hsz, ← oke.zlen, ← hz1]; simp
      have hlt : j % t'.sz < z.cells.size := by rw [hzs]; exact Nat.mod_lt _ t'.sz_pos
      rw [hzs, getElem!_pos z.cells _ hlt, hz, ← hz1, List.getD_eq_getElem?_getD, Array.getElem?_toList, Array.getElem?_eq_getElem hlt]; rfl
  obtain ⟨r1, r2, r3, r4⟩ := new_obj hrel hn hTn e ((List.replicate l'.toNat t'.dflt).flatMap t'.cells ++ []).toArray (.arr t' (List.replicate l'.toNat t'.dflt)) (0, 0) (fun _ _ => by simp) fun φ' T' w' g hφ hC => .inr ⟨_, _, _, hφ, hC, fun i v hv => by
    simpa using hv⟩
  refine ⟨.slice (some ⟨w.heap.size, 0, none⟩) l'.toNat l'.toNat, _, _, ?_, ?_, r1, r2, r3, fun b hb _ => r4 b hb⟩
  · simp only [Instr.makeSlice, Sem.run_bind, run_under' hu, Result.andThen_ok, asInt, asIntOf, Sem.run_pure, hi, hib, hw]
    have h1 : (decide (l' < 0) || decide (((ti e).bytes : Int) * l' > 2 ^ 48)) = false := by simp; omega
    have h2 : ¬ (((decide (l' < 0) || decide (((ti e).bytes : Int) * l' > 2 ^ 48)) || decide (l' < 0) || decide (l' > l')) = true) := by rw [h1]; simp; omega
    rw [if_neg h2]
    have hask : ∀ m, (askRoom m).run P w = .ok () w := by intro m; unfold askRoom; split <;> rfl
    simp only [Sem.run_bind, hask, Result.andThen_ok, oke.run_sizeOf, hsz]
    by_cases h : l'.toNat * t'.sz = 0
    · simp only [if_pos h] at hcells ⊢
      simp only [Sem.run_bind, Result.andThen_ok, newRow, newObj, Sem.run, Sem.run_pure]
      rw [hcells]
    · simp only [if_neg h] at hcells ⊢
      simp only [Sem.run_bind, hzr, Result.andThen_ok, newRow, newObj, Sem.run, Sem.run_pure]
      rw [hcells]
  · simp only [VR, CR]
    refine ⟨_, l'.toNat, rfl, Nat.le_refl _, fun h => by simp at h, fun ad h => by simp at h; rw [← h], fun _ => ⟨w.heap.size, 0, by simp [putPhi], by simp, ?_⟩⟩
    unfold sizeAt
    simp only [Array.getElem?_push_size]
    simp [flat_len, ET.cells_len]
end
end Go.Proofs.Ytjdpppbegjnpaaa
