/- Appending: what becomes of the table. -/
import Derived.Test.YtjdpppbegjnpaaaTOps7
set_option linter.unusedSimpArgs false
set_option linter.unusedVariables false
set_option linter.unusedSectionVars false
namespace Go.Proofs.Ytjdpppbegjnpaaa
open Go.RowKit

/-- An object is given up. -/
theorem retire {φ : Phi} {T : Tab} {w : World} (hrel : Rel φ T w) (k : Nat) : Rel φ (updT T [(k, none)]) w ∧ Ge φ T w φ (updT T [(k, none)]) w := by
  have hT : ∀ j, updT T [(k, none)] j = none ∨ updT T [(k, none)] j = T j := by
    intro j; simp only [updT]; split <;> simp
  have hge : Ge φ T w φ (updT T [(k, none)]) w := {
    os := rfl, tape := rfl, output := rfl, size := Nat.le_refl _, phi := fun _ _ h => h, block := fun _ _ _ => rfl
    own := by
      rintro b hb ⟨j, c, hj, hφ⟩
      refine ⟨j, c, ?_, hφ⟩
      rcases hT j with h | h
      · exact absurd h hj
      · rwa [h] at hj
    sizes := fun _ _ => rfl
    fr := fun _ => Iff.rfl }
  refine ⟨⟨fun j o hj => ?_, fun i j b base base' hi hj hφi hφj => ?_, Ge.frd hrel hge⟩, hge⟩
  · rcases hT j with h | h
    · rw [h] at hj; cases hj
    · exact (hrel.obj j o (by rwa [h] at hj)).mono hge (fun _ _ _ => rfl) fun h => h
  · refine hrel.inj i j b base base' ?_ ?_ hφi hφj
    · rcases hT i with h | h
      · exact absurd h hi
      · rwa [h] at hi
    · rcases hT j with h | h
      · exact absurd h hj
      · rwa [h] at hj

/-- A new object with no memory: an empty row. -/
theorem ghost {φ : Phi} {T : Tab} {w : World} {n : Nat} (hrel : Rel φ T w) (hn : φ n = none) (hT : T n = none) (t : ET) : Rel φ (addT T n [.arr t []]) w ∧ Ge φ T w φ (addT T n [.arr t []]) w := by
  have hge : Ge φ T w φ (addT T n [.arr t []]) w := {
    os := rfl, tape := rfl, output := rfl, size := Nat.le_refl _, phi := fun _ _ h => h, block := fun _ _ _ => rfl
    own := by
      rintro b hb ⟨j, c, hj, hφ⟩
      refine ⟨j, c, ?_, hφ⟩
      by_cases h : j = n
      · subst h; rw [hn] at hφ; cases hφ
      · rwa [addT_one_ne T n _ h] at hj
    sizes := fun _ _ => rfl
    fr := fun _ => Iff.rfl }
  have hne : ∀ j b c, addT T n [.arr t []] j ≠ none → φ j = some (b, c) → T j ≠ none := by
    intro j b c hj hφ
    by_cases h : j = n
    · subst h; rw [hn] at hφ; cases hφ
    · rwa [addT_one_ne T n _ h] at hj
  refine ⟨⟨fun j o hj => ?_, fun i j b base base' hi hj hφi hφj => hrel.inj i j b base base' (hne _ _ _ hi hφi) (hne _ _ _ hj hφj) hφi hφj, Ge.frd hrel hge⟩, hge⟩
  by_cases h : j = n
  · subst h; rw [addT_one_self] at hj; cases hj; exact .inl ⟨hn, rfl⟩
  · rw [addT_one_ne T n _ h] at hj
    exact (hrel.obj j o hj).mono hge (fun _ _ _ => rfl) fun h => h

/-- An object's part becomes a new object in its stead. -/
theorem transfer {φ : Phi} {T : Tab} {w : World} {n k : Nat} (hrel : Rel φ T w) (hn : φ n = none) (hTn : T n = none) {t : ET} {ys : List t.α} (hk : T k = some (.arr t ys)) {b base : Nat} (hφ : φ k = some (b, base)) (off len : Nat) (hin : off + len ≤ ys.length) :
    Rel (putPhi φ n (some (b, base + off * t.sz))) (addT (updT T [(k, none)]) n [.arr t ((ys.drop off).take len)]) w ∧
    Ge φ T w (putPhi φ n (some (b, base + off * t.sz))) (addT (updT T [(k, none)]) n [.arr t ((ys.drop off).take len)]) w := by
  have hnk : k ≠ n := by rintro rfl; rw [hTn] at hk; cases hk
  have hT : ∀ j, j ≠ n → addT (updT T [(k, none)]) n [.arr t ((ys.drop off).take len)] j = if j = k then none else T j := by
    intro j hj
    rw [addT_one_ne _ _ _ hj]
    simp only [updT]
    by_cases h : j = k <;> simp [h, hk]
  have hφ' : ∀ j, j ≠ n → putPhi φ n (some (b, base + off * t.sz)) j = φ j := fun j hj => by simp [putPhi, hj]
  have hφn : putPhi φ n (some (b, base + off * t.sz)) n = some (b, base + off * t.sz) := by simp [putPhi]
  have hge : Ge φ T w (putPhi φ n (some (b, base + off * t.sz))) (addT (updT T [(k, none)]) n [.arr t ((ys.drop off).take len)]) w := {
    os := rfl, tape := rfl, output := rfl, size := Nat.le_refl _, block := fun _ _ _ => rfl
    phi := fun j p hj => by
      rw [hφ' j (by rintro rfl; rw [hn] at hj; cases hj)]; exact hj
    own := by
      rintro b' hb ⟨j, c, hj, hφj⟩
      by_cases h : j = n
      · subst h; rw [hφn] at hφj; cases hφj; exact ⟨k, base, by rw [hk]; simp, hφ⟩
      · rw [hφ' j h] at hφj
        rw [hT j h] at hj
        refine ⟨j, c, ?_, hφj⟩
        intro h0; rw [h0] at hj; simp at hj
    sizes := fun _ _ => rfl
    fr := fun _ => Iff.rfl }
  refine ⟨⟨fun j o hj => ?_, fun i j b' c c' hi hj hφi hφj => ?_, Ge.frd hrel hge⟩, hge⟩
  · by_cases h : j = n
    · subst h
      rw [addT_one_self] at hj; cases hj
      rcases hrel.obj k _ hk with ⟨h1, -⟩ | ⟨b', base', c, h1, hC, hcells⟩
      · rw [hφ] at h1; cases h1
      rw [hφ] at h1; cases h1
      exact .inr ⟨b, base + off * t.sz, c, hφn, hC, fun i v hv => by rw [Nat.add_assoc]; exact hcells _ _ (flat_part t ys off len i v hv)⟩
    · rw [hT j h] at hj
      split at hj
      · cases hj
      · exact (hrel.obj j o hj).mono hge (fun _ _ _ => rfl) fun h0 => by rw [hφ' j h]; exact h0
  · have key : ∀ i, addT (updT T [(k, none)]) n [.arr t ((ys.drop off).take len)] i ≠ none → i ≠ n → T i ≠ none ∧ i ≠ k := by
      intro i hi hne
      rw [hT i hne] at hi
      by_cases h : i = k
      · rw [if_pos h] at hi; exact absurd rfl hi
      · rw [if_neg h] at hi; exact ⟨hi, h⟩
    by_cases h : i = n
    · by_cases h' : j = n
      · rw [h, h']
      · obtain ⟨h1, h2⟩ := key j hj h'
        subst h; rw [hφn] at hφi; cases hφi
        rw [hφ' j h'] at hφj
        exact absurd (hrel.inj j k _ _ _ h1 (by rw [hk]; simp) hφj hφ) h2
    · obtain ⟨h1, h2⟩ := key i hi h
      rw [hφ' i h] at hφi
      by_cases h' : j = n
      · subst h'; rw [hφn] at hφj; cases hφj
        exact absurd (hrel.inj i k _ _ _ h1 (by rw [hk]; simp) hφi hφ) h2
      · obtain ⟨h3, -⟩ := key j hj h'
        rw [hφ' j h'] at hφj
        exact hrel.inj i j b' c c' h1 h3 hφi hφj

theorem upd_add (T : Tab) (n : Nat) (o o' : Obj) : updT (addT T n [o]) [(n, some o')] = addT T n [o'] := by
  funext j
  simp only [updT]
  by_cases h : j = n
  · subst h; simp [addT_one_self]
  · rw [addT_one_ne T n _ h, addT_one_ne T n _ h]; simp [h]

section
variable {P : Program} {ti : TypeId → TI} (hti : ∀ t, ((ti t).k ≠ .other ∨ 0 < (ti t).sz) → TIok P t (ti t))
variable {φ : Phi} {T : Tab} {w : World} {n : Nat} {rd : Nat → Option Obj} (hrel : Rel φ T w)
include hti hrel

theorem new_row {e : TypeId} {t : ET} {zs : List t.α} {rest : List Value} {k : Option Nat} (hn : φ n = none) (hT : T n = none) :
    let w' : World := { w with drawn := w.drawn + 1, heap := w.heap.push (.cells (zs.flatMap t.cells ++ rest).toArray e) }
    let T' := addT (updT T (k.toList.map fun k => (k, none))) n [.arr t zs]
    Rel (putPhi φ n (some (w.heap.size, 0))) T' w' ∧ Ge φ T w (putPhi φ n (some (w.heap.size, 0))) T' w' ∧ Dom φ (putPhi φ n (some (w.heap.size, 0))) n 1 ∧ ∀ b, b < w.heap.size → w'.heap[b]? = w.heap[b]? := by
  intro w' T'
  have key : ∃ T1, Rel φ T1 w ∧ Ge φ T w φ T1 w ∧ T1 n = none ∧ T' = addT T1 n [.arr t zs] := by
    cases k with
    | none => exact ⟨T, hrel, Ge.refl _ _ _, hT, rfl⟩
    | some k =>
      obtain ⟨h1, h2⟩ := retire hrel k
      refine ⟨_, h1, h2, ?_, rfl⟩
      simp only [updT]; split
      · rfl
      · exact hT
  obtain ⟨T1, h1, h2, h3, h4⟩ := key
  have h5 : Rel φ T1 { w with drawn := w.drawn + 1 } := h1.of_heap rfl rfl rfl rfl
  obtain ⟨r1, r2, r3, r4⟩ := new_obj h5 hn h3 e (zs.flatMap t.cells ++ rest).toArray (.arr t zs) (0, 0) (fun _ _ => by simp) fun φ' T' w' g hφ hC => .inr ⟨_, _, _, hφ, hC, fun i v hv => by
    simp only [Nat.zero_add, List.getElem?_toArray]
    rw [List.getElem?_append_left (List.getElem?_eq_some_iff.1 hv).1]; exact hv⟩
  rw [h4]
  have h6 : Ge φ T1 w φ T1 { w with drawn := w.drawn + 1 } := Ge.of_heap rfl rfl rfl rfl
  exact ⟨r1, h2.trans (h6.trans r2), r3, r4⟩

/-- A new row, or the old one written on. -/
theorem append_ran {sT xT ty e xe : TypeId} {t : ET} {s x : Value} {k off : Nat} {ws ys : List t.α} {len : Nat} {xc : TC} (hk : T k = some (.arr t ws)) (hin : off + len ≤ ws.length) (hn : φ n = none) (hTn : T n = none)
    (hsT : P.underlying sT = some (.slice e)) (hxT : P.underlying xT = some (.slice xe)) (oke : TIok P e (ti e)) (hsz : (ti e).sz = t.sz) (hb : 0 < (ti e).bytes) (hroom : (2 * (len + ys.length) + 1024) * (ti e).bytes ≤ bytesMax)
    (hs : CR φ T w (.osl t k off len) s) (hx : CR φ T w xc x) (hrd : ∀ k, k ∈ refsC true xc → T k = rd k) (hc : content rd t xc = some ys) :
    ∃ r w' φ', (Builtin.append_ #[sT, xT] ty #[s, x]).run P w = .ok r w' ∧ CR φ' (addT (updT T [(k, none)]) n [.arr t ((ws.drop off).take len ++ ys)]) w' (.osl t n 0 (len + ys.length)) r ∧
      Rel φ' (addT (updT T [(k, none)]) n [.arr t ((ws.drop off).take len ++ ys)]) w' ∧ Ge φ T w φ' (addT (updT T [(k, none)]) n [.arr t ((ws.drop off).take len ++ ys)]) w' ∧ Dom φ φ' n 1 ∧ Kept φ T (fun j => j = k) w w' := by
  obtain ⟨a', cap', rfl, hc1, hc2, hc3, hc4⟩ := content_at hrel hrd hx hc
  have hl : ((ws.drop off).take len).length = len := by simp; omega
  obtain ⟨a, cap, rfl, hcap, hnone, hspot, hne⟩ := hs
  have hxs : (ws.drop off).take len ≠ [] → ∃ b o, a = some ⟨b, o, none⟩ ∧ CellsAt w b o (((ws.drop off).take len).flatMap t.cells) := by
    intro hnil
    have hpos : len ≠ 0 := by intro h; rw [h] at hnil; simp at hnil
    obtain ⟨b, base, hφ, rfl, -⟩ := hne (by omega)
    refine ⟨b, _, rfl, fun i v hv => ?_⟩
    rcases hrel.obj k _ hk with ⟨h1, -⟩ | ⟨b', base', c, h1, hC, hcells⟩
    · rw [hφ] at h1; cases h1
    rw [hφ] at h1; cases h1
    rw [cell_of_Cells hC, Nat.add_assoc]
    exact hcells _ _ (flat_part t ws off len i v hv)
  rcases append_run (P := P) (ti := ti) (w := w) (ty := ty) (e := e) (xe := xe) (sT := sT) (xT := xT) (t := t) (xs := (ws.drop off).take len) (ys := ys) (cap := cap) (cap' := cap') (a := a) (a' := a') (by rw [hl]) rfl hsT hxT oke hsz hb (by rw [hl]; exact hroom) (by rw [hl]; exact hcap) hxs hc4 with ⟨hfit, hrun⟩ | ⟨hgrow, nc, rest, hnc, hrest, hrun⟩
  · rw [hl] at hfit hrun
    by_cases hc0 : cap = 0
    · have h0 : len = 0 := by omega
      have h1 : ys = [] := List.length_eq_zero_iff.1 (by omega)
      subst h1
      have hnil : (ws.drop off).take len ++ ([] : List t.α) = [] := by subst h0; simp
      rw [hnil]
      obtain ⟨r1, r2⟩ := retire hrel k
      obtain ⟨g1, g2⟩ := ghost r1 hn (by simp only [updT]; split <;> first | rfl | exact hTn) t
      refine ⟨.slice a (len + ([] : List t.α).length) cap, w, φ, ?_, ?_, g1, r2.trans g2, fun j hj => .inl hj, fun _ _ _ => rfl⟩
      · rw [hrun]
        cases a with
        | none => rfl
        | some ad => simp [storeCells]
      · refine ⟨a, cap, rfl, ?_, hnone, hspot, fun h => absurd hc0 h⟩
        simp; omega
    · obtain ⟨b, base, hφ, rfl, hsize⟩ := hne hc0
      obtain ⟨t1, t2⟩ := transfer hrel hn hTn hk hφ off len hin
      rcases hrel.obj k _ hk with ⟨h1, -⟩ | ⟨b', base', c, h1, hC, hcells⟩
      · rw [hφ] at h1; cases h1
      rw [hφ] at h1; cases h1
      obtain ⟨e', fr, hb', hfr⟩ := hC
      have hcs : sizeAt w b = c.size := by unfold sizeAt; rw [hb']
      have hfl := flat_len t ys
      have hroom' : base + off * t.sz + len * t.sz + (ys.flatMap t.cells).length ≤ c.size := by
        rw [hfl, ← hcs]
        refine Nat.le_trans ?_ hsize
        rw [Nat.add_mul]
        have : len * t.sz + ys.length * t.sz ≤ cap * t.sz := by rw [← Nat.add_mul]; exact Nat.mul_le_mul_right _ hfit
        omega
      obtain ⟨c', k1, k2, k3, k4, k5, k6, k7, k8⟩ := setCells_heap b (ys.flatMap t.cells) (base + off * t.sz + len * t.sz) w c e' fr hb' hroom'
      have hC' : Cells (w.setCells b (base + off * t.sz + len * t.sz) (ys.flatMap t.cells)) b c' := ⟨e', fr, k1, fun j hj => hfr j (by omega)⟩
      obtain ⟨w1, w2⟩ := write_obj t1 (k := n) (b := b) (base := base + off * t.sz) (o := .arr t ((ws.drop off).take len ++ ys)) (by rw [addT_one_self]; simp) (by simp [putPhi]) (Cells.lt ⟨e', fr, hb', hfr⟩) k4 k5 k6 k7 k8 (by unfold sizeAt; rw [k1, hb']; exact k2) fun T' g => by
        refine .inr ⟨b, base + off * t.sz, c', by simp [putPhi], hC', fun i v hv => ?_⟩
        rw [List.flatMap_append] at hv
        have hfl2 := flat_len t ((ws.drop off).take len)
        rw [hl] at hfl2
        rw [k3]
        by_cases hi : i < len * t.sz
        · rw [List.getElem?_append_left (by omega)] at hv
          rw [if_neg (by omega), Nat.add_assoc]
          exact hcells _ _ (flat_part t ws off len i v hv)
        · rw [List.getElem?_append_right (by omega), hfl2] at hv
          have := (List.getElem?_eq_some_iff.1 hv).1
          rw [if_pos ⟨by omega, by omega⟩, show base + off * t.sz + i - (base + off * t.sz + len * t.sz) = i - len * t.sz by omega]
          exact hv
      rw [upd_add] at w1 w2
      refine ⟨.slice (some ⟨b, base + off * t.sz, none⟩) (len + ys.length) cap, w.setCells b (base + off * t.sz + len * t.sz) (ys.flatMap t.cells), putPhi φ n (some (b, base + off * t.sz)), ?_, ?_, w1, t2.trans w2, ?_, fun b' _ hU => k4 b' (by rintro rfl; exact hU k base rfl (by rw [hk]; simp) hφ)⟩
      · rw [hrun]
        simp only [add_addr]
        rw [run_storeCells_cells b _ (ys.flatMap t.cells) 0 w]
        · simp
        · intro j hj
          have : base + off * t.sz + len * t.sz + j < c.size := by omega
          simp [World.cell?, hb', this]
        · intro j hj
          have h1 : base + off * t.sz + len * t.sz + j < c.size := by omega
          have h2 := hfr _ h1
          simp only [World.frozen?, hb', Nat.add_zero]
          simp only [Bool.and_eq_false_imp, decide_eq_true_eq, decide_eq_false_iff_not]
          intro h; omega
        · intro v hv
          simp only [List.mem_flatMap] at hv
          obtain ⟨y, -, hv⟩ := hv
          exact cells_one t y v hv
      · refine ⟨_, cap, rfl, by omega, fun h => by simp at h, fun ad h => by simp at h; rw [← h], fun _ => ⟨b, base + off * t.sz, by simp [putPhi], by simp, ?_⟩⟩
        have hsz' : sizeAt (w.setCells b (base + off * t.sz + len * t.sz) (ys.flatMap t.cells)) b = sizeAt w b := by unfold sizeAt; rw [k1, hb']; exact k2
        rw [hsz']
        refine Nat.le_trans ?_ hsize
        rw [Nat.zero_add, Nat.add_mul]; omega
      · intro j hj
        by_cases h : j = n
        · exact .inr ⟨by omega, by omega⟩
        · left; simpa [putPhi, h] using hj
  · rw [hl] at hgrow hnc hrest hrun
    obtain ⟨r1, r2, r3, r4⟩ := new_row hti hrel (e := e) (t := t) (zs := (ws.drop off).take len ++ ys) (rest := rest.toList) (k := some k) hn hTn
    refine ⟨_, _, _, hrun, ?_, r1, r2, r3, fun b hb _ => r4 b hb⟩
    refine ⟨_, nc, rfl, hnc, fun h => by simp at h, fun ad h => by simp at h; rw [← h], fun _ => ⟨w.heap.size, 0, by simp [putPhi], by simp, ?_⟩⟩
    unfold sizeAt
    simp only [Array.getElem?_push_size]
    simp only [List.size_toArray, List.length_append, flat_len, hl, Array.length_toList, hrest, Nat.zero_add]
    rw [← Nat.add_mul]
    exact Nat.mul_le_mul_right _ (by omega)
end
end Go.Proofs.Ytjdpppbegjnpaaa
