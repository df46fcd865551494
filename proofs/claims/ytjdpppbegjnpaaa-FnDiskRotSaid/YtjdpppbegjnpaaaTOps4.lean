/- Stores. -/
import Derived.Test.YtjdpppbegjnpaaaTOps3
set_option linter.unusedSimpArgs false
set_option linter.unusedVariables false
set_option linter.unusedSectionVars false
namespace Go.Proofs.Ytjdpppbegjnpaaa
open Go.RowKit

/-- Cells that are written one behind the other. -/
theorem setCells_heap (b : Nat) : ∀ (vs : List Value) (o : Nat) (w : World) (c : Array Value) (e : TypeId) (fr : Nat × Nat), w.heap[b]? = some (.cells c e fr) → o + vs.length ≤ c.size →
    ∃ c', (w.setCells b o vs).heap[b]? = some (.cells c' e fr) ∧ c'.size = c.size ∧ (∀ i, c'[i]? = if o ≤ i ∧ i < o + vs.length then vs[i - o]? else c[i]?) ∧
      (∀ b', b' ≠ b → (w.setCells b o vs).heap[b']? = w.heap[b']?) ∧ (w.setCells b o vs).heap.size = w.heap.size ∧ (w.setCells b o vs).os = w.os ∧ (w.setCells b o vs).tape = w.tape ∧ (w.setCells b o vs).output = w.output
  | [], o, w, c, e, fr, h, hl => ⟨c, h, rfl, fun i => by rw [if_neg (by simp <;> omega)], fun _ _ => rfl, rfl, rfl, rfl, rfl⟩
  | v :: vs, o, w, c, e, fr, h, hl => by
    have hl' : o + 1 + vs.length ≤ c.size := by simp at hl; omega
    have h1 : (w.setCell ⟨b, o, none⟩ v).heap[b]? = some (.cells (c.setIfInBounds o v) e fr) := by
      simp only [World.setCell, Array.getElem?_modify, if_true, h, Option.map_some]
      rfl
    obtain ⟨c', k1, k2, k3, k4, k5, k6, k7, k8⟩ := setCells_heap b vs (o + 1) (w.setCell ⟨b, o, none⟩ v) _ e fr h1 (by simpa using hl')
    refine ⟨c', k1, by simpa using k2, fun i => ?_, fun b' hb' => ?_, ?_, k6, k7, k8⟩
    · rw [k3 i]
      by_cases hi : o + 1 ≤ i ∧ i < o + 1 + vs.length
      · rw [if_pos hi, if_pos ⟨by omega, by simp; omega⟩, show i - o = (i - (o + 1)) + 1 by omega]; simp
      · rw [if_neg hi]
        by_cases hio : i = o
        · subst hio
          rw [if_pos ⟨Nat.le_refl _, by simp⟩]
          simp [Array.getElem?_setIfInBounds, show i < c.size by simp at hl; omega]
        · rw [if_neg (by simp <;> omega), Array.getElem?_setIfInBounds, if_neg (by omega)]
    · exact (k4 b' hb').trans (by simp only [World.setCell, Array.getElem?_modify]; rw [if_neg (by omega)])
    · exact k5.trans (by simp [World.setCell])

theorem layV_get : ∀ (vs cs : List Value) (off i : Nat), off + vs.length ≤ cs.length → (layV off vs cs)[i]? = if off ≤ i ∧ i < off + vs.length then vs[i - off]? else cs[i]?
  | [], cs, off, i, _ => by rw [layV, if_neg (by simp <;> omega)]
  | v :: vs, cs, off, i, h => by
    simp only [List.length_cons] at h ⊢
    rw [layV, layV_get vs _ _ _ (by simp; omega)]
    by_cases hi : off + 1 ≤ i ∧ i < off + 1 + vs.length
    · rw [if_pos hi, if_pos ⟨by omega, by omega⟩, show i - off = (i - (off + 1)) + 1 by omega]; simp
    · rw [if_neg hi]
      by_cases hio : i = off
      · subst hio
        rw [if_pos ⟨Nat.le_refl _, by omega⟩]
        simp [List.getElem?_set, show i < cs.length by omega]
      · rw [if_neg (by omega), List.getElem?_set, if_neg (by omega)]
theorem layV_len : ∀ (vs cs : List Value) (off : Nat), (layV off vs cs).length = cs.length
  | [], cs, off => rfl
  | v :: vs, cs, off => by rw [layV, layV_len vs]; simp
theorem lay_get : ∀ (vs cs : List TC) (off i : Nat), off + vs.length ≤ cs.length → (lay off vs cs)[i]? = if off ≤ i ∧ i < off + vs.length then vs[i - off]? else cs[i]?
  | [], cs, off, i, _ => by rw [lay, if_neg (by simp <;> omega)]
  | v :: vs, cs, off, i, h => by
    simp only [List.length_cons] at h ⊢
    rw [lay, lay_get vs _ _ _ (by simp; omega)]
    by_cases hi : off + 1 ≤ i ∧ i < off + 1 + vs.length
    · rw [if_pos hi, if_pos ⟨by omega, by omega⟩, show i - off = (i - (off + 1)) + 1 by omega]; simp
    · rw [if_neg hi]
      by_cases hio : i = off
      · subst hio
        rw [if_pos ⟨Nat.le_refl _, by omega⟩]
        simp [List.getElem?_set, show i < cs.length by omega]
      · rw [if_neg (by omega), List.getElem?_set, if_neg (by omega)]
theorem lay_len : ∀ (vs cs : List TC) (off : Nat), (lay off vs cs).length = cs.length
  | [], cs, off => rfl
  | v :: vs, cs, off => by rw [lay, lay_len vs]; simp

theorem plain_eq : ∀ {cs : List TC} {vs : List Value}, plain cs = some vs → cs = vs.map .val
  | [], vs, h => by simp [plain] at h; subst h; rfl
  | c :: cs, vs, h => by
    unfold plain at h
    split at h
    · rename_i v us hv hu
      cases h
      have : c = .val v := by cases c <;> simp_all [tcv]
      rw [this, plain_eq hu]; rfl
    · exact absurd h (by simp)

/-- One own object's block is written: the table's row turns, all else stays. -/
theorem write_obj {φ : Phi} {T : Tab} {w w' : World} {k b base : Nat} {o : Obj} (hrel : Rel φ T w) (hk : T k ≠ none) (hφ : φ k = some (b, base))
    (hb : b < w.heap.size) (hother : ∀ b', b' ≠ b → w'.heap[b']? = w.heap[b']?) (hsize : w'.heap.size = w.heap.size) (hos : w'.os = w.os) (htape : w'.tape = w.tape) (hout : w'.output = w.output)
    (hsz : sizeAt w' b = sizeAt w b)
    (ho : ∀ T', Ge φ T w φ T' w' → ObjR φ T' w' k o) :
    Rel φ (updT T [(k, some o)]) w' ∧ Ge φ T w φ (updT T [(k, some o)]) w' := by
  have hT' : ∀ j, updT T [(k, some o)] j = if j = k then some o else T j := by
    intro j; simp only [updT]; by_cases h : j = k <;> simp [h, hk]
  have hge : Ge φ T w φ (updT T [(k, some o)]) w' := {
    os := hos, tape := htape, output := hout, size := by omega
    phi := fun _ _ h => h
    block := fun b' hb' hn => hother b' (by rintro rfl; exact hn ⟨k, base, hk, hφ⟩)
    own := by
      rintro b' hb' ⟨j, c, hj, hφj⟩
      refine ⟨j, c, ?_, hφj⟩
      rw [hT'] at hj
      by_cases h : j = k
      · subst h; exact hk
      · rwa [if_neg h] at hj
    sizes := fun b' hb' => by
      by_cases h : b' = b
      · subst h; exact hsz
      · unfold sizeAt; rw [hother b' h]
    fr := fun _ => Iff.rfl }
  refine ⟨⟨?_, ?_, Ge.frd hrel hge⟩, hge⟩
  · intro j o' hj
    rw [hT'] at hj
    by_cases h : j = k
    · subst h; rw [if_pos rfl] at hj; cases hj; exact ho _ hge
    · rw [if_neg h] at hj
      refine (hrel.obj j o' hj).mono hge (fun b' base' hφj => hother b' ?_) fun h => h
      rintro rfl
      exact h (hrel.inj j k _ _ _ (by rw [hj]; simp) hk hφj hφ)
  · intro i j b' base' base'' hi hj hφi hφj
    have hne : ∀ i, updT T [(k, some o)] i ≠ none → T i ≠ none := by
      intro i hi
      rw [hT'] at hi
      by_cases h : i = k
      · subst h; exact hk
      · rwa [if_neg h] at hi
    exact hrel.inj i j b' base' base'' (hne i hi) (hne j hj) hφi hφj

section
variable {P : Program} {ti : TypeId → TI} (hti : ∀ t, ((ti t).k ≠ .other ∨ 0 < (ti t).sz) → TIok P t (ti t))
variable {φ : Phi} {T : Tab} {w : World} {n : Nat} {rd : Nat → Option Obj} (hrel : Rel φ T w)
include hti hrel

def RanU (P : Program) (φ : Phi) (T : Tab) (w : World) (n : Nat) (s : St) (m : Sem Unit) : Prop :=
  ∃ w' φ', m.run P w = .ok () w' ∧ Rel φ' (newT T n s) w' ∧ Ge φ T w φ' (newT T n s) w' ∧ Dom φ φ' n s.news.length ∧ Kept φ T (fun k => ∃ o, (k, o) ∈ s.upd) w w'

theorem run_storeVar {t : TypeId} {x : TI} (ok : TIok P t x) {b o : Nat} {v : Value} {c : Array Value} (hC : Cells w b c) (hs : v.cells.size = x.sz) (ho : o + v.cells.size ≤ c.size) (h1 : ∀ u ∈ v.cells.toList, u.oneCell' = true) :
    (storeVar t ⟨b, o, none⟩ v).run P w = .ok () (w.setCells b o v.cells.toList) := by
  obtain ⟨e, fr, hb, hfr⟩ := hC
  simp only [storeVar, Sem.run_bind, ok.run_sizeOf, Result.andThen_ok]
  rw [if_neg (by omega)]
  rw [run_storeCells_cells b o v.cells.toList 0 w ?_ ?_ h1]
  · simp
  · intro j hj
    simp only [World.cell?, hb]
    have : o + 0 + j < c.size := by simp at hj; omega
    simp only [Nat.add_zero] at this ⊢
    simp [this]
  · intro j hj
    have : o + 0 + j < c.size := by simp at hj; omega
    have := hfr _ this
    simp only [World.frozen?, hb]
    simp only [Bool.and_eq_false_imp, decide_eq_true_eq, decide_eq_false_iff_not]
    intro h; omega

theorem store_ran {t : TypeId} {a x : TV} {u v : Value} (hrd : ∀ k, k ∈ refsV true a → T k = rd k) (ha : VR φ T w a u) (hx : VR φ T w x v) (hp : (storev ti rd t a x).pre) :
    RanU P φ T w n (storev ti rd t a x) (Instr.storeAt t u v) := by
  unfold storev at hp ⊢
  split at hp
  · rename_i k off
    have hk := hrd k (by simp [refsV, refsC])
    simp only [VR, CR, CapR] at ha
    obtain ⟨b, base, hφ, rfl⟩ := ha
    split at hp
    · rename_i cs hcs
      try simp only [hcs]
      obtain ⟨h1, h2, h3, hpos⟩ := hp
      have ok := hti t (.inr hpos)
      have hTk := hk.trans hcs
      obtain ⟨b', base', c, hφ', hC, hcells⟩ := hrel.obj k _ hTk
      rw [hφ] at hφ'; cases hφ'
      have hne : x.cells ≠ [] := by intro h; rw [h] at h2; simp at h2; omega
      have hvs := (hx.cells' hne (isAgg_or hne h3)).1
      have hlen : v.cells.toList.length = x.cells.length := hvs.length.symm
      have hroom : base + off + v.cells.size ≤ c.size := by
        obtain ⟨y, hy, -⟩ := hcells (off + (x.cells.length - 1)) _ (List.getElem?_eq_getElem (by omega))
        have := (Array.getElem?_eq_some_iff.1 hy).1
        simp at hlen; omega
      have hone : ∀ y ∈ v.cells.toList, y.oneCell' = true := by
        intro y hy
        obtain ⟨i, hi, rfl⟩ := List.getElem_of_mem hy
        obtain ⟨z, hz, hr⟩ := hvs.get i x.cells[i] (List.getElem?_eq_getElem (by omega))
        rw [List.getElem?_eq_getElem hi] at hz; cases hz
        exact storable_one hr (allStorable_mem h3 _ (List.getElem_mem _))
      have hrun := run_storeVar hti hrel ok hC (o := base + off) (v := v) (by simp at hlen; omega) hroom hone
      obtain ⟨e, fr, hb, hfr⟩ := hC
      obtain ⟨c', k1, k2, k3, k4, k5, k6, k7, k8⟩ := setCells_heap b v.cells.toList (base + off) w c e fr hb (by simpa using hroom)
      have hC' : Cells (w.setCells b (base + off) v.cells.toList) b c' := ⟨e, fr, k1, fun j hj => hfr j (by omega)⟩
      obtain ⟨r1, r2⟩ := write_obj hrel (o := .cells (lay off x.cells cs)) (by rw [hTk]; simp) hφ (Cells.lt ⟨e, fr, hb, hfr⟩) k4 k5 k6 k7 k8 (by unfold sizeAt; rw [k1, hb]; exact k2) fun T' g => by
        refine ⟨b, base, c', hφ, hC', fun i tc hi => ?_⟩
        rw [lay_get _ _ _ _ (by omega)] at hi
        rw [k3]
        split at hi
        · rename_i hin
          rw [if_pos ⟨by omega, by omega⟩, show base + i - (base + off) = i - off by omega]
          obtain ⟨z, hz, hr⟩ := hvs.get _ _ hi
          exact ⟨z, hz, hr.mono g⟩
        · rename_i hin
          rw [if_neg (by omega)]
          obtain ⟨z, hz, hr⟩ := hcells i tc hi
          exact ⟨z, hz, hr.mono g⟩
      refine ⟨w.setCells b (base + off) v.cells.toList, φ, ?_, ?_, ?_, fun k hk => .inl hk, fun b' _ hU => k4 b' (by rintro rfl; exact hU k base ⟨_, List.mem_singleton.2 rfl⟩ (by rw [hTk]; simp) hφ)⟩
      · simpa [Instr.storeAt, Instr.sureAddr] using hrun
      · simpa [newT, addT_nil] using r1
      · simpa [newT, addT_nil] using r2
    · exact hp.elim
  · rename_i k sz i j
    have hk := hrd k (by simp [refsV, refsC])
    simp only [VR, CR, CapR] at ha
    obtain ⟨b, base, hφ, rfl⟩ := ha
    split at hp
    · rename_i t' xs vs hcs hvs
      try simp only [hcs, hvs]
      obtain ⟨hi, hsz, hj, hl, h3, hcell, hpos⟩ := hp
      subst hsz
      have ok := hti t (.inr hpos)
      have hTk := hk.trans hcs
      rcases hrel.obj k _ hTk with ⟨-, hnil⟩ | ⟨b', base', c, hφ', hC, hcells⟩
      · subst hnil; simp at hi
      rw [hφ] at hφ'; cases hφ'
      have hxc := plain_eq hvs
      have hne : x.cells ≠ [] := by intro h; rw [h] at hxc; have := congrArg List.length hxc; simp at this; omega
      have hvr := (hx.cells' hne (isAgg_or hne h3)).1
      have hveq : v.cells.toList = vs := by
        have hlen := hvr.length
        rw [hxc] at hlen; simp at hlen
        apply List.ext_getElem?
        intro q
        by_cases hq : q < vs.length
        · obtain ⟨z, hz, hr⟩ := hvr.get q (.val vs[q]) (by rw [hxc]; simp [hq])
          rw [hz, List.getElem?_eq_getElem hq]; exact congrArg some hr
        · rw [List.getElem?_eq_none (by rw [Array.length_toList]; omega), List.getElem?_eq_none (by omega)]
      have hat : t'.at xs i = xs[i] := by simp [ET.at, List.getD, List.getElem?_eq_getElem hi]
      have hcl := ET.cells_len t' (t'.at xs i)
      have hroom : base + (i * t'.sz + j) + v.cells.size ≤ c.size := by
        have hlast : (xs.flatMap t'.cells)[i * t'.sz + (t'.sz - 1)]? ≠ none := by
          have hp' := t'.sz_pos
          rw [flat_get t' xs i _ hi (by omega), List.getElem?_eq_getElem (by rw [ET.cells_len]; omega)]; simp
        obtain ⟨y, hy⟩ := Option.ne_none_iff_exists'.1 hlast
        have := (Array.getElem?_eq_some_iff.1 (hcells _ _ hy)).1
        have hz : v.cells.size = vs.length := by rw [← hveq]; simp
        omega
      have hone : ∀ y ∈ v.cells.toList, y.oneCell' = true := by
        intro y hy
        obtain ⟨q, hq, rfl⟩ := List.getElem_of_mem hy
        have hlen := hvr.length
        obtain ⟨z, hz, hr⟩ := hvr.get q x.cells[q] (List.getElem?_eq_getElem (by omega))
        rw [List.getElem?_eq_getElem hq] at hz; cases hz
        exact storable_one hr (allStorable_mem h3 _ (List.getElem_mem _))
      have hrun := run_storeVar hti hrel ok hC (o := base + (i * t'.sz + j)) (v := v) (by rw [← hl, ← hveq]; simp) hroom hone
      obtain ⟨e, fr, hb, hfr⟩ := hC
      obtain ⟨c', k1, k2, k3, k4, k5, k6, k7, k8⟩ := setCells_heap b v.cells.toList (base + (i * t'.sz + j)) w c e fr hb (by simpa using hroom)
      have hC' : Cells (w.setCells b (base + (i * t'.sz + j)) v.cells.toList) b c' := ⟨e, fr, k1, fun j hj => hfr j (by omega)⟩
      obtain ⟨r1, r2⟩ := write_obj hrel (o := .arr t' (xs.set i (t'.ofCells (layV j vs (t'.cells (t'.at xs i)))))) (by rw [hTk]; simp) hφ (Cells.lt ⟨e, fr, hb, hfr⟩) k4 k5 k6 k7 k8 (by unfold sizeAt; rw [k1, hb]; exact k2) fun T' g => by
        refine .inr ⟨b, base, c', hφ, hC', fun q y hq => ?_⟩
        have hql : q < xs.length * t'.sz := by have := (List.getElem?_eq_some_iff.1 hq).1; rw [flat_len] at this; simpa using this
        have hsp := t'.sz_pos
        have hqd : q = q / t'.sz * t'.sz + q % t'.sz := by rw [Nat.mul_comm]; exact (Nat.div_add_mod q t'.sz).symm
        have hqi : q / t'.sz < xs.length := (Nat.div_lt_iff_lt_mul hsp).2 hql
        have hqm : q % t'.sz < t'.sz := Nat.mod_lt _ hsp
        have hold : ∀ y, (xs.flatMap t'.cells)[q]? = some y → c[base + q]? = some y := hcells q
        rw [k3, hveq]
        by_cases hqq : q / t'.sz = i
        · rw [hqd, flat_get t' _ _ _ (by simpa using hqi) hqm] at hq
          simp only [hqq, List.getElem_set_self] at hq
          rw [hcell, layV_get _ _ _ _ (by omega)] at hq
          have hq' : q = i * t'.sz + q % t'.sz := by rw [← hqq]; exact hqd
          have hvl : v.cells.size = vs.length := by rw [← hveq]; simp
          by_cases hin : j ≤ q % t'.sz ∧ q % t'.sz < j + vs.length
          · rw [if_pos hin] at hq
            rw [if_pos ⟨by omega, by omega⟩, show base + q - (base + (i * t'.sz + j)) = q % t'.sz - j by omega]
            exact hq
          · rw [if_neg hin] at hq
            rw [if_neg (by omega)]
            apply hold
            rw [hq', flat_get t' _ _ _ hi hqm, ← hat]; exact hq
        · rw [if_neg ?_]
          · apply hold
            rw [hqd, flat_get t' _ _ _ (by simpa using hqi) hqm] at hq
            rw [hqd, flat_get t' _ _ _ hqi hqm]
            rwa [List.getElem_set_ne (by omega)] at hq
          · intro hin
            apply hqq
            have h1 : i * t'.sz ≤ q := by omega
            have h2 : q < (i + 1) * t'.sz := by rw [Nat.succ_mul]; omega
            exact Nat.div_eq_of_lt_le h1 h2
      refine ⟨w.setCells b (base + (i * t'.sz + j)) v.cells.toList, φ, ?_, ?_, ?_, fun k hk => .inl hk, fun b' _ hU => k4 b' (by rintro rfl; exact hU k base ⟨_, List.mem_singleton.2 rfl⟩ (by rw [hTk]; simp) hφ)⟩
      · simpa [Instr.storeAt, Instr.sureAddr] using hrun
      · simpa [newT, addT_nil] using r1
      · simpa [newT, addT_nil] using r2
    · exact hp.elim
  · exact hp.elim
end
end Go.Proofs.Ytjdpppbegjnpaaa
