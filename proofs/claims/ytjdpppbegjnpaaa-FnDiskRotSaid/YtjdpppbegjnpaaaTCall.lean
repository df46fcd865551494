/- Calls: a callee's contract, told of the caller's objects. -/
import Derived.Test.YtjdpppbegjnpaaaTOps12
set_option linter.unusedSimpArgs false
set_option linter.unusedVariables false
set_option linter.unusedSectionVars false
namespace Go.Proofs.Ytjdpppbegjnpaaa
open Go.RowKit

def tabOf (os : List Obj) : Tab := fun k => os[k]?
def Post (φ : Phi) (T : Tab) (w : World) (n : Nat) (s : St) (e : Ending) (w' : World) : Prop :=
  ∃ r φ', e = .returned r ∧ VR φ' (newT T n s) w' s.v r ∧ Rel φ' (newT T n s) w' ∧ Ge φ T w φ' (newT T n s) w' ∧ Dom φ φ' n s.news.length ∧ Kept φ T (fun k => ∃ o, (k, o) ∈ s.upd) w w'
/-- The contract holds of the function. -/
def Sound (P : Program) (f : FuncId) (ct : Ct) : Prop :=
  ∀ args os, (ct.spec args os).pre → ∀ φ w rargs, Rel φ (tabOf os) w → VRs φ (tabOf os) w args rargs → (∀ k, os.length ≤ k → φ k = none) →
    Calls P f rargs.toArray w (Post φ (tabOf os) w os.length (ct.spec args os))

theorem idxOf_some : ∀ {π : List Nat} {k j : Nat}, idxOf π k = some j → π[j]? = some k
  | [], k, j, h => by simp [idxOf] at h
  | i :: r, k, j, h => by
    unfold idxOf at h
    split at h
    · rename_i hi; cases h; simpa using hi
    · simp only [Option.map_eq_some_iff] at h
      obtain ⟨j', h', rfl⟩ := h
      simpa using idxOf_some h'
theorem idxOf_none : ∀ {π : List Nat} {k : Nat}, idxOf π k = none → k ∉ π
  | [], k, h => by simp
  | i :: r, k, h => by
    unfold idxOf at h
    split at h
    · cases h
    · rename_i hi
      simp only [Option.map_eq_none_iff] at h
      simp only [List.mem_cons, not_or]
      exact ⟨fun e => hi e.symm, idxOf_none h⟩
theorem addNew_nodup {π : List Nat} (h : π.Nodup) (k : Nat) : (addNew π k).Nodup := by
  unfold addNew
  cases hk : idxOf π k with
  | some j => simpa using h
  | none =>
    have := idxOf_none hk
    simp only [Option.isSome_none, Bool.false_eq_true, if_false]
    rw [List.nodup_append]
    refine ⟨h, by simp, ?_⟩
    intro a ha b hb
    simp at hb; subst hb
    rintro rfl; exact this ha
theorem foldl_addNew : ∀ (l π : List Nat), π.Nodup → (l.foldl addNew π).Nodup
  | [], π, h => h
  | k :: l, π, h => foldl_addNew l _ (addNew_nodup h k)
theorem handed_nodup (rd : Nat → Option Obj) (own : Bool) (args : List TV) : (handed rd own args).Nodup :=
  foldl_addNew _ _ (foldl_addNew _ _ List.nodup_nil)

theorem mapO_get {α β : Type} {f : α → Option β} : ∀ {l : List α} {m : List β}, mapO f l = some m → m.length = l.length ∧ ∀ (i : Nat) (a : α), l[i]? = some a → ∃ b, m[i]? = some b ∧ f a = some b
  | [], m, h => by simp [mapO] at h; subst h; exact ⟨rfl, fun i a h => by simp at h⟩
  | a :: l, m, h => by
    unfold mapO at h
    split at h
    · rename_i b bs hb hbs
      cases h
      obtain ⟨h1, h2⟩ := mapO_get hbs
      refine ⟨by simp [h1], fun i x hx => ?_⟩
      cases i with
      | zero => simp at hx; subst hx; exact ⟨b, rfl, hb⟩
      | succ i => simpa using h2 i x (by simpa using hx)
    · cases h

section
variable {φ : Phi} {T : Tab} {w : World} {rd : Nat → Option Obj} {π : List Nat} {os : List Obj} {ow : Bool}

/-- The callee's frame: ours, and what it is not handed. -/
def frC (ow : Bool) (φ : Phi) (T : Tab) (π : List Nat) : Nat → Prop := fun b => φ.fr b ∨ (ow = true ∧ ∃ k base, k ∉ π ∧ T k ≠ none ∧ φ k = some (b, base))
def phiC (φ : Phi) (π : List Nat) (ow : Bool) (T : Tab) : Phi := ⟨fun j => match π[j]? with | some k => φ k | none => none, frC ow φ T π⟩

variable (hrel : Rel φ T w) (hπ : π.Nodup) (hos : mapO (viewO rd π) π = some os) (hrd : ∀ k, k ∈ π → T k = rd k)
include hrel hπ hos hrd

theorem tabC {j : Nat} (h : tabOf os j ≠ none) : ∃ k, π[j]? = some k ∧ T k ≠ none ∧ ∃ o, tabOf os j = some o ∧ viewO rd π k = some o := by
  obtain ⟨hl, hg⟩ := mapO_get hos
  have hj : j < π.length := by
    rcases Nat.lt_or_ge j os.length with h' | h'
    · omega
    · exact absurd (List.getElem?_eq_none h') h
  have hk : π[j]? = some π[j] := List.getElem?_eq_getElem hj
  obtain ⟨o, h1, h2⟩ := hg j _ hk
  refine ⟨π[j], hk, ?_, o, h1, h2⟩
  rw [hrd _ (List.getElem_mem hj)]
  intro hn
  unfold viewO at h2
  rw [hn] at h2; cases h2
theorem ownC {b : Nat} (h : Own (phiC φ π ow T) (tabOf os) b) : ∃ j k base, π[j]? = some k ∧ T k ≠ none ∧ tabOf os j ≠ none ∧ φ k = some (b, base) := by
  obtain ⟨j, base, hj, hφ⟩ := h
  obtain ⟨k, hk, hT, -⟩ := tabC hrel hπ hos hrd hj
  refine ⟨j, k, base, hk, hT, hj, ?_⟩
  simpa [phiC, hk] using hφ
theorem ownC' {b : Nat} (h : Own (phiC φ π ow T) (tabOf os) b) : Own φ T b := by
  obtain ⟨j, k, base, -, hT, -, hφ⟩ := ownC hrel hπ hos hrd h
  exact ⟨k, base, hT, hφ⟩
theorem immC {b : Nat} (h : Imm φ T w b) : Imm (phiC φ π ow T) (tabOf os) w b := ⟨h.1, fun ho => h.2.1 (ownC' hrel hπ hos hrd ho), fun hf => hf.elim h.2.2 fun ⟨_, k, base, _, hT, hφ⟩ => h.2.1 ⟨k, base, hT, hφ⟩⟩
theorem phiC_idx {k j : Nat} (h : idxOf π k = some j) : phiC φ π ow T j = φ k := by simp [phiC, idxOf_some h]

theorem viewCap_R {q q' : Nat × Nat} {v : Value} (h : viewCap π q = some q') (hv : CapR φ q v) : CapR (phiC φ π ow T) q' v := by
  obtain ⟨k, off⟩ := q
  unfold viewCap at h
  simp only [Option.map_eq_some_iff] at h
  obtain ⟨j, hj, rfl⟩ := h
  obtain ⟨b, base, hφ, hv⟩ := hv
  exact ⟨b, base, by rw [phiC_idx hrel hπ hos hrd hj]; exact hφ, hv⟩
theorem viewC_R {own : Bool} (hw : own = false → ow = false) {sh : Option ET} {c c' : TC} {v : Value} (h : viewC rd own π sh c = some c') (hc : ∀ k, k ∈ refsC true c → T k = rd k) (hv : CR φ T w c v) : CR (phiC φ π ow T) (tabOf os) w c' v := by
  unfold viewC at h
  split at h
  · simp only [Option.map_eq_some_iff] at h
    obtain ⟨j, hj, rfl⟩ := h
    obtain ⟨b, base, hφ, hv⟩ := hv
    exact ⟨b, base, by rw [phiC_idx hrel hπ hos hrd hj]; exact hφ, hv⟩
  · simp only [Option.map_eq_some_iff] at h
    obtain ⟨j, hj, rfl⟩ := h
    obtain ⟨b, base, hφ, hv⟩ := hv
    exact ⟨b, base, by rw [phiC_idx hrel hπ hos hrd hj]; exact hφ, hv⟩
  · rename_i t k off len
    split at h
    · simp only [Option.map_eq_some_iff] at h
      obtain ⟨j, hj, rfl⟩ := h
      obtain ⟨a, cap, h1, h2, h3, h4, h5⟩ := hv
      exact ⟨a, cap, h1, h2, h3, h4, fun hc => by rw [phiC_idx hrel hπ hos hrd hj]; exact h5 hc⟩
    · rename_i hown
      split at h
      · rename_i hidx
        simp only [Option.map_eq_some_iff] at h
        obtain ⟨xs, hxs, rfl⟩ := h
        obtain ⟨a, cap, h1, h2, h3, h4, h5⟩ := content_at hrel hc hv hxs
        refine ⟨a, cap, h1, h2, h3, h4, fun hne => ?_⟩
        obtain ⟨b, o, hab, hcs⟩ := h5 hne
        refine ⟨b, o, hab, ?_, hcs⟩
        subst h1
        obtain ⟨a', cap', he, k2, k3, k4, k5⟩ := hv
        cases he
        have hcap : cap ≠ 0 := by
          intro h0
          have : xs.length = 0 := by omega
          exact hne (List.length_eq_zero_iff.1 this)
        obtain ⟨b', base, hφ, hab', hsz⟩ := k5 hcap
        rw [hab] at hab'; cases hab'
        have hTk : T k ≠ none := by
          rw [hc k (by simp [refsC])]
          intro hn
          simp [content, hn] at hxs
        refine ⟨?_, fun ho => ?_, fun hf => ?_⟩
        · exact Own.lt hrel ⟨k, base, hTk, hφ⟩
        · obtain ⟨j, k', base', hj, hT', -, hφ'⟩ := ownC hrel hπ hos hrd ho
          have := hrel.inj k' k b base' base hT' hTk hφ' hφ
          subst this
          exact idxOf_none hidx (List.mem_of_getElem? hj)
        · rcases hf with hf | ⟨hf, -⟩
          · exact (hrel.frd b hf).2 ⟨k, base, hTk, hφ⟩
          · rw [hw (by simpa using hown)] at hf; cases hf
      · cases h
  · rename_i f cs
    simp only [Option.map_eq_some_iff] at h
    obtain ⟨cs', hcs, rfl⟩ := h
    obtain ⟨vs, hv, ha⟩ := hv
    refine ⟨vs, hv, ?_⟩
    obtain ⟨hl, hg⟩ := mapO_get hcs
    refine All2.of_get (by rw [hl]; exact ha.length) fun i q' b hq' hb => ?_
    have hi : i < cs.length := by rw [← hl]; exact (List.getElem?_eq_some_iff.1 hq').1
    obtain ⟨q'', h1, h2⟩ := hg i _ (List.getElem?_eq_getElem hi)
    rw [hq'] at h1; cases h1
    obtain ⟨b', h3, h4⟩ := ha.get i _ (List.getElem?_eq_getElem hi)
    rw [hb] at h3; cases h3
    exact viewCap_R hrel hπ hos hrd h2 h4
  · split at h
    · cases h
      cases hv
      exact ⟨none, 0, rfl, Nat.le_refl _, fun _ => rfl, fun _ h => by simp at h, fun h => absurd rfl h⟩
    · cases h; exact hv
  · cases h
    cases c with
    | val u => exact hv
    | ptr k off => rename_i h1 _ _ _ _; exact absurd rfl (h1 _ _)
    | eptr k sz i j => rename_i _ h1 _ _ _; exact absurd rfl (h1 _ _ _ _)
    | osl t k off len => rename_i _ _ h1 _ _; exact absurd rfl (h1 _ _ _ _)
    | isl t xs =>
      obtain ⟨a, cap, h1, h2, h3, h4, h5⟩ := hv
      exact ⟨a, cap, h1, h2, h3, h4, fun hne => by obtain ⟨b, o, hab, him, hcs⟩ := h5 hne; exact ⟨b, o, hab, immC hrel hπ hos hrd him, hcs⟩⟩
    | ip cs off =>
      obtain ⟨b, o, h1, him, hcs⟩ := hv
      exact ⟨b, o, h1, immC hrel hπ hos hrd him, hcs⟩
    | fn f cs => rename_i _ _ _ h1 _; exact absurd rfl (h1 _ _)
    | ifc => exact hv
    | nb p q => exact hv
    | any => trivial
theorem viewCs_R {own : Bool} (hw : own = false → ow = false) : ∀ {sh : List (Option ET)} {cs cs' : List TC} {vs : List Value}, viewCs rd own π sh cs = some cs' → (∀ c ∈ cs, ∀ k, k ∈ refsC true c → T k = rd k) → All2 (CR φ T w) cs vs → All2 (CR (phiC φ π ow T) (tabOf os) w) cs' vs
  | _, [], cs', vs, h, _, ha => by
    simp [viewCs] at h; subst h
    match vs, ha with
    | [], _ => trivial
  | [], c :: cs, cs', v :: vs, h, hc, ha => by
    unfold viewCs at h
    split at h
    · rename_i d ds hd hds
      cases h
      exact ⟨viewC_R hrel hπ hos hrd hw hd (hc c (by simp)) ha.1, viewCs_R hw hds (fun c hm => hc c (by simp [hm])) ha.2⟩
    · cases h
  | s :: ss, c :: cs, cs', v :: vs, h, hc, ha => by
    unfold viewCs at h
    split at h
    · rename_i d ds hd hds
      cases h
      exact ⟨viewC_R hrel hπ hos hrd hw hd (hc c (by simp)) ha.1, viewCs_R hw hds (fun c hm => hc c (by simp [hm])) ha.2⟩
    · cases h
  | [], _ :: _, _, [], _, _, ha => ha.elim
  | _ :: _, _ :: _, _, [], _, _, ha => ha.elim
theorem viewV_R {own : Bool} (hw : own = false → ow = false) {sh : List (Option ET)} {x x' : TV} {v : Value} (h : viewV rd own π sh x = some x') (hc : ∀ k, k ∈ refsV true x → T k = rd k) (hv : VR φ T w x v) : VR (phiC φ π ow T) (tabOf os) w x' v := by
  unfold viewV at h
  split at h
  · simp only [Option.map_eq_some_iff] at h
    obtain ⟨c', hc', rfl⟩ := h
    simp only [VR] at hv ⊢
    exact viewC_R hrel hπ hos hrd hw hc' (fun k hk => hc k (by simpa [refsV] using hk)) hv
  · simp only [Option.map_eq_some_iff] at h
    obtain ⟨cs', hcs', rfl⟩ := h
    simp only [VR] at hv ⊢
    obtain ⟨vs, rfl, ha⟩ := hv
    exact ⟨vs, rfl, viewCs_R hrel hπ hos hrd hw hcs' (fun c hm k hk => hc k (by simp only [refsV, List.mem_flatMap]; exact ⟨c, hm, hk⟩)) ha⟩
  · cases h
theorem viewVs_R {own : Bool} (hw : own = false → ow = false) : ∀ {sh : List (List (Option ET))} {xs xs' : List TV} {vs : List Value}, viewVs rd own π sh xs = some xs' → (∀ x ∈ xs, ∀ k, k ∈ refsV true x → T k = rd k) → VRs φ T w xs vs → VRs (phiC φ π ow T) (tabOf os) w xs' vs
  | _, [], xs', vs, h, _, ha => by
    simp [viewVs] at h; subst h
    match vs, ha with
    | [], _ => simp [VRs]
    | _ :: _, ha => simp [VRs] at ha
  | [], x :: xs, xs', v :: vs, h, hc, ha => by
    unfold viewVs at h
    split at h
    · rename_i d ds hd hds
      cases h
      simp only [VRs] at ha ⊢
      exact ⟨viewV_R hrel hπ hos hrd hw hd (hc x (by simp)) ha.1, viewVs_R hw hds (fun c hm => hc c (by simp [hm])) ha.2⟩
    · cases h
  | s :: ss, x :: xs, xs', v :: vs, h, hc, ha => by
    unfold viewVs at h
    split at h
    · rename_i d ds hd hds
      cases h
      simp only [VRs] at ha ⊢
      exact ⟨viewV_R hrel hπ hos hrd hw hd (hc x (by simp)) ha.1, viewVs_R hw hds (fun c hm => hc c (by simp [hm])) ha.2⟩
    · cases h
  | [], _ :: _, _, [], _, _, ha => by simp [VRs] at ha
  | _ :: _, _ :: _, _, [], _, _, ha => by simp [VRs] at ha

theorem viewC_R' {sh : Option ET} {c c' : TC} {v : Value} (h : viewC rd true π sh c = some c') (hv : CR φ T w c v) : CR (phiC φ π ow T) (tabOf os) w c' v := by
  cases c with
  | osl t k off len =>
    simp only [viewC, if_true, Option.map_eq_some_iff] at h
    obtain ⟨j, hj, rfl⟩ := h
    obtain ⟨a, cap, h1, h2, h3, h4, h5⟩ := hv
    exact ⟨a, cap, h1, h2, h3, h4, fun hc => by rw [phiC_idx hrel hπ hos hrd hj]; exact h5 hc⟩
  | ptr k off =>
    simp only [viewC, Option.map_eq_some_iff] at h
    obtain ⟨j, hj, rfl⟩ := h
    obtain ⟨b, base, hφ, hv⟩ := hv
    exact ⟨b, base, by rw [phiC_idx hrel hπ hos hrd hj]; exact hφ, hv⟩
  | eptr k sz i j =>
    simp only [viewC, Option.map_eq_some_iff] at h
    obtain ⟨j, hj, rfl⟩ := h
    obtain ⟨b, base, hφ, hv⟩ := hv
    exact ⟨b, base, by rw [phiC_idx hrel hπ hos hrd hj]; exact hφ, hv⟩
  | fn f cs =>
    refine viewC_R (rd := rd) hrel hπ hos hrd (own := true) (fun h => by cases h) (sh := sh) (c := .fn f cs) h ?_ hv
    intro k hk
    simp only [refsC, List.mem_map] at hk
    obtain ⟨q, hq, rfl⟩ := hk
    simp only [viewC, Option.map_eq_some_iff] at h
    obtain ⟨cs', hcs, -⟩ := h
    obtain ⟨hl, hg⟩ := mapO_get hcs
    obtain ⟨i, hi, rfl⟩ := List.getElem_of_mem hq
    obtain ⟨q', -, h2⟩ := hg i _ (List.getElem?_eq_getElem hi)
    unfold viewCap at h2
    simp only [Option.map_eq_some_iff] at h2
    obtain ⟨j, hj, -⟩ := h2
    exact hrd _ (List.mem_of_getElem? (idxOf_some hj))
  | val u => exact viewC_R hrel hπ hos hrd (own := true) (fun h => by cases h) h (by simp [refsC]) hv
  | isl t xs => exact viewC_R hrel hπ hos hrd (own := true) (fun h => by cases h) h (by simp [refsC]) hv
  | ip cs off => exact viewC_R hrel hπ hos hrd (own := true) (fun h => by cases h) h (by simp [refsC]) hv
  | ifc => exact viewC_R hrel hπ hos hrd (own := true) (fun h => by cases h) h (by simp [refsC]) hv
  | nb p q => exact viewC_R hrel hπ hos hrd (own := true) (fun h => by cases h) h (by simp [refsC]) hv
  | any => exact viewC_R hrel hπ hos hrd (own := true) (fun h => by cases h) h (by simp [refsC]) hv
omit hrel hπ hos hrd in
theorem viewCs_get : ∀ {cs cs' : List TC}, viewCs rd true π [] cs = some cs' → ∀ (i : Nat) (tc : TC), cs'[i]? = some tc → ∃ tc0, cs[i]? = some tc0 ∧ viewC rd true π none tc0 = some tc
  | [], cs', h, i, tc, hi => by simp [viewCs] at h; subst h; simp at hi
  | c :: cs, cs', h, i, tc, hi => by
    unfold viewCs at h
    split at h
    · rename_i d ds hd hds
      cases h
      cases i with
      | zero => simp at hi; subst hi; exact ⟨c, rfl, hd⟩
      | succ i => simpa using viewCs_get hds i tc (by simpa using hi)
    · cases h

theorem relC : Rel (phiC φ π ow T) (tabOf os) w := by
  refine ⟨fun j o hj => ?_, fun i j b base base' hi hj hφi hφj => ?_, fun b hb => ?_⟩
  · obtain ⟨k, hk, hT, o', h1, h2⟩ := tabC hrel hπ hos hrd (by rw [hj]; simp)
    rw [hj] at h1; cases h1
    have hφ : phiC φ π ow T j = φ k := by simp [phiC, hk]
    have hTk := hrd k (List.mem_of_getElem? hk)
    unfold viewO at h2
    split at h2
    · rename_i cs hcs
      simp only [Option.map_eq_some_iff] at h2
      obtain ⟨cs', hcs', rfl⟩ := h2
      obtain ⟨b, base, c, hφk, hC, hcells⟩ := hrel.obj k _ (hTk.trans hcs)
      refine ⟨b, base, c, by rw [hφ]; exact hφk, hC, fun i tc hi => ?_⟩
      obtain ⟨tc0, h3, h4⟩ := viewCs_get hcs' i tc hi
      obtain ⟨v, hv, hr⟩ := hcells i tc0 h3
      exact ⟨v, hv, viewC_R' hrel hπ hos hrd h4 hr⟩
    · rename_i t xs hcs
      cases h2
      rcases hrel.obj k _ (hTk.trans hcs) with ⟨h3, h4⟩ | ⟨b, base, c, hφk, hC, hcells⟩
      · exact .inl ⟨by rw [hφ]; exact h3, h4⟩
      · exact .inr ⟨b, base, c, by rw [hφ]; exact hφk, hC, hcells⟩
    · cases h2
  · obtain ⟨k, hk, hT, -⟩ := tabC hrel hπ hos hrd hi
    obtain ⟨k', hk', hT', -⟩ := tabC hrel hπ hos hrd hj
    have h1 : φ k = some (b, base) := by simpa [phiC, hk] using hφi
    have h2 : φ k' = some (b, base') := by simpa [phiC, hk'] using hφj
    have := hrel.inj k k' b base base' hT hT' h1 h2
    subst this
    exact (List.getElem?_inj (List.getElem?_eq_some_iff.1 hk).1 hπ).1 (hk.trans hk'.symm)
  · rcases hb with hb | ⟨-, k, base, hkπ, hTk, hφ⟩
    · exact ⟨(hrel.frd b hb).1, fun ho => (hrel.frd b hb).2 (ownC' hrel hπ hos hrd ho)⟩
    · refine ⟨Own.lt hrel ⟨k, base, hTk, hφ⟩, fun ho => ?_⟩
      obtain ⟨j, k', base', hj, hT', -, hφ'⟩ := ownC hrel hπ hos hrd ho
      have := hrel.inj k' k b base' base hT' hTk hφ' hφ
      subst this
      exact hkπ (List.mem_of_getElem? hj)
end
end Go.Proofs.Ytjdpppbegjnpaaa
