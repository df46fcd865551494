/- From one state of the evaluator to one that says less of the same memory: objects dropped, renumbered, slices made read-only. -/
import Derived.Test.YtjdpppbegjnpaaaTDraw
set_option linter.unusedSimpArgs false
set_option linter.unusedVariables false
set_option linter.unusedSectionVars false
namespace Go.Proofs.Ytjdpppbegjnpaaa
open Go.RowKit

def leCap (π : List (Option Nat)) : List (Nat × Nat) → List (Nat × Nat) → Prop
  | [], [] => True
  | p :: ps, q :: qs => π[q.1]? = some (some p.1) ∧ p.2 = q.2 ∧ leCap π ps qs
  | _, _ => False
def leC (rd : Nat → Option Obj) (π : List (Option Nat)) (c : TC) : TC → Prop
  | .any => True
  | .val u => c = .val u
  | .ptr j off => match c with
    | .ptr k off' => π[j]? = some (some k) ∧ off' = off
    | _ => False
  | .eptr j sz i o => match c with
    | .eptr k sz' i' o' => π[j]? = some (some k) ∧ sz' = sz ∧ i' = i ∧ o' = o
    | _ => False
  | .osl t j off len => match c with
    | .osl t' k off' len' => t' = t ∧ π[j]? = some (some k) ∧ off' = off ∧ len' = len
    | .val (.slice none 0 0) => len = 0
    | _ => False
  | .isl t xs => match c with
    | .osl t' k off len => π.contains (some k) = false ∧ content rd t (.osl t' k off len) = some xs
    | .isl t' ys => content rd t (.isl t' ys) = some xs
    | .val (.slice none 0 0) => xs = []
    | _ => False
  | .ip cs off => c = .ip cs off
  | .fn f caps => match c with
    | .fn f' caps' => f' = f ∧ leCap π caps' caps
    | _ => False
  | .ifc => c = .ifc
  | .nb p q => c = .nb p q
def leCs (rd : Nat → Option Obj) (π : List (Option Nat)) : List TC → List TC → Prop
  | [], [] => True
  | c :: cs, d :: ds => leC rd π c d ∧ leCs rd π cs ds
  | _, _ => False
mutual
def leV (rd : Nat → Option Obj) (π : List (Option Nat)) : TV → TV → Prop
  | .gd c v, d => c = true ∧ leV rd π v d
  | .one c, .one d => leC rd π c d
  | .agg cs, .agg ds => leCs rd π cs ds
  | .tup l, .tup l' => leVs rd π l l'
  | _, _ => False
def leVs (rd : Nat → Option Obj) (π : List (Option Nat)) : List TV → List TV → Prop
  | [], [] => True
  | c :: cs, d :: ds => leV rd π c d ∧ leVs rd π cs ds
  | _, _ => False
end
def leO (rd : Nat → Option Obj) (π : List (Option Nat)) (j : Nat) (o' : Obj) : Prop :=
  match π[j]? with
  | some (some k) => match rd k, o' with
    | some (.cells cs), .cells ds => leCs rd π cs ds
    | some (.arr t xs), .arr t' ys => Obj.arr t xs = Obj.arr t' ys
    | _, _ => False
  | some none => match o' with
    | .arr t ys => Obj.arr t ys = Obj.arr t []
    | _ => False
  | none => False
def leTab (rd : Nat → Option Obj) (π : List (Option Nat)) : Nat → List (Option Obj) → Prop
  | _, [] => True
  | j, none :: r => leTab rd π (j + 1) r
  | j, some o :: r => leO rd π j o ∧ leTab rd π (j + 1) r
def leSl (rd : Nat → Option Obj) (π : List (Option Nat)) (sl : List (Nat × TV)) : List (Nat × TV) → Prop
  | [] => True
  | (i, v) :: r => leV rd π (look sl i) v ∧ leSl rd π sl r
def nodupS : List (Option Nat) → Bool
  | [] => true
  | none :: r => nodupS r
  | some k :: r => !r.contains (some k) && nodupS r
def headOk : Nat → List (Option Nat) → Nat → Bool
  | _, _, 0 => true
  | j, some k :: r, m + 1 => k == j && headOk (j + 1) r m
  | _, _, _ => false
/-- σ' says no more than σ; π: which objects are kept. -/
def leS (m : Nat) (π : List (Option Nat)) (σ σ' : Sg) : Prop :=
  π.length = σ'.tab.length ∧ nodupS π = true ∧ headOk 0 π m = true ∧ leSl (rdT σ.tab) π σ.sl σ'.sl ∧ leTab (rdT σ.tab) π 0 σ'.tab ∧ σ.tch.all (fun j => σ'.tch.contains j) = true

theorem nodupS_spec : ∀ {π : List (Option Nat)}, nodupS π = true → ∀ (i j k : Nat), π[i]? = some (some k) → π[j]? = some (some k) → i = j
  | [], _, i, j, k, h, _ => by simp at h
  | none :: r, h, i, j, k, hi, hj => by
    cases i with
    | zero => simp at hi
    | succ i => cases j with
      | zero => simp at hj
      | succ j => rw [nodupS_spec (π := r) h i j k (by simpa using hi) (by simpa using hj)]
  | some q :: r, h, i, j, k, hi, hj => by
    simp only [nodupS, Bool.and_eq_true, Bool.not_eq_true'] at h
    have hno : ∀ i, r[i]? ≠ some (some q) := fun i hi => by
      have := List.mem_of_getElem? hi
      have h1 := h.1
      simp only [List.contains_eq_mem, decide_eq_false_iff_not] at h1
      exact h1 this
    cases i with
    | zero => cases j with
      | zero => rfl
      | succ j =>
        simp at hi hj; subst hi
        exact absurd hj (hno j)
    | succ i => cases j with
      | zero =>
        simp at hi hj; subst hj
        exact absurd hi (hno i)
      | succ j => rw [nodupS_spec (π := r) h.2 i j k (by simpa using hi) (by simpa using hj)]
theorem headOk_spec : ∀ {m j : Nat} {π : List (Option Nat)}, headOk j π m = true → ∀ i, i < m → π[i]? = some (some (j + i))
  | 0, j, π, h, i, hi => by omega
  | m + 1, j, [], h, i, hi => by simp [headOk] at h
  | m + 1, j, none :: r, h, i, hi => by simp [headOk] at h
  | m + 1, j, some k :: r, h, i, hi => by
    simp only [headOk, Bool.and_eq_true, beq_iff_eq] at h
    cases i with
    | zero => simp [h.1]
    | succ i =>
      have := headOk_spec h.2 i (by omega)
      simp only [List.getElem?_cons_succ, this]
      congr 2; omega
theorem leTab_spec {rd : Nat → Option Obj} {π : List (Option Nat)} : ∀ {tab : List (Option Obj)} {j : Nat}, leTab rd π j tab → ∀ i o, tab[i]? = some (some o) → leO rd π (j + i) o
  | [], j, h, i, o, hi => by simp at hi
  | none :: r, j, h, i, o, hi => by
    cases i with
    | zero => simp at hi
    | succ i =>
      have := leTab_spec (j := j + 1) h i o (by simpa using hi)
      rwa [show j + 1 + i = j + (i + 1) by omega] at this
  | some o' :: r, j, h, i, o, hi => by
    cases i with
    | zero => simp at hi; subst hi; exact h.1
    | succ i =>
      have := leTab_spec (j := j + 1) h.2 i o (by simpa using hi)
      rwa [show j + 1 + i = j + (i + 1) by omega] at this

section
variable {φ : Phi} {T : Tab} {w : World} {π : List (Option Nat)} {T' : Tab}
def phiW (φ : Phi) (π : List (Option Nat)) : Phi := ⟨fun j => match π[j]? with | some (some k) => φ k | _ => none, φ.fr⟩
theorem phiW_at {j k : Nat} (h : π[j]? = some (some k)) : phiW φ π j = φ k := by simp [phiW, h]
variable (hrel : Rel φ T w) (hπ : nodupS π = true) (hT : ∀ j o, T' j = some o → leO T π j o)
include hrel hπ hT

theorem leO_src {j : Nat} {b base : Nat} (h : T' j ≠ none) (hφ : phiW φ π j = some (b, base)) : ∃ k, π[j]? = some (some k) ∧ T k ≠ none ∧ φ k = some (b, base) := by
  cases ho : T' j with
  | none => exact absurd ho h
  | some o =>
    have := hT j o ho
    unfold leO at this
    unfold phiW at hφ
    dsimp only at hφ
    split at hφ
    · rename_i k hk
      refine ⟨k, hk, ?_, hφ⟩
      rw [hk] at this
      simp only at this
      intro hn
      rw [hn] at this
      exact this
    · cases hφ
theorem ownW {b : Nat} (h : Own (phiW φ π) T' b) : ∃ (j k base : Nat), π[j]? = some (some k) ∧ T k ≠ none ∧ φ k = some (b, base) := by
  obtain ⟨j, base, hj, hφ⟩ := h
  obtain ⟨k, h1, h2, h3⟩ := leO_src hrel hπ hT hj hφ
  exact ⟨j, k, base, h1, h2, h3⟩
theorem ownW' {b : Nat} (h : Own (phiW φ π) T' b) : Own φ T b := by
  obtain ⟨j, k, base, -, h2, h3⟩ := ownW hrel hπ hT h
  exact ⟨k, base, h2, h3⟩
theorem immW {b : Nat} (h : Imm φ T w b) : Imm (phiW φ π) T' w b := ⟨h.1, fun ho => h.2.1 (ownW' hrel hπ hT ho), h.2.2⟩
theorem leCap_R : ∀ {ps qs : List (Nat × Nat)} {vs : List Value}, leCap π ps qs → All2 (CapR φ) ps vs → All2 (CapR (phiW φ π)) qs vs
  | [], [], vs, _, h => by
    cases vs with
    | nil => trivial
    | cons => exact h.elim
  | p :: ps, q :: qs, v :: vs, h, hv => by
    obtain ⟨h1, h2, h3⟩ := h
    refine ⟨?_, leCap_R h3 hv.2⟩
    obtain ⟨b, base, hφ, he⟩ := hv.1
    exact ⟨b, base, by rw [phiW_at h1]; exact hφ, by rw [he, h2]⟩
  | p :: ps, q :: qs, [], h, hv => hv.elim
  | [], _ :: _, _, h, _ => h.elim
  | _ :: _, [], _, h, _ => h.elim
theorem leC_R {c d : TC} {v : Value} (h : leC T π c d) (hv : CR φ T w c v) : CR (phiW φ π) T' w d v := by
  cases d with
  | any => trivial
  | val u => simp only [leC] at h; subst h; exact hv
  | ptr j off =>
    simp only [leC] at h
    split at h
    · obtain ⟨h1, rfl⟩ := h
      obtain ⟨b, base, hφ, he⟩ := hv
      exact ⟨b, base, by rw [phiW_at h1]; exact hφ, he⟩
    · exact h.elim
  | eptr j sz i o =>
    simp only [leC] at h
    split at h
    · obtain ⟨h1, rfl, rfl, rfl⟩ := h
      obtain ⟨b, base, hφ, he⟩ := hv
      exact ⟨b, base, by rw [phiW_at h1]; exact hφ, he⟩
    · exact h.elim
  | osl t j off len =>
    simp only [leC] at h
    split at h
    · obtain ⟨rfl, h1, rfl, rfl⟩ := h
      obtain ⟨a, cap, k1, k2, k3, k4, k5⟩ := hv
      exact ⟨a, cap, k1, k2, k3, k4, fun hc => by rw [phiW_at h1]; exact k5 hc⟩
    · subst h
      cases hv
      exact ⟨none, 0, rfl, Nat.le_refl _, fun _ => rfl, fun _ h => by simp at h, fun h => absurd rfl h⟩
    · exact h.elim
  | isl t xs =>
    simp only [leC] at h
    split at h
    · rename_i t' k off len
      obtain ⟨hno, hxs⟩ := h
      obtain ⟨a, cap, h1, h2, h3, h4, h5⟩ := content_at hrel (fun _ _ => rfl) hv hxs
      refine ⟨a, cap, h1, h2, h3, h4, fun hne => ?_⟩
      obtain ⟨b, o, hab, hcs⟩ := h5 hne
      refine ⟨b, o, hab, ?_, hcs⟩
      subst h1
      obtain ⟨a', cap', he, k2, k3, k4, k5⟩ := hv
      cases he
      have hcap : cap ≠ 0 := by
        intro h0
        have : xs.length = 0 := by omega
        exact hne (List.length_eq_zero_iff.1 this)
      obtain ⟨b', base, hφ, hab', hsz⟩ := k5 hcap
      rw [hab] at hab'; cases hab'
      have hTk : T k ≠ none := by
        intro hn
        simp [content, hn] at hxs
      refine ⟨Own.lt hrel ⟨k, base, hTk, hφ⟩, fun ho => ?_, fun hf => (hrel.frd b hf).2 ⟨k, base, hTk, hφ⟩⟩
      obtain ⟨j, k', base', hj, hT', hφ'⟩ := ownW hrel hπ hT ho
      have := hrel.inj k' k b base' base hT' hTk hφ' hφ
      subst this
      have hm := List.mem_of_getElem? hj
      simp only [List.contains_eq_mem, decide_eq_false_iff_not] at hno
      exact hno hm
    · rename_i t' ys
      simp only [content] at h
      split at h
      · rename_i htt
        subst htt
        cases h
        obtain ⟨a, cap, h1, h2, h3, h4, h5⟩ := hv
        exact ⟨a, cap, h1, h2, h3, h4, fun hne => by obtain ⟨b, o, hab, him, hcs⟩ := h5 hne; exact ⟨b, o, hab, immW hrel hπ hT him, hcs⟩⟩
      · cases h
    · subst h
      cases hv
      exact ⟨none, 0, rfl, Nat.le_refl _, fun _ => rfl, fun _ h => by simp at h, fun h => absurd rfl h⟩
    · exact h.elim
  | ip cs off =>
    simp only [leC] at h; subst h
    obtain ⟨b, o, h1, him, hcs⟩ := hv
    exact ⟨b, o, h1, immW hrel hπ hT him, hcs⟩
  | fn f caps =>
    simp only [leC] at h
    split at h
    · obtain ⟨rfl, h1⟩ := h
      obtain ⟨vs, hv, ha⟩ := hv
      exact ⟨vs, hv, leCap_R hrel hπ hT h1 ha⟩
    · exact h.elim
  | ifc => simp only [leC] at h; subst h; exact hv
  | nb p q => simp only [leC] at h; subst h; exact hv
theorem leCs_R : ∀ {cs ds : List TC} {vs : List Value}, leCs T π cs ds → All2 (CR φ T w) cs vs → All2 (CR (phiW φ π) T' w) ds vs
  | [], [], vs, _, h => by
    cases vs with
    | nil => trivial
    | cons => exact h.elim
  | c :: cs, d :: ds, v :: vs, h, hv => ⟨leC_R hrel hπ hT h.1 hv.1, leCs_R h.2 hv.2⟩
  | c :: cs, d :: ds, [], h, hv => hv.elim
  | [], _ :: _, _, h, _ => h.elim
  | _ :: _, [], _, h, _ => h.elim
mutual
theorem leV_R : ∀ {x y : TV} {v : Value}, leV T π x y → VR φ T w x v → VR (phiW φ π) T' w y v
  | .gd c u, y, v, h, hv => by
    simp only [leV] at h
    obtain ⟨rfl, h⟩ := h
    have hv1 : VR φ T w u v := by
      unfold VR at hv
      exact hv.1 rfl
    exact leV_R h hv1
  | .one c, .one d, v, h, hv => by
    simp only [VR, leV] at h hv ⊢
    exact leC_R hrel hπ hT h hv
  | .agg cs, .agg ds, v, h, hv => by
    simp only [VR, leV] at h hv ⊢
    obtain ⟨vs, rfl, ha⟩ := hv
    exact ⟨vs, rfl, leCs_R hrel hπ hT h ha⟩
  | .tup l, .tup l', v, h, hv => by
    simp only [VR, leV] at h hv ⊢
    obtain ⟨vs, rfl, ha⟩ := hv
    exact ⟨vs, rfl, leVs_R h ha⟩
  | .one _, .agg _, _, h, _ => by simp [leV] at h
  | .one _, .tup _, _, h, _ => by simp [leV] at h
  | .one _, .gd _ _, _, h, _ => by simp [leV] at h
  | .agg _, .one _, _, h, _ => by simp [leV] at h
  | .agg _, .tup _, _, h, _ => by simp [leV] at h
  | .agg _, .gd _ _, _, h, _ => by simp [leV] at h
  | .tup _, .one _, _, h, _ => by simp [leV] at h
  | .tup _, .agg _, _, h, _ => by simp [leV] at h
  | .tup _, .gd _ _, _, h, _ => by simp [leV] at h
theorem leVs_R : ∀ {x y : List TV} {v : List Value}, leVs T π x y → VRs φ T w x v → VRs (phiW φ π) T' w y v
  | [], [], v, _, h => by
    cases v with
    | nil => simp [VRs]
    | cons => simp [VRs] at h
  | c :: cs, d :: ds, v :: vs, h, hv => by
    simp only [VRs, leVs] at h hv ⊢
    exact ⟨leV_R h.1 hv.1, leVs_R h.2 hv.2⟩
  | c :: cs, d :: ds, [], h, hv => by simp [VRs] at hv
  | [], _ :: _, _, h, _ => by simp [leVs] at h
  | _ :: _, [], _, h, _ => by simp [leVs] at h
end
theorem leCs_get : ∀ {cs ds : List TC}, leCs T π cs ds → ∀ (i : Nat) (d : TC), ds[i]? = some d → ∃ c, cs[i]? = some c ∧ leC T π c d
  | [], [], _, i, d, h => by simp at h
  | c :: cs, d :: ds, h, 0, e, he => by simp at he; subst he; exact ⟨c, rfl, h.1⟩
  | c :: cs, d :: ds, h, i + 1, e, he => by simpa using leCs_get h.2 i e (by simpa using he)
  | [], _ :: _, h, _, _, _ => h.elim
  | _ :: _, [], h, _, _, _ => h.elim
theorem relW : Rel (phiW φ π) T' w := by
  refine ⟨fun j o hj => ?_, fun i j b base base' hi hj hφi hφj => ?_, fun b hb => ⟨(hrel.frd b hb).1, fun ho => (hrel.frd b hb).2 (ownW' hrel hπ hT ho)⟩⟩
  · have hle := hT j o hj
    unfold leO at hle
    split at hle
    · rename_i k hk
      have hφ : phiW φ π j = φ k := phiW_at hk
      split at hle
      · rename_i cs ds hTk
        obtain ⟨b, base, c, hφk, hC, hcells⟩ := hrel.obj k _ hTk
        refine ⟨b, base, c, by rw [hφ]; exact hφk, hC, fun i tc hi => ?_⟩
        obtain ⟨tc0, h3, h4⟩ := leCs_get hrel hπ hT hle i tc hi
        obtain ⟨v, hv, hr⟩ := hcells i tc0 h3
        exact ⟨v, hv, leC_R hrel hπ hT h4 hr⟩
      · rename_i t xs t' ys hTk
        rw [← hle]
        rcases hrel.obj k _ hTk with ⟨h3, h4⟩ | ⟨b, base, c, hφk, hC, hcells⟩
        · exact .inl ⟨by rw [hφ]; exact h3, h4⟩
        · exact .inr ⟨b, base, c, by rw [hφ]; exact hφk, hC, hcells⟩
      · exact hle.elim
    · rename_i hk
      split at hle
      · rw [hle]
        exact .inl ⟨by simp [phiW, hk], rfl⟩
      · exact hle.elim
    · exact hle.elim
  · obtain ⟨k, hk, hTk, h1⟩ := leO_src hrel hπ hT hi hφi
    obtain ⟨k', hk', hTk', h2⟩ := leO_src hrel hπ hT hj hφj
    have := hrel.inj k k' b base base' hTk hTk' h1 h2
    subst this
    exact nodupS_spec hπ i j k hk hk'
end

theorem leSl_R {φ φ' : Phi} {T T' : Tab} {w : World} {π : List (Option Nat)} {sl : List (Nat × TV)} {tmps : Array Value} (hle : ∀ x y v, leV T π x y → VR φ T w x v → VR φ' T' w y v) (h : SlR φ T w sl tmps) : ∀ {sl' : List (Nat × TV)}, leSl T π sl sl' → SlR φ' T' w sl' tmps
  | [], _ => fun i => by simp only [look, VR, CR]
  | (j, v) :: r, hs => by
    intro i
    rw [look_put]
    split
    · rename_i hji; subst hji; exact hle _ _ _ hs.1 (h j)
    · exact leSl_R hle h hs.2 i

section
variable {φ0 : Phi} {T0 : Tab} {w0 : World} {N m : Nat}
theorem Sim.le {φ : Phi} {σ σ' : Sg} {a : Act} {w : World} {π : List (Option Nat)} (h : Sim φ0 T0 w0 N m φ σ a w) (hle : leS m π σ σ') : Sim φ0 T0 w0 N m (phiW φ π) σ' a w ∧ ∀ x y v, leV (rdT σ.tab) π x y → VR φ (rdT σ.tab) w x v → VR (phiW φ π) (rdT σ'.tab) w y v := by
  obtain ⟨hlen, hnd, hhead, hsl, htab, htch⟩ := hle
  have hT : ∀ j o, rdT σ'.tab j = some o → leO (rdT σ.tab) π j o := by
    intro j o hj
    have := leTab_spec htab j o (by
      unfold rdT at hj
      cases hc : σ'.tab[j]? with
      | none => rw [hc] at hj; cases hj
      | some x => rw [hc] at hj; simp at hj; rw [hj])
    simpa using this
  have hV : ∀ x y v, leV (rdT σ.tab) π x y → VR φ (rdT σ.tab) w x v → VR (phiW φ π) (rdT σ'.tab) w y v := fun x y v h1 h2 => leV_R h.rel hnd hT h1 h2
  have hid : ∀ k, k < m → phiW φ π k = φ k := fun k hk => phiW_at (by simpa using headOk_spec hhead k hk)
  have htch' : ∀ j, j ∈ σ.tch → j ∈ σ'.tch := fun j hj => by simpa using List.all_eq_true.1 htch j hj
  refine ⟨?_, hV⟩
  refine { defers := h.defers, size := h.size, sl := leSl_R hV h.sl hsl, rel := relW h.rel hnd hT, ge := ?_, fresh := ?_, kept := ?_, link := ?_, low := h.low, long := ?_, low0 := h.low0, base := ?_ }
  · exact ⟨h.ge.os, h.ge.tape, h.ge.output, h.ge.size, fun k p hp => by rw [hid k (h.low0 k (by rw [hp]; simp))]; exact h.ge.phi k p hp, h.ge.block, fun b hb ho => h.ge.own b hb (ownW' h.rel hnd hT ho), h.ge.sizes, h.ge.fr⟩
  · intro k hk
    unfold phiW
    dsimp only
    rw [List.getElem?_eq_none (by omega)]
  · intro b hb hU
    exact h.kept b hb fun j base hj => hU j base (htch' j hj)
  · intro k b base hk hφ hb
    obtain ⟨k0, h1, h2, h3⟩ := leO_src h.rel hnd hT hk hφ
    obtain ⟨j, base', h4, h5, h6⟩ := h.link k0 b base h2 h3 hb
    refine ⟨j, base', h4, h5, ?_⟩
    rcases h6 with rfl | h6
    · left
      have := headOk_spec hhead j (h.low j h4)
      exact nodupS_spec hnd j k j (by simpa using this) h1
    · exact .inr (htch' j h6)
  · have : m ≤ π.length := by
      rcases Nat.eq_zero_or_pos m with h0 | h0
      · omega
      · have := headOk_spec hhead (m - 1) (by omega)
        have := (List.getElem?_eq_some_iff.1 this).1
        omega
    omega
  · intro k hk hφ
    rw [hid k hk] at hφ
    exact h.base k hk hφ
end
end Go.Proofs.Ytjdpppbegjnpaaa
