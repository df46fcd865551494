/- Calls: what comes back. -/
import Derived.Test.YtjdpppbegjnpaaaTCall
set_option linter.unusedSimpArgs false
set_option linter.unusedVariables false
set_option linter.unusedSectionVars false
namespace Go.Proofs.Ytjdpppbegjnpaaa
open Go.RowKit

theorem updT_nil (T : Tab) : updT T [] = T := rfl
theorem updT_dead : ∀ (upd : List (Nat × Option Obj)) (T : Tab) (k : Nat), T k = none → updT T upd k = none
  | [], T, k, h => h
  | (i, o) :: r, T, k, h => by
    simp only [updT]
    refine updT_dead r _ k ?_
    by_cases hk : k = i
    · subst hk; simp [h]
    · simp [hk, h]
theorem updT_other : ∀ (upd : List (Nat × Option Obj)) (T : Tab) (k : Nat), (∀ o, (k, o) ∉ upd) → updT T upd k = T k
  | [], T, k, h => rfl
  | (i, o) :: r, T, k, h => by
    simp only [updT]
    rw [updT_other r _ k fun o' ho => h o' (by simp [ho])]
    have : k ≠ i := by rintro rfl; exact h o (by simp)
    simp [this]

/-- The callee's and the caller's table turn alike. -/
theorem updT_ren {π : List Nat} {n : Nat} (hπ : π.Nodup) : ∀ (upd : List (Nat × Option Obj)) (Tc T : Tab), (∀ q ∈ upd, q.1 < π.length) → (∀ j k, π[j]? = some k → (Tc j = none ↔ T k = none)) →
    ∀ j k, π[j]? = some k → (updT Tc upd j = Tc j ∧ updT T (upd.map fun q => (ren π n q.1, q.2.map (renO π n))) k = T k ∧ (Tc j ≠ none → ∀ o, (j, o) ∉ upd)) ∨
      (∃ o, (j, o) ∈ upd ∧ updT Tc upd j = o ∧ updT T (upd.map fun q => (ren π n q.1, q.2.map (renO π n))) k = o.map (renO π n))
  | [], Tc, T, _, _, j, k, _ => .inl ⟨rfl, rfl, fun _ _ h => by simp at h⟩
  | (i, o) :: r, Tc, T, hlt, hiff, j, k, hjk => by
    have hi : i < π.length := hlt (i, o) (by simp)
    have hren : ren π n i = π[i] := by simp [ren, hi, List.getD, List.getElem?_eq_getElem hi]
    have hj : j < π.length := (List.getElem?_eq_some_iff.1 hjk).1
    have hkj : π[j] = k := (List.getElem?_eq_some_iff.1 hjk).2
    have hiff' : ∀ j k, π[j]? = some k → ((fun x => if x = i ∧ Tc i ≠ none then o else Tc x) j = none ↔ (fun x => if x = π[i] ∧ T π[i] ≠ none then o.map (renO π n) else T x) k = none) := by
      intro j' k' hj'
      have h1 : j' < π.length := (List.getElem?_eq_some_iff.1 hj').1
      have h2 : π[j'] = k' := (List.getElem?_eq_some_iff.1 hj').2
      have h3 := hiff j' k' hj'
      have h4 := hiff i π[i] (List.getElem?_eq_getElem hi)
      by_cases hji : j' = i
      · subst hji
        subst h2
        simp only [true_and, ne_eq]
        by_cases hn : Tc j' = none
        · have := h4.1 hn; simp [hn, this]
        · have hn' : T π[j'] ≠ none := fun h => hn (h4.2 h)
          simp [hn, hn']
      · have : k' ≠ π[i] := by
          rw [← h2]; intro he; exact hji ((List.getElem_inj hπ).1 he)
        simp [hji, this, h3]
    have ih := updT_ren (n := n) hπ r (fun x => if x = i ∧ Tc i ≠ none then o else Tc x) (fun x => if x = π[i] ∧ T π[i] ≠ none then o.map (renO π n) else T x) (fun q hq => hlt q (by simp [hq])) hiff' j k hjk
    simp only [updT, List.map_cons, hren]
    rcases ih with ⟨h1, h2, h3⟩ | ⟨o', h1, h2, h3⟩
    · by_cases hji : j = i
      · subst hji
        by_cases hn : Tc j = none
        · left
          have hT : T k = none := (hiff j k hjk).1 hn
          rw [h1, h2]
          refine ⟨by simp [hn], ?_, fun h => absurd hn h⟩
          rw [hkj]; simp [hT]
        · right
          have hT : T k ≠ none := fun h => hn ((hiff j k hjk).2 h)
          refine ⟨o, by simp, ?_, ?_⟩
          · rw [h1]; simp [hn]
          · rw [h2, hkj]; simp [hT]
      · left
        have hne : k ≠ π[i] := by rw [← hkj]; intro he; exact hji ((List.getElem_inj hπ).1 he)
        refine ⟨by rw [h1]; simp [hji], by rw [h2]; simp [hne], fun hn o' ho => ?_⟩
        simp only [List.mem_cons, Prod.mk.injEq] at ho
        rcases ho with ⟨h, -⟩ | ho
        · exact hji h
        · exact h3 (by simpa [hji] using hn) o' ho
    · exact .inr ⟨o', by simp [h1], h2, h3⟩
theorem updT_map_other {π : List Nat} {n : Nat} (upd : List (Nat × Option Obj)) (T : Tab) (hlt : ∀ q ∈ upd, q.1 < π.length) (k : Nat) (hk : k ∉ π) : updT T (upd.map fun q => (ren π n q.1, q.2.map (renO π n))) k = T k := by
  refine updT_other _ _ _ fun o ho => hk ?_
  simp only [List.mem_map, Prod.mk.injEq] at ho
  obtain ⟨q, hq, h1, -⟩ := ho
  have := hlt q hq
  rw [← h1]; simp [ren, this, List.getD, List.getElem?_eq_getElem this]

theorem allFree {α : Type} {ow : Bool} {f : α → Bool} {cs : List α} (hf : (ow || cs.all f) = true) {c : α} (hc : c ∈ cs) : (ow || f c) = true := by
  cases ow with
  | true => rfl
  | false => simpa using List.all_eq_true.1 (by simpa using hf) c hc
section
variable {φc φ' : Phi} {Tc T' : Tab} {w : World} {π : List Nat} {n : Nat} {ow : Bool}
variable (hφ : ∀ j, φc j ≠ none → φ' (ren π n j) = φc j) (hI : ow = true → ∀ b, Imm φc Tc w b → Imm φ' T' w b)
include hφ hI
theorem renC_R {c : TC} {v : Value} (hf : (ow || freeC c) = true) (h : CR φc Tc w c v) : CR φ' T' w (renC π n c) v := by
  have hp : ∀ k p, φc k = some p → φ' (ren π n k) = some p := fun k p hk => by rw [hφ k (by rw [hk]; simp), hk]
  cases c with
  | val u => exact h
  | ptr k off => obtain ⟨b, base, hk, hv⟩ := h; exact ⟨b, base, hp _ _ hk, hv⟩
  | eptr k sz i j => obtain ⟨b, base, hk, hv⟩ := h; exact ⟨b, base, hp _ _ hk, hv⟩
  | osl t k off len =>
    obtain ⟨a, cap, h1, h2, h3, h4, h5⟩ := h
    refine ⟨a, cap, h1, h2, h3, h4, fun hc => ?_⟩
    obtain ⟨b, base, hk, rest⟩ := h5 hc
    exact ⟨b, base, hp _ _ hk, rest⟩
  | isl t xs =>
    have hI := hI (by simpa [freeC] using hf)
    obtain ⟨a, cap, h1, h2, h3, h4, h5⟩ := h
    exact ⟨a, cap, h1, h2, h3, h4, fun hne => by obtain ⟨b, o, hab, him, hcs⟩ := h5 hne; exact ⟨b, o, hab, hI b him, hcs⟩⟩
  | ip cs off =>
    have hI := hI (by simpa [freeC] using hf)
    obtain ⟨b, o, h1, him, hcs⟩ := h
    exact ⟨b, o, h1, hI b him, hcs⟩
  | fn f cs =>
    obtain ⟨vs, hv, ha⟩ := h
    refine ⟨vs, hv, All2.of_get (by simp [ha.length]) fun i q b hq hb => ?_⟩
    simp only [List.getElem?_map, Option.map_eq_some_iff] at hq
    obtain ⟨q0, hq0, rfl⟩ := hq
    obtain ⟨b', hb', hr⟩ := ha.get i q0 hq0
    rw [hb] at hb'; cases hb'
    obtain ⟨k, off⟩ := q0
    obtain ⟨b, base, hk, hv⟩ := hr
    exact ⟨b, base, hp _ _ hk, hv⟩
  | ifc => exact h
  | nb p q => exact h
  | any => trivial
theorem renCs_R {cs : List TC} {vs : List Value} (hf : (ow || cs.all freeC) = true) (h : All2 (CR φc Tc w) cs vs) : All2 (CR φ' T' w) (cs.map (renC π n)) vs := by
  refine All2.of_get (by simp [h.length]) fun i c b hc hb => ?_
  simp only [List.getElem?_map, Option.map_eq_some_iff] at hc
  obtain ⟨c0, hc0, rfl⟩ := hc
  obtain ⟨b', hb', hr⟩ := h.get i c0 hc0
  rw [hb] at hb'; cases hb'
  exact renC_R hφ hI (allFree hf (List.mem_of_getElem? hc0)) hr
mutual
theorem renV_R : ∀ {x : TV} {v : Value}, (ow || freeV x) = true → VR φc Tc w x v → VR φ' T' w (renV π n x) v
  | .one c, v, hf, h => by
    simp only [renV, VR] at h ⊢
    exact renC_R hφ hI hf h
  | .agg cs, v, hf, h => by
    simp only [renV, VR] at h ⊢
    obtain ⟨vs, hv, ha⟩ := h
    exact ⟨vs, hv, renCs_R hφ hI hf ha⟩
  | .tup l, v, hf, h => by
    simp only [renV, VR] at h ⊢
    obtain ⟨vs, hv, ha⟩ := h
    exact ⟨vs, hv, renVs_R hf ha⟩
  | .gd c u, v, hf, h => by
    simp only [renV, VR] at h ⊢
    have ho : ow = true := by simpa [freeV] using hf
    exact ⟨fun hc => renV_R (by simp [ho]) (h.1 hc), h.2⟩
theorem renVs_R : ∀ {x : List TV} {v : List Value}, (ow || freeV.freeVs x) = true → VRs φc Tc w x v → VRs φ' T' w (renV.renVs π n x) v
  | [], [], _, _ => by simp [renV.renVs, VRs]
  | a :: as, b :: bs, hf, h => by
    simp only [renV.renVs, VRs] at h ⊢
    have h1 : (ow || freeV a) = true ∧ (ow || freeV.freeVs as) = true := by
      cases ow <;> simp_all [freeV.freeVs]
    exact ⟨renV_R h1.1 h.1, renVs_R h1.2 h.2⟩
  | [], _ :: _, _, h => by simp [VRs] at h
  | _ :: _, [], _, h => by simp [VRs] at h
end
theorem renO_R {j : Nat} {o : Obj} (hn : φc j = none → φ' (ren π n j) = none) (hf : (ow || freeO o) = true) (h : ObjR φc Tc w j o) : ObjR φ' T' w (ren π n j) (renO π n o) := by
  cases o with
  | cells cs =>
    obtain ⟨b, base, c, hk, hC, hcs⟩ := h
    refine ⟨b, base, c, by rw [hφ j (by rw [hk]; simp), hk], hC, fun i tc hi => ?_⟩
    simp only [List.getElem?_map, Option.map_eq_some_iff] at hi
    obtain ⟨c0, hc0, rfl⟩ := hi
    obtain ⟨v, hv, hr⟩ := hcs i c0 hc0
    exact ⟨v, hv, renC_R hφ hI (allFree (f := freeC) hf (List.mem_of_getElem? hc0)) hr⟩
  | arr t xs =>
    rcases h with ⟨h1, h2⟩ | ⟨b, base, c, hk, hC, hcs⟩
    · exact .inl ⟨hn h1, h2⟩
    · exact .inr ⟨b, base, c, by rw [hφ j (by rw [hk]; simp), hk], hC, hcs⟩
end

/-- A call by contract. -/
theorem callWith_sound {P : Program} {g : FuncId} {ct : Ct} (hs : Sound P g ct) {φ : Phi} {T : Tab} {w : World} {rd : Nat → Option Obj} {n : Nat} {args : List TV} {rargs : List Value} (hrel : Rel φ T w)
    (hrd : ∀ k, (k ∈ handed rd ct.own args ∨ ∃ x ∈ args, k ∈ refsV true x) → T k = rd k) (hargs : VRs φ T w args rargs) (hp : (callWith rd n ct args).pre)
    (hfresh : ∀ k, n ≤ k → k < n + (callWith rd n ct args).news.length → φ k = none ∧ T k = none) :
    Calls P g rargs.toArray w (Post φ T w n (callWith rd n ct args)) := by
  have hπ := handed_nodup rd ct.own args
  unfold callWith at hp hfresh ⊢
  generalize handed rd ct.own args = π at *
  simp only at hp hfresh ⊢
  split at hp
  case h_2 => exact hp.elim
  rename_i as os has hos
  simp only [has, hos] at hfresh
  cases hsp : ct.spec as os with
  | mk p v upd news =>
  simp only [hsp] at hp hfresh ⊢
  obtain ⟨hp, hfv, hfu, hfn⟩ := hp
  have hrdπ : ∀ k, k ∈ π → T k = rd k := fun k hk => hrd k (.inl hk)
  have hrelC := relC hrel hπ hos hrdπ (ow := ct.own)
  have hargsC := viewVs_R hrel hπ hos hrdπ (ow := ct.own) (fun h => h) has (fun x hx k hk => hrd k (.inr ⟨x, hx, hk⟩)) hargs
  obtain ⟨hosl, hosg⟩ := mapO_get hos
  have hcall := hs as os (by rw [hsp]; exact hp) (phiC φ π ct.own T) w rargs hrelC hargsC (fun k hk => by simp only [phiC]; rw [List.getElem?_eq_none (by omega)])
  rw [hsp] at hcall
  refine hcall.mono ?_
  rintro e w' ⟨r, φc', rfl, hv, hrel', hge, hdom, hkept⟩
  simp only at hv hrel' hge hdom hkept hfresh
  rw [hosl] at hdom
  have hlt : ∀ q ∈ upd, q.1 < π.length ∧ ∀ o, q.2 = some o → (ct.own || freeO o) = true := by
    intro q hq
    have := List.all_eq_true.1 hfu q hq
    simp only [Bool.and_eq_true, decide_eq_true_eq] at this
    refine ⟨this.2, fun o ho => ?_⟩
    have h1 := this.1
    rw [ho] at h1; simpa using h1
  -- the caller's map behind the call
  let φ' : Phi := ⟨fun k => if n ≤ k ∧ k < n + news.length then φc' (π.length + (k - n)) else φ k, φ.fr⟩
  have hnl : (news.map (renO π n)).length = news.length := by simp
  rw [hnl] at hfresh
  have hphi : ∀ k q, φ k = some q → φ' k = some q := by
    intro k q hk
    simp only [φ']
    rw [if_neg]
    · exact hk
    · rintro ⟨h1, h2⟩
      rw [(hfresh k h1 h2).1] at hk; cases hk
  have haliveπ : ∀ k, k ∈ π → T k ≠ none := by
    intro k hk
    obtain ⟨j, hj, rfl⟩ := List.getElem_of_mem hk
    obtain ⟨o, h1, h2⟩ := hosg j _ (List.getElem?_eq_getElem hj)
    rw [hrdπ _ hk]
    intro hn
    unfold viewO at h2; rw [hn] at h2; cases h2
  have hold : ∀ k, k ∈ π → ¬ (n ≤ k ∧ k < n + news.length) := fun k hk h => haliveπ k hk (hfresh k h.1 h.2).2
  have hrenlt : ∀ j, (hj : j < π.length) → ren π n j = π[j] := fun j hj => by simp [ren, hj, List.getD, List.getElem?_eq_getElem hj]
  have hrenge : ∀ j, π.length ≤ j → ren π n j = n + (j - π.length) := fun j hj => by simp [ren, Nat.not_lt.2 hj]
  -- the two maps agree on what the callee knows
  have hagree : ∀ j, j < π.length + news.length → φ' (ren π n j) = φc' j := by
    intro j hj
    by_cases hjm : j < π.length
    · rw [hrenlt j hjm]
      simp only [φ']
      rw [if_neg (hold _ (List.getElem_mem hjm))]
      cases hk : φ π[j] with
      | some q =>
        exact (hge.phi j q (by simp [phiC, List.getElem?_eq_getElem hjm, hk])).symm
      | none =>
        cases hc : φc' j with
        | none => rfl
        | some q =>
          rcases hdom j (by rw [hc]; simp) with h | h
          · simp [phiC, List.getElem?_eq_getElem hjm, hk] at h
          · omega
    · rw [hrenge j (by omega)]
      simp only [φ']
      rw [if_pos ⟨by omega, by omega⟩]
      congr 1; omega
  have hdomc : ∀ j, φc' j ≠ none → j < π.length + news.length := by
    intro j hj
    rcases hdom j hj with h | h
    · have : j < π.length := by
        rcases Nat.lt_or_ge j π.length with h' | h'
        · exact h'
        · simp [phiC, List.getElem?_eq_none h'] at h
      omega
    · omega
  have hφ : ∀ j, φc' j ≠ none → φ' (ren π n j) = φc' j := fun j hj => hagree j (hdomc j hj)
  -- the caller's table behind the call
  generalize hTc' : newT (tabOf os) os.length ⟨p, v, upd, news⟩ = Tc' at hv hrel' hge
  have hTc : Tc' = addT (updT (tabOf os) upd) π.length news := by rw [← hTc', hosl]; rfl
  generalize hT' : newT T n ⟨p ∧ (ct.own || freeV v) = true ∧ (upd.all fun q => (ct.own || (q.2.map freeO).getD true) && decide (q.1 < π.length)) = true ∧ (ct.own || news.all freeO) = true, renV π n v, upd.map fun q => (ren π n q.1, q.2.map (renO π n)), news.map (renO π n)⟩ = T'
  have hT : T' = addT (updT T (upd.map fun q => (ren π n q.1, q.2.map (renO π n)))) n (news.map (renO π n)) := by rw [← hT']; rfl
  have hiff : ∀ j k, π[j]? = some k → (tabOf os j = none ↔ T k = none) := by
    intro j k hjk
    obtain ⟨o, h1, h2⟩ := hosg j k hjk
    constructor
    · intro h; rw [tabOf, h1] at h; cases h
    · intro h; exact absurd h (haliveπ k (List.mem_of_getElem? hjk))
  have hup := updT_ren (n := n) hπ upd (tabOf os) T (fun q hq => (hlt q hq).1) hiff
  have hTnew : ∀ i, i < news.length → ∃ o, news[i]? = some o ∧ T' (n + i) = some (renO π n o) ∧ Tc' (π.length + i) = some o ∧ (ct.own || freeO o) = true := by
    intro i hi
    refine ⟨news[i], List.getElem?_eq_getElem hi, ?_, ?_, allFree hfn (List.getElem_mem hi)⟩
    · rw [hT]; simp [addT, hi]
    · rw [hTc]; simp [addT, hi]
  have hTold : ∀ k, ¬ (n ≤ k ∧ k < n + news.length) → T' k = updT T (upd.map fun q => (ren π n q.1, q.2.map (renO π n))) k := by
    intro k hk
    rw [hT]
    unfold addT
    split
    · rw [List.getElem?_eq_none (by simp; omega)]
    · rfl
  have hTcold : ∀ j, j < π.length → Tc' j = updT (tabOf os) upd j := by
    intro j hj
    rw [hTc]; unfold addT; rw [if_neg (by omega)]
  -- every live object of the caller is one of three
  have hcases : ∀ k o, T' k = some o → (∃ j oc, j < π.length + news.length ∧ k = ren π n j ∧ o = renO π n oc ∧ Tc' j = some oc ∧ (ct.own || freeO oc) = true) ∨
      (T k = some o ∧ ¬ (n ≤ k ∧ k < n + news.length) ∧ (∀ b base, φ k = some (b, base) → w'.heap[b]? = w.heap[b]?) ∧ (k ∈ π → ∃ j, π[j]? = some k ∧ Tc' j ≠ none)) := by
    intro k o hk
    by_cases hnew : n ≤ k ∧ k < n + news.length
    · left
      obtain ⟨oc, h1, h2, h3, h4⟩ := hTnew (k - n) (by omega)
      rw [show n + (k - n) = k by omega] at h2
      rw [hk] at h2; cases h2
      exact ⟨π.length + (k - n), oc, by omega, by rw [hrenge _ (by omega)]; omega, rfl, h3, h4⟩
    · rw [hTold k hnew] at hk
      by_cases hkπ : k ∈ π
      · obtain ⟨j, hj, hjk⟩ := List.getElem_of_mem hkπ
        have hjk' : π[j]? = some k := by rw [List.getElem?_eq_getElem hj, hjk]
        rcases hup j k hjk' with ⟨h1, h2, h3⟩ | ⟨o', h1, h2, h3⟩
        · right
          rw [h2] at hk
          have hTcj : tabOf os j ≠ none := fun h => by rw [(hiff j k hjk').1 h] at hk; cases hk
          refine ⟨hk, hnew, fun b base hφk => ?_, fun _ => ⟨j, hjk', by rw [hTcold j hj, h1]; exact hTcj⟩⟩
          refine hkept b ((hrel.obj k o hk).lt hφk) ?_
          rintro j0 base0 ⟨o0, hj0⟩ hT0 hφ0
          obtain ⟨k0, hk0, hTk0, -⟩ := tabC hrel hπ hos hrdπ hT0
          have hφk0 : φ k0 = some (b, base0) := by simpa [phiC, hk0] using hφ0
          have := hrel.inj k0 k b base0 base hTk0 (by rw [hk]; simp) hφk0 hφk
          subst this
          have hj0j : j0 = j := (List.getElem?_inj (List.getElem?_eq_some_iff.1 hk0).1 hπ).1 (hk0.trans hjk'.symm)
          subst hj0j
          exact h3 hTcj o0 hj0
        · left
          rw [h3] at hk
          cases o' with
          | none => cases hk
          | some oc =>
            simp only [Option.map_some, Option.some.injEq] at hk
            exact ⟨j, oc, by omega, by rw [hrenlt j hj, hjk], hk.symm, by rw [hTcold j hj, h2], (hlt _ h1).2 oc rfl⟩
      · right
        rw [updT_map_other upd T (fun q hq => (hlt q hq).1) k hkπ] at hk
        refine ⟨hk, hnew, fun b base hφk => ?_, fun h => absurd h hkπ⟩
        refine hkept b ((hrel.obj k o hk).lt hφk) ?_
        rintro j0 base0 - hT0 hφ0
        obtain ⟨k0, hk0, hTk0, -⟩ := tabC hrel hπ hos hrdπ hT0
        have hφk0 : φ k0 = some (b, base0) := by simpa [phiC, hk0] using hφ0
        have := hrel.inj k0 k b base0 base hTk0 (by rw [hk]; simp) hφk0 hφk
        subst this
        exact hkπ (List.mem_of_getElem? hk0)
  have hge' : Ge φ T w φ' T' w' := {
    os := hge.os, tape := hge.tape, output := hge.output, size := hge.size, phi := hphi
    block := fun b hb hn => hge.block b hb fun ho => hn (ownC' hrel hπ hos hrdπ ho)
    own := by
      rintro b hb ⟨k, base, hk, hφk⟩
      cases hTk : T' k with
      | none => exact absurd hTk hk
      | some o =>
        rcases hcases k o hTk with ⟨j, oc, hj, rfl, rfl, hTcj, -⟩ | ⟨h1, h2, -, -⟩
        · rw [hagree j hj] at hφk
          exact ownC' hrel hπ hos hrdπ (hge.own b hb ⟨j, base, by rw [hTcj]; simp, hφk⟩)
        · simp only [φ'] at hφk
          rw [if_neg h2] at hφk
          exact ⟨k, base, by rw [h1]; simp, hφk⟩
    sizes := hge.sizes
    fr := fun _ => Iff.rfl }
  have hI : ct.own = true → ∀ b, Imm φc' Tc' w' b → Imm φ' T' w' b := by
    intro hown b hb
    have hfrc : ¬ frC ct.own φ T π b := fun hf => hb.2.2 ((hge.fr b).2 hf)
    refine ⟨hb.1, ?_, fun hf => hfrc (.inl hf)⟩
    rintro ⟨k, base, hk, hφk⟩
    cases hTk : T' k with
    | none => exact absurd hTk hk
    | some o =>
      rcases hcases k o hTk with ⟨j, oc, hj, rfl, rfl, hTcj, -⟩ | ⟨h1, h2, -, h4⟩
      · rw [hagree j hj] at hφk
        exact hb.2.1 ⟨j, base, by rw [hTcj]; simp, hφk⟩
      · simp only [φ'] at hφk
        rw [if_neg h2] at hφk
        by_cases hkπ : k ∈ π
        · obtain ⟨j, hj, hTj⟩ := h4 hkπ
          exact hb.2.1 ⟨j, base, hTj, hge.phi j _ (by simp [phiC, hj, hφk])⟩
        · exact hfrc (.inr ⟨hown, k, base, hkπ, by rw [h1]; simp, hφk⟩)
  unfold Post
  rw [hT']
  refine ⟨r, φ', rfl, renV_R hφ hI hfv hv, ⟨?_, ?_, Ge.frd hrel hge'⟩, hge', ?_, ?_⟩
  · intro k o hk
    rcases hcases k o hk with ⟨j, oc, hj, rfl, rfl, hTcj, hfo⟩ | ⟨h1, h2, h3, -⟩
    · exact renO_R hφ hI (fun h => by rw [hagree j hj]; exact h) hfo (hrel'.obj j oc hTcj)
    · exact (hrel.obj k o h1).mono hge' h3 fun h => by simp only [φ']; rw [if_neg h2]; exact h
  · intro k1 k2 b base1 base2 hk1 hk2 hφ1 hφ2
    have side : ∀ k base, T' k ≠ none → φ' k = some (b, base) → (∃ j oc, j < π.length + news.length ∧ k = ren π n j ∧ Tc' j = some oc ∧ φc' j = some (b, base)) ∨ (T k ≠ none ∧ φ k = some (b, base) ∧ b < w.heap.size ∧ (k ∈ π → ∃ j oc, j < π.length + news.length ∧ k = ren π n j ∧ Tc' j = some oc ∧ φc' j = some (b, base))) := by
      intro k base hk hφk
      cases hTk : T' k with
      | none => exact absurd hTk hk
      | some o =>
        rcases hcases k o hTk with ⟨j, oc, hj, rfl, rfl, hTcj, -⟩ | ⟨h1, h2, -, h4⟩
        · left; exact ⟨j, oc, hj, rfl, hTcj, by rw [← hagree j hj]; exact hφk⟩
        · right
          simp only [φ'] at hφk
          rw [if_neg h2] at hφk
          refine ⟨by rw [h1]; simp, hφk, (hrel.obj k o h1).lt hφk, fun hkπ => ?_⟩
          obtain ⟨j, hj, hTj⟩ := h4 hkπ
          obtain ⟨oc, hoc⟩ := Option.ne_none_iff_exists'.1 hTj
          have hjl := (List.getElem?_eq_some_iff.1 hj).1
          have hjk : π[j] = k := (List.getElem?_eq_some_iff.1 hj).2
          refine ⟨j, oc, by omega, by rw [hrenlt j hjl, hjk], hoc, ?_⟩
          exact hge.phi j _ (by simp [phiC, hj, hφk])
    have cross : ∀ k j oc base base', T k ≠ none → φ k = some (b, base) → b < w.heap.size → k ∉ π → Tc' j = some oc → φc' j = some (b, base') → False := by
      intro k j oc base base' hTk hφk hb hkπ hTj hφj
      obtain ⟨j0, k0, base0, hk0, hTk0, -, hφ0⟩ := ownC hrel hπ hos hrdπ (hge.own b hb ⟨j, base', by rw [hTj]; simp, hφj⟩)
      have := hrel.inj k0 k b base0 base hTk0 hTk hφ0 hφk
      subst this
      exact hkπ (List.mem_of_getElem? hk0)
    have norm : ∀ k base, T' k ≠ none → φ' k = some (b, base) → (∃ j oc, j < π.length + news.length ∧ k = ren π n j ∧ Tc' j = some oc ∧ φc' j = some (b, base)) ∨ (T k ≠ none ∧ φ k = some (b, base) ∧ b < w.heap.size ∧ k ∉ π) := by
      intro k base hk hφk
      rcases side k base hk hφk with h | ⟨h1, h2, h3, h4⟩
      · exact .inl h
      · by_cases hkπ : k ∈ π
        · exact .inl (h4 hkπ)
        · exact .inr ⟨h1, h2, h3, hkπ⟩
    rcases norm k1 base1 hk1 hφ1 with ⟨j1, oc1, hj1, rfl, hT1, hf1⟩ | ⟨a1, a2, a3, a4⟩
    · rcases norm k2 base2 hk2 hφ2 with ⟨j2, oc2, hj2, rfl, hT2, hf2⟩ | ⟨b1, b2, b3, b4⟩
      · have := hrel'.inj j1 j2 b base1 base2 (by rw [hT1]; simp) (by rw [hT2]; simp) hf1 hf2
        rw [this]
      · exact (cross k2 j1 oc1 _ _ b1 b2 b3 b4 hT1 hf1).elim
    · rcases norm k2 base2 hk2 hφ2 with ⟨j2, oc2, hj2, rfl, hT2, hf2⟩ | ⟨b1, b2, b3, b4⟩
      · exact (cross k1 j2 oc2 _ _ a1 a2 a3 a4 hT2 hf2).elim
      · exact hrel.inj k1 k2 b base1 base2 a1 b1 a2 b2
  · intro k hk
    rw [hnl]
    by_cases h : n ≤ k ∧ k < n + news.length
    · exact .inr h
    · left; simp only [φ'] at hk; rwa [if_neg h] at hk
  · intro b hb hU
    refine hkept b hb ?_
    rintro j0 base0 ⟨o0, hj0⟩ hT0 hφ0
    obtain ⟨k0, hk0, hTk0, -⟩ := tabC hrel hπ hos hrdπ hT0
    have hφk0 : φ k0 = some (b, base0) := by simpa [phiC, hk0] using hφ0
    have hj0l := (List.getElem?_eq_some_iff.1 hk0).1
    refine hU k0 base0 ⟨o0.map (renO π n), ?_⟩ hTk0 hφk0
    simp only [List.mem_map, Prod.mk.injEq]
    exact ⟨(j0, o0), hj0, by rw [hrenlt j0 hj0l]; exact (List.getElem?_eq_some_iff.1 hk0).2, rfl⟩
end Go.Proofs.Ytjdpppbegjnpaaa
