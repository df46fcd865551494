/- Regions whose order is drawn. -/
import Derived.Test.YtjdpppbegjnpaaaTRegion
set_option linter.unusedSimpArgs false
set_option linter.unusedVariables false
set_option linter.unusedSectionVars false
namespace Go.Proofs.Ytjdpppbegjnpaaa
open Go.RowKit

theorem mem_addNew {π : List Nat} {k x : Nat} : x ∈ addNew π k ↔ x ∈ π ∨ x = k := by
  unfold addNew
  cases h : idxOf π k with
  | some j =>
    simp only [Option.isSome_some, if_true]
    constructor
    · exact .inl
    · rintro (h' | rfl)
      · exact h'
      · exact List.mem_of_getElem? (idxOf_some h)
  | none => simp
theorem mem_foldl_addNew : ∀ (l π : List Nat) (x : Nat), x ∈ l.foldl addNew π ↔ x ∈ π ∨ x ∈ l
  | [], π, x => by simp
  | k :: l, π, x => by rw [List.foldl_cons, mem_foldl_addNew l, mem_addNew, List.mem_cons, or_assoc]
theorem mem_uni {ds : List Nat} {acc : List (List Nat)} {x : Nat} : x ∈ uni ds acc ↔ x ∈ ds ∨ ∃ d ∈ ds, x ∈ acc.getD d [] := by
  unfold uni
  rw [mem_foldl_addNew]
  simp only [List.not_mem_nil, false_or, List.mem_append, List.mem_flatMap]
theorem ancT_get : ∀ (ops : List Oper) (acc : List (List Nat)), (∀ i, i < acc.length → (ancT ops acc).getD i [] = acc.getD i []) ∧ (ancT ops acc).length = acc.length + ops.length ∧
    ∀ i o, ops[i]? = some o → (ancT ops acc).getD (acc.length + i) [] = uni (depsOf o) ((ancT ops acc).take (acc.length + i))
  | [], acc => ⟨fun _ _ => rfl, by simp [ancT], fun i o h => by simp at h⟩
  | o :: r, acc => by
    obtain ⟨h1, h2, h3⟩ := ancT_get r (acc ++ [uni (depsOf o) acc])
    have hpre : ∀ i, i < acc.length → (ancT (o :: r) acc).getD i [] = acc.getD i [] := by
      intro i hi
      rw [ancT, h1 i (by simp; omega)]
      simp [List.getD, List.getElem?_append_left hi]
    refine ⟨hpre, by rw [ancT, h2]; simp; omega, fun i o' ho' => ?_⟩
    cases i with
    | zero =>
      simp at ho'; subst ho'
      rw [Nat.add_zero, ancT, h1 acc.length (by simp)]
      have : (ancT r (acc ++ [uni (depsOf o) acc])).take acc.length = acc := by
        apply List.ext_getElem?
        intro i
        by_cases hi : i < acc.length
        · have hl : i < (ancT r (acc ++ [uni (depsOf o) acc])).length := by rw [h2]; simp; omega
          have := h1 i (by simp; omega)
          simp only [List.getD, List.getElem?_append_left hi, List.getElem?_eq_getElem hl, List.getElem?_eq_getElem hi, Option.getD_some] at this
          rw [List.getElem?_take, if_pos hi, List.getElem?_eq_getElem hl, List.getElem?_eq_getElem hi, this]
        · rw [List.getElem?_eq_none (by simp; omega), List.getElem?_eq_none (by omega)]
      rw [this]
      simp [List.getD]
    | succ i =>
      have := h3 i o' (by simpa using ho')
      rw [ancT]
      rw [show (acc ++ [uni (depsOf o) acc]).length + i = acc.length + (i + 1) by simp; omega] at this
      exact this

theorem apartL_spec {xs ys : List Nat} (h : apartL xs ys = true) {x : Nat} (hx : x ∈ xs) : x ∉ ys := by
  have := List.all_eq_true.1 h x hx
  simpa using this

theorem updT_congr : ∀ (upd : List (Nat × Option Obj)) (T T2 : Tab) (k : Nat), T k = T2 k → updT T upd k = updT T2 upd k
  | [], T, T2, k, h => h
  | (i, o) :: r, T, T2, k, h => by
    simp only [updT]
    refine updT_congr r _ _ k ?_
    by_cases hk : k = i
    · subst hk; simp [h]
    · simp [hk, h]
theorem newT_congr (T T2 : Tab) (n : Nat) (s : St) (k : Nat) (h : T k = T2 k) : newT T n s k = newT T2 n s k := by
  unfold newT addT
  rw [updT_congr s.upd T T2 k h]
theorem newT_out (T : Tab) (n : Nat) (s : St) (k : Nat) (h1 : ∀ o, (k, o) ∉ s.upd) (h2 : ¬ (n ≤ k ∧ k < n + s.news.length)) : newT T n s k = T k := by
  unfold newT addT
  rw [updT_other _ _ _ h1]
  split
  · rw [List.getElem?_eq_none (by omega)]
  · rfl

/-- What a step gives, written out. -/
def stepR (E : Env) (n m : Nat) (ops : List Oper) (o : Oper) (σ : Sg) : Prop × Sg × List Nat :=
  match o.guard with
  | none => match opv E (rdT σ.tab) σ.tab.length σ.sl o.op with
    | ⟨p, v, upd, news⟩ => (dstOk n o.dst ∧ underAll true σ.sl (operandsOf o.op) ∧ p, ⟨putS σ.sl o.dst v, setT σ.tab upd ++ news.map some, touch m σ.tch upd⟩, upd.map (·.1) ++ (List.range news.length).map (σ.tab.length + ·))
  | some _ => if passed E.sk o.dst then (gcond ops σ.sl o = some false ∧ dstOk n o.dst, ⟨putS σ.sl o.dst (.gd false (.one .any)), σ.tab, σ.tch⟩, []) else match gcond ops σ.sl o with
    | none => (False, σ, [])
    | some g => match opv E (rdT σ.tab) σ.tab.length σ.sl o.op with
      | ⟨p, v, upd, news⟩ => (dstOk n o.dst ∧ (g = true → underAll g σ.sl (operandsOf o.op) ∧ p), ⟨putS σ.sl o.dst (.gd g v), setT σ.tab (gl g upd) ++ (gl g news).map some, touch m σ.tch (gl g upd)⟩, (gl g upd).map (·.1) ++ (List.range (gl g news).length).map (σ.tab.length + ·))
theorem stepv_iff (E : Env) (n m : Nat) (ops : List Oper) (o : Oper) (σ : Sg) (K : Sg → List Nat → Prop) : stepv E n m ops o σ K ↔ (stepR E n m ops o σ).1 ∧ K (stepR E n m ops o σ).2.1 (stepR E n m ops o σ).2.2 := by
  cases hop : opv E (rdT σ.tab) σ.tab.length σ.sl o.op with
  | mk p v upd news =>
    cases hg : o.guard with
    | none => simp only [stepv, stepR, hg, hop, and_assoc]
    | some q =>
      by_cases hps : passed E.sk o.dst = true
      · simp only [stepv, stepR, hg, hps, if_true, and_assoc]
      simp only [stepv, stepR, hg, if_neg hps]
      cases hc : gcond ops σ.sl o with
      | none => simp only [false_and]
      | some g => simp only [hop, and_assoc]

/-- The states of the text's order. -/
def stAt (E : Env) (n m : Nat) (all : List Oper) : List Oper → Sg → Nat → Sg
  | _, σ, 0 => σ
  | [], σ, _ + 1 => σ
  | o :: r, σ, i + 1 => stAt E n m all r (stepR E n m all o σ).2.1 i
theorem goOpsD_trace {E : Env} {n m : Nat} {all : List Oper} {K : Sg → Prop} : ∀ (os : List Oper) (σ : Sg) (log : List (List Nat × List Nat)), goOpsD E n m all os σ log K →
    (∀ i o, os[i]? = some o → (stepR E n m all o (stAt E n m all os σ i)).1 ∧ stAt E n m all os σ (i + 1) = (stepR E n m all o (stAt E n m all os σ i)).2.1) ∧
    ∃ L, L.length = os.length ∧ (∀ i o, os[i]? = some o → L[i]? = some (foot E (rdT (stAt E n m all os σ i).tab) (stAt E n m all os σ i).sl o.op, (stepR E n m all o (stAt E n m all os σ i)).2.2)) ∧
      drawOk all (log.reverse ++ L) = true ∧ K (stAt E n m all os σ os.length)
  | [], σ, log, h => ⟨fun i o h => by simp at h, [], rfl, fun i o h => by simp at h, by simpa using h.1, h.2⟩
  | o :: r, σ, log, h => by
    unfold goOpsD at h
    rw [stepv_iff] at h
    obtain ⟨hp, hk⟩ := h
    obtain ⟨h1, L, h2, h3, h4, h5⟩ := goOpsD_trace r _ _ hk
    refine ⟨fun i o' ho' => ?_, (foot E (rdT σ.tab) σ.sl o.op, (stepR E n m all o σ).2.2) :: L, by simp [h2], fun i o' ho' => ?_, ?_, h5⟩
    · cases i with
      | zero =>
        simp at ho'; subst ho'
        refine ⟨hp, ?_⟩
        cases r <;> rfl
      | succ i => exact h1 i o' (by simpa using ho')
    · cases i with
      | zero => simp at ho'; subst ho'; rfl
      | succ i => exact h3 i o' (by simpa using ho')
    · simpa [List.reverse_cons, List.append_assoc] using h4

/-- Which of the caller's blocks may have been written. -/
structure KL (φ0 : Phi) (T0 : Tab) (w0 : World) (φ : Phi) (T : Tab) (w : World) (U : Nat → Prop) : Prop where
  kept : Kept φ0 T0 U w0 w
  link : ∀ k b base, T k ≠ none → φ k = some (b, base) → b < w0.heap.size → ∃ j base', T0 j ≠ none ∧ φ0 j = some (b, base') ∧ (j = k ∨ U j)
theorem KL.next {φ0 : Phi} {T0 : Tab} {w0 : World} {φ φ' : Phi} {T : Tab} {w w' : World} {U : Nat → Prop} {m n : Nat} {s : St} (h : KL φ0 T0 w0 φ T w U) (hsize : w0.heap.size ≤ w.heap.size) (low : ∀ j, T0 j ≠ none → j < m) (hmn : m ≤ n)
    (hrel : Rel φ' (newT T n s) w') (hge : Ge φ T w φ' (newT T n s) w') (hkept : Kept φ T (fun k => ∃ o, (k, o) ∈ s.upd) w w') :
    KL φ0 T0 w0 φ' (newT T n s) w' (fun j => U j ∨ (j < m ∧ ∃ o, (j, o) ∈ s.upd)) where
  kept := by
    intro b hb hU
    have h1 : w.heap[b]? = w0.heap[b]? := h.kept b hb fun j base hj => hU j base (.inl hj)
    rw [← h1]
    refine hkept b (Nat.lt_of_lt_of_le hb hsize) ?_
    rintro k base ⟨o, ho⟩ hTk hφk
    obtain ⟨j, base', hj0, hφj, hjk⟩ := h.link k b base hTk hφk hb
    refine hU j base' ?_ hj0 hφj
    rcases hjk with rfl | hjk
    · exact .inr ⟨low j hj0, o, ho⟩
    · exact .inl hjk
  link := by
    intro k b base hk hφk hb
    obtain ⟨k2, base2, hk2, hφ2⟩ := hge.own b (Nat.lt_of_lt_of_le hb hsize) ⟨k, base, hk, hφk⟩
    obtain ⟨j, base', h1, h2, h3⟩ := h.link k2 b base2 hk2 hφ2 hb
    refine ⟨j, base', h1, h2, ?_⟩
    rcases h3 with rfl | h3
    · by_cases hjk : j = k
      · exact .inl hjk
      · right; right
        refine ⟨low j h1, ?_⟩
        by_cases hex : ∃ o, (j, o) ∈ s.upd
        · exact hex
        · exfalso
          have hjT : newT T n s j ≠ none := by
            rw [newT_out T n s j (fun o ho => hex ⟨o, ho⟩) (by have := low j h1; omega)]; exact hk2
          exact hjk (hrel.inj j k b base2 base hjT hk (hge.phi _ _ hφ2) hφk)
    · exact .inr (.inl h3)
theorem KL.mono {φ0 : Phi} {T0 : Tab} {w0 : World} {φ : Phi} {T : Tab} {w : World} {U V : Nat → Prop} (h : KL φ0 T0 w0 φ T w U) (hUV : ∀ j, U j → V j) : KL φ0 T0 w0 φ T w V :=
  ⟨fun b hb hV => h.kept b hb fun j base hj => hV j base (hUV j hj), fun k b base h1 h2 h3 => by
    obtain ⟨j, base', k1, k2, k3⟩ := h.link k b base h1 h2 h3
    exact ⟨j, base', k1, k2, k3.imp id (hUV j)⟩⟩

section
variable {P : Program} {E : Env} (ok : EnvOk P E) {φ0 : Phi} {T0 : Tab} {w0 : World} {N m : Nat}
include ok

theorem stepR_does {ops : Array Oper} {i : Nat} {o : Oper} {σ : Sg} (ho : ops[i]? = some o) (hp : (stepR E N m ops.toList o σ).1) :
    ∃ s : St, dstOk N o.dst ∧ (stepR E N m ops.toList o σ).2.1 = ⟨putS σ.sl o.dst s.v, setT σ.tab s.upd ++ s.news.map some, touch m σ.tch s.upd⟩ ∧
      (stepR E N m ops.toList o σ).2.2 = s.upd.map (·.1) ++ (List.range s.news.length).map (σ.tab.length + ·) ∧
      ∀ {Q : Exit → Act → World → Prop} (φ : Phi) (T : Tab) (a : Act) (w : World) (K : Act → World → Prop), Rel φ T w → (∀ t ∈ namesOf ops.toList o, VR φ T w (look σ.sl t) (a.tmps.getD t undef)) →
        (∀ k ∈ foot E (rdT σ.tab) σ.sl o.op, T k = rdT σ.tab k) → (∀ k, σ.tab.length ≤ k → k < σ.tab.length + s.news.length → φ k = none ∧ T k = none) →
        (∀ φ' r w', VR φ' (newT T σ.tab.length s) w' s.v r → Rel φ' (newT T σ.tab.length s) w' → Ge φ T w φ' (newT T σ.tab.length s) w' → Dom φ φ' σ.tab.length s.news.length → Kept φ T (fun k => ∃ o, (k, o) ∈ s.upd) w w' → K (a.put o.dst r) w') →
        wpOp P ops Q i K a w := by
  cases hop : opv E (rdT σ.tab) σ.tab.length σ.sl o.op with
  | mk p v upd news =>
    have hnm : ∀ t, Operand.tmp t ∈ o.op.operands.toList → t ∈ namesOf ops.toList o := by
      intro t ht
      unfold namesOf
      have : ∀ l : List Operand, Operand.tmp t ∈ l → t ∈ tmpsOf l := by
        intro l
        induction l with
        | nil => intro h; simp at h
        | cons x r ih =>
          intro h
          rcases List.mem_cons.1 h with rfl | h'
          · simp [tmpsOf]
          · cases x <;> simp [tmpsOf, ih h']
      simp [this _ ht]
    have hdo : ∀ {Q : Exit → Act → World → Prop}, underAll true σ.sl (operandsOf o.op) → p → ∀ (φ : Phi) (T : Tab) (a : Act) (w : World) (K : Act → World → Prop), Rel φ T w → (∀ t ∈ namesOf ops.toList o, VR φ T w (look σ.sl t) (a.tmps.getD t undef)) →
        (∀ k ∈ foot E (rdT σ.tab) σ.sl o.op, T k = rdT σ.tab k) → (∀ k, σ.tab.length ≤ k → k < σ.tab.length + news.length → φ k = none ∧ T k = none) →
        (∀ φ' r w', VR φ' (newT T σ.tab.length ⟨p, v, upd, news⟩) w' v r → Rel φ' (newT T σ.tab.length ⟨p, v, upd, news⟩) w' → Ge φ T w φ' (newT T σ.tab.length ⟨p, v, upd, news⟩) w' → Dom φ φ' σ.tab.length news.length → Kept φ T (fun k => ∃ o, (k, o) ∈ upd) w w' → K (a.put o.dst r) w') →
        o.wp P a w K Q := by
      intro Q hu hpre φ T a w K hrel hsl hft hfr hK
      refine opv_sound ok (rd := rdT σ.tab) (n := σ.tab.length) (sl := σ.sl) hrel (fun t ht => hsl t (hnm t ht)) hu hft (by rw [hop]; exact hpre) (by rw [hop]; exact hfr) _ _ ?_
      intro r w' φ' h1 h2 h3 h4 h5
      rw [hop] at h1 h2 h3 h4 h5
      exact hK φ' r w' h1 h2 h3 h4 h5
    cases hg : o.guard with
    | none =>
      simp only [stepR, hg, hop] at hp ⊢
      obtain ⟨hd, hu, hpre⟩ := hp
      refine ⟨⟨p, v, upd, news⟩, hd, rfl, rfl, ?_⟩
      intro Q φ T a w K hrel hsl hft hfr hK
      have hw : Region.wanted o (yielded ops a.tmps) = true := by unfold Region.wanted; rw [hg]
      simp only [wpOp, ho, hw, if_true]
      exact .inl (hdo hu hpre φ T a w K hrel hsl hft hfr hK)
    | some q =>
      by_cases hps : passed E.sk o.dst = true
      · simp only [stepR, hg, hps, if_true] at hp ⊢
        obtain ⟨hc, hd⟩ := hp
        refine ⟨⟨True, .gd false (.one .any), [], []⟩, hd, by simp [setT, touch], by simp, ?_⟩
        intro Q φ T a w K hrel hsl hft hfr hK
        have hw := gcond_wanted ok (ops := ops) (a := a) (fun j b d hj hd => hsl d (by unfold namesOf; rw [hj]; simp [show ops.toList[j]? = ops[j]? by simp, hd])) hc
        simp only [wpOp, ho, hw]
        simp only [Bool.false_eq_true, if_false]
        exact hK φ undef w (by unfold VR; exact ⟨fun h => (by cases h), fun _ => rfl⟩) (by rw [newT_pure _ _ _ rfl rfl]; exact hrel) (by rw [newT_pure _ _ _ rfl rfl]; exact Ge.refl _ _ _) (fun k hk => .inl hk) (fun _ _ _ => rfl)
      simp only [stepR, hg, if_neg hps] at hp ⊢
      cases hc : gcond ops.toList σ.sl o with
      | none => simp only [hc] at hp
      | some g =>
        simp only [hc, hop] at hp ⊢
        obtain ⟨hd, hgt⟩ := hp
        refine ⟨⟨p, .gd g v, gl g upd, gl g news⟩, hd, rfl, rfl, ?_⟩
        intro Q φ T a w K hrel hsl hft hfr hK
        have hw := gcond_wanted ok (ops := ops) (a := a) (fun j b d hj hd => hsl d (by unfold namesOf; rw [hj]; simp [show ops.toList[j]? = ops[j]? by simp, hd])) hc
        simp only [wpOp, ho, hw]
        cases g with
        | true =>
          obtain ⟨hu, hpre⟩ := hgt rfl
          rw [if_pos rfl]
          refine .inl (hdo hu hpre φ T a w K hrel hsl hft hfr ?_)
          intro φ' r w' h1 h2 h3 h4 h5
          exact hK φ' r w' (by unfold VR; exact ⟨fun _ => h1, fun h => by cases h⟩) h2 h3 h4 h5
        | false =>
          simp only [Bool.false_eq_true, if_false]
          exact hK φ undef w (by unfold VR; exact ⟨fun h => (by cases h), fun _ => rfl⟩) (by rw [newT_pure _ _ _ rfl rfl]; exact hrel) (by rw [newT_pure _ _ _ rfl rfl]; exact Ge.refl _ _ _) (fun k hk => .inl hk) (fun _ _ _ => rfl)

/-- What the order drawn so far has come to; L: what is listed. -/
structure DInv (ops : List Oper) (st : Nat → Sg) (W : Nat → List Nat) (φ0 : Phi) (T0 : Tab) (w0 : World) (N m : Nat) (L : Nat → Prop) (φ : Phi) (T : Tab) (a : Act) (w : World) : Prop where
  defers : a.defers = []
  size : a.tmps.size = N
  down : ∀ j o, L j → ops[j]? = some o → ∀ d ∈ depsOf o, L d
  dom : ∀ j, L j → j < ops.length
  sl : ∀ t i, i ≤ ops.length → (∀ j o, j < i → ops[j]? = some o → o.dst = some t → L j) → (∀ j o, i ≤ j → ops[j]? = some o → o.dst = some t → ¬ L j) → VR φ T w (look (st i).sl t) (a.tmps.getD t undef)
  tab : ∀ k i, i ≤ ops.length → (∀ j, j < i → k ∈ W j → L j) → (∀ j, i ≤ j → j < ops.length → k ∈ W j → ¬ L j) → T k = rdT (st i).tab k
  rel : Rel φ T w
  ge : Ge φ0 T0 w0 φ T w
  fresh : ∀ i, i < ops.length → ¬ L i → ∀ k, (st i).tab.length ≤ k → k < (st (i + 1)).tab.length → φ k = none
  past : ∀ k, (st ops.length).tab.length ≤ k → φ k = none
  base : ∀ k, k < m → φ k ≠ none → φ0 k ≠ none
  kl : KL φ0 T0 w0 φ T w (fun j => j ∈ (st 0).tch ∨ ∃ i, L i ∧ j < m ∧ j ∈ W i)

theorem drawOk_spec {ops : List Oper} {log : List (List Nat × List Nat)} (h : drawOk ops log = true) {j : Nat} {oj : Oper} (hj : ops[j]? = some oj) :
    (∀ d ∈ depsOf oj, d < j) ∧ ∀ i oi, i < j → ops[i]? = some oi → i ∈ (ancT ops []).getD j [] ∨ pairOk ops oi oj (log.getD i ([], [])) (log.getD j ([], [])) = true := by
  have hlt : j < ops.length := (List.getElem?_eq_some_iff.1 hj).1
  have := List.all_eq_true.1 h j (List.mem_range.2 hlt)
  simp only [hj, Option.map_some, Option.getD_some, Bool.and_eq_true, List.all_eq_true, decide_eq_true_eq, Bool.or_eq_true] at this
  refine ⟨this.1, fun i oi hi hoi => ?_⟩
  have h2 := this.2 i (List.mem_range.2 hi)
  simp only [hoi, Option.map_some, Option.getD_some] at h2
  exact h2.imp (fun h => by simpa using h) id

theorem anc_down {ops : List Oper} {log : List (List Nat × List Nat)} (h : drawOk ops log = true) {L : Nat → Prop} (hdown : ∀ j o, L j → ops[j]? = some o → ∀ d ∈ depsOf o, L d) :
    ∀ (n j : Nat) (oj : Oper), j < n → ops[j]? = some oj → (∀ d ∈ depsOf oj, L d) → ∀ x ∈ (ancT ops []).getD j [], L x
  | 0, j, oj, hn, _, _ => by omega
  | n + 1, j, oj, hn, hj, hd => by
    intro x hx
    obtain ⟨h1, h2, h3⟩ := ancT_get ops []
    have h4 := h3 j oj hj
    simp only [List.length_nil, Nat.zero_add] at h4
    rw [h4, mem_uni] at hx
    rcases hx with hx | ⟨d, hdm, hx⟩
    · exact hd x hx
    · have hdj := (drawOk_spec ok h hj).1 d hdm
      have hlt : j < ops.length := (List.getElem?_eq_some_iff.1 hj).1
      obtain ⟨od, hod⟩ : ∃ od, ops[d]? = some od := ⟨ops[d]'(by omega), List.getElem?_eq_getElem (by omega)⟩
      refine anc_down h hdown n d od (by omega) hod (hdown d od (hd d hdm) hod) x ?_
      have : ((ancT ops []).take j).getD d [] = (ancT ops []).getD d [] := by simp [List.getD, List.getElem?_take, hdj]
      rwa [this] at hx

theorem drawn_sound {ops : Array Oper} {Q : Exit → Act → World → Prop} {σ : Sg} {K : Sg → Prop} {φ : Phi} {a : Act} {w : World} (hg : goOpsD E N m ops.toList ops.toList σ [] K) (hs : Sim φ0 T0 w0 N m φ σ a w)
    (hK : ∀ σ' φ' a' w', Sim φ0 T0 w0 N m φ' σ' a' w' → K σ' → Q .normal a' w') : wpAny P .any ops Q ops.size (Array.replicate ops.size false) a w := by
  obtain ⟨htr, log, hlen, hlog, hdraw, hfin⟩ := goOpsD_trace _ _ _ hg
  simp only [List.reverse_nil, List.nil_append] at hdraw
  generalize hst : stAt E N m ops.toList ops.toList σ = st at *
  have hst0 : st 0 = σ := by rw [← hst]; cases ops.toList <;> rfl
  let W : Nat → List Nat := fun i => (log.getD i ([], [])).2
  have hn : ops.toList.length = ops.size := by simp
  -- every step, told
  have hstep : ∀ i o, ops.toList[i]? = some o → ∃ s : St, dstOk N o.dst ∧ (st (i + 1)).sl = putS (st i).sl o.dst s.v ∧ rdT (st (i + 1)).tab = newT (rdT (st i).tab) (st i).tab.length s ∧ (st (i + 1)).tab.length = (st i).tab.length + s.news.length ∧ (st (i + 1)).tch = touch m (st i).tch s.upd ∧
      W i = s.upd.map (·.1) ++ (List.range s.news.length).map ((st i).tab.length + ·) ∧
      ∀ (φ : Phi) (T : Tab) (a : Act) (w : World) (K : Act → World → Prop), Rel φ T w → (∀ t ∈ namesOf ops.toList o, VR φ T w (look (st i).sl t) (a.tmps.getD t undef)) →
        (∀ k ∈ (log.getD i ([], [])).1, T k = rdT (st i).tab k) → (∀ k, (st i).tab.length ≤ k → k < (st i).tab.length + s.news.length → φ k = none ∧ T k = none) →
        (∀ φ' r w', VR φ' (newT T (st i).tab.length s) w' s.v r → Rel φ' (newT T (st i).tab.length s) w' → Ge φ T w φ' (newT T (st i).tab.length s) w' → Dom φ φ' (st i).tab.length s.news.length → Kept φ T (fun k => ∃ o, (k, o) ∈ s.upd) w w' → K (a.put o.dst r) w') →
        wpOp P ops Q i K a w := by
    intro i o ho
    obtain ⟨hp, hnx⟩ := htr i o ho
    have hl := hlog i o ho
    obtain ⟨s, hd, h1, h2, h3⟩ := stepR_does ok (show ops[i]? = some o by simpa using ho) hp
    have hlg : log.getD i ([], []) = (foot E (rdT (st i).tab) (st i).sl o.op, (stepR E N m ops.toList o (st i)).2.2) := by simp [List.getD, hl]
    refine ⟨s, hd, by rw [hnx, h1], ?_, ?_, by rw [hnx, h1], ?_, ?_⟩
    · rw [hnx, h1]; exact newT_rd _ _
    · rw [hnx, h1]; simp [setT_len]
    · show (log.getD i ([], [])).2 = _
      rw [hlg]; exact h2
    · rw [hlg]; exact fun φ T a w K => h3 φ T a w K
  have hmono : ∀ i, i < ops.toList.length → (st i).tab.length ≤ (st (i + 1)).tab.length := by
    intro i hi
    obtain ⟨s, _, _, _, h, _⟩ := hstep i _ (List.getElem?_eq_getElem hi)
    omega
  have hmono' : ∀ d i, i + d ≤ ops.toList.length → (st i).tab.length ≤ (st (i + d)).tab.length := by
    intro d
    induction d with
    | zero => intro i _; exact Nat.le_refl _
    | succ d ih => intro i hi; exact Nat.le_trans (ih i (by omega)) (hmono (i + d) (by omega))
  have hle : ∀ i j, i ≤ j → j ≤ ops.toList.length → (st i).tab.length ≤ (st j).tab.length := by
    intro i j hij hj
    obtain ⟨d, rfl⟩ : ∃ d, j = i + d := ⟨j - i, by omega⟩
    exact hmono' d i hj
  -- nothing between
  have hslsame : ∀ t d i, i + d ≤ ops.toList.length → (∀ j o, i ≤ j → j < i + d → ops.toList[j]? = some o → o.dst ≠ some t) → look (st (i + d)).sl t = look (st i).sl t := by
    intro t d
    induction d with
    | zero => intro i _ _; rfl
    | succ d ih =>
      intro i hi hno
      have hlt : i + d < ops.toList.length := by omega
      obtain ⟨s, _, h, _⟩ := hstep (i + d) _ (List.getElem?_eq_getElem hlt)
      rw [← ih i (by omega) (fun j o h1 h2 => hno j o h1 (by omega))]
      rw [show i + (d + 1) = i + d + 1 from rfl, h]
      have := hno (i + d) _ (by omega) (by omega) (List.getElem?_eq_getElem hlt)
      cases hd : (ops.toList[i + d]).dst with
      | none => rfl
      | some t' => rw [hd] at this; simp only [putS, look_put]; rw [if_neg (fun e => this (by rw [e]))]
  have htabsame : ∀ k d i, i + d ≤ ops.toList.length → (∀ j, i ≤ j → j < i + d → k ∉ W j) → rdT (st (i + d)).tab k = rdT (st i).tab k := by
    intro k d
    induction d with
    | zero => intro i _ _; rfl
    | succ d ih =>
      intro i hi hno
      have hlt : i + d < ops.toList.length := by omega
      obtain ⟨s, _, _, h, _, _, hW, _⟩ := hstep (i + d) _ (List.getElem?_eq_getElem hlt)
      rw [← ih i (by omega) (fun j h1 h2 => hno j h1 (by omega))]
      rw [show i + (d + 1) = i + d + 1 from rfl, h]
      have hk := hno (i + d) (by omega) (by omega)
      rw [hW] at hk
      simp only [List.mem_append, List.mem_map, List.mem_range, not_or] at hk
      refine newT_out _ _ _ _ (fun ob hob => hk.1 ⟨(k, ob), hob, rfl⟩) (fun ⟨h1, h2⟩ => hk.2 ⟨k - (st (i + d)).tab.length, by omega, by omega⟩)
  have hlow : ∀ j, T0 j ≠ none → j < m := hs.low
  have hm : ∀ i, i ≤ ops.toList.length → m ≤ (st i).tab.length := fun i hi => Nat.le_trans (by rw [hst0]; exact hs.long) (hle 0 i (Nat.zero_le _) hi)
  have htch : ∀ i, i ≤ ops.toList.length → ∀ j, (j ∈ (st 0).tch ∨ ∃ i', i' < i ∧ j < m ∧ j ∈ W i') → j ∈ (st i).tch := by
    intro i
    induction i with
    | zero => rintro _ j (h | ⟨i', h, _⟩)
              · exact h
              · omega
    | succ i ih =>
      rintro hi j hj
      obtain ⟨s, _, _, _, _, h, hW, _⟩ := hstep i _ (List.getElem?_eq_getElem (by omega))
      rw [h, mem_touch]
      rcases hj with hj | ⟨i', h1, h2, h3⟩
      · exact .inl (ih (by omega) j (.inl hj))
      · by_cases he : i' = i
        · subst he
          rw [hW] at h3
          simp only [List.mem_append, List.mem_map, List.mem_range] at h3
          rcases h3 with ⟨⟨j', ob⟩, h3, rfl⟩ | ⟨x, _, h3⟩
          · exact .inr ⟨h2, ob, h3⟩
          · have := hm i' (by omega); omega
        · exact .inl (ih (by omega) j (.inr ⟨i', by omega, h2, h3⟩))
  -- the round
  have hlast : ∀ (φ : Phi) (T : Tab) (a : Act) (w : World) (L : Nat → Prop), (∀ j, j < ops.toList.length → L j) → DInv ops.toList st W φ0 T0 w0 N m L φ T a w → Q .normal a w := by
    intro φ T a w L hall h
    have hT : T = rdT (st ops.toList.length).tab := by
      funext k
      exact h.tab k _ (Nat.le_refl _) (fun j hj _ => hall j hj) (fun j h1 h2 => absurd h2 (by omega))
    have hno : ∀ {t : Nat} (j : Nat) (o : Oper), ops.toList.length ≤ j → ops.toList[j]? = some o → o.dst = some t → ¬ L j := fun j o h1 h2 => by
      rw [List.getElem?_eq_none h1] at h2; cases h2
    refine hK (st ops.toList.length) φ a w ?_ hfin
    have hU : ∀ j, (j ∈ (st 0).tch ∨ ∃ i, L i ∧ j < m ∧ j ∈ W i) → j ∈ (st ops.toList.length).tch := by
      rintro j (hj | ⟨i, h1, h2, h3⟩)
      · exact htch _ (Nat.le_refl _) j (.inl hj)
      · exact htch _ (Nat.le_refl _) j (.inr ⟨i, h.dom i h1, h2, h3⟩)
    have hkl := h.kl.mono hU
    subst hT
    refine { defers := h.defers, size := h.size, sl := ?_, rel := h.rel, ge := h.ge, fresh := h.past, kept := hkl.kept, link := hkl.link, low := hs.low, long := hm _ (Nat.le_refl _), low0 := hs.low0, base := h.base }
    intro t
    exact h.sl t _ (Nat.le_refl _) (fun j o hj _ _ => hall j hj) hno
  have round : ∀ (fuel : Nat) (U : List Nat) (listed : Array Bool) (φ : Phi) (T : Tab) (a : Act) (w : World), listed.size = ops.size → U.length ≤ fuel → (∀ j, j < ops.size → listed.getD j false = false → j ∈ U) →
      DInv ops.toList st W φ0 T0 w0 N m (fun j => listed.getD j false = true) φ T a w → wpAny P .any ops Q fuel listed a w := by
    intro fuel
    have hready : ∀ (listed : Array Bool), Region.ready .any ops listed = [] → listed.size = ops.size → ∀ n j, j < n → j < ops.size → listed.getD j false = true := by
      intro listed hr hsz n
      induction n with
      | zero => intro j hj; omega
      | succ n ih =>
        intro j hj hjs
        cases hc : listed.getD j false with
        | true => rfl
        | false =>
          exfalso
          have : j ∈ Region.ready .any ops listed := by
            rw [mem_ready]
            refine ⟨?_, ops[j], by simp [hjs], fun e he hb => ?_⟩
            · simp only [Array.getD_eq_getD_getElem?] at hc ⊢
              have : j < listed.size := by omega
              simpa [this] using hc
            · have hd : e.on ∈ depsOf ops[j] := by
                unfold depsOf
                rw [List.mem_filterMap]
                exact ⟨e, by simpa using he, by rw [if_pos hb]⟩
              have := (drawOk_spec ok hdraw (show ops.toList[j]? = some ops[j] by simp [hjs])).1 _ hd
              exact ih e.on (by omega) (by omega)
          rw [hr] at this; simp at this
    have hend : ∀ (listed : Array Bool) (φ : Phi) (T : Tab) (a : Act) (w : World), Region.ready .any ops listed = [] → listed.size = ops.size → DInv ops.toList st W φ0 T0 w0 N m (fun j => listed.getD j false = true) φ T a w → Q .normal a w := by
      intro listed φ T a w hr hsz h
      exact hlast φ T a w _ (fun j hj => hready listed hr hsz (j + 1) j (by omega) (by simpa using hj)) h
    induction fuel with
    | zero =>
      intro U listed φ T a w hsz hU hUm h
      have hr : Region.ready .any ops listed = [] := by
        apply List.eq_nil_iff_forall_not_mem.2
        intro j hj
        obtain ⟨h1, o, h2, _⟩ := mem_ready.1 hj
        have hjs : j < ops.size := (Array.getElem?_eq_some_iff.1 h2).1
        have : j ∈ U := hUm j hjs (by
          simp only [Array.getD_eq_getD_getElem?] at h1 ⊢
          have : j < listed.size := by omega
          simpa [this] using h1)
        have := List.length_pos_of_mem this
        omega
      exact ⟨hr, hend listed φ T a w hr hsz h⟩
    | succ fuel ih =>
      intro U listed φ T a w hsz hU hUm h
      refine ⟨fun hr => hend listed φ T a w hr hsz h, fun i hi => ?_⟩
      obtain ⟨h1, o, h2, h3⟩ := mem_ready.1 hi
      have his : i < ops.size := (Array.getElem?_eq_some_iff.1 h2).1
      have hil : i < ops.toList.length := by simpa using his
      have ho : ops.toList[i]? = some o := by simpa using h2
      have hnL : listed.getD i false = false := by
        simp only [Array.getD_eq_getD_getElem?] at h1 ⊢
        have : i < listed.size := by omega
        simpa [this] using h1
      have hLd : ∀ d ∈ depsOf o, listed.getD d false = true := by
        intro d hd
        unfold depsOf at hd
        rw [List.mem_filterMap] at hd
        obtain ⟨e, he, hb⟩ := hd
        by_cases hbb : Region.binds .any e = true
        · rw [if_pos hbb] at hb; cases hb
          exact h3 e (by simpa using he) hbb
        · rw [if_neg hbb] at hb; cases hb
      obtain ⟨s, hd, hsl, htab, hlen', htch', hW, hdo⟩ := hstep i o ho
      have hbefore : ∀ j oj, j < i → ops.toList[j]? = some oj → ¬ listed.getD j false = true → pairOk ops.toList oj o (log.getD j ([], [])) (log.getD i ([], [])) = true := by
        intro j oj hj hoj hnl
        rcases (drawOk_spec ok hdraw ho).2 j oj hj hoj with hc | hc
        · exact absurd (anc_down ok hdraw h.down (i + 1) i o (by omega) ho hLd j hc) hnl
        · exact hc
      have hafter : ∀ j oj, i < j → ops.toList[j]? = some oj → listed.getD j false = true → pairOk ops.toList o oj (log.getD i ([], [])) (log.getD j ([], [])) = true := by
        intro j oj hj hoj hl
        rcases (drawOk_spec ok hdraw hoj).2 i o hj ho with hc | hc
        · have := anc_down ok hdraw h.down (j + 1) j oj (by omega) hoj (h.down j oj hl hoj) i hc
          rw [hnL] at this; cases this
        · exact hc
      have hop : ∀ j, j < ops.toList.length → ∃ oj, ops.toList[j]? = some oj := fun j hj => ⟨_, List.getElem?_eq_getElem hj⟩
      have hnot : ¬ (listed.getD i false = true) := by rw [hnL]; simp
      -- what the operation names and reads stands as in the text's order
      have hslot : ∀ t ∈ namesOf ops.toList o, VR φ T w (look (st i).sl t) (a.tmps.getD t undef) := by
        intro t ht
        refine h.sl t i (by omega) (fun j oj hj hoj hdj => ?_) (fun j oj hj hoj hdj hl => ?_)
        · apply Classical.byContradiction
          intro hnl
          have := hbefore j oj hj hoj hnl
          simp only [pairOk, Bool.and_eq_true] at this
          exact apartL_spec this.1.2 (by rw [hdj]; simp) ht
        · rcases Nat.lt_or_ge i j with hij | hij
          · have := hafter j oj hij hoj hl
            simp only [pairOk, Bool.and_eq_true] at this
            exact apartL_spec this.2 (by rw [hdj]; simp) ht
          · have : j = i := by omega
            subst this; exact hnot hl
      have hdstfree : ∀ j oj t, i < j → ops.toList[j]? = some oj → listed.getD j false = true → oj.dst = some t → o.dst ≠ some t := by
        intro j oj t hij hoj hl hdj hdi
        have := hafter j oj hij hoj hl
        simp only [pairOk, Bool.and_eq_true] at this
        exact apartL_spec this.2 (by rw [hdj]; simp) (by unfold namesOf; rw [hdi]; simp : t ∈ _)
      have hmem : ∀ k, (k ∈ (log.getD i ([], [])).1 ∨ k ∈ W i) → T k = rdT (st i).tab k := by
        intro k hk
        refine h.tab k i (by omega) (fun j hj hkj => ?_) (fun j hj hjl hkj hl => ?_)
        · apply Classical.byContradiction
          intro hnl
          obtain ⟨oj, hoj⟩ := hop j (by omega)
          have := hbefore j oj hj hoj hnl
          simp only [pairOk, Bool.and_eq_true] at this
          rcases hk with hk | hk
          · exact apartL_spec this.1.1.1.1 hkj hk
          · exact apartL_spec this.1.1.1.2 hkj hk
        · rcases Nat.lt_or_ge i j with hij | hij
          · obtain ⟨oj, hoj⟩ := hop j hjl
            have := hafter j oj hij hoj hl
            simp only [pairOk, Bool.and_eq_true] at this
            rcases hk with hk | hk
            · exact apartL_spec this.1.1.2 hkj hk
            · exact apartL_spec this.1.1.1.2 hk hkj
          · have : j = i := by omega
            subst this; exact hnot hl
      have hwfree : ∀ j k, i < j → j < ops.toList.length → listed.getD j false = true → k ∈ W i → k ∉ W j := by
        intro j k hij hjl hl hki hkj
        obtain ⟨oj, hoj⟩ := hop j hjl
        have := hafter j oj hij hoj hl
        simp only [pairOk, Bool.and_eq_true] at this
        exact apartL_spec this.1.1.1.2 hki hkj
      have hnewW : ∀ k, (st i).tab.length ≤ k → k < (st i).tab.length + s.news.length → k ∈ W i := by
        intro k h1 h2
        rw [hW]
        simp only [List.mem_append, List.mem_map, List.mem_range]
        exact .inr ⟨k - (st i).tab.length, by omega, by omega⟩
      refine hdo φ T a w _ h.rel hslot (fun k hk => hmem k (.inl hk)) (fun k h1 h2 => ⟨h.fresh i hil hnot k h1 (by omega), ?_⟩) ?_
      · rw [hmem k (.inr (hnewW k h1 h2))]; exact rdT_big h1
      intro φ' r w' hv hrel hge hdom hkept
      have hgetD : ∀ j, (listed.setIfInBounds i true).getD j false = true ↔ (listed.getD j false = true ∨ j = i) := by
        intro j
        simp only [Array.getD_eq_getD_getElem?, Array.getElem?_setIfInBounds]
        by_cases hj : i = j
        · subst hj
          have : i < listed.size := by omega
          simp [this]
        · simp only [if_neg hj]
          constructor
          · exact .inl
          · rintro (h | h)
            · exact h
            · exact absurd h.symm hj
      refine ih (U.erase i) _ φ' (newT T (st i).tab.length s) _ w' (by simpa using hsz) ?_ ?_ ?_
      · have := List.length_erase_of_mem (hUm i his hnL)
        have := List.length_pos_of_mem (hUm i his hnL)
        omega
      · intro j hj hjl
        have hji : j ≠ i := by
          intro he
          have := (hgetD j).2 (.inr he)
          rw [hjl] at this; cases this
        rw [List.mem_erase_of_ne hji]
        refine hUm j hj ?_
        cases hc : listed.getD j false with
        | false => rfl
        | true =>
          have := (hgetD j).2 (.inl hc)
          rw [hjl] at this; cases this
      · refine {
          defers := (put_defers _ _ _).trans h.defers, size := (put_size _ _ _).trans h.size
          down := ?_, dom := ?_, sl := ?_, tab := ?_, rel := hrel, ge := h.ge.trans hge, fresh := ?_, past := ?_, base := ?_, kl := ?_ }
        · intro j oj hj hoj d hdd
          rw [hgetD] at hj ⊢
          left
          rcases hj with hj | rfl
          · exact h.down j oj hj hoj d hdd
          · rw [ho] at hoj; cases hoj; exact hLd d hdd
        · intro j hj
          rcases (hgetD j).1 hj with hj | rfl
          · exact h.dom j hj
          · exact hil
        · intro t i' hi' hb haf
          simp only [hgetD] at hb haf
          by_cases hdt : o.dst = some t
          · have hii : i < i' := by
              rcases Nat.lt_or_ge i i' with h' | h'
              · exact h'
              · exact absurd (.inr rfl) (haf i o h' ho hdt)
            obtain ⟨d, rfl⟩ : ∃ d, i' = i + 1 + d := ⟨i' - (i + 1), by omega⟩
            rw [hslsame t d (i + 1) hi' (fun j oj h1 h2 hoj hdj => by
              rcases hb j oj h2 hoj hdj with hl | rfl
              · exact hdstfree j oj t (by omega) hoj hl hdj hdt
              · omega)]
            rw [hsl, hdt]
            simp only [putS, look_put, if_pos rfl, Act.put]
            rw [hdt] at hd
            have : t < a.tmps.size := by rw [h.size]; exact hd
            simp [Array.getD_eq_getD_getElem?, this]; exact hv
          · have hget : ((a.put o.dst r).tmps.getD t undef) = a.tmps.getD t undef := by
              cases hdd : o.dst with
              | none => rfl
              | some t' =>
                rw [hdd] at hdt
                have : t' ≠ t := fun e => hdt (by rw [e])
                simp [Act.put, Array.getD_eq_getD_getElem?, Array.getElem?_setIfInBounds, this]
            rw [hget]
            refine (h.sl t i' hi' (fun j oj h1 hoj hdj => ?_) (fun j oj h1 hoj hdj hl => haf j oj h1 hoj hdj (.inl hl))).mono hge
            rcases hb j oj h1 hoj hdj with hl | rfl
            · exact hl
            · rw [ho] at hoj; cases hoj; exact absurd hdj hdt
        · intro k i' hi' hb haf
          simp only [hgetD] at hb haf
          by_cases hk : k ∈ W i
          · have hii : i < i' := by
              rcases Nat.lt_or_ge i i' with h' | h'
              · exact h'
              · exact absurd (.inr rfl) (haf i h' hil hk)
            obtain ⟨d, rfl⟩ : ∃ d, i' = i + 1 + d := ⟨i' - (i + 1), by omega⟩
            rw [htabsame k d (i + 1) hi' (fun j h1 h2 hkj => by
              rcases hb j h2 hkj with hl | rfl
              · exact hwfree j k (by omega) (by omega) hl hk hkj
              · omega), htab]
            exact newT_congr _ _ _ _ _ (hmem k (.inr hk))
          · rw [newT_out _ _ _ _ (fun ob hob => hk (by rw [hW]; simp only [List.mem_append, List.mem_map]; exact .inl ⟨(k, ob), hob, rfl⟩)) (fun ⟨h1, h2⟩ => hk (hnewW k h1 h2))]
            refine h.tab k i' hi' (fun j h1 hkj => ?_) (fun j h1 h2 hkj hl => haf j h1 h2 hkj (.inl hl))
            rcases hb j h1 hkj with hl | rfl
            · exact hl
            · exact absurd hkj hk
        · intro j hj hnl k h1 h2
          simp only [hgetD, not_or] at hnl
          cases hc : φ' k with
          | none => rfl
          | some q =>
            rcases hdom k (by rw [hc]; simp) with h4 | h4
            · exact absurd (h.fresh j hj hnl.1 k h1 h2) h4
            · exfalso
              rcases Nat.lt_or_ge j i with h' | h'
              · have := hle (j + 1) i (by omega) (by omega); omega
              · have := hle (i + 1) j (by have := hnl.2; omega) (by omega); omega
        · intro k hk
          cases hc : φ' k with
          | none => rfl
          | some q =>
            rcases hdom k (by rw [hc]; simp) with h4 | h4
            · exact absurd (h.past k hk) h4
            · have := hle (i + 1) ops.toList.length (by omega) (Nat.le_refl _); omega
        · intro k hk hφ
          rcases hdom k hφ with h1 | h1
          · exact h.base k hk h1
          · have := hm i (by omega); omega
        · refine (h.kl.next h.ge.size hlow (hm i (by omega)) hrel hge hkept).mono ?_
          intro j hjj
          rcases hjj with ((hj | ⟨i', h1, h2, h3⟩) | ⟨h1, ob, h2⟩)
          · exact .inl hj
          · exact .inr ⟨i', (hgetD i').2 (.inl h1), h2, h3⟩
          · refine .inr ⟨i, (hgetD i).2 (.inr rfl), h1, ?_⟩
            rw [hW]
            simp only [List.mem_append, List.mem_map]
            exact .inl ⟨(j, ob), h2, rfl⟩
  refine round ops.size (List.range ops.size) _ φ (rdT σ.tab) a w (by simp) (by simp) (fun j hj _ => by simpa using hj) ?_
  have hno : ∀ j, ¬ ((Array.replicate ops.size false).getD j false = true) := by
    intro j
    simp only [Array.getD_eq_getD_getElem?, Array.getElem?_replicate]
    split <;> simp
  refine {
    defers := hs.defers, size := hs.size, down := fun j _ hj => absurd hj (hno j), dom := fun j hj => absurd hj (hno j), sl := ?_, tab := ?_, rel := hs.rel, ge := hs.ge, fresh := ?_, past := ?_, base := hs.base, kl := ?_ }
  · intro t i hi hb _
    have : look (st i).sl t = look (st 0).sl t := by
      have := hslsame t i 0 (by omega) (fun j o _ h1 h2 h3 => hno j (hb j o (by omega) h2 h3))
      simpa using this
    rw [this, hst0]; exact hs.sl t
  · intro k i hi hb _
    have := htabsame k i 0 (by omega) (fun j _ h1 h2 => hno j (hb j (by omega) h2))
    rw [← hst0]
    simpa using this.symm
  · intro i hi _ k h1 _
    exact hs.fresh k (by have := hle 0 i (by omega) (by omega); rw [hst0] at this; omega)
  · intro k h1
    exact hs.fresh k (by have := hle 0 ops.toList.length (by omega) (Nat.le_refl _); rw [hst0] at this; omega)
  · rw [hst0]
    exact KL.mono ⟨hs.kept, hs.link⟩ (fun j hj => .inl hj)
end
end Go.Proofs.Ytjdpppbegjnpaaa
