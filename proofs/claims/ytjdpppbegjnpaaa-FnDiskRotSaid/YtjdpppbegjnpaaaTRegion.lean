/- Regions in the text's order. -/
import Derived.Test.YtjdpppbegjnpaaaTStep2
set_option linter.unusedSimpArgs false
set_option linter.unusedVariables false
set_option linter.unusedSectionVars false
namespace Go.Proofs.Ytjdpppbegjnpaaa
open Go.RowKit

/-- The state of the evaluator tells the machine's. φ0, T0, w0: how the call began; N: so many slots; m: so many objects are the caller's. -/
structure Sim (φ0 : Phi) (T0 : Tab) (w0 : World) (N m : Nat) (φ : Phi) (σ : Sg) (a : Act) (w : World) : Prop where
  defers : a.defers = []
  size : a.tmps.size = N
  sl : SlR φ (rdT σ.tab) w σ.sl a.tmps
  rel : Rel φ (rdT σ.tab) w
  ge : Ge φ0 T0 w0 φ (rdT σ.tab) w
  fresh : ∀ k, σ.tab.length ≤ k → φ k = none
  kept : Kept φ0 T0 (fun j => j ∈ σ.tch) w0 w
  link : ∀ k b base, rdT σ.tab k ≠ none → φ k = some (b, base) → b < w0.heap.size → ∃ j base', T0 j ≠ none ∧ φ0 j = some (b, base') ∧ (j = k ∨ j ∈ σ.tch)
  low : ∀ j, T0 j ≠ none → j < m
  long : m ≤ σ.tab.length
  low0 : ∀ j, φ0 j ≠ none → j < m
  base : ∀ k, k < m → φ k ≠ none → φ0 k ≠ none

theorem rdT_nil (k : Nat) : rdT [] k = none := by simp [rdT]
theorem rdT_big {tab : List (Option Obj)} {k : Nat} (h : tab.length ≤ k) : rdT tab k = none := by simp [rdT, List.getElem?_eq_none h]
theorem rdT_set (tab : List (Option Obj)) (k : Nat) (o : Option Obj) (h : rdT tab k ≠ none) (j : Nat) : rdT (tab.set k o) j = if j = k then o else rdT tab j := by
  have hk : k < tab.length := by
    rcases Nat.lt_or_ge k tab.length with h' | h'
    · exact h'
    · exact absurd (rdT_big h') h
  unfold rdT
  rw [List.getElem?_set]
  by_cases hj : j = k
  · subst hj; simp [hk]
  · rw [if_neg (fun e => hj e.symm), if_neg hj]
theorem setT_len : ∀ (upd : List (Nat × Option Obj)) (tab : List (Option Obj)), (setT tab upd).length = tab.length
  | [], tab => rfl
  | (k, o) :: r, tab => by rw [setT, setT_len r]; split <;> simp
theorem setT_rd : ∀ (upd : List (Nat × Option Obj)) (tab : List (Option Obj)), rdT (setT tab upd) = updT (rdT tab) upd
  | [], tab => rfl
  | (k, o) :: r, tab => by
    rw [setT, setT_rd r, updT]
    congr 1
    funext j
    cases hk : rdT tab k with
    | none => simp [hk]
    | some ob =>
      simp only [Option.isSome_some, if_true]
      rw [rdT_set tab k o (by rw [hk]; simp)]
      simp
theorem rdT_append (tab : List (Option Obj)) (news : List Obj) : rdT (tab ++ news.map some) = addT (rdT tab) tab.length news := by
  funext k
  unfold addT rdT
  by_cases h : tab.length ≤ k
  · rw [if_pos h, List.getElem?_append_right h, List.getElem?_eq_none h]
    simp only [List.getElem?_map]
    cases news[k - tab.length]? <;> rfl
  · rw [if_neg h, List.getElem?_append_left (by omega)]
theorem newT_rd (tab : List (Option Obj)) (s : St) : rdT (setT tab s.upd ++ s.news.map some) = newT (rdT tab) tab.length s := by
  rw [rdT_append, setT_len, setT_rd]; rfl

theorem mem_touch (m : Nat) : ∀ (upd : List (Nat × Option Obj)) (tch : List Nat) (j : Nat), j ∈ touch m tch upd ↔ j ∈ tch ∨ (j < m ∧ ∃ o, (j, o) ∈ upd)
  | [], tch, j => by simp [touch]
  | (k, o) :: r, tch, j => by
    rw [touch, mem_touch m r]
    by_cases hk : k < m
    · simp only [if_pos hk, List.mem_cons]
      constructor
      · rintro ((rfl | h) | ⟨h1, o', h2⟩)
        · exact .inr ⟨hk, o, .inl rfl⟩
        · exact .inl h
        · exact .inr ⟨h1, o', .inr h2⟩
      · rintro (h | ⟨h1, o', h2 | h2⟩)
        · exact .inl (.inr h)
        · cases h2; exact .inl (.inl rfl)
        · exact .inr ⟨h1, o', h2⟩
    · simp only [if_neg hk, List.mem_cons]
      constructor
      · rintro (h | ⟨h1, o', h2⟩)
        · exact .inl h
        · exact .inr ⟨h1, o', .inr h2⟩
      · rintro (h | ⟨h1, o', h2 | h2⟩)
        · exact .inl h
        · cases h2; exact absurd h1 hk
        · exact .inr ⟨h1, o', h2⟩

theorem look_put (sl : List (Nat × TV)) (d : Nat) (v : TV) (i : Nat) : look ((d, v) :: sl) i = if d = i then v else look sl i := rfl

theorem SlR.mono {φ φ' : Phi} {T T' : Tab} {w w' : World} {sl : List (Nat × TV)} {tmps : Array Value} (h : SlR φ T w sl tmps) (g : Ge φ T w φ' T' w') : SlR φ' T' w' sl tmps := fun i => (h i).mono g
theorem SlR.put {φ : Phi} {T : Tab} {w : World} {sl : List (Nat × TV)} {a : Act} {dst : Option Tmp} {v : TV} {r : Value} (h : SlR φ T w sl a.tmps) (hd : dstOk a.tmps.size dst) (hv : VR φ T w v r) : SlR φ T w (putS sl dst v) (a.put dst r).tmps := by
  cases dst with
  | none => exact h
  | some d =>
    intro i
    simp only [putS, look_put, Act.put]
    by_cases hi : d = i
    · subst hi
      rw [if_pos rfl]
      have : d < a.tmps.size := hd
      simp [Array.getD_eq_getD_getElem?, this]; exact hv
    · rw [if_neg hi]
      have : (a.tmps.setIfInBounds d r).getD i undef = a.tmps.getD i undef := by
        simp [Array.getD_eq_getD_getElem?, Array.getElem?_setIfInBounds, hi]
      rw [this]; exact h i
theorem put_defers (a : Act) (dst : Option Tmp) (r : Value) : (a.put dst r).defers = a.defers := by cases dst <;> rfl
theorem put_size (a : Act) (dst : Option Tmp) (r : Value) : (a.put dst r).tmps.size = a.tmps.size := by cases dst <;> simp [Act.put]

section
variable {P : Program} {E : Env} (ok : EnvOk P E) {φ0 : Phi} {T0 : Tab} {w0 : World} {N m : Nat}
include ok

/-- Behind an operation. -/
theorem Sim.next {φ φ' : Phi} {σ : Sg} {a : Act} {w w' : World} {s : St} {dst : Option Tmp} {r : Value} (h : Sim φ0 T0 w0 N m φ σ a w) (hd : dstOk N dst)
    (hv : VR φ' (newT (rdT σ.tab) σ.tab.length s) w' s.v r) (hrel : Rel φ' (newT (rdT σ.tab) σ.tab.length s) w') (hge : Ge φ (rdT σ.tab) w φ' (newT (rdT σ.tab) σ.tab.length s) w') (hdom : Dom φ φ' σ.tab.length s.news.length)
    (hkept : Kept φ (rdT σ.tab) (fun k => ∃ o, (k, o) ∈ s.upd) w w') :
    Sim φ0 T0 w0 N m φ' ⟨putS σ.sl dst s.v, setT σ.tab s.upd ++ s.news.map some, touch m σ.tch s.upd⟩ (a.put dst r) w' := by
  have hT := newT_rd σ.tab s
  refine {
    defers := (put_defers _ _ _).trans h.defers, size := (put_size _ _ _).trans h.size
    sl := ?_, rel := ?_, ge := ?_, fresh := ?_, kept := ?_, link := ?_, low := h.low, long := ?_, low0 := h.low0, base := ?_ }
  · simp only [hT]; exact (h.sl.mono hge).put (by rw [h.size]; exact hd) hv
  · simp only [hT]; exact hrel
  · simp only [hT]; exact h.ge.trans hge
  · intro k hk
    simp only [List.length_append, setT_len, List.length_map] at hk
    cases hc : φ' k with
    | none => rfl
    | some q =>
      rcases hdom k (by rw [hc]; simp) with h1 | h1
      · exact absurd (h.fresh k (by omega)) h1
      · omega
  · intro b hb hU
    have h1 : w.heap[b]? = w0.heap[b]? := h.kept b hb fun j base hj => hU j base ((mem_touch m s.upd σ.tch j).2 (.inl hj))
    rw [← h1]
    refine hkept b (Nat.lt_of_lt_of_le hb h.ge.size) ?_
    rintro k base ⟨o, ho⟩ hTk hφk
    obtain ⟨j, base', hj0, hφj, hjk⟩ := h.link k b base hTk hφk hb
    refine hU j base' ((mem_touch m s.upd σ.tch j).2 ?_) hj0 hφj
    rcases hjk with rfl | hjk
    · exact .inr ⟨h.low j hj0, o, ho⟩
    · exact .inl hjk
  · intro k b base hk hφk hb
    simp only [hT] at hk
    by_cases hold : rdT σ.tab k ≠ none ∧ φ k = some (b, base)
    · obtain ⟨j, base', h1, h2, h3⟩ := h.link k b base hold.1 hold.2 hb
      exact ⟨j, base', h1, h2, h3.imp id fun h => (mem_touch m s.upd σ.tch j).2 (.inl h)⟩
    · -- a block of the caller's that has gone over to another object
      obtain ⟨k2, base2, hk2, hφ2⟩ := hge.own b (Nat.lt_of_lt_of_le hb h.ge.size) ⟨k, base, hk, hφk⟩
      obtain ⟨j, base', h1, h2, h3⟩ := h.link k2 b base2 hk2 hφ2 hb
      refine ⟨j, base', h1, h2, ?_⟩
      rcases h3 with rfl | h3
      · by_cases hjk : j = k
        · exact .inl hjk
        · right
          rw [mem_touch]
          right
          refine ⟨h.low j h1, ?_⟩
          -- j was alive with this block; now k has it: j must have been turned
          by_cases hex : ∃ o, (j, o) ∈ s.upd
          · exact hex
          · exfalso
            have hjT : newT (rdT σ.tab) σ.tab.length s j ≠ none := by
              have h4 : updT (rdT σ.tab) s.upd j = rdT σ.tab j := updT_other _ _ _ fun o ho => hex ⟨o, ho⟩
              have h5 : j < σ.tab.length := by
                rcases Nat.lt_or_ge j σ.tab.length with h' | h'
                · exact h'
                · exact absurd (rdT_big h') hk2
              unfold newT addT
              rw [if_neg (by omega), h4]; exact hk2
            exact hjk (hrel.inj j k b base2 base hjT hk (hge.phi _ _ hφ2) hφk)
      · exact .inr ((mem_touch m s.upd σ.tch j).2 (.inl h3))
  · simp only [List.length_append, setT_len]; have := h.long; omega
  · intro k hk hφ
    rcases hdom k hφ with h1 | h1
    · exact h.base k hk h1
    · have := h.long; omega

theorem gcond_wanted {ops : Array Oper} {φ : Phi} {T : Tab} {w : World} {sl : List (Nat × TV)} {a : Act} {o : Oper} {g : Bool} (hsl : ∀ j b d, o.guard = some (j, b) → (ops[j]?).bind (·.dst) = some d → VR φ T w (look sl d) (a.tmps.getD d undef)) (h : gcond ops.toList sl o = some g) : Region.wanted o (yielded ops a.tmps) = g := by
  unfold gcond at h
  unfold Region.wanted
  split at h
  · rename_i hg; cases h; rw [hg]
  · rename_i j want hg
    rw [hg]
    simp only
    split at h
    · cases h
    · rename_i d hd
      have hd' : (ops[j]?).bind (·.dst) = some d := by simpa using hd
      have hsld := hsl j want d hg hd'
      have key : ∀ b : Bool, a.tmps.getD d undef = .bool b → yielded ops a.tmps j = some b := by
        intro b hb
        unfold yielded
        rw [hd']
        simp only [Option.bind_some]
        rw [Array.getD_eq_getD_getElem?] at hb
        cases hx : a.tmps[d]? with
        | none => rw [hx] at hb; simp [undef] at hb
        | some v => rw [hx] at hb; simp only [Option.getD_some] at hb; subst hb; rfl
      split at h
      · rename_i b hl
        cases h
        rw [hl] at hsld
        simp only [VR, CR] at hsld
        rw [key b hsld]
        cases b <;> cases want <;> rfl
      · rename_i c b hl
        cases h
        rw [hl] at hsld
        simp only [VR, CR] at hsld
        cases c with
        | true =>
          rw [key b (hsld.1 rfl)]
          cases b <;> cases want <;> rfl
        | false =>
          have hund := hsld.2 rfl
          have : yielded ops a.tmps j = none := by
            unfold yielded
            rw [hd']
            simp only [Option.bind_some]
            rw [Array.getD_eq_getD_getElem?] at hund
            cases hx : a.tmps[d]? with
            | none => rfl
            | some v => rw [hx] at hund; simp only [Option.getD_some] at hund; subst hund; rfl
          rw [this]; rfl
      · cases h

theorem goOps_sound {ops : Array Oper} {Q : Exit → Act → World → Prop} : ∀ (is : List Nat) (os : List Oper) (σ : Sg) (K : Sg → Prop) (φ : Phi) (a : Act) (w : World), is.length = os.length → (∀ (i : Nat) (k : Nat) (o : Oper), is[i]? = some k → os[i]? = some o → ops[k]? = some o) →
    goOps E N m ops.toList os σ K → Sim φ0 T0 w0 N m φ σ a w → (∀ σ' φ' a' w', Sim φ0 T0 w0 N m φ' σ' a' w' → K σ' → Q .normal a' w') → wpOps P ops Q is a w
  | [], [], σ, K, φ, a, w, _, _, hg, hs, hK => by
    simp only [wpOps]
    exact hK σ φ a w hs hg
  | i :: is, o :: os, σ, K, φ, a, w, hl, hio, hg, hs, hK => by
    have ho : ops[i]? = some o := hio 0 i o rfl rfl
    simp only [wpOps, ho]
    unfold goOps stepv at hg
    have hrec : ∀ σ' φ' a' w', Sim φ0 T0 w0 N m φ' σ' a' w' → goOps E N m ops.toList os σ' K → wpOps P ops Q is a' w' := fun σ' φ' a' w' hs' hg' =>
      goOps_sound is os σ' K φ' a' w' (by simpa using hl) (fun i k o h1 h2 => hio (i + 1) k o (by simpa using h1) (by simpa using h2)) hg' hs' hK
    have hfr : ∀ (s : St), ∀ k, σ.tab.length ≤ k → k < σ.tab.length + s.news.length → φ k = none ∧ rdT σ.tab k = none := fun s k hk _ => ⟨hs.fresh k hk, rdT_big hk⟩
    split at hg
    · rename_i hgd
      have hw : Region.wanted o (yielded ops a.tmps) = true := by unfold Region.wanted; rw [hgd]
      rw [if_pos hw]
      left
      cases hop : opv E (rdT σ.tab) σ.tab.length σ.sl o.op with
      | mk p v upd news =>
        rw [hop] at hg
        obtain ⟨hd, hu, hp, hk⟩ := hg
        refine opv_sound ok (rd := rdT σ.tab) (n := σ.tab.length) (sl := σ.sl) hs.rel (fun t _ => hs.sl t) hu (fun _ _ => rfl) (by rw [hop]; exact hp) (hfr _) _ _ ?_
        intro r w' φ' h1 h2 h3 h4 h5
        rw [hop] at h1 h2 h3 h4 h5
        exact hrec _ φ' _ w' (hs.next ok (s := ⟨p, v, upd, news⟩) hd h1 h2 h3 h4 h5) hk
    · split at hg
      · obtain ⟨hgc, hd, hk⟩ := hg
        have hw := gcond_wanted ok (fun _ _ d _ _ => hs.sl d) hgc
        rw [if_neg (by rw [hw]; simp)]
        have := hs.next ok (s := ⟨True, .gd false (.one .any), [], []⟩) (dst := o.dst) (r := undef) (φ' := φ) (w' := w) hd (by unfold VR; exact ⟨fun h => (by cases h), fun _ => rfl⟩)
          (by rw [newT_pure _ _ _ rfl rfl]; exact hs.rel) (by rw [newT_pure _ _ _ rfl rfl]; exact Ge.refl _ _ _) (fun k hk => .inl hk) (fun _ _ _ => rfl)
        simp only [setT, List.map_nil, List.append_nil, touch] at this
        exact hrec _ φ _ w this hk
      split at hg
      · exact hg.elim
      · rename_i g hgc
        have hw := gcond_wanted ok (fun _ _ d _ _ => hs.sl d) hgc
        cases hop : opv E (rdT σ.tab) σ.tab.length σ.sl o.op with
        | mk p v upd news =>
          rw [hop] at hg
          obtain ⟨hd, hgt, hk⟩ := hg
          cases g with
          | true =>
            obtain ⟨hu, hp⟩ := hgt rfl
            rw [if_pos hw]
            left
            refine opv_sound ok (rd := rdT σ.tab) (n := σ.tab.length) (sl := σ.sl) hs.rel (fun t _ => hs.sl t) hu (fun _ _ => rfl) (by rw [hop]; exact hp) (hfr _) _ _ ?_
            intro r w' φ' h1 h2 h3 h4 h5
            rw [hop] at h1 h2 h3 h4 h5
            have := hs.next ok (s := ⟨p, .gd true v, upd, news⟩) (dst := o.dst) (r := r) hd (by unfold VR; exact ⟨fun _ => h1, fun h => by cases h⟩) h2 h3 h4 h5
            exact hrec _ φ' _ w' this hk
          | false =>
            rw [if_neg (by rw [hw]; simp)]
            have := hs.next ok (s := ⟨True, .gd false v, [], []⟩) (dst := o.dst) (r := undef) (φ' := φ) (w' := w) hd (by unfold VR; exact ⟨fun h => (by cases h), fun _ => rfl⟩)
              (by rw [newT_pure _ _ _ rfl rfl]; exact hs.rel) (by rw [newT_pure _ _ _ rfl rfl]; exact Ge.refl _ _ _) (fun k hk => .inl hk) (fun _ _ _ => rfl)
            exact hrec _ φ _ w this hk
  | [], _ :: _, _, _, _, _, _, hl, _, _, _, _ => by simp at hl
  | _ :: _, [], _, _, _, _, _, hl, _, _, _, _ => by simp at hl

/-- A region in the text's order. -/
theorem region_sound {ops : Array Oper} {Q : Exit → Act → World → Prop} {σ : Sg} {K : Sg → Prop} {φ : Phi} {a : Act} {w : World} (hg : goOps E N m ops.toList ops.toList σ K) (hs : Sim φ0 T0 w0 N m φ σ a w)
    (hK : ∀ σ' φ' a' w', Sim φ0 T0 w0 N m φ' σ' a' w' → K σ' → Q .normal a' w') : wpOps P ops Q (List.range ops.size) a w :=
  goOps_sound ok _ ops.toList σ K φ a w (by simp) (fun i k o h1 h2 => by
    have hi : i < ops.size := by simpa using (List.getElem?_eq_some_iff.1 h1).1
    simp [hi] at h1
    subst h1
    simpa using h2) hg hs hK
end
end Go.Proofs.Ytjdpppbegjnpaaa
