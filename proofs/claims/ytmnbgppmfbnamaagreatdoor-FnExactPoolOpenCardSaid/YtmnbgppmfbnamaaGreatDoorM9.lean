import Derived.Test.YtmnbgppmfbnamaaGreatDoorM5
import Derived.Test.YtmnbgppmfbnamaaGreatDoorM7
import Derived.Test.YtmnbgppmfbnamaaGreatDoorM8
set_option linter.unusedSimpArgs false
set_option linter.unusedVariables false
set_option linter.unusedSectionVars false
/- Plain facts: entries of a table, pointers of sets, valid cores. -/
namespace Go.Proofs.YtmnbgppmfbnamaaGreatDoor
open Go.RowKit

def Eight.list {α : Type} (m : Eight α) : List α := [m.x0, m.x1, m.x2, m.x3, m.x4, m.x5, m.x6, m.x7]
def Eight.get {α : Type} (m : Eight α) : Nat → α
  | 0 => m.x0 | 1 => m.x1 | 2 => m.x2 | 3 => m.x3 | 4 => m.x4 | 5 => m.x5 | 6 => m.x6 | _ => m.x7

/-! Entries. -/
def entB (e : Ent) : Bool := decide (0 ≤ e.sum) && decide (e.sum ≤ 65520) && (decide (1 ≤ e.at_) && decide (e.at_ ≤ 119)) && (decide (1 ≤ e.count) && decide (e.count ≤ 1000))
theorem entB_true {e : Ent} (h : entB e = true) : (0 ≤ e.sum ∧ e.sum ≤ 65520) ∧ (1 ≤ e.at_ ∧ e.at_ ≤ 119) ∧ (1 ≤ e.count ∧ e.count ≤ 1000) := by
  unfold entB at h
  simp only [Bool.and_eq_true, decide_eq_true_eq] at h
  omega
structure EntOk (es : List Ent) (i : Nat) : Prop where
  ent : entB (es.getD i ET.ent.dflt) = true
  less : 0 < i → (es.getD (i - 1) ET.ent.dflt).at_ < (es.getD i ET.ent.dflt).at_
structure DdtP (es : List Ent) : Prop where
  few : es.length ≤ 48
  each : ∀ i, i < es.length → EntOk es i
noncomputable def ddtB (es : List Ent) : Bool := @decide (DdtP es) (Classical.propDecidable _)
theorem ddtB_true {es : List Ent} : ddtB es = true ↔ DdtP es := by simp [ddtB]
theorem ddtB_false {es : List Ent} : ddtB es = false ↔ ¬ DdtP es := by simp [ddtB]
/-- The places ascend, and are small numbers. -/
structure Asc (es : List Ent) : Prop where
  lt : ∀ i, 0 < i → i < es.length → (es.getD (i - 1) ET.ent.dflt).at_ < (es.getD i ET.ent.dflt).at_
  lo : ∀ i, i < es.length → 1 ≤ (es.getD i ET.ent.dflt).at_ ∧ (es.getD i ET.ent.dflt).at_ ≤ 119
theorem DdtP.asc {es : List Ent} (h : DdtP es) : Asc es := ⟨fun i h0 hi => (h.each i hi).less h0, fun i hi => (entB_true (h.each i hi).ent).2.1⟩
theorem Asc.all {es : List Ent} (h : Asc es) (i : Nat) : ∀ d, i + d + 1 < es.length → (es.getD i ET.ent.dflt).at_ < (es.getD (i + d + 1) ET.ent.dflt).at_
  | 0, hd => h.lt (i + 1) (by omega) hd
  | d + 1, hd => Int.lt_trans (h.all i d (by omega)) (h.lt (i + (d + 1) + 1) (by omega) hd)
theorem Asc.le {es : List Ent} (h : Asc es) {i j : Nat} (hij : i ≤ j) (hj : j < es.length) : (es.getD i ET.ent.dflt).at_ ≤ (es.getD j ET.ent.dflt).at_ := by
  rcases Nat.eq_or_lt_of_le hij with rfl | hlt
  · exact Int.le_refl _
  · have h2 := h.all i (j - i - 1) (by omega)
    rw [show i + (j - i - 1) + 1 = j by omega] at h2
    omega
def lowE (es : List Ent) (at_ : Int) : Nat := es.findIdx fun e => !decide (e.at_ < at_)
def thereE (es : List Ent) (at_ : Int) : Bool := decide (lowE es at_ < es.length) && decide ((es.getD (lowE es at_) ET.ent.dflt).at_ = at_)
theorem lowE_le (es : List Ent) (a : Int) : lowE es a ≤ es.length := List.findIdx_le_length
theorem lowE_before {es : List Ent} {a : Int} {i : Nat} (h : i < lowE es a) : (es.getD i ET.ent.dflt).at_ < a := by
  have h1 := List.not_of_lt_findIdx h
  have h2 := lowE_le es a
  simp only [Bool.not_eq_true', Bool.not_eq_false', decide_eq_true_eq, Bool.not_not] at h1
  have e : es.getD i ET.ent.dflt = es[i]'(by omega) := by simp [show i < es.length by omega]
  rw [e]
  simpa using h1
theorem lowE_at {es : List Ent} {a : Int} (h : lowE es a < es.length) : ¬ (es.getD (lowE es a) ET.ent.dflt).at_ < a := by
  have h1 := @List.findIdx_getElem _ (fun e : Ent => !decide (e.at_ < a)) es h
  have e : es.getD (lowE es a) ET.ent.dflt = es[lowE es a] := by simp [h]
  rw [e]
  rw [Bool.not_eq_true', decide_eq_false_iff_not] at h1
  exact h1
theorem lowE_eq {es : List Ent} {a : Int} {i : Nat} (hi : i ≤ es.length) (hb : ∀ j, j < i → (es.getD j ET.ent.dflt).at_ < a) (hs : i = es.length ∨ ¬ (es.getD i ET.ent.dflt).at_ < a) : lowE es a = i := by
  rcases Nat.lt_trichotomy (lowE es a) i with h | h | h
  · exact absurd (hb _ h) (lowE_at (by omega))
  · exact h
  · rcases hs with rfl | hs
    · have := lowE_le es a; omega
    · exact absurd (lowE_before h) hs
theorem thereE_at {es : List Ent} {a : Int} (h : thereE es a = true) : lowE es a < es.length ∧ (es.getD (lowE es a) ET.ent.dflt).at_ = a := by
  unfold thereE at h
  simpa using h
theorem thereE_of {es : List Ent} (h : Asc es) {i : Nat} (hi : i < es.length) : lowE es (es.getD i ET.ent.dflt).at_ = i ∧ thereE es (es.getD i ET.ent.dflt).at_ = true := by
  have e : lowE es (es.getD i ET.ent.dflt).at_ = i := lowE_eq (by omega) (fun j hj => by
    have h2 := h.all j (i - j - 1) (by omega)
    rwa [show j + (i - j - 1) + 1 = i by omega] at h2) (.inr (by omega))
  refine ⟨e, ?_⟩
  unfold thereE
  rw [e]
  simp [hi]

/-! Pointers. -/
def refsP (cs : List CSet) : List Ptr := cs.flatMap fun s => s.map.list
def cntAt (ps : List Ptr) (a : Int) : Nat := (ps.filter fun p => decide (p.at_ = a)).length
def posN (ps : List Ptr) : Nat := (ps.filter fun p => decide (0 < p.at_)).length
theorem cntAt_app (ps qs : List Ptr) (a : Int) : cntAt (ps ++ qs) a = cntAt ps a + cntAt qs a := by unfold cntAt; rw [List.filter_append, List.length_append]
theorem posN_app (ps qs : List Ptr) : posN (ps ++ qs) = posN ps + posN qs := by unfold posN; rw [List.filter_append, List.length_append]
theorem cntAt_one (p : Ptr) (a : Int) : cntAt [p] a = if p.at_ = a then 1 else 0 := by
  unfold cntAt
  by_cases h : p.at_ = a <;> simp [h]
theorem posN_one (p : Ptr) : posN [p] = if 0 < p.at_ then 1 else 0 := by
  unfold posN
  by_cases h : 0 < p.at_ <;> simp [h]
theorem refs_len : ∀ cs : List CSet, (refsP cs).length = 8 * cs.length
  | [] => rfl
  | c :: cs => by
    show (c.map.list ++ refsP cs).length = _
    rw [List.length_append, refs_len cs, List.length_cons]
    show 8 + _ = _
    omega
theorem refs_take {cs : List CSet} {i : Nat} (h : i < cs.length) : refsP (cs.take (i + 1)) = refsP (cs.take i) ++ (cs.getD i ET.cset.dflt).map.list := by
  have e : cs.getD i ET.cset.dflt = cs[i] := by simp [h]
  unfold refsP
  rw [e, List.take_add_one, List.getElem?_eq_getElem h, List.flatMap_append]
  simp
theorem list_take (m : Eight Ptr) (j : Nat) (h : j < 8) : m.list.take (j + 1) = m.list.take j ++ [m.get j] := by
  rcases (show j = 0 ∨ j = 1 ∨ j = 2 ∨ j = 3 ∨ j = 4 ∨ j = 5 ∨ j = 6 ∨ j = 7 by omega) with rfl | rfl | rfl | rfl | rfl | rfl | rfl | rfl <;> rfl
theorem list_all (m : Eight Ptr) : m.list.take 8 = m.list := rfl
theorem one_of {l : List Int} {a : Int} (h : l.Pairwise (· < ·)) (ha : a ∈ l) : (l.map fun x => if a = x then 1 else 0).sum = 1 := by
  induction l with
  | nil => cases ha
  | cons x l ih =>
    rw [List.pairwise_cons] at h
    rw [List.map_cons, List.sum_cons]
    by_cases hx : a = x
    · have : (l.map fun x => if a = x then 1 else 0).sum = 0 := by
        have h0 : ∀ l : List Int, (∀ y ∈ l, a < y) → (l.map fun x => if a = x then 1 else 0).sum = 0 := fun l => by
          induction l with
          | nil => intro _; rfl
          | cons y l ih =>
            intro hy
            rw [List.map_cons, List.sum_cons, ih fun z hz => hy z (by simp [hz]), if_neg]
            have := hy y (by simp)
            omega
        exact h0 l fun y hy => by rw [hx]; exact h.1 y hy
      rw [this, if_pos hx]
    · rw [if_neg hx, ih h.2 (by simpa [hx] using ha)]
theorem asc_pairs {es : List Ent} (h : Asc es) : (es.map (·.at_)).Pairwise (· < ·) := by
  rw [List.pairwise_iff_getElem]
  intro i j hi hj hij
  rw [List.length_map] at hi hj
  have h2 := h.all i (j - i - 1) (by omega)
  rw [show i + (j - i - 1) + 1 = j by omega] at h2
  simpa [hi, hj] using h2
/-- So many pointers point at an entry as point anywhere, if each points at an entry. -/
theorem cnt_sum {es : List Ent} (h : Asc es) : ∀ ps : List Ptr, (∀ p ∈ ps, 0 < p.at_ → thereE es p.at_ = true) → (es.map fun e => cntAt ps e.at_).sum = posN ps
  | [], _ => by
    have : ∀ l : List Ent, (l.map fun e => cntAt [] e.at_).sum = 0 := fun l => by
      induction l with
      | nil => rfl
      | cons a l ih => rw [List.map_cons, List.sum_cons, ih]; rfl
    exact this es
  | p :: ps, hp => by
    have h1 := cnt_sum h ps fun q hq => hp q (by simp [hq])
    have h2 : (es.map fun e => cntAt (p :: ps) e.at_).sum = (es.map fun e => if p.at_ = e.at_ then 1 else 0).sum + (es.map fun e => cntAt ps e.at_).sum := by
      have : ∀ l : List Ent, (l.map fun e => cntAt (p :: ps) e.at_).sum = (l.map fun e => if p.at_ = e.at_ then 1 else 0).sum + (l.map fun e => cntAt ps e.at_).sum := fun l => by
        induction l with
        | nil => rfl
        | cons a l ih =>
          rw [List.map_cons, List.sum_cons, ih, List.map_cons, List.sum_cons, List.map_cons, List.sum_cons, show p :: ps = [p] ++ ps from rfl, cntAt_app, cntAt_one]
          omega
      exact this es
    have h3 : (es.map fun e => if p.at_ = e.at_ then 1 else 0).sum = if 0 < p.at_ then 1 else 0 := by
      have e : (es.map fun e => if p.at_ = e.at_ then 1 else 0) = (es.map (·.at_)).map fun x => if p.at_ = x then 1 else 0 := by rw [List.map_map]; rfl
      rw [e]
      split
      · rename_i h0
        obtain ⟨hk, ha⟩ := thereE_at (hp p (by simp) h0)
        refine one_of (asc_pairs h) ?_
        rw [List.mem_map]
        refine ⟨es[lowE es p.at_], List.getElem_mem _, ?_⟩
        rw [show es.getD (lowE es p.at_) ET.ent.dflt = es[lowE es p.at_] by simp [hk]] at ha
        exact ha
      · rename_i h0
        have : ∀ l : List Ent, (∀ e ∈ l, 1 ≤ e.at_) → ((l.map (·.at_)).map fun x => if p.at_ = x then 1 else 0).sum = 0 := fun l => by
          induction l with
          | nil => intro _; rfl
          | cons a l ih =>
            intro hl
            rw [List.map_cons, List.map_cons, List.sum_cons, ih fun z hz => hl z (by simp [hz]), if_neg]
            have := hl a (by simp)
            omega
        refine this es fun e he => ?_
        obtain ⟨j, hj, rfl⟩ := List.getElem_of_mem he
        have h4 := (h.lo j hj).1
        rwa [show es.getD j ET.ent.dflt = es[j] by simp [hj]] at h4
    rw [h2, h3, h1, show p :: ps = [p] ++ ps from rfl, posN_app, posN_one]

theorem cnt_le (ps : List Ptr) (a : Int) : cntAt ps a ≤ ps.length := List.length_filter_le _ _
/-- The counts of the entries, by so many pointers. -/
def cnts (es : List Ent) (ps : List Ptr) : List Int := es.map fun e => (cntAt ps e.at_ : Int)
theorem cnts_len (es : List Ent) (ps : List Ptr) : (cnts es ps).length = es.length := List.length_map _
theorem cnts_get {es : List Ent} (ps : List Ptr) {i : Nat} (h : i < es.length) (h' : i < (cnts es ps).length) : (cnts es ps)[i] = (cntAt ps (es.getD i ET.ent.dflt).at_ : Int) := by
  have e : es.getD i ET.ent.dflt = es[i] := by simp [h]
  rw [e]
  exact List.getElem_map _
theorem cnts_at {es : List Ent} (ps : List Ptr) {k : Nat} (hk : k < es.length) : (cnts es ps).getD k 0 = (cntAt ps (es.getD k ET.ent.dflt).at_ : Int) := by
  unfold cnts
  simp [hk]
theorem cnts_step {es : List Ent} (h : Asc es) {ps : List Ptr} {p : Ptr} (ht : thereE es p.at_ = true) : (cnts es ps).set (lowE es p.at_) ((cnts es ps).getD (lowE es p.at_) 0 + 1) = cnts es (ps ++ [p]) := by
  obtain ⟨hk, ha⟩ := thereE_at ht
  rw [cnts_at ps hk]
  refine List.ext_getElem (by rw [List.length_set, cnts_len, cnts_len]) fun i h1 h2 => ?_
  rw [List.length_set, cnts_len] at h1
  rw [List.getElem_set]
  have e2 : (cnts es (ps ++ [p]))[i] = (cntAt (ps ++ [p]) (es.getD i ET.ent.dflt).at_ : Int) := cnts_get _ h1 _
  rw [e2, cntAt_app, cntAt_one]
  split
  · rename_i he
    subst he
    rw [ha, if_pos rfl]
    omega
  · rename_i he
    have hne : ¬ p.at_ = (es.getD i ET.ent.dflt).at_ := fun hh => by
      have := (thereE_of h h1).1
      rw [← hh] at this
      exact he this
    rw [if_neg hne, cnts_get _ h1]
    omega
theorem cnts_skip {es : List Ent} (h : Asc es) (ps : List Ptr) {p : Ptr} (hp : p.at_ = 0) : cnts es (ps ++ [p]) = cnts es ps := by
  refine List.ext_getElem (by rw [cnts_len, cnts_len]) fun i h1 h2 => ?_
  rw [cnts_len] at h2
  have h3 := (h.lo i h2).1
  have e1 : (cnts es (ps ++ [p]))[i] = (cntAt (ps ++ [p]) (es.getD i ET.ent.dflt).at_ : Int) := cnts_get _ h2 _
  have e2 : (cnts es ps)[i] = (cntAt ps (es.getD i ET.ent.dflt).at_ : Int) := cnts_get _ h2 _
  rw [e1, e2, cntAt_app, cntAt_one, if_neg (by omega)]
  omega
theorem cnts_none (es : List Ent) : cnts es [] = List.replicate es.length 0 := by
  unfold cnts
  have : ∀ l : List Ent, (l.map fun e => (cntAt [] e.at_ : Int)) = List.replicate l.length 0 := fun l => by
    induction l with
    | nil => rfl
    | cons a l ih => rw [List.map_cons, ih]; rfl
  exact this es

/-! Cores. -/
def frameOf (cs : List CSet) : List BSet := cs.map fun s => ⟨s.name, s.kind, s.from_, Eight.rep ⟨#[]⟩⟩
theorem frame_len (cs : List CSet) : (frameOf cs).length = cs.length := by unfold frameOf; rw [List.length_map]
theorem frame_take {cs : List CSet} {i : Nat} (h : i < cs.length) : frameOf (cs.take (i + 1)) = frameOf (cs.take i) ++ [⟨(cs.getD i ET.cset.dflt).name, (cs.getD i ET.cset.dflt).kind, (cs.getD i ET.cset.dflt).from_, Eight.rep ⟨#[]⟩⟩] := by
  have e : cs.getD i ET.cset.dflt = cs[i] := by simp [h]
  unfold frameOf
  rw [e, List.take_add_one, List.getElem?_eq_getElem h, List.map_append]
  rfl
theorem frame_at (cs : List CSet) (i : Nat) : (frameOf cs).getD i ET.bset.dflt = ⟨(cs.getD i ET.cset.dflt).name, (cs.getD i ET.cset.dflt).kind, (cs.getD i ET.cset.dflt).from_, Eight.rep ⟨#[]⟩⟩ := by
  unfold frameOf
  by_cases h : i < cs.length
  · simp [h]
  · simp [show ¬ i < cs.length from h, List.getElem?_eq_none (show cs.length ≤ i by omega)]
    rfl
noncomputable def csetB (s : CSet) : Bool := nameB s.name && (same s.from_ ⟨#[]⟩ || nameB s.from_) && (decide (s.kind = 1) || decide (s.kind = 2)) && ptrOkB s.home && !s.map.list.any fun p => !ptrOkB p
noncomputable def csetBad (s : CSet) : Bool := !csetB s
def partBad (p : Ptr) : Bool := !realB p
def badPtr (p : Ptr) : Bool := !ptrOkB p
theorem csetB_no {s : CSet} (h : ((nameB s.name = false ∨ ¬ s.from_ = ⟨#[]⟩ ∧ nameB s.from_ = false) ∨ ¬ s.kind = 1 ∧ ¬ s.kind = 2) ∨ ptrOkB s.home = false) : csetB s = false := by
  unfold csetB
  rcases h with ((h | ⟨h, h2⟩) | ⟨h, h2⟩) | h
  · simp [h]
  · simp [h2, same_false.2 h]
  · simp [h, h2]
  · simp [h]
theorem csetB_yes {s : CSet} (h : ((¬ nameB s.name = false ∧ (¬ s.from_ = ⟨#[]⟩ → ¬ nameB s.from_ = false)) ∧ (¬ s.kind = 1 → s.kind = 2)) ∧ ptrOkB s.home = true) : csetB s = !s.map.list.any badPtr := by
  obtain ⟨⟨⟨h1, h2⟩, h3⟩, h4⟩ := h
  have e2 : (same s.from_ ⟨#[]⟩ || nameB s.from_) = true := by
    by_cases hf : s.from_ = ⟨#[]⟩
    · rw [same_true.2 hf]; rfl
    · rw [show nameB s.from_ = true by simpa using h2 hf, Bool.or_true]
  have e3 : (decide (s.kind = 1) || decide (s.kind = 2)) = true := by
    by_cases hk : s.kind = 1
    · simp [hk]
    · simp [h3 hk]
  unfold csetB
  rw [show nameB s.name = true by simpa using h1, e2, e3, h4]
  rfl
structure Safe (zs : List Int) (i : Nat) : Prop where
  lo : 13 ≤ zs.getD i 0 ∧ zs.getD i 0 ≤ 119
  less : 0 < i → zs.getD (i - 1) 0 < zs.getD i 0
noncomputable def safeB (zs : List Int) : Bool := @decide (∀ i, i < zs.length → Safe zs i) (Classical.propDecidable _)
theorem safeB_true {zs : List Int} : safeB zs = true ↔ ∀ i, i < zs.length → Safe zs i := by simp [safeB]
theorem safeB_false {zs : List Int} : safeB zs = false ↔ ¬ ∀ i, i < zs.length → Safe zs i := by rw [← Bool.not_eq_true, safeB_true]
structure SumsP (ps : List Ptr) (es : List Ent) : Prop where
  each : ∀ p ∈ ps, p.at_ ≠ 0 → thereE es p.at_ = true ∧ (es.getD (lowE es p.at_) ET.ent.dflt).sum = p.sum
structure CountP (ps : List Ptr) (es : List Ent) : Prop where
  sums : SumsP ps es
  cnt : ∀ k, k < es.length → (es.getD k ET.ent.dflt).count = cntAt ps (es.getD k ET.ent.dflt).at_
noncomputable def countB (ps : List Ptr) (es : List Ent) : Bool := @decide (CountP ps es) (Classical.propDecidable _)
theorem countB_true {ps : List Ptr} {es : List Ent} : countB ps es = true ↔ CountP ps es := by simp [countB]
theorem countB_false {ps : List Ptr} {es : List Ent} : countB ps es = false ↔ ¬ CountP ps es := by simp [countB]
/-- How many pointers point at a place; none at no place. -/
def rcnt (ps : List Ptr) (a : Int) : Int := if 0 < a then (cntAt ps a : Int) else 0
theorem rcnt_app (ps : List Ptr) (p : Ptr) (a : Int) : rcnt (ps ++ [p]) a = rcnt ps a + if p.at_ = a ∧ a > 0 then 1 else 0 := by
  unfold rcnt
  rw [cntAt_app, cntAt_one]
  by_cases h : 0 < a <;> by_cases h2 : p.at_ = a <;> simp [h, h2]
theorem rcnt_yes {ps : List Ptr} {p : Ptr} {a : Int} (h : p.at_ = a ∧ a > 0) : rcnt (ps ++ [p]) a = rcnt ps a + 1 := by rw [rcnt_app, if_pos h]
theorem rcnt_no {ps : List Ptr} {p : Ptr} {a : Int} (h : ¬ p.at_ = a ∨ ¬ a > 0) : rcnt (ps ++ [p]) a = rcnt ps a := by rw [rcnt_app, if_neg (fun k => h.elim (fun h => h k.1) fun h => h k.2), Int.add_zero]
theorem rcnt_nil (a : Int) : rcnt (refsP []) a = 0 := by unfold rcnt; split <;> rfl
theorem rcnt_le (ps : List Ptr) (a : Int) : 0 ≤ rcnt ps a ∧ rcnt ps a ≤ ps.length := by
  unfold rcnt
  have := cnt_le ps a
  split <;> omega
theorem posN_le (ps : List Ptr) : posN ps ≤ ps.length := List.length_filter_le _ _
def sumC (es : List Ent) : Int := (es.map (·.count)).sum
theorem sumC_take {es : List Ent} {i : Nat} (h : i < es.length) : sumC (es.take (i + 1)) = sumC (es.take i) + (es.getD i ET.ent.dflt).count := by
  have e : es.getD i ET.ent.dflt = es[i] := by simp [h]
  unfold sumC
  rw [e, List.take_add_one, List.getElem?_eq_getElem h, List.map_append, List.sum_append]
  simp
/-- The pointers of the first sets, and of the next one the first. -/
def ptrsTo (cs : List CSet) (i j : Nat) : List Ptr := refsP (cs.take i) ++ (cs.getD i ET.cset.dflt).map.list.take j
theorem ptrsTo_zero (cs : List CSet) (i : Nat) : ptrsTo cs i 0 = refsP (cs.take i) := by unfold ptrsTo; rw [List.take_zero, List.append_nil]
theorem ptrsTo_next (cs : List CSet) (i : Nat) {j : Nat} (h : j < 8) : ptrsTo cs i (j + 1) = ptrsTo cs i j ++ [(cs.getD i ET.cset.dflt).map.get j] := by
  unfold ptrsTo; rw [list_take _ _ h, List.append_assoc]
theorem ptrsTo_end {cs : List CSet} {i : Nat} (h : i < cs.length) : ptrsTo cs i 8 = refsP (cs.take (i + 1)) := by
  unfold ptrsTo; rw [refs_take h, list_all]
theorem refs_end {cs : List CSet} {i : Nat} (h : cs.length ≤ i) : refsP (cs.take i) = refsP cs := by rw [List.take_of_length_le h]
theorem ptrsTo_len (cs : List CSet) (i j : Nat) : (ptrsTo cs i j).length ≤ 8 * i + 8 := by
  unfold ptrsTo
  have h1 := refs_len (cs.take i)
  have h2 := List.length_take (i := i) (l := cs)
  have h3 : ((cs.getD i ET.cset.dflt).map.list.take j).length ≤ 8 := by rw [List.length_take]; exact Nat.min_le_right _ _
  rw [List.length_append, h1, h2]
  omega
noncomputable def countsS (ps : List Ptr) (es : List Ent) : Bool := @decide ((∀ k, k < es.length → rcnt ps (es.getD k ET.ent.dflt).at_ = (es.getD k ET.ent.dflt).count) ∧ sumC es = posN ps) (Classical.propDecidable _)
theorem countsS_true {ps : List Ptr} {es : List Ent} : countsS ps es = true ↔ (∀ k, k < es.length → rcnt ps (es.getD k ET.ent.dflt).at_ = (es.getD k ET.ent.dflt).count) ∧ sumC es = posN ps := by simp [countsS]
theorem countsS_false {ps : List Ptr} {es : List Ent} : countsS ps es = false ↔ ¬ ((∀ k, k < es.length → rcnt ps (es.getD k ET.ent.dflt).at_ = (es.getD k ET.ent.dflt).count) ∧ sumC es = posN ps) := by rw [← Bool.not_eq_true, countsS_true]
noncomputable def sumsS (ps : List Ptr) (es : List Ent) : Bool := @decide (∀ p ∈ ps, p.at_ > 0 → thereE es p.at_ = true ∧ (es.getD (lowE es p.at_) ET.ent.dflt).sum = p.sum) (Classical.propDecidable _)
theorem sumsS_true {ps : List Ptr} {es : List Ent} : sumsS ps es = true ↔ ∀ p ∈ ps, p.at_ > 0 → thereE es p.at_ = true ∧ (es.getD (lowE es p.at_) ET.ent.dflt).sum = p.sum := by simp [sumsS]
theorem sumsS_false {ps : List Ptr} {es : List Ent} : sumsS ps es = false ↔ ¬ ∀ p ∈ ps, p.at_ > 0 → thereE es p.at_ = true ∧ (es.getD (lowE es p.at_) ET.ent.dflt).sum = p.sum := by rw [← Bool.not_eq_true, sumsS_true]
theorem posN_yes {ps : List Ptr} {p : Ptr} (h : p.at_ > 0) : (posN (ps ++ [p]) : Int) = posN ps + 1 := by
  rw [posN_app, posN_one, if_pos h]; omega
theorem posN_no {ps : List Ptr} {p : Ptr} (h : ¬ p.at_ > 0) : posN (ps ++ [p]) = posN ps := by rw [posN_app, posN_one, if_neg h]; rfl
theorem refs_nil : refsP [] = [] := rfl
theorem sumC_nil : sumC [] = 0 := rfl
theorem sumC_end {es : List Ent} {i : Nat} (h : es.length ≤ i) : sumC (es.take i) = sumC es := by rw [List.take_of_length_le h]
theorem sumC_le {es : List Ent} {n : Nat} {i : Nat} (hi : i ≤ es.length) (h : ∀ j, j < i → 0 ≤ (es.getD j ET.ent.dflt).count ∧ (es.getD j ET.ent.dflt).count ≤ n) : 0 ≤ sumC (es.take i) ∧ sumC (es.take i) ≤ i * n := by
  induction i with
  | zero => exact ⟨Int.le_refl _, by rw [List.take_zero]; simp [sumC]⟩
  | succ i ih =>
    obtain ⟨h1, h2⟩ := ih (by omega) fun j hj => h j (by omega)
    obtain ⟨h3, h4⟩ := h i (by omega)
    rw [sumC_take (show i < es.length by omega)]
    refine ⟨by omega, ?_⟩
    have : ((i + 1 : Nat) : Int) * n = i * n + n := by rw [Int.natCast_add, Int.add_mul]; simp
    omega
structure CoreP (c : Co) : Prop where
  txg : 0 ≤ c.txg ∧ c.txg ≤ 1000000
  ddt : DdtP c.ddt
  parts : c.parts.length ≤ 8 ∧ c.parts.any partBad = false
  logn : 0 ≤ c.logn ∧ c.logn ≤ 8
  safe : ∀ i, i < c.safe.length → Safe c.safe i
  sets : c.sets.any csetBad = false
  book : bookB (frameOf c.sets) = true
  counts : CountP (refsP c.sets) c.ddt
noncomputable def Co.ok (c : Co) : Bool := @decide (CoreP c) (Classical.propDecidable _)
theorem Co.ok_true {c : Co} : c.ok = true ↔ CoreP c := by simp [Co.ok]
theorem Co.ok_false {c : Co} : c.ok = false ↔ ¬ CoreP c := by simp [Co.ok]
theorem ptr_low {p : Ptr} (h : ptrOkB p = true) : 0 ≤ p.at_ ∧ p.at_ ≤ 119 := by
  unfold ptrOkB at h
  simp only [Bool.and_eq_true, Bool.or_eq_true, decide_eq_true_eq] at h
  omega
theorem refs_ok {cs : List CSet} (h : cs.any csetBad = false) : ∀ p ∈ refsP cs, ptrOkB p = true := by
  intro p hp
  unfold refsP at hp
  rw [List.mem_flatMap] at hp
  obtain ⟨s, hs, hp⟩ := hp
  rw [List.any_eq_false] at h
  have h1 := h s hs
  unfold csetBad csetB at h1
  simp only [Bool.not_eq_true', Bool.not_eq_false, Bool.and_eq_true, List.any_eq_false, Bool.not_eq_false', Bool.not_eq_true] at h1
  have h2 := h1.2 p hp
  simpa using h2
end Go.Proofs.YtmnbgppmfbnamaaGreatDoor
/- Plain facts: halves, ascending places. -/
namespace Go.Proofs.YtmnbgppmfbnamaaGreatDoor
open Go.RowKit

theorem half (i j : Nat) (hi : i ≤ 4000000) (hj : j ≤ 4000000) : IntKind.i64.wrap ((IntKind.u64.wrap (IntKind.i64.wrap ((i : Int) + (j : Int)))).fdiv (2 ^ min 1 64)) = ((i + j) / 2 : Nat) := by
  rw [wrap_id ((i : Int) + j) (by omega) (by omega)]
  have hu : IntKind.u64.wrap ((i : Int) + j) = (i : Int) + j := by
    unfold IntKind.wrap
    simp [IntKind.signed, IntKind.bits]
    omega
  rw [hu, show ((2 : Int) ^ min 1 64) = 2 from rfl, Int.fdiv_eq_ediv_of_nonneg _ (by decide), wrap_id _ (by omega) (by omega)]
  omega
end Go.Proofs.YtmnbgppmfbnamaaGreatDoor
/- Functions: entries of a table, places. -/
namespace Go.Proofs.YtmnbgppmfbnamaaGreatDoor
open Go.RowKit

@[go_sem] def ctEntOk : Ct := ⟨false, [], fun args os => match args, os with
  | [.agg [.val (.int .i64 a), .val (.int .i64 b), .val (.int .i64 c)]], [] => is (vb (entB ⟨a, b, c⟩))
  | _, _ => no⟩
theorem s_entryOk_e : EnterOk Tryz.prog 221 := ⟨_, Tryz.func221, rfl, by decide⟩
@[go_sem] def s_entryOk_lv : List (List Nat) := [[1], [2]]
@[go_sem] noncomputable def s_entryOk_K : Known := (Known.nil).cons 46 ctWithin s_within s_within_e
set_option maxHeartbeats 8000000 in
theorem s_entryOk : Sound Tryz.prog 221 ctEntOk := by
  have ke := s_entryOk_K.env []
  have kl : Lives s_entryOk_lv := trivial
  refine sound_intro (E := ⟨ti, s_entryOk_K.Γ, []⟩) ke Tryz.func221 Tryz.ntmps221 rfl (rs := [.tmp 2]) rfl ?_
  intro args os hp
  unfold ctEntOk at hp ⊢
  dsimp only at hp ⊢
  split at hp
  · rename_i a b c
    refine ⟨by simp, fun φ0 w0 => ?_⟩
    refine goh trivial ?_
    refine ⟨by (simp only [go_sem, ↓reduceIte, reduceCtorEq, Nat.reduceAdd, Nat.reduceLT, Nat.reduceLeDiff, Nat.reduceEqDiff]) <;> trivial, [], ?_⟩
    all_goals try simp only [go_sem, inj_r, ↓reduceIte, reduceCtorEq, Nat.reduceAdd, Nat.reduceLT, Nat.reduceLeDiff, Nat.reduceEqDiff, Int.reduceEq]
    all_goals (repeat' refine And.intro ?_ ?_) <;> try exact shut7
    rw [Bool.eq_iff_iff]; simp [entB]; try omega
  · simp [no, is] at hp
theorem s_l5Entry_e : EnterOk Tryz.prog 215 := ⟨_, Tryz.func215, rfl, by decide⟩
@[go_sem] def s_l5Entry_lv : List (List Nat) := [[1], [2]]
@[go_sem] noncomputable def s_l5Entry_K : Known := Known.nil
set_option maxHeartbeats 8000000 in
theorem s_l5Entry : Sound Tryz.prog 215 ctEntOk := by
  have ke := s_l5Entry_K.env []
  have kl : Lives s_l5Entry_lv := trivial
  refine sound_intro (E := ⟨ti, s_l5Entry_K.Γ, []⟩) ke Tryz.func215 Tryz.ntmps215 rfl (rs := [.tmp 2]) rfl ?_
  intro args os hp
  unfold ctEntOk at hp ⊢
  dsimp only at hp ⊢
  split at hp
  · rename_i a b c
    refine ⟨by simp, fun φ0 w0 => ?_⟩
    refine goh trivial ?_
    refine ⟨by (simp only [go_sem, ↓reduceIte, reduceCtorEq, Nat.reduceAdd, Nat.reduceLT, Nat.reduceLeDiff, Nat.reduceEqDiff]) <;> trivial, [], ?_⟩
    all_goals try simp only [go_sem, inj_r, ↓reduceIte, reduceCtorEq, Nat.reduceAdd, Nat.reduceLT, Nat.reduceLeDiff, Nat.reduceEqDiff, Int.reduceEq]
    all_goals (repeat' refine And.intro ?_ ?_) <;> try exact shut7
    rw [Bool.eq_iff_iff]; simp [entB]; try omega
  · simp [no, is] at hp
@[go_sem] noncomputable def ctDdtOk : Ct := ⟨false, [[some .ent]], fun args os => match args, os with
  | [.one (.isl .ent es)], [] => ifp (es.length ≤ 4000000) (vb (ddtB es))
  | _, _ => no⟩
theorem ent_bad {es : List Ent} {i : Nat} (hi : i < es.length) (h : entB (es.getD i ET.ent.dflt) = false ∨ (i : Int) > 0 ∧ (es.getD i ET.ent.dflt).at_ ≤ (es.getD (i - 1) ET.ent.dflt).at_) : ddtB es = false :=
  ddtB_false.2 fun hd => by
    obtain ⟨h1, h2⟩ := hd.each i hi
    rcases h with h | ⟨h3, h4⟩
    · rw [h1] at h; cases h
    · have := h2 (by omega); omega
theorem ent_good {es : List Ent} {i : Nat} (hb : ∀ j, j < i → EntOk es j) (h : ¬ entB (es.getD i ET.ent.dflt) = false ∧ (¬ (i : Int) > 0 ∨ ¬ (es.getD i ET.ent.dflt).at_ ≤ (es.getD (i - 1) ET.ent.dflt).at_)) : ∀ j, j < i + 1 → EntOk es j := fun j hj => by
  rcases Nat.lt_succ_iff_lt_or_eq.1 hj with h2 | rfl
  · exact hb j h2
  · exact ⟨by simpa using h.1, fun h0 => by rcases h.2 with h3 | h3 <;> omega⟩
theorem s_specDdtOk_e : EnterOk Tryz.prog 155 := ⟨_, Tryz.func155, rfl, by decide⟩
@[go_sem] def s_specDdtOk_lv : List (List Nat) := [[0], [0, 6], [2], [0, 3], [0, 3, 10], [0, 3], [0, 3, 36], [2], [2]]
@[go_sem] noncomputable def s_specDdtOk_K : Known := (Known.nil).cons 215 ctEntOk s_l5Entry s_l5Entry_e
set_option maxHeartbeats 8000000 in
theorem s_specDdtOk : Sound Tryz.prog 155 ctDdtOk := by
  have ke := s_specDdtOk_K.env []
  have kl : Lives s_specDdtOk_lv := trivial
  refine sound_intro (E := ⟨ti, s_specDdtOk_K.Γ, []⟩) ke Tryz.func155 Tryz.ntmps155 rfl (rs := [.tmp 2]) rfl ?_
  intro args os hp
  unfold ctDdtOk at hp ⊢
  dsimp only at hp ⊢
  split at hp
  · rename_i es
    refine ⟨by simp, fun φ0 w0 => ?_⟩
    have hlen : es.length ≤ 4000000 := hp
    refine goh trivial ?_
    refine W_cnd ?_ ?_ <;> (try simp only [cnd_r]) <;> intro hc
    · have e : ddtB es = false := ddtB_false.2 fun h => by have := h.few; omega
      refine goh trivial ?_
      exact finh [] e
    · refine goh trivial ?_
      refine W_for es.length (fun i => ∀ j, j < i → EntOk es j) (fun i => ⟨[(0, .one (.isl .ent es)), (3, vi i)], [], []⟩) [] (leh trivial) (by omega) fun i hi hb => ?_
      refine goh trivial ?_
      refine W_cnd ?_ ?_ <;> (try simp only [cnd_r]) <;> intro hlt
      · have w1 : IntKind.i64.wrap ((i : Int) - 1) = (i : Int) - 1 := wrap_id _ (by omega) (by omega)
        have ht : ((i : Int) - 1).toNat = i - 1 := by omega
        refine goh (And.intro w1 ht) ?_
        refine W_cnd ?_ ?_ <;> (try simp only [cnd_r]) <;> intro hx
        · have e := ent_bad (by omega) hx
          refine goh trivial ?_
          exact finh [] e
        · refine goh trivial ?_
          exact ⟨[], by omega, leh trivial, ent_good hb hx⟩
      · have e : ddtB es = true := ddtB_true.2 ⟨by omega, fun j hj => hb j (by omega)⟩
        refine goh trivial ?_
        exact finh [] e
  · simp [no, ifp] at hp
theorem s_ddtOk_e : EnterOk Tryz.prog 168 := ⟨_, Tryz.func168, rfl, by decide⟩
@[go_sem] def s_ddtOk_lv : List (List Nat) := [[0], [0, 5, 6, 7], [0, 5, 6, 7, 8], [0, 3, 4, 5, 6, 7], [0, 5, 6, 7, 29], [2], [0, 5, 6, 7], [2]]
@[go_sem] noncomputable def s_ddtOk_K : Known := (Known.nil).cons 221 ctEntOk s_entryOk s_entryOk_e
set_option maxHeartbeats 8000000 in
theorem s_ddtOk : Sound Tryz.prog 168 ctDdtOk := by
  have ke := s_ddtOk_K.env []
  have kl : Lives s_ddtOk_lv := trivial
  refine sound_intro (E := ⟨ti, s_ddtOk_K.Γ, []⟩) ke Tryz.func168 Tryz.ntmps168 rfl (rs := [.tmp 2]) rfl ?_
  intro args os hp
  unfold ctDdtOk at hp ⊢
  dsimp only at hp ⊢
  split at hp
  · rename_i es
    refine ⟨by simp, fun φ0 w0 => ?_⟩
    have hlen : es.length ≤ 4000000 := hp
    refine goh trivial ?_
    refine W_for es.length (fun i => ∀ j, j < i → EntOk es j) (fun i => ⟨[(0, .one (.isl .ent es)), (5, .one (.isl .ent es)), (6, vi es.length), (7, vi i)], [], []⟩) [] (leh trivial) (by omega) fun i hi hb => ?_
    refine goh trivial ?_
    refine W_cnd ?_ ?_ <;> (try simp only [cnd_r]) <;> intro hlt
    · have w1 : IntKind.i64.wrap ((i : Int) - 1) = (i : Int) - 1 := wrap_id _ (by omega) (by omega)
      have ht : ((i : Int) - 1).toNat = i - 1 := by omega
      refine goh (And.intro w1 ht) ?_
      refine W_cnd ?_ ?_ <;> (try simp only [cnd_r]) <;> intro hx
      · have e := ent_bad (es := es) (i := i) (by omega) (by rcases hx with h | ⟨h1, h2⟩; exact .inl h; exact .inr ⟨by omega, by omega⟩)
        refine goh trivial ?_
        exact finh [] e
      · refine goh trivial ?_
        exact ⟨[], by omega, leh trivial, ent_good hb ⟨hx.1, by rcases hx.2 with h | h; exact .inl (by omega); exact .inr (by omega)⟩⟩
    · have e : ddtB es = decide ((es.length : Int) ≤ 48) := by
        rw [Bool.eq_iff_iff, ddtB_true, decide_eq_true_eq]
        exact ⟨fun h => by have := h.few; omega, fun h => ⟨by omega, fun j hj => hb j (by omega)⟩⟩
      refine goh trivial ?_
      exact finh [] e
  · simp [no, ifp] at hp
@[go_sem] noncomputable def ctPlaces : Ct := ⟨false, [[some .int]], fun args os => match args, os with
  | [.one (.isl .int zs)], [] => ifp (zs.length ≤ 4000000) (vb (safeB zs))
  | _, _ => no⟩
theorem s_l6Places_e : EnterOk Tryz.prog 156 := ⟨_, Tryz.func156, rfl, by decide⟩
@[go_sem] def s_l6Places_lv : List (List Nat) := [[0], [0, 3], [0, 3, 7], [0, 3], [0, 3, 37], [2], [2]]
@[go_sem] noncomputable def s_l6Places_K : Known := Known.nil
set_option maxHeartbeats 8000000 in
theorem s_l6Places : Sound Tryz.prog 156 ctPlaces := by
  have ke := s_l6Places_K.env []
  have kl : Lives s_l6Places_lv := trivial
  refine sound_intro (E := ⟨ti, s_l6Places_K.Γ, []⟩) ke Tryz.func156 Tryz.ntmps156 rfl (rs := [.tmp 2]) rfl ?_
  intro args os hp
  unfold ctPlaces at hp ⊢
  dsimp only at hp ⊢
  split at hp
  · rename_i zs
    refine ⟨by simp, fun φ0 w0 => ?_⟩
    have hlen : zs.length ≤ 4000000 := hp
    refine goh trivial ?_
    refine W_for zs.length (fun i => ∀ j, j < i → Safe zs j) (fun i => ⟨[(0, .one (.isl .int zs)), (3, vi i)], [], []⟩) [] (leh trivial) (by omega) fun i hi hb => ?_
    refine goh trivial ?_
    refine W_cnd ?_ ?_ <;> (try simp only [cnd_r]) <;> intro hlt
    · have w1 : IntKind.i64.wrap ((i : Int) - 1) = (i : Int) - 1 := wrap_id _ (by omega) (by omega)
      have ht : ((i : Int) - 1).toNat = i - 1 := by omega
      refine goh (And.intro w1 ht) ?_
      refine W_cnd ?_ ?_ <;> (try simp only [cnd_r]) <;> intro hx
      · have e : safeB zs = false := safeB_false.2 fun h => by
          obtain ⟨h1, h2⟩ := h i (by omega)
          have hx' : ((List.getD (α := Int) zs i 0) < (13 : Int) ∨ (List.getD (α := Int) zs i 0) ≥ (120 : Int)) ∨ (i : Int) > 0 ∧ (List.getD (α := Int) zs i 0) ≤ (List.getD (α := Int) zs (i - 1) 0) := hx
          clear hx
          rcases hx' with h3 | ⟨h3, h4⟩
          · omega
          · have := h2 (by omega); omega
        refine goh trivial ?_
        exact finh [] e
      · refine goh trivial ?_
        exact ⟨[], by omega, leh trivial, fun j hj => by
          rcases Nat.lt_succ_iff_lt_or_eq.1 hj with h2 | rfl
          · exact hb j h2
          · have hx' : (¬ (List.getD (α := Int) zs j 0) < (13 : Int) ∧ ¬ (List.getD (α := Int) zs j 0) ≥ (120 : Int)) ∧ (¬ (j : Int) > 0 ∨ ¬ (List.getD (α := Int) zs j 0) ≤ (List.getD (α := Int) zs (j - 1) 0)) := hx
            clear hx
            exact ⟨by omega, fun h0 => by omega⟩⟩
    · have e : safeB zs = true := safeB_true.2 fun j hj => hb j (by omega)
      refine goh trivial ?_
      exact finh [] e
  · simp [no, ifp] at hp
@[go_sem] noncomputable def ctAtE : Ct := ⟨false, [[some .ent]], fun args os => match args, os with
  | [.one (.isl .ent es), .one (.val (.int .i64 a))], [] => ifp (es.length ≤ 4000000) (.tup [vi (lowE es a), vb (thereE es a)])
  | _, _ => no⟩
theorem thereE_eq (es : List Ent) (a : Int) {k : Nat} (e : lowE es a = k) : thereE es a = if (k : Int) < es.length then decide ((es.getD k ET.ent.dflt).at_ = a) else false := by
  unfold thereE
  rw [e]
  by_cases h : (k : Int) < es.length
  · rw [if_pos h, decide_eq_true (show k < es.length by omega), Bool.true_and]
  · rw [if_neg h, decide_eq_false (show ¬ k < es.length by omega), Bool.false_and]
theorem s_l5At_e : EnterOk Tryz.prog 218 := ⟨_, Tryz.func218, rfl, by decide⟩
@[go_sem] def s_l5At_lv : List (List Nat) := [[0, 1], [0, 1, 6], [0, 1, 6, 19], [0, 1, 6], [4, 5]]
@[go_sem] noncomputable def s_l5At_K : Known := Known.nil
set_option maxHeartbeats 8000000 in
theorem s_l5At : Sound Tryz.prog 218 ctAtE := by
  have ke := s_l5At_K.env []
  have kl : Lives s_l5At_lv := trivial
  refine sound_intro (E := ⟨ti, s_l5At_K.Γ, []⟩) ke Tryz.func218 Tryz.ntmps218 rfl (rs := [.tmp 4, .tmp 5]) rfl ?_
  intro args os hp
  unfold ctAtE at hp ⊢
  dsimp only at hp ⊢
  split at hp
  · rename_i es a
    refine ⟨by simp, fun φ0 w0 => ?_⟩
    have hlen : es.length ≤ 4000000 := hp
    refine goh trivial ?_
    refine W_for es.length (fun i => ∀ j, j < i → (es.getD j ET.ent.dflt).at_ < a) (fun i => ⟨[(0, .one (.isl .ent es)), (1, vi a), (6, vi i)], [], []⟩) [] (leh trivial) (by omega) fun i hi hb => ?_
    refine goh trivial ?_
    refine W_cnd ?_ ?_ <;> (try simp only [cnd_r]) <;> intro hc
    · refine goh trivial ?_
      exact ⟨[], by omega, leh trivial, fun j hj => by
        rcases Nat.lt_succ_iff_lt_or_eq.1 hj with h2 | rfl
        · exact hb j h2
        · exact hc.2⟩
    · have e : lowE es a = i := lowE_eq hi hb (by omega)
      have e2 := thereE_eq es a e
      refine goh trivial ?_
      exact finh [] (And.intro e e2)
  · simp [no, ifp] at hp
@[go_sem] def ctCmpE : Ct := ⟨false, [], fun args os => match args, os with
  | [.agg [.val (.int .i64 a), .val (.int .i64 b), .val (.int .i64 c)], .one (.val (.int .i64 t))], [] => ifp ((-1000000 ≤ b ∧ b ≤ 1000000) ∧ (-1000000 ≤ t ∧ t ≤ 1000000)) (vi (b - t))
  | _, _ => no⟩
theorem s_ddtPlace1_e : EnterOk Tryz.prog 266 := ⟨_, Tryz.func266, rfl, by decide⟩
@[go_sem] def s_ddtPlace1_lv : List (List Nat) := [[1, 2], [4]]
@[go_sem] noncomputable def s_ddtPlace1_K : Known := Known.nil
set_option maxHeartbeats 8000000 in
theorem s_ddtPlace1 : Sound Tryz.prog 266 ctCmpE := by
  have ke := s_ddtPlace1_K.env []
  have kl : Lives s_ddtPlace1_lv := trivial
  refine sound_intro (E := ⟨ti, s_ddtPlace1_K.Γ, []⟩) ke Tryz.func266 Tryz.ntmps266 rfl (rs := [.tmp 4]) rfl ?_
  intro args os hp
  unfold ctCmpE at hp ⊢
  dsimp only at hp ⊢
  split at hp
  · rename_i a b c t
    refine ⟨by simp, fun φ0 w0 => ?_⟩
    obtain ⟨h1, h2⟩ : (-1000000 ≤ b ∧ b ≤ 1000000) ∧ (-1000000 ≤ t ∧ t ≤ 1000000) := hp
    refine goh trivial ?_
    exact finh [] trivial
  · simp [no, ifp] at hp
@[go_sem] noncomputable def ctSearchE : Ct := ⟨false, [[some .ent]], fun args os => match args, os with
  | [.one (.isl .ent es), .one (.val (.int .i64 a)), .one (.fn 266 [])], [] => ifp (es.length ≤ 4000000 ∧ Asc es ∧ (-1000000 ≤ a ∧ a ≤ 1000000)) (.tup [vi (lowE es a), vb (thereE es a)])
  | _, _ => no⟩
@[go_sem] def sgSearchE (es : List Ent) (a : Int) (i j : Nat) : Sg := ⟨[(0, .one (.isl .ent es)), (1, vi a), (2, .one (.fn 266 [])), (8, vi es.length), (9, vi i), (10, vi j)], [], []⟩
theorem Asc.hi {es : List Ent} (h : Asc es) {a : Int} {i j : Nat} (hij : i ≤ j) (hj : j < es.length) (hs : ¬ (es.getD i ET.ent.dflt).at_ < a) : ¬ (es.getD j ET.ent.dflt).at_ < a := by
  have := h.le hij hj; omega
theorem s_searchE_e : EnterOk Tryz.prog 265 := ⟨_, Tryz.func265, rfl, by decide⟩
@[go_sem] def s_searchE_lv : List (List Nat) := [[0, 1, 2], [0, 1, 2, 8], [0, 1, 2, 8, 9, 10], [0, 1, 2, 8, 9, 10, 17], [0, 1, 2, 8, 9, 10, 11], [0, 1, 2, 8, 9, 10, 11, 31], [0, 1, 2, 8, 9, 10], [0, 1, 2, 8, 9, 10], [6, 7]]
@[go_sem] noncomputable def s_searchE_K : Known := (Known.nil).cons 266 ctCmpE s_ddtPlace1 s_ddtPlace1_e
set_option maxHeartbeats 8000000 in
theorem s_searchE : Sound Tryz.prog 265 ctSearchE := by
  have ke := s_searchE_K.env []
  have kl : Lives s_searchE_lv := trivial
  refine sound_intro (E := ⟨ti, s_searchE_K.Γ, []⟩) ke Tryz.func265 Tryz.ntmps265 rfl (rs := [.tmp 6, .tmp 7]) rfl ?_
  intro args os hp
  unfold ctSearchE at hp ⊢
  dsimp only at hp ⊢
  split at hp
  · rename_i es a
    refine ⟨by simp, fun φ0 w0 => ?_⟩
    obtain ⟨hlen, hso, ha⟩ : es.length ≤ 4000000 ∧ Asc es ∧ (-1000000 ≤ a ∧ a ≤ 1000000) := hp
    refine goh trivial ?_
    refine W_le (σ' := sgSearchE es a 0 es.length) [] (leh trivial) ?_
    refine W_loop (fun q σ => ∃ i j : Nat, i ≤ j ∧ j ≤ es.length ∧ q = j - i ∧ (∀ k, k < i → (es.getD k ET.ent.dflt).at_ < a) ∧ (j < es.length → ¬ (es.getD j ET.ent.dflt).at_ < a) ∧ σ = sgSearchE es a i j) es.length ⟨0, es.length, by omega, by omega, by omega, by omega, by omega, rfl⟩ ?_
    rintro q σ ⟨i, j, hij, hj, rfl, hlo, hhi, rfl⟩
    unfold sgSearchE
    refine goh trivial ?_
    refine W_cnd ?_ ?_ <;> (try simp only [cnd_r]) <;> intro hlt
    · have hH := half i j (by omega) (by omega)
      obtain ⟨h, hh⟩ : ∃ h, (i + j) / 2 = h := ⟨_, rfl⟩
      rw [hh] at hH
      have hb := hso.lo h (by omega)
      refine goh hH ?_
      refine W_cnd ?_ ?_ <;> (try simp only [cnd_r]) <;> intro hc
      · refine goh trivial ?_
        refine ⟨j - (h + 1), [], sgSearchE es a (h + 1) j, by omega, leh trivial, h + 1, j, by omega, hj, rfl, fun k hk => ?_, hhi, rfl⟩
        have := hso.le (show k ≤ h by omega) (by omega)
        omega
      · refine goh trivial ?_
        exact ⟨h - i, [], sgSearchE es a i h, by omega, leh trivial, i, h, by omega, by omega, rfl, hlo, fun _ => by omega, rfl⟩
    · obtain rfl : i = j := by omega
      have e : lowE es a = i := lowE_eq hj hlo (by
        by_cases h : i < es.length
        · exact .inr (hhi h)
        · exact .inl (by omega))
      have e2 := thereE_eq es a e
      by_cases hi : i < es.length
      · have hb := hso.lo i hi
        refine goh trivial ?_
        refine ⟨by (simp only [go_sem, e, e2, ↓reduceIte, reduceCtorEq, Nat.reduceAdd, Nat.reduceLT, Nat.reduceLeDiff, Nat.reduceEqDiff]) <;> trivial, [], ?_⟩
        all_goals try simp only [go_sem, e, e2, inj_r, ↓reduceIte, reduceCtorEq, Nat.reduceAdd, Nat.reduceLT, Nat.reduceLeDiff, Nat.reduceEqDiff, Int.reduceEq]
        all_goals (repeat' refine And.intro ?_ ?_) <;> try exact shut7
        rw [if_pos (by omega), if_pos (by omega), Bool.eq_iff_iff, beq_iff_eq, decide_eq_true_eq]
        omega
      · refine goh trivial ?_
        refine ⟨by (simp only [go_sem, e, e2, ↓reduceIte, reduceCtorEq, Nat.reduceAdd, Nat.reduceLT, Nat.reduceLeDiff, Nat.reduceEqDiff]) <;> trivial, [], ?_⟩
        all_goals try simp only [go_sem, e, e2, inj_r, ↓reduceIte, reduceCtorEq, Nat.reduceAdd, Nat.reduceLT, Nat.reduceLeDiff, Nat.reduceEqDiff, Int.reduceEq]
        all_goals (repeat' refine And.intro ?_ ?_) <;> try exact shut7
        rw [if_neg (by omega), if_neg (by omega)]
  · simp [no, ifp] at hp
@[go_sem] noncomputable def ctPlaceE : Ct := ⟨false, [[some .ent]], fun args os => match args, os with
  | [.one (.isl .ent es), .one (.val (.int .i64 a))], [] => ifp (es.length ≤ 4000000 ∧ Asc es ∧ (-1000000 ≤ a ∧ a ≤ 1000000)) (.tup [vi (lowE es a), vb (thereE es a)])
  | _, _ => no⟩
theorem s_ddtPlace_e : EnterOk Tryz.prog 230 := ⟨_, Tryz.func230, rfl, by decide⟩
@[go_sem] def s_ddtPlace_lv : List (List Nat) := [[0, 1], [4, 5]]
@[go_sem] noncomputable def s_ddtPlace_K : Known := ((Known.nil).cons 265 ctSearchE s_searchE s_searchE_e).cons 266 ctCmpE s_ddtPlace1 s_ddtPlace1_e
set_option maxHeartbeats 8000000 in
theorem s_ddtPlace : Sound Tryz.prog 230 ctPlaceE := by
  have ke := s_ddtPlace_K.env []
  have kl : Lives s_ddtPlace_lv := trivial
  refine sound_intro (E := ⟨ti, s_ddtPlace_K.Γ, []⟩) ke Tryz.func230 Tryz.ntmps230 rfl (rs := [.tmp 4, .tmp 5]) rfl ?_
  intro args os hp
  unfold ctPlaceE at hp ⊢
  dsimp only at hp ⊢
  split at hp
  · rename_i es a
    refine ⟨by simp, fun φ0 w0 => ?_⟩
    obtain ⟨hlen, hso, ha⟩ : es.length ≤ 4000000 ∧ Asc es ∧ (-1000000 ≤ a ∧ a ≤ 1000000) := hp
    refine goh trivial ?_
    exact finh [] trivial
  · simp [no, ifp] at hp
end Go.Proofs.YtmnbgppmfbnamaaGreatDoor
/- Functions: valid books, the program's. -/
namespace Go.Proofs.YtmnbgppmfbnamaaGreatDoor
open Go.RowKit

@[go_sem] def ctLong24 : Ct := ⟨false, [], fun args os => match args, os with
  | [.one (.val (.string t))], [] => is (vb (long24 t))
  | _, _ => no⟩
theorem s_long24_e : EnterOk Tryz.prog 226 := ⟨_, Tryz.func226, rfl, by decide⟩
@[go_sem] def s_long24_lv : List (List Nat) := [[0], [2]]
@[go_sem] noncomputable def s_long24_K : Known := Known.nil
set_option maxHeartbeats 8000000 in
theorem s_long24 : Sound Tryz.prog 226 ctLong24 := by
  have ke := s_long24_K.env []
  have kl : Lives s_long24_lv := trivial
  refine sound_intro (E := ⟨ti, s_long24_K.Γ, []⟩) ke Tryz.func226 Tryz.ntmps226 rfl (rs := [.tmp 2]) rfl ?_
  intro args os hp
  unfold ctLong24 at hp ⊢
  dsimp only at hp ⊢
  split at hp
  · rename_i t
    refine ⟨by simp, fun φ0 w0 => ?_⟩
    refine goh trivial ?_
    refine ⟨by (simp only [go_sem, long24, ↓reduceIte, reduceCtorEq, Nat.reduceAdd, Nat.reduceLT, Nat.reduceLeDiff, Nat.reduceEqDiff]) <;> trivial, [], ?_⟩
    all_goals try simp only [go_sem, long24, inj_r, ↓reduceIte, reduceCtorEq, Nat.reduceAdd, Nat.reduceLT, Nat.reduceLeDiff, Nat.reduceEqDiff, Int.reduceEq]
    all_goals (repeat' refine And.intro ?_ ?_) <;> try exact shut7
  · simp [no, is] at hp
@[go_sem] def ctIndex24 : Ct := ⟨false, [[some .str]], fun args os => match args, os with
  | [.one (.isl .str xs), .one (.fn 226 [])], [] => ifp (xs.length ≤ 4000000) (vi (firstAt long24 xs))
  | _, _ => no⟩
@[go_sem] def sgIndex24 (xs : List ByteArray) (i : Nat) : Sg := ⟨[(8, vi i), (7, vi xs.length), (0, .one (.isl .str xs)), (1, .one (.fn 226 []))], [], []⟩
theorem s_index24_e : EnterOk Tryz.prog 212 := ⟨_, Tryz.func212, rfl, by decide⟩
@[go_sem] def s_index24_lv : List (List Nat) := [[0, 1], [0, 1, 7, 8], [0, 1, 7, 8, 9], [0, 1, 5, 7, 8], [0, 1, 5, 7, 8, 16], [4], [0, 1, 7, 8], [4]]
@[go_sem] noncomputable def s_index24_K : Known := (Known.nil).cons 226 ctLong24 s_long24 s_long24_e
set_option maxHeartbeats 8000000 in
theorem s_index24 : Sound Tryz.prog 212 ctIndex24 := by
  have ke := s_index24_K.env []
  have kl : Lives s_index24_lv := trivial
  refine sound_intro (E := ⟨ti, s_index24_K.Γ, []⟩) ke Tryz.func212 Tryz.ntmps212 rfl (rs := [.tmp 4]) rfl ?_
  intro args os hp
  unfold ctIndex24 at hp ⊢
  dsimp only at hp ⊢
  split at hp
  · rename_i xs
    refine ⟨by simp, fun φ0 w0 => ?_⟩
    have hlen : xs.length ≤ 4000000 := hp
    clear hp
    refine goh trivial ?_
    refine W_le (σ' := sgIndex24 xs 0) [] (by
      simp only [go_sem, inj_r, ↓reduceIte, reduceCtorEq, Nat.reduceAdd, Nat.reduceLT, Nat.reduceLeDiff, Nat.reduceEqDiff, Int.reduceEq]
      all_goals (repeat' refine And.intro ?_ ?_) <;> try exact shut7
      ) ?_
    refine W_loop (fun n σ => ∃ i : Nat, i ≤ xs.length ∧ n = xs.length - i ∧ (∀ j, j < i → long24 (xs.getD j ET.str.dflt) = false) ∧ σ = sgIndex24 xs i) xs.length ⟨0, by omega, by omega, by omega, rfl⟩ ?_
    rintro n σ ⟨i, hi, rfl, hbef, rfl⟩
    unfold sgIndex24
    refine goh trivial ?_
    refine W_cnd ?_ ?_ <;> (try simp only [cnd_r]) <;> intro hlt
    · refine goh trivial ?_
      refine W_cnd ?_ ?_ <;> (try simp only [cnd_r]) <;> intro hl
      · refine goh trivial ?_
        refine ⟨by (simp only [go_sem, ↓reduceIte, reduceCtorEq, Nat.reduceAdd, Nat.reduceLT, Nat.reduceLeDiff, Nat.reduceEqDiff]) <;> trivial, [], ?_⟩
        all_goals try simp only [go_sem, inj_r, ↓reduceIte, reduceCtorEq, Nat.reduceAdd, Nat.reduceLT, Nat.reduceLeDiff, Nat.reduceEqDiff, Int.reduceEq]
        all_goals (repeat' refine And.intro ?_ ?_) <;> try exact shut7
        exact (firstAt_some (by omega) hbef hl).symm
      · refine goh trivial ?_
        refine ⟨xs.length - (i + 1), [], sgIndex24 xs (i + 1), by omega, ?_, i + 1, by omega, rfl, fun j hj => ?_, rfl⟩
        · exact leh trivial
        · rcases Nat.lt_succ_iff_lt_or_eq.1 hj with h | rfl
          · exact hbef j h
          · exact hl
    · refine goh trivial ?_
      refine ⟨by (simp only [go_sem, ↓reduceIte, reduceCtorEq, Nat.reduceAdd, Nat.reduceLT, Nat.reduceLeDiff, Nat.reduceEqDiff]) <;> trivial, [], ?_⟩
      all_goals try simp only [go_sem, inj_r, ↓reduceIte, reduceCtorEq, Nat.reduceAdd, Nat.reduceLT, Nat.reduceLeDiff, Nat.reduceEqDiff, Int.reduceEq]
      all_goals (repeat' refine And.intro ?_ ?_) <;> try exact shut7
      exact (firstAt_none fun j hj => hbef j (by omega)).symm
  · simp [no, ifp] at hp
@[go_sem] def ctHas24 : Ct := ⟨false, [[some .str]], fun args os => match args, os with
  | [.one (.isl .str xs), .one (.fn 226 [])], [] => ifp (xs.length ≤ 4000000) (vb (xs.any long24))
  | _, _ => no⟩
theorem s_has24_e : EnterOk Tryz.prog 137 := ⟨_, Tryz.func137, rfl, by decide⟩
@[go_sem] def s_has24_lv : List (List Nat) := [[0, 1], [4]]
@[go_sem] noncomputable def s_has24_K : Known := (Known.nil).cons 212 ctIndex24 s_index24 s_index24_e
set_option maxHeartbeats 8000000 in
theorem s_has24 : Sound Tryz.prog 137 ctHas24 := by
  have ke := s_has24_K.env []
  have kl : Lives s_has24_lv := trivial
  refine sound_intro (E := ⟨ti, s_has24_K.Γ, []⟩) ke Tryz.func137 Tryz.ntmps137 rfl (rs := [.tmp 4]) rfl ?_
  intro args os hp
  unfold ctHas24 at hp ⊢
  dsimp only at hp ⊢
  split at hp
  · rename_i xs
    refine ⟨by simp, fun φ0 w0 => ?_⟩
    have hlen : xs.length ≤ 4000000 := hp
    clear hp
    refine goh trivial ?_
    refine ⟨by (simp only [go_sem, ↓reduceIte, reduceCtorEq, Nat.reduceAdd, Nat.reduceLT, Nat.reduceLeDiff, Nat.reduceEqDiff]) <;> trivial, [], ?_⟩
    all_goals try simp only [go_sem, inj_r, ↓reduceIte, reduceCtorEq, Nat.reduceAdd, Nat.reduceLT, Nat.reduceLeDiff, Nat.reduceEqDiff, Int.reduceEq]
    all_goals (repeat' refine And.intro ?_ ?_) <;> try exact shut7
    exact firstAt_ge _ _
  · simp [no, ifp] at hp
@[go_sem] noncomputable def ctNamed : Ct := ⟨true, [], fun args os => match args, os with
  | [.agg cs, .one (.ptr 0 0)], [.cells ds] => (match bsetOf cs, bsetOf ds with | some x, some s => is (vb (same x.name s.from_)) | _, _ => no)
  | _, _ => no⟩
theorem s_named_e : EnterOk Tryz.prog 264 := ⟨_, Tryz.func264, rfl, by decide⟩
@[go_sem] def s_named_lv : List (List Nat) := [[1, 2], [3]]
@[go_sem] noncomputable def s_named_K : Known := Known.nil
set_option maxHeartbeats 8000000 in
theorem s_named : Sound Tryz.prog 264 ctNamed := by
  have ke := s_named_K.env []
  have kl : Lives s_named_lv := trivial
  refine sound_intro (E := ⟨ti, s_named_K.Γ, []⟩) ke Tryz.func264 Tryz.ntmps264 rfl (rs := [.tmp 3]) rfl ?_
  intro args os hp
  unfold ctNamed at hp ⊢
  dsimp only at hp ⊢
  split at hp
  · rename_i cs ds
    split at hp
    · rename_i x s hx hs
      obtain rfl := bsetOf_some hx
      obtain rfl := bsetOf_some hs
      clear hx hs hp
      refine ⟨by simp, fun φ0 w0 => ?_⟩
      refine goh trivial ?_
      exact finh [some 0] trivial
    · simp [no] at hp
  · simp [no] at hp
@[go_sem] noncomputable def ctIndexNamed : Ct := ⟨true, [[some .bset]], fun args os => match args, os with
  | [.one (.isl .bset xs), .one (.fn 264 [(0, 0)])], [.cells ds] => (match bsetOf ds with | some s => ifp (xs.length ≤ 4000000) (vi (atB xs s.from_)) | none => no)
  | _, _ => no⟩
@[go_sem] def sgIxN (xs : List BSet) (s : BSet) (i : Nat) : Sg := ⟨[(8, vi i), (7, vi xs.length), (0, .one (.isl .bset xs)), (1, .one (.fn 264 [(0, 0)]))], [some (.cells ((ET.bset.cells s).map .val))], []⟩
theorem s_indexNamed_e : EnterOk Tryz.prog 263 := ⟨_, Tryz.func263, rfl, by decide⟩
@[go_sem] def s_indexNamed_lv : List (List Nat) := [[0, 1], [0, 1, 7, 8], [0, 1, 7, 8, 9], [0, 1, 5, 7, 8], [0, 1, 5, 7, 8, 16], [4], [0, 1, 7, 8], [4]]
@[go_sem] noncomputable def s_indexNamed_K : Known := (Known.nil).cons 264 ctNamed s_named s_named_e
set_option maxHeartbeats 8000000 in
theorem s_indexNamed : Sound Tryz.prog 263 ctIndexNamed := by
  have ke := s_indexNamed_K.env []
  have kl : Lives s_indexNamed_lv := trivial
  refine sound_intro (E := ⟨ti, s_indexNamed_K.Γ, []⟩) ke Tryz.func263 Tryz.ntmps263 rfl (rs := [.tmp 4]) rfl ?_
  intro args os hp
  unfold ctIndexNamed at hp ⊢
  dsimp only at hp ⊢
  split at hp
  · rename_i xs ds
    split at hp
    · rename_i s hs
      obtain rfl := bsetOf_some hs
      have hlen : xs.length ≤ 4000000 := hp
      clear hs
      refine ⟨by simp, fun φ0 w0 => ?_⟩
      refine goh trivial ?_
      refine W_le (σ' := sgIxN xs s 0) [some 0] (by
        simp only [go_sem, inj_r, ↓reduceIte, reduceCtorEq, Nat.reduceAdd, Nat.reduceLT, Nat.reduceLeDiff, Nat.reduceEqDiff, Int.reduceEq]
        all_goals (repeat' refine And.intro ?_ ?_) <;> try exact shut7
        ) ?_
      refine W_loop (fun n σ => ∃ i : Nat, i ≤ xs.length ∧ n = xs.length - i ∧ (∀ j, j < i → same (xs.getD j ET.bset.dflt).name s.from_ = false) ∧ σ = sgIxN xs s i) xs.length ⟨0, by omega, by omega, by omega, rfl⟩ ?_
      rintro n σ ⟨i, hi, rfl, hbef, rfl⟩
      unfold sgIxN
      refine goh trivial ?_
      refine W_cnd ?_ ?_ <;> (try simp only [cnd_r]) <;> intro hlt
      · refine goh trivial ?_
        refine W_cond _ (by exact rfl) (by exact trivial) ?_ ?_ <;> intro hl
        · have e : atB xs s.from_ = i := firstAt_some (by omega) hbef hl
          refine goh trivial ?_
          exact finh [some 0] e
        · refine goh trivial ?_
          refine ⟨xs.length - (i + 1), [some 0], sgIxN xs s (i + 1), by omega, ?_, i + 1, by omega, rfl, fun j hj => ?_, rfl⟩
          · exact leh trivial
          · rcases Nat.lt_succ_iff_lt_or_eq.1 hj with h | rfl
            · first | exact hbef j h | exact same_false.1 (hbef j h)
            · first | exact hl | exact same_false.1 hl
      · have e : atB xs s.from_ = -1 := firstAt_none fun j hj => hbef j (by omega)
        refine goh trivial ?_
        exact finh [some 0] e
    · simp [no] at hp
  · simp [no] at hp
@[go_sem] noncomputable def ctLeads : Ct := ⟨false, [[some .bset], []], fun args os => match args, os with
  | [.agg [.isl .bset xs], .agg cs], [] => (match bsetOf cs with | some s => ifp (xs.length ≤ 4000000) (vb (leadsN xs xs.length s)) | none => no)
  | _, _ => no⟩
@[go_sem] def sgLeads (xs : List BSet) (s : BSet) (i : Nat) : Sg := ⟨[(2, .one (.ptr 0 0)), (3, .one (.ptr 1 0)), (8, vi xs.length), (9, vi i)], [some (.cells [.isl .bset xs]), some (.cells ((ET.bset.cells s).map .val))], []⟩
theorem atB_lt (xs : List BSet) (name : ByteArray) : atB xs name < xs.length := by
  unfold atB firstAt
  split
  · rename_i i h
    rw [List.findIdx?_eq_some_iff_getElem] at h
    obtain ⟨hi, -⟩ := h
    omega
  · omega
theorem s_leads_e : EnterOk Tryz.prog 229 := ⟨_, Tryz.func229, rfl, by decide⟩
@[go_sem] def s_leads_lv : List (List Nat) := [[2, 3], [2, 3, 8, 9], [2, 3, 8, 9, 10], [2, 3, 8, 9, 13], [4], [2, 3, 5, 8, 9], [2, 3, 5, 8, 9, 33], [4], [2, 3, 8, 9], [2, 3, 8, 9], [4]]
@[go_sem] noncomputable def s_leads_K : Known := ((Known.nil).cons 263 ctIndexNamed s_indexNamed s_indexNamed_e).cons 264 ctNamed s_named s_named_e
set_option maxHeartbeats 8000000 in
theorem s_leads : Sound Tryz.prog 229 ctLeads := by
  have ke := s_leads_K.env []
  have kl : Lives s_leads_lv := trivial
  refine sound_intro (E := ⟨ti, s_leads_K.Γ, []⟩) ke Tryz.func229 Tryz.ntmps229 rfl (rs := [.tmp 4]) rfl ?_
  intro args os hp
  unfold ctLeads at hp ⊢
  dsimp only at hp ⊢
  split at hp
  · rename_i xs cs
    split at hp
    · rename_i s0 hs0
      obtain rfl := bsetOf_some hs0
      have hlen : xs.length ≤ 4000000 := hp
      clear hs0
      refine ⟨by simp, fun φ0 w0 => ?_⟩
      obtain ⟨R, hR⟩ : ∃ R, leadsN xs xs.length s0 = R := ⟨_, rfl⟩
      refine goh trivial ?_
      refine W_le (σ' := sgLeads xs s0 0) [some 0, some 1] (by
        simp only [go_sem, inj_r, ↓reduceIte, reduceCtorEq, Nat.reduceAdd, Nat.reduceLT, Nat.reduceLeDiff, Nat.reduceEqDiff, Int.reduceEq]
        all_goals (repeat' refine And.intro ?_ ?_) <;> try exact shut7
        ) ?_
      refine W_loop (fun q σ => ∃ (i : Nat) (s : BSet), i ≤ xs.length ∧ q = xs.length - i ∧ leadsN xs (xs.length - i) s = R ∧ σ = sgLeads xs s i) xs.length ⟨0, s0, by omega, by omega, hR, rfl⟩ ?_
      rintro q σ ⟨i, s, hi, rfl, hs, rfl⟩
      unfold sgLeads
      refine goh trivial ?_
      refine W_cnd ?_ ?_ <;> (try simp only [cnd_r]) <;> intro hlt
      · obtain ⟨m, hm⟩ : ∃ m, xs.length - i = m + 1 := ⟨xs.length - i - 1, by omega⟩
        rw [hm] at hs
        unfold leadsN at hs
        refine goh trivial ?_
        refine W_cond _ (by exact rfl) (by exact trivial) ?_ ?_ <;> intro hf
        · rw [if_pos hf] at hs
          have e : leadsN xs xs.length s0 = (s.kind == 1) := by rw [hR, ← hs]
          refine goh trivial ?_
          exact finh [] e
        · rw [if_neg (by rw [hf]; decide)] at hs
          have hl := atB_lt xs s.from_
          repeat' first
            | with_reducible refine red ?_
            | refine W_seq ?_
            | (refine W_reg (s_leads_K.env []) s_leads_lv fun K' hK' => ?_
               simp only [go_sem, ↓reduceIte, ↓reduceDIte, reduceCtorEq, Nat.reduceAdd, Nat.reduceMul, Nat.reduceSub, Nat.reduceDiv, Nat.reduceMod, Nat.reduceLT, Nat.reduceLeDiff, Nat.reduceEqDiff, Nat.reduceBEq, Int.reduceToNat, Int.reduceLE, Int.reduceLT, Int.reduceEq, Int.reduceNe, Int.reduceNeg]
               (repeat' refine And.intro ?_ ?_) <;> try first | with_reducible refine hK' ?_ | exact shut6)
            | with_reducible refine blockG_o (by decide) ?_
          · intro hgd
            have hgd2 : ¬ atB xs s.from_ < 0 := by simpa using hgd
            omega
          refine W_cnd ?_ ?_ <;> (try simp only [cnd_r]) <;> intro hc
          · have e : leadsN xs xs.length s0 = false := by
              rw [hR, ← hs, if_pos]
              rcases hc with h | h
              · exact .inl h
              · exact .inr h
            refine goh trivial ?_
            exact finh [] e
          · obtain ⟨c1, c2⟩ := hc
            have c3 : ¬ (setOf xs s.from_).kind = s.kind := by
              intro h
              rw [beq_eq_false_iff_ne] at c2
              exact c2 h
            rw [if_neg (fun h => h.elim c1 c3)] at hs
            refine goh trivial ?_
            refine ⟨xs.length - (i + 1), [some 0, some 1], sgLeads xs (setOf xs s.from_) (i + 1), by omega, ?_, i + 1, setOf xs s.from_, by omega, rfl, ?_, rfl⟩
            · simp only [go_sem, setOf, inj_r, ↓reduceIte, reduceCtorEq, Nat.reduceAdd, Nat.reduceLT, Nat.reduceLeDiff, Nat.reduceEqDiff, Int.reduceEq]
              all_goals (repeat' refine And.intro ?_ ?_) <;> try exact shut7
            · rw [show xs.length - (i + 1) = m by omega]; exact hs
      · have h0 : xs.length - i = 0 := by omega
        rw [h0] at hs
        have e : leadsN xs xs.length s0 = false := by rw [hR, ← hs]; rfl
        refine goh trivial ?_
        exact finh [] e
    · simp [no] at hp
  · simp [no] at hp
@[go_sem] noncomputable def ctBadSet : Ct := ⟨true, [], fun args os => match args, os with
  | [.agg cs, .one (.ptr 0 0)], [.cells [.isl .bset xs]] => (match bsetOf cs with | some s => ifp (xs.length ≤ 4000000) (vb (!leadsN xs xs.length s)) | none => no)
  | _, _ => no⟩
theorem s_badSet_e : EnterOk Tryz.prog 228 := ⟨_, Tryz.func228, rfl, by decide⟩
@[go_sem] def s_badSet_lv : List (List Nat) := [[1, 2], [3]]
@[go_sem] noncomputable def s_badSet_K : Known := (Known.nil).cons 229 ctLeads s_leads s_leads_e
set_option maxHeartbeats 8000000 in
theorem s_badSet : Sound Tryz.prog 228 ctBadSet := by
  have ke := s_badSet_K.env []
  have kl : Lives s_badSet_lv := trivial
  refine sound_intro (E := ⟨ti, s_badSet_K.Γ, []⟩) ke Tryz.func228 Tryz.ntmps228 rfl (rs := [.tmp 3]) rfl ?_
  intro args os hp
  unfold ctBadSet at hp ⊢
  dsimp only at hp ⊢
  split at hp
  · rename_i cs xs
    split at hp
    · rename_i s hs
      obtain rfl := bsetOf_some hs
      have hlen : xs.length ≤ 4000000 := hp
      clear hs
      refine ⟨by simp, fun φ0 w0 => ?_⟩
      refine goh trivial ?_
      exact finh [some 0] trivial
    · simp [no] at hp
  · simp [no] at hp
@[go_sem] noncomputable def ctIndexBad : Ct := ⟨true, [[some .bset]], fun args os => match args, os with
  | [.one (.isl .bset ys), .one (.fn 228 [(0, 0)])], [.cells [.isl .bset xs]] => ifp (xs.length ≤ 4000000 ∧ ys.length ≤ 4000000) (vi (firstAt (fun s => !leadsN xs xs.length s) ys))
  | _, _ => no⟩
@[go_sem] def sgIxB (xs ys : List BSet) (i : Nat) : Sg := ⟨[(8, vi i), (7, vi ys.length), (0, .one (.isl .bset ys)), (1, .one (.fn 228 [(0, 0)]))], [some (.cells [.isl .bset xs])], []⟩
theorem s_indexBad_e : EnterOk Tryz.prog 263 := ⟨_, Tryz.func263, rfl, by decide⟩
@[go_sem] def s_indexBad_lv : List (List Nat) := [[0, 1], [0, 1, 7, 8], [0, 1, 7, 8, 9], [0, 1, 5, 7, 8], [0, 1, 5, 7, 8, 16], [4], [0, 1, 7, 8], [4]]
@[go_sem] noncomputable def s_indexBad_K : Known := (Known.nil).cons 228 ctBadSet s_badSet s_badSet_e
set_option maxHeartbeats 8000000 in
theorem s_indexBad : Sound Tryz.prog 263 ctIndexBad := by
  have ke := s_indexBad_K.env []
  have kl : Lives s_indexBad_lv := trivial
  refine sound_intro (E := ⟨ti, s_indexBad_K.Γ, []⟩) ke Tryz.func263 Tryz.ntmps263 rfl (rs := [.tmp 4]) rfl ?_
  intro args os hp
  unfold ctIndexBad at hp ⊢
  dsimp only at hp ⊢
  split at hp
  · rename_i ys xs
    refine ⟨by simp, fun φ0 w0 => ?_⟩
    obtain ⟨hx, hlen⟩ : xs.length ≤ 4000000 ∧ ys.length ≤ 4000000 := hp
    refine goh trivial ?_
    refine W_le (σ' := sgIxB xs ys 0) [some 0] (by
      simp only [go_sem, inj_r, ↓reduceIte, reduceCtorEq, Nat.reduceAdd, Nat.reduceLT, Nat.reduceLeDiff, Nat.reduceEqDiff, Int.reduceEq]
      all_goals (repeat' refine And.intro ?_ ?_) <;> try exact shut7
      ) ?_
    refine W_loop (fun n σ => ∃ i : Nat, i ≤ ys.length ∧ n = ys.length - i ∧ (∀ j, j < i → leadsN xs xs.length (ys.getD j ET.bset.dflt) = true) ∧ σ = sgIxB xs ys i) ys.length ⟨0, by omega, by omega, by omega, rfl⟩ ?_
    rintro n σ ⟨i, hi, rfl, hbef, rfl⟩
    unfold sgIxB
    refine goh trivial ?_
    refine W_cnd ?_ ?_ <;> (try simp only [cnd_r]) <;> intro hlt
    · refine goh trivial ?_
      refine W_cond _ (by exact rfl) (by exact trivial) ?_ ?_ <;> intro hl
      · have e : firstAt (fun s => !leadsN xs xs.length s) ys = i := firstAt_some (d := ET.bset.dflt) (by omega) (fun j hj => by show (!leadsN xs xs.length (ys.getD j ET.bset.dflt)) = false; rw [hbef j hj]; rfl) hl
        refine goh trivial ?_
        exact finh [some 0] e
      · have hl2 : leadsN xs xs.length (ys.getD i ET.bset.dflt) = true := by simpa using hl
        refine goh trivial ?_
        refine ⟨ys.length - (i + 1), [some 0], sgIxB xs ys (i + 1), by omega, ?_, i + 1, by omega, rfl, fun j hj => ?_, rfl⟩
        · exact leh trivial
        · rcases Nat.lt_succ_iff_lt_or_eq.1 hj with h | rfl
          · exact hbef j h
          · exact hl2
    · have e : firstAt (fun s => !leadsN xs xs.length s) ys = -1 := firstAt_none (d := ET.bset.dflt) fun j hj => by show (!leadsN xs xs.length (ys.getD j ET.bset.dflt)) = false; rw [hbef j (by omega)]; rfl
      refine goh trivial ?_
      exact finh [some 0] e
  · simp [no, ifp] at hp
@[go_sem] noncomputable def ctHasBad : Ct := ⟨true, [[some .bset]], fun args os => match args, os with
  | [.one (.isl .bset ys), .one (.fn 228 [(0, 0)])], [.cells [.isl .bset xs]] => ifp (xs.length ≤ 4000000 ∧ ys.length ≤ 4000000) (vb (ys.any (fun s => !leadsN xs xs.length s)))
  | _, _ => no⟩
theorem s_hasBad_e : EnterOk Tryz.prog 227 := ⟨_, Tryz.func227, rfl, by decide⟩
@[go_sem] def s_hasBad_lv : List (List Nat) := [[0, 1], [4]]
@[go_sem] noncomputable def s_hasBad_K : Known := (Known.nil).cons 263 ctIndexBad s_indexBad s_indexBad_e
set_option maxHeartbeats 8000000 in
theorem s_hasBad : Sound Tryz.prog 227 ctHasBad := by
  have ke := s_hasBad_K.env []
  have kl : Lives s_hasBad_lv := trivial
  refine sound_intro (E := ⟨ti, s_hasBad_K.Γ, []⟩) ke Tryz.func227 Tryz.ntmps227 rfl (rs := [.tmp 4]) rfl ?_
  intro args os hp
  unfold ctHasBad at hp ⊢
  dsimp only at hp ⊢
  split at hp
  · rename_i ys xs
    refine ⟨by simp, fun φ0 w0 => ?_⟩
    obtain ⟨hx, hlen⟩ : xs.length ≤ 4000000 ∧ ys.length ≤ 4000000 := hp
    refine goh trivial ?_
    refine ⟨by (simp only [go_sem, ↓reduceIte, reduceCtorEq, Nat.reduceAdd, Nat.reduceLT, Nat.reduceLeDiff, Nat.reduceEqDiff]) <;> trivial, [some 0], ?_⟩
    all_goals try simp only [go_sem, inj_r, ↓reduceIte, reduceCtorEq, Nat.reduceAdd, Nat.reduceLT, Nat.reduceLeDiff, Nat.reduceEqDiff, Int.reduceEq]
    all_goals (repeat' refine And.intro ?_ ?_) <;> try exact shut7
    exact firstAt_ge _ _
  · simp [no, ifp] at hp
@[go_sem] noncomputable def ctBookOk : Ct := ⟨false, [[some .bset]], fun args os => match args, os with
  | [.agg [.isl .bset xs]], [] => ifp (xs.length ≤ 4000000 ∧ ∀ i : Nat, (xs.getD i ET.bset.dflt).name.size ≤ 9223372036854775807) (vb (bookB xs))
  | _, _ => no⟩
@[go_sem] def sgBookOk (xs : List BSet) (i : Nat) : Sg := ⟨[(1, .one (.ptr 0 0)), (10, .one (.isl .bset xs)), (11, vi xs.length), (12, vi i)], [some (.cells [.isl .bset xs])], []⟩
theorem s_bookOk_e : EnterOk Tryz.prog 175 := ⟨_, Tryz.func175, rfl, by decide⟩
@[go_sem] def s_bookOk_lv : List (List Nat) := [[1], [1, 8], [2], [1, 10, 11, 12], [1, 10, 11, 12, 13], [1, 3, 4, 10, 11, 12], [1, 10, 11, 12, 51], [2], [1, 10, 11, 12], [2]]
@[go_sem] noncomputable def s_bookOk_K : Known := (((((Known.nil).cons 47 ctName s_bookName s_bookName_e).cons 137 ctHas24 s_has24 s_has24_e).cons 226 ctLong24 s_long24 s_long24_e).cons 227 ctHasBad s_hasBad s_hasBad_e).cons 228 ctBadSet s_badSet s_badSet_e
set_option maxHeartbeats 8000000 in
theorem s_bookOk : Sound Tryz.prog 175 ctBookOk := by
  have ke := s_bookOk_K.env []
  have kl : Lives s_bookOk_lv := trivial
  refine sound_intro (E := ⟨ti, s_bookOk_K.Γ, []⟩) ke Tryz.func175 Tryz.ntmps175 rfl (rs := [.tmp 2]) rfl ?_
  intro args os hp
  unfold ctBookOk at hp ⊢
  dsimp only at hp ⊢
  split at hp
  · rename_i xs
    refine ⟨by simp, fun φ0 w0 => ?_⟩
    obtain ⟨hlen, hsz⟩ : xs.length ≤ 4000000 ∧ ∀ i : Nat, (xs.getD i ET.bset.dflt).name.size ≤ 9223372036854775807 := hp
    refine goh trivial ?_
    refine W_cnd ?_ ?_ <;> (try simp only [cnd_r]) <;> intro hc
    · have e : bookB xs = false := bookB_false.2 fun h => by have := h.few; omega
      refine goh trivial ?_
      exact finh [] e
    · refine goh trivial ?_
      refine W_le (σ' := sgBookOk xs 0) [some 0] (by
        simp only [go_sem, inj_r, ↓reduceIte, reduceCtorEq, Nat.reduceAdd, Nat.reduceLT, Nat.reduceLeDiff, Nat.reduceEqDiff, Int.reduceEq]
        all_goals (repeat' refine And.intro ?_ ?_) <;> try exact shut7
        ) ?_
      refine W_loop (fun q σ => ∃ i : Nat, i ≤ xs.length ∧ q = xs.length - i ∧ (∀ j, j < i → SetOk xs j) ∧ σ = sgBookOk xs i) xs.length ⟨0, by omega, by omega, by omega, rfl⟩ ?_
      rintro q σ ⟨i, hi, rfl, hbef, rfl⟩
      unfold sgBookOk
      refine goh trivial ?_
      refine W_cnd ?_ ?_ <;> (try simp only [cnd_r]) <;> intro hlt
      · have hsz1 := hsz i
        have w1 : IntKind.i64.wrap ((i : Int) - 1) = (i : Int) - 1 := wrap_id _ (by omega) (by omega)
        have ht : ((i : Int) - 1).toNat = i - 1 := by omega
        refine goh (And.intro w1 ht) ?_
        refine W_cond _ (by exact rfl) (by exact trivial) ?_ ?_ <;> intro hb
        · have e : bookB xs = false := bookB_false.2 fun h => by
            obtain ⟨h1, h2, h3, h4⟩ := h.each i (by omega)
            unfold lessB at h2
            unfold big8 at h4
            simp only [List.any_cons, List.any_nil, Bool.or_false] at h4
            have hx := (bad_expr _ _ _ _ _ _).2 ⟨h1, fun hp : (i : Int) > 0 => h2 (by omega), (show ((xs.getD i ET.bset.dflt).kind != 1) = false ∨ ((xs.getD i ET.bset.dflt).kind != 2) = false from h3.elim (fun h => .inl (by rw [h]; rfl)) (fun h => .inr (by rw [h]; rfl))), h4⟩
            rw [hx] at hb
            cases hb
          refine goh trivial ?_
          exact finh [] e
        · obtain ⟨h1, h2, h3, h4⟩ := (bad_expr _ _ _ _ _ _).1 hb
          have h3' : (xs.getD i ET.bset.dflt).kind = 1 ∨ (xs.getD i ET.bset.dflt).kind = 2 := by
            rcases h3 with h | h
            · exact .inl (by simpa only [bne_eq_false_iff_eq] using h)
            · exact .inr (by simpa only [bne_eq_false_iff_eq] using h)
          have h4' : big8 (xs.getD i ET.bset.dflt) = false := by
            unfold big8
            simp only [List.any_cons, List.any_nil, Bool.or_false]
            exact h4
          have hs : SetOk xs i := ⟨h1, fun hp => h2 (by omega), h3', h4'⟩
          refine goh trivial ?_
          refine ⟨xs.length - (i + 1), [some 0], sgBookOk xs (i + 1), by omega, ?_, i + 1, by omega, rfl, fun j hj => ?_, rfl⟩
          · exact leh trivial
          · rcases Nat.lt_succ_iff_lt_or_eq.1 hj with h | rfl
            · exact hbef j h
            · exact hs
      · have e : bookB xs = !xs.any (fun s => !leadsN xs xs.length s) := by
          cases ha : xs.any (fun s => !leadsN xs xs.length s) with
          | false => exact bookB_true.2 ⟨by omega, fun i hi => hbef i (by omega), ha⟩
          | true => exact bookB_false.2 fun h => by rw [h.leads] at ha; cases ha
        refine goh trivial ?_
        exact finh [] e
  · simp [no, ifp] at hp
end Go.Proofs.YtmnbgppmfbnamaaGreatDoor
