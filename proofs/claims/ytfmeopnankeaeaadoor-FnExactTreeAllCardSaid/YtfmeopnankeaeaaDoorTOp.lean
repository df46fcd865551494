/- Opening a given value: strings, numbers, slices of plain things, and structs and arrays of those. -/
import Derived.Test.YtfmeopnankeaeaaDoorTA
import Derived.ProofKit
import Derived.OpenShut
import Derived.ChangeSlices
set_option linter.unusedSimpArgs false
set_option linter.unusedVariables false
set_option linter.unusedSectionVars false
namespace Go.Proofs.YtfmeopnankeaeaaDoor
open Go.ChangeShapes Go.WideShapes

/-- The kinds of plain cells. -/
inductive EK where
  | int (k : IntKind)
  | str
  | bool
def EkOk : EK → Value → Prop
  | .int k, v => ∃ n, v = .int k n ∧ (Lit.int k n).wf = true
  | .str, v => ∃ s, v = .string s ∧ s.size ≤ maxLen
  | .bool, v => ∃ b, v = .bool b
def EksOk : List EK → List Value → Prop
  | [], [] => True
  | k :: ks, v :: vs => EkOk k v ∧ EksOk ks vs
  | _, _ => False
theorem EksOk.len : ∀ {ks : List EK} {vs : List Value}, EksOk ks vs → vs.length = ks.length
  | [], [], _ => rfl
  | _ :: _, _ :: _, h => by simp [EksOk.len h.2]
  | [], _ :: _, h => h.elim
  | _ :: _, [], h => h.elim
theorem EksOk.append : ∀ {ks ls : List EK} {vs us : List Value}, EksOk ks vs → EksOk ls us → EksOk (ks ++ ls) (vs ++ us)
  | [], _, [], _, _, h => h
  | _ :: _, _, _ :: _, _, h, h2 => ⟨h.1, EksOk.append h.2 h2⟩
  | [], _, _ :: _, _, h, _ => h.elim
  | _ :: _, _, [], _, h, _ => h.elim

/-- The fields of a struct, one behind the other. -/
def fieldsK {α : Type} (sh : TypeId → Option (List α)) : Nat → List Field → Option (List α)
  | _, [] => some []
  | off, f :: r => match sh f.type with
    | some s => match fieldsK sh (off + s.length) r with
      | some ss => if f.offset = off then some (s ++ ss) else none
      | none => none
    | none => none
def shapeE (P : Program) : Nat → TypeId → Option (List EK)
  | 0, _ => none
  | n + 1, t => match P.underlying t with
    | some .bool => some [.bool]
    | some (.int k) => some [.int k]
    | some .string => some [.str]
    | some (.struct fs) => match fieldsK (shapeE P n) 0 fs.toList with
      | some ss => if ss.length = P.cellsOf t then some ss else none
      | none => none
    | some (.array m e) => match shapeE P n e with
      | some s => if s.length = P.cellsOf e ∧ m * s.length = P.cellsOf t then some ((List.replicate m s).flatten) else none
      | none => none
    | _ => none
/-- The kinds of the cells of what is handed in: plain ones, and slices of plain things. -/
inductive LK where
  | e (k : EK)
  | sl (ks : List EK)
def shapeL (P : Program) : Nat → TypeId → Option (List LK)
  | 0, _ => none
  | n + 1, t => match P.underlying t with
    | some .bool => some [.e .bool]
    | some (.int k) => some [.e (.int k)]
    | some .string => some [.e .str]
    | some (.slice e) => match shapeE P n e with
      | some s => if s.length = P.cellsOf e then some [.sl s] else none
      | none => none
    | some (.struct fs) => match fieldsK (shapeL P n) 0 fs.toList with
      | some ss => if ss.length = P.cellsOf t then some ss else none
      | none => none
    | some (.array m e) => match shapeL P n e with
      | some s => if s.length = P.cellsOf e ∧ m * s.length = P.cellsOf t then some ((List.replicate m s).flatten) else none
      | none => none
    | _ => none
def LkOk (w : World) : LK → Value → Prop
  | .e k, v => EkOk k v
  | .sl ks, v => v = .slice none 0 0 ∨ ∃ a len cap, v = .slice (some a) len cap ∧ (len ≤ cap ∧ cap ≤ maxLen) ∧ ∃ f : Nat → List Value, ∀ i, i < len → EksOk ks (f i) ∧ ∀ j, j < ks.length → w.cell? ((a.add (i * ks.length)).add j) = (f i)[j]?
def LksOk (w : World) : List LK → List Value → Prop
  | [], [] => True
  | k :: ks, v :: vs => LkOk w k v ∧ LksOk w ks vs
  | _, _ => False
section
variable {w : World}
theorem LksOk.len : ∀ {ks : List LK} {vs : List Value}, LksOk w ks vs → vs.length = ks.length
  | [], [], _ => rfl
  | _ :: _, _ :: _, h => by simp [LksOk.len h.2]
  | [], _ :: _, h => h.elim
  | _ :: _, [], h => h.elim
theorem LksOk.append : ∀ {ks ls : List LK} {vs us : List Value}, LksOk w ks vs → LksOk w ls us → LksOk w (ks ++ ls) (vs ++ us)
  | [], _, [], _, _, h => h
  | _ :: _, _, _ :: _, _, h, h2 => ⟨h.1, LksOk.append h.2 h2⟩
  | [], _, _ :: _, _, h, _ => h.elim
  | _ :: _, _, [], _, h, _ => h.elim
end
theorem take_part {α : Type} (cs : List α) (off c n : Nat) (h : ((cs.drop off).take c).length = n) : ((cs.drop off).take c) = (cs.drop off).take n := by
  rw [List.length_take] at h
  rcases Nat.le_total c (cs.drop off).length with hc | hc
  · rw [Nat.min_eq_left hc] at h; rw [h]
  · rw [Nat.min_eq_right hc] at h; rw [List.take_of_length_le hc, List.take_of_length_le (by omega)]
/-- The fields' cells, joined. -/
theorem fields_ok {α : Type} {Ok : List α → List Value → Prop} (app : ∀ {k l v u}, Ok k v → Ok l u → Ok (k ++ l) (v ++ u)) (nil : Ok [] []) (len : ∀ {k v}, Ok k v → v.length = k.length)
    {sh : TypeId → Option (List α)} {cof : TypeId → Nat} (cs : List Value) : ∀ (fs : List Field) (off : Nat) (ss : List α), fieldsK sh off fs = some ss →
    (∀ f ∈ fs, ∀ s, sh f.type = some s → Ok s ((cs.drop f.offset).take (cof f.type))) → Ok ss ((cs.drop off).take ss.length)
  | [], off, ss, h, _ => by
    simp only [fieldsK, Option.some.injEq] at h
    subst h
    simpa using nil
  | f :: r, off, ss, h, hf => by
    simp only [fieldsK] at h
    split at h
    · rename_i s hs
      split at h
      · rename_i ts hts
        split at h
        · rename_i ho
          simp only [Option.some.injEq] at h
          subst h
          have h1 := hf f (by simp) s hs
          rw [ho] at h1
          rw [take_part _ _ _ _ (len h1)] at h1
          have h2 := fields_ok app nil len cs r (off + s.length) ts hts fun g hg => hf g (by simp [hg])
          have h3 := app h1 h2
          rw [List.length_append, List.take_add, List.drop_drop]
          exact h3
        · cases h
      · cases h
    · cases h
theorem arr_ok {α : Type} {Ok : List α → List Value → Prop} (app : ∀ {k l v u}, Ok k v → Ok l u → Ok (k ++ l) (v ++ u)) (nil : Ok [] []) (s : List α) (c : Nat) (cs : List Value) (hsc : s.length = c) :
    ∀ (m : Nat), (∀ i, i < m → Ok s ((cs.drop (i * c)).take c)) → Ok ((List.replicate m s).flatten) (cs.take (m * c))
  | 0, _ => by simpa using nil
  | m + 1, h => by
    have h1 := arr_ok app nil s c cs hsc m fun i hi => h i (by omega)
    have h2 := app h1 (h m (by omega))
    rw [Nat.add_mul, Nat.one_mul, List.take_add, List.replicate_succ', List.flatten_append]
    simpa using h2
section
variable {H : Type} {enc : TypeId × Value → H} {P : Program} {w : World} {base : Nat} {spare : Nat → Bool} {held : Bool}
theorem open_e : ∀ (n : Nat) (t : TypeId) (ks : List EK), shapeE P n t = some ks → ∀ (fuel : Nat) (cs : List Value) (x : DataW H × List MemPlace), DataW.trod enc P w base spare held fuel t cs = some x → EksOk ks cs
  | 0, _, _, h, _, _, _, _ => by simp [shapeE] at h
  | n + 1, t, ks, h, fuel, cs, x, hx => by
    simp only [shapeE] at h
    split at h
    · rename_i ht
      simp only [Option.some.injEq] at h; subst h
      obtain ⟨b, rfl, -⟩ := DataW.trod_bool ht hx
      exact ⟨⟨b, rfl⟩, trivial⟩
    · rename_i k ht
      simp only [Option.some.injEq] at h; subst h
      obtain ⟨b, rfl, -, hw⟩ := DataW.trod_int ht hx
      exact ⟨⟨b, rfl, hw⟩, trivial⟩
    · rename_i ht
      simp only [Option.some.injEq] at h; subst h
      obtain ⟨b, rfl, -, hw⟩ := DataW.trod_string ht hx
      exact ⟨⟨b, rfl, hw⟩, trivial⟩
    · rename_i fs ht
      obtain ⟨xs, m, rfl, -, hl, hlen, hf⟩ := DataW.trod_struct ht hx
      split at h
      · rename_i ss hss
        split at h
        · rename_i hc
          simp only [Option.some.injEq] at h; subst h
          have := fields_ok (Ok := EksOk) (cof := P.cellsOf) EksOk.append trivial EksOk.len cs fs.toList 0 ss hss (by
            intro f hfm s hs
            obtain ⟨i, hi⟩ := List.getElem?_of_mem hfm
            have h1 := hf i f (by simpa using hi)
            have hi2 : i < xs.length := by
              have := (List.getElem?_eq_some_iff.1 hi).1
              simp at this; omega
            rw [List.getElem?_eq_getElem hi2] at h1
            exact open_e n f.type s hs _ _ _ h1)
          rw [hc, List.drop_zero, List.take_of_length_le (by omega)] at this
          exact this
        · cases h
      · cases h
    · rename_i m e ht
      obtain ⟨xs, m', rfl, -, hl, hlen, hf⟩ := DataW.trod_array ht hx
      split at h
      · rename_i s hs
        split at h
        · rename_i hc
          simp only [Option.some.injEq] at h; subst h
          have := arr_ok (Ok := EksOk) EksOk.append trivial s (P.cellsOf e) cs hc.1 m (by
            intro i hi
            have h1 := hf i hi
            rw [List.getElem?_eq_getElem (by omega)] at h1
            exact open_e n e s hs _ _ _ h1)
          rw [← hc.1, hc.2, List.take_of_length_le (by omega)] at this
          exact this
        · cases h
      · cases h
    · cases h
theorem open_l : ∀ (n : Nat) (t : TypeId) (ks : List LK), shapeL P n t = some ks → ∀ (fuel : Nat) (cs : List Value) (x : DataW H × List MemPlace), DataW.trod enc P w base spare held fuel t cs = some x → LksOk w ks cs
  | 0, _, _, h, _, _, _, _ => by simp [shapeL] at h
  | n + 1, t, ks, h, fuel, cs, x, hx => by
    simp only [shapeL] at h
    split at h
    · rename_i ht
      simp only [Option.some.injEq] at h; subst h
      obtain ⟨b, rfl, -⟩ := DataW.trod_bool ht hx
      exact ⟨⟨b, rfl⟩, trivial⟩
    · rename_i k ht
      simp only [Option.some.injEq] at h; subst h
      obtain ⟨b, rfl, -, hw⟩ := DataW.trod_int ht hx
      exact ⟨⟨b, rfl, hw⟩, trivial⟩
    · rename_i ht
      simp only [Option.some.injEq] at h; subst h
      obtain ⟨b, rfl, -, hw⟩ := DataW.trod_string ht hx
      exact ⟨⟨b, rfl, hw⟩, trivial⟩
    · rename_i e ht
      split at h
      · rename_i s hs
        split at h
        · rename_i hc
          simp only [Option.some.injEq] at h; subst h
          rcases DataW.trod_slice ht hx with ⟨rfl, -⟩ | ⟨a, len, cap, elems, rest, m, -, rfl, -, -, hl, hcm, hlen, hel, -, -⟩
          · exact ⟨.inl rfl, trivial⟩
          · refine ⟨.inr ⟨a, len, cap, rfl, ⟨hl, hcm⟩, fun i => (w.cells? base (a.add (i * P.cellsOf e)) (P.cellsOf e)).getD [], fun i hi => ?_⟩, trivial⟩
            have h1 := hel i hi
            rw [List.getElem?_eq_getElem (by omega), Option.bind_eq_some_iff] at h1
            obtain ⟨cs', h2, h3⟩ := h1
            obtain ⟨-, h4, h5⟩ := World.cells?_some h2
            simp only [h2, Option.getD_some]
            refine ⟨open_e n e s hs _ _ _ h3, fun j hj => ?_⟩
            rw [hc] at hj ⊢
            exact h5 j hj
        · cases h
      · cases h
    · rename_i fs ht
      obtain ⟨xs, m, rfl, -, hl, hlen, hf⟩ := DataW.trod_struct ht hx
      split at h
      · rename_i ss hss
        split at h
        · rename_i hc
          simp only [Option.some.injEq] at h; subst h
          have := fields_ok (Ok := LksOk w) (cof := P.cellsOf) LksOk.append trivial LksOk.len cs fs.toList 0 ss hss (by
            intro f hfm s hs
            obtain ⟨i, hi⟩ := List.getElem?_of_mem hfm
            have h1 := hf i f (by simpa using hi)
            have hi2 : i < xs.length := by
              have := (List.getElem?_eq_some_iff.1 hi).1
              simp at this; omega
            rw [List.getElem?_eq_getElem hi2] at h1
            exact open_l n f.type s hs _ _ _ h1)
          rw [hc, List.drop_zero, List.take_of_length_le (by omega)] at this
          exact this
        · cases h
      · cases h
    · rename_i m e ht
      obtain ⟨xs, m', rfl, -, hl, hlen, hf⟩ := DataW.trod_array ht hx
      split at h
      · rename_i s hs
        split at h
        · rename_i hc
          simp only [Option.some.injEq] at h; subst h
          have := arr_ok (Ok := LksOk w) LksOk.append trivial s (P.cellsOf e) cs hc.1 m (by
            intro i hi
            have h1 := hf i hi
            rw [List.getElem?_eq_getElem (by omega)] at h1
            exact open_l n e s hs _ _ _ h1)
          rw [← hc.1, hc.2, List.take_of_length_le (by omega)] at this
          exact this
        · cases h
      · cases h
    · cases h
end
/-- No slice among the cells of a given value reaches into another goroutine's spot. -/
def noSpot : Value → Prop
  | .slice (some a) _ _ => a.spot = none
  | _ => True
theorem cell_noSpot {P : Program} {w : World} {r : Reach} {base : Nat} {t : TypeId} {v : Value} (h : Cell.okWide P w r base t v) : noSpot v := by
  cases v with
  | slice a len cap =>
    cases a with
    | none => trivial
    | some a =>
      unfold Cell.okWide at h
      split at h <;> try (rename_i e1 e2; cases e2; done)
      unfold Cell.ok at h
      split at h <;> try (rename_i e1 e2; cases e2; done)
      · rename_i e1 e2; cases e2; exact h.2.2.2.1
      · exact h.elim
  | _ => trivial
theorem value_noSpot {P : Program} {w : World} {r : Reach} {base : Nat} {t : TypeId} {v : Value} (h : Value.okWide P w r base t v) : ∀ u ∈ v.cells.toList, noSpot u := by
  unfold Value.okWide at h
  have agg : (∃ cs, v = .agg cs ∧ cs.size = P.cellsOf t ∧ Row.okWide P w r base t cs) → ∀ u ∈ v.cells.toList, noSpot u := by
    rintro ⟨cs, rfl, -, ts, -, -, h3⟩ u hu
    have hu2 : u ∈ cs.toList := by simpa [Value.cells] using hu
    obtain ⟨i, hi⟩ := List.getElem?_of_mem hu2
    obtain ⟨ut, -, h4⟩ := h3 i u (by simpa using hi)
    exact cell_noSpot h4
  split at h
  · exact agg h
  · exact agg h
  · intro u hu
    have := cell_noSpot h
    cases v with
    | agg cs =>
      unfold Cell.okWide at h
      split at h <;> try (rename_i e1 e2; cases e2; done)
      unfold Cell.ok at h
      split at h <;> try (rename_i e1 e2; cases e2; done)
      exact h.elim
    | _ =>
      simp [Value.cells] at hu
      subst hu; exact this
/-- The kinds of an element's cells. -/
def ET.eks : ET → List EK
  | .str => [.str]
  | .int => [.int .i64]
  | .byte => [.int .u8]
  | .late => [.int .i64, .int .i64, .str]
  | .ptr => [.int .i64, .int .i64, .int .i64]
  | .ent => [.int .i64, .int .i64, .int .i64]
  | .bset => [.str, .int .i64, .str, .str, .str, .str, .str, .str, .str, .str, .str]
  | .cset => [.str, .int .i64, .str, .int .i64, .int .i64, .int .i64, .int .i64, .int .i64, .int .i64, .int .i64, .int .i64, .int .i64, .int .i64, .int .i64, .int .i64, .int .i64, .int .i64, .int .i64, .int .i64, .int .i64, .int .i64, .int .i64, .int .i64, .int .i64, .int .i64, .int .i64, .int .i64, .int .i64, .int .i64, .int .i64, .bool]
  | .bop => [.int .i64, .str, .str, .int .i64, .str]
theorem eks_cons {k : EK} {ks : List EK} : ∀ {vs : List Value}, EksOk (k :: ks) vs → ∃ v r, vs = v :: r ∧ EkOk k v ∧ EksOk ks r
  | [], h => h.elim
  | v :: r, h => ⟨v, r, rfl, h.1, h.2⟩
theorem eks_nil : ∀ {vs : List Value}, EksOk [] vs → vs = []
  | [], _ => rfl
  | _ :: _, h => h.elim
theorem eks_str {vs : List Value} (h : EksOk ET.str.eks vs) : ∃ x, ET.str.cells x = vs := by
  obtain ⟨_, _, rfl, ⟨a, rfl, _⟩, h1⟩ := eks_cons h
  obtain rfl := eks_nil h1
  exact ⟨a, rfl⟩
theorem eks_int {vs : List Value} (h : EksOk ET.int.eks vs) : ∃ x, ET.int.cells x = vs := by
  obtain ⟨_, _, rfl, ⟨a, rfl, _⟩, h1⟩ := eks_cons h
  obtain rfl := eks_nil h1
  exact ⟨a, rfl⟩
theorem eks_late {vs : List Value} (h : EksOk ET.late.eks vs) : ∃ x, ET.late.cells x = vs := by
  obtain ⟨_, _, rfl, ⟨a, rfl, _⟩, h1⟩ := eks_cons h
  obtain ⟨_, _, rfl, ⟨b, rfl, _⟩, h2⟩ := eks_cons h1
  obtain ⟨_, _, rfl, ⟨c, rfl, _⟩, h3⟩ := eks_cons h2
  obtain rfl := eks_nil h3
  exact ⟨⟨a, b, c⟩, rfl⟩
theorem eks_ptr {vs : List Value} (h : EksOk ET.ptr.eks vs) : ∃ x, ET.ptr.cells x = vs := by
  obtain ⟨_, _, rfl, ⟨a, rfl, _⟩, h1⟩ := eks_cons h
  obtain ⟨_, _, rfl, ⟨b, rfl, _⟩, h2⟩ := eks_cons h1
  obtain ⟨_, _, rfl, ⟨c, rfl, _⟩, h3⟩ := eks_cons h2
  obtain rfl := eks_nil h3
  exact ⟨⟨a, b, c⟩, rfl⟩
/-- What is known of a slice that came in. -/
def IsSl (w : World) (t : ET) (v : Value) (xs : List t.α) : Prop :=
  ∃ a cap, v = .slice a xs.length cap ∧ xs.length ≤ cap ∧ (a = none → cap = 0) ∧ (∀ ad, a = some ad → ad.spot = none) ∧ (xs ≠ [] → ∃ b o, a = some ⟨b, o, none⟩ ∧ b < w.heap.size ∧ CellsAt w b o (xs.flatMap t.cells))
theorem sl_open {w : World} {t : ET} {v : Value} (h : LkOk w (.sl t.eks) v) (hs : noSpot v) (hsz : t.eks.length = t.sz) (hpos : 0 < t.sz) (hc : ∀ vs, EksOk t.eks vs → ∃ x, t.cells x = vs) : ∃ xs, IsSl w t v xs ∧ xs.length ≤ maxLen ∧ ∀ i, i < xs.length → EksOk t.eks (t.cells (xs.getD i t.dflt)) := by
  rcases h with rfl | ⟨a, len, cap, rfl, ⟨hl, hcm⟩, f, hf⟩
  · exact ⟨[], ⟨none, 0, rfl, Nat.le_refl _, fun _ => rfl, fun _ h => by simp at h, fun h => absurd rfl h⟩, Nat.zero_le _, fun i h => absurd h (Nat.not_lt_zero i)⟩
  · have hex : ∀ i, ∃ x : t.α, i < len → t.cells x = f i := fun i => by
      by_cases hi : i < len
      · obtain ⟨x, hx⟩ := hc _ (hf i hi).1
        exact ⟨x, fun _ => hx⟩
      · exact ⟨t.dflt, fun h => (hi h).elim⟩
    obtain ⟨g, hg⟩ := Classical.axiomOfChoice hex
    obtain ⟨b, o, sp⟩ := a
    have hsp : sp = none := hs
    subst hsp
    have hlen : ((List.range len).map g).length = len := by simp
    refine ⟨(List.range len).map g, ⟨some ⟨b, o, none⟩, cap, by rw [hlen], by rw [hlen]; exact hl, (fun h => by cases h), (fun ad h => by cases h; rfl), fun hne => ⟨b, o, rfl, ?_, ?_⟩⟩, by rw [hlen]; omega, fun i hi => ?_⟩
    · have hpos2 : 0 < len := by
        rw [← hlen]; exact List.length_pos_iff.2 hne
      have h1 := (hf 0 hpos2).2 0 (by omega)
      have h2 := EksOk.len (hf 0 hpos2).1
      rw [List.getElem?_eq_getElem (by omega)] at h1
      unfold World.cell? at h1
      rcases Nat.lt_or_ge b w.heap.size with hb | hb
      · exact hb
      · exfalso
        have e0 : (((Addr.mk b o none).add (0 * t.eks.length)).add 0).block = b := by
          unfold Addr.add; repeat' split
          all_goals rfl
        rw [e0, Array.getElem?_eq_none hb] at h1; cases h1
    · intro p v hv
      have hp : p < len * t.sz := by
        have := (List.getElem?_eq_some_iff.1 hv).1
        rw [flat_len, hlen] at this
        exact this
      have hi : p / t.sz < len := (Nat.div_lt_iff_lt_mul hpos).2 hp
      have hq : p % t.sz < t.sz := Nat.mod_lt _ hpos
      have hpq : p / t.sz * t.sz + p % t.sz = p := by rw [Nat.mul_comm]; exact Nat.div_add_mod p t.sz
      have h1 := (hf (p / t.sz) hi).2 (p % t.sz) (by omega)
      have h5 := flat_get t ((List.range len).map g) (p / t.sz) (p % t.sz) (by rw [hlen]; exact hi) hq
      rw [hpq, hv] at h5
      simp only [List.getElem_map, List.getElem_range] at h5
      rw [hg _ hi] at h5
      rw [← h5, hsz] at h1
      have e0 : (((Addr.mk b o none).add (p / t.sz * t.sz)).add (p % t.sz)) = ⟨b, o + p, none⟩ := by
        unfold Addr.add
        repeat' split
        all_goals first | (simp only [Addr.mk.injEq, and_true, true_and] at *; omega) | (simp_all; omega) | skip
      rw [e0] at h1
      exact h1
    · rw [hlen] at hi
      have e0 : ((List.range len).map g).getD i t.dflt = g i := by simp [hi]
      rw [e0, hg i hi]
      exact (hf i hi).1
end Go.Proofs.YtfmeopnankeaeaaDoor
