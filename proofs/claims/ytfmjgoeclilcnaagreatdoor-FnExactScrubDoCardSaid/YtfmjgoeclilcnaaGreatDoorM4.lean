import Derived.ChangeSlices
import Derived.OpenShut
import Derived.ProofKit
import Derived.ChangeKeysEq
import Derived.Test.YtfmjgoeclilcnaaGreatDoorM0
import Derived.Test.YtfmjgoeclilcnaaGreatDoorM2
import Derived.Test.YtfmjgoeclilcnaaGreatDoorM3
set_option linter.unusedSimpArgs false
set_option linter.unusedVariables false
set_option linter.unusedSectionVars false
namespace Go.Proofs.YtfmjgoeclilcnaaGreatDoor
open Go.ChangeShapes Go.WideShapes
inductive EK where
 | int (k : IntKind)
 | str
 | bool
def EkOk : EK → Value → Prop
 | .int k, v => ∃ n, v = .int k n ∧ (Lit.int k n).wf = true
 | .str, v => ∃ s, v = .string s ∧ s.size ≤ maxLen
 | .bool, v => ∃ b, v = .bool b
def EksOk : List EK → List Value → Prop
 | [], [] => True
 | k :: ks, v :: vs => EkOk k v ∧ EksOk ks vs
 | _, _ => False
theorem EksOk.len : ∀ {ks : List EK} {vs : List Value}, EksOk ks vs → vs.length = ks.length
 | [], [], _ => rfl
 | _ :: _, _ :: _, h => by simp [EksOk.len h.2]
 | [], _ :: _, h => h.elim
 | _ :: _, [], h => h.elim
theorem EksOk.append : ∀ {ks ls : List EK} {vs us : List Value}, EksOk ks vs → EksOk ls us → EksOk (ks ++ ls) (vs ++ us)
 | [], _, [], _, _, h => h
 | _ :: _, _, _ :: _, _, h, h2 => ⟨h.1, EksOk.append h.2 h2⟩
 | [], _, _ :: _, _, h, _ => h.elim
 | _ :: _, _, [], _, h, _ => h.elim
def fieldsK {α : Type} (sh : TypeId → Option (List α)) : Nat → List Field → Option (List α)
 | _, [] => some []
 | off, f :: r => match sh f.type with
   | some s => match fieldsK sh (off + s.length) r with
     | some ss => if f.offset = off then some (s ++ ss) else none
     | none => none
   | none => none
def shapeE (P : Program) : Nat → TypeId → Option (List EK)
 | 0, _ => none
 | n + 1, t => match P.underlying t with
   | some .bool => some [.bool]
   | some (.int k) => some [.int k]
   | some .string => some [.str]
   | some (.struct fs) => match fieldsK (shapeE P n) 0 fs.toList with
     | some ss => if ss.length = P.cellsOf t then some ss else none
     | none => none
   | some (.array m e) => match shapeE P n e with
     | some s => if s.length = P.cellsOf e ∧ m * s.length = P.cellsOf t then some ((List.replicate m s).flatten) else none
     | none => none
   | _ => none
inductive LK where
 | e (k : EK)
 | sl (ks : List EK)
def shapeL (P : Program) : Nat → TypeId → Option (List LK)
 | 0, _ => none
 | n + 1, t => match P.underlying t with
   | some .bool => some [.e .bool]
   | some (.int k) => some [.e (.int k)]
   | some .string => some [.e .str]
   | some (.slice e) => match shapeE P n e with
     | some s => if s.length = P.cellsOf e then some [.sl s] else none
     | none => none
   | some (.struct fs) => match fieldsK (shapeL P n) 0 fs.toList with
     | some ss => if ss.length = P.cellsOf t then some ss else none
     | none => none
   | some (.array m e) => match shapeL P n e with
     | some s => if s.length = P.cellsOf e ∧ m * s.length = P.cellsOf t then some ((List.replicate m s).flatten) else none
     | none => none
   | _ => none
def LkOk (w : World) : LK → Value → Prop
 | .e k, v => EkOk k v
 | .sl ks, v => v = .slice none 0 0 ∨ ∃ a len cap, v = .slice (some a) len cap ∧ (len ≤ cap ∧ cap ≤ maxLen) ∧ ∃ f : Nat → List Value, ∀ i, i < len → EksOk ks (f i) ∧ ∀ j, j < ks.length → w.cell? ((a.add (i * ks.length)).add j) = (f i)[j]?
def LksOk (w : World) : List LK → List Value → Prop
 | [], [] => True
 | k :: ks, v :: vs => LkOk w k v ∧ LksOk w ks vs
 | _, _ => False
section
variable {w : World}
theorem LksOk.len : ∀ {ks : List LK} {vs : List Value}, LksOk w ks vs → vs.length = ks.length
 | [], [], _ => rfl
 | _ :: _, _ :: _, h => by simp [LksOk.len h.2]
 | [], _ :: _, h => h.elim
 | _ :: _, [], h => h.elim
theorem LksOk.append : ∀ {ks ls : List LK} {vs us : List Value}, LksOk w ks vs → LksOk w ls us → LksOk w (ks ++ ls) (vs ++ us)
 | [], _, [], _, _, h => h
 | _ :: _, _, _ :: _, _, h, h2 => ⟨h.1, LksOk.append h.2 h2⟩
 | [], _, _ :: _, _, h, _ => h.elim
 | _ :: _, _, [], _, h, _ => h.elim
end
theorem take_part {α : Type} (cs : List α) (off c n : Nat) (h : ((cs.drop off).take c).length = n) : ((cs.drop off).take c) = (cs.drop off).take n := by
 rw [List.length_take] at h
 rcases Nat.le_total c (cs.drop off).length with hc | hc
 ·rw [Nat.min_eq_left hc] at h; rw [h]
 ·rw [Nat.min_eq_right hc] at h; rw [List.take_of_length_le hc, List.take_of_length_le (by omega)]
theorem fields_ok {α : Type} {Ok : List α → List Value → Prop} (app : ∀ {k l v u}, Ok k v → Ok l u → Ok (k ++ l) (v ++ u)) (nil : Ok [] []) (len : ∀ {k v}, Ok k v → v.length = k.length)
  {sh : TypeId → Option (List α)} {cof : TypeId → Nat} (cs : List Value) : ∀ (fs : List Field) (off : Nat) (ss : List α), fieldsK sh off fs = some ss →
  (∀ f ∈ fs, ∀ s, sh f.type = some s → Ok s ((cs.drop f.offset).take (cof f.type))) → Ok ss ((cs.drop off).take ss.length)
 | [], off, ss, h, _ => by
   simp only [fieldsK, Option.some.injEq] at h
   subst h
   simpa using nil
 | f :: r, off, ss, h, hf => by
   simp only [fieldsK] at h
   split at h
   ·rename_i s hs
    split at h
    ·rename_i ts hts
     split at h
     ·rename_i ho
      simp only [Option.some.injEq] at h
      subst h
      have h1 := hf f (by simp) s hs
      rw [ho] at h1
      rw [take_part _ _ _ _ (len h1)] at h1
      have h2 := fields_ok app nil len cs r (off + s.length) ts hts fun g hg => hf g (by simp [hg])
      have h3 := app h1 h2
      rw [List.length_append, List.take_add, List.drop_drop]
      exact h3
     ·cases h
    ·cases h
   ·cases h
theorem arr_ok {α : Type} {Ok : List α → List Value → Prop} (app : ∀ {k l v u}, Ok k v → Ok l u → Ok (k ++ l) (v ++ u)) (nil : Ok [] []) (s : List α) (c : Nat) (cs : List Value) (hsc : s.length = c) :
  ∀ (m : Nat), (∀ i, i < m → Ok s ((cs.drop (i * c)).take c)) → Ok ((List.replicate m s).flatten) (cs.take (m * c))
 | 0, _ => by simpa using nil
 | m + 1, h => by
   have h1 := arr_ok app nil s c cs hsc m fun i hi => h i (by omega)
   have h2 := app h1 (h m (by omega))
   rw [Nat.add_mul, Nat.one_mul, List.take_add, List.replicate_succ', List.flatten_append]
   simpa using h2
section
variable {H : Type} {enc : TypeId × Value → H} {P : Program} {w : World} {base : Nat} {spare : Nat → Bool} {held : Bool}
theorem open_e : ∀ (n : Nat) (t : TypeId) (ks : List EK), shapeE P n t = some ks → ∀ (fuel : Nat) (cs : List Value) (x : DataW H × List MemPlace), DataW.trod enc P w base spare held fuel t cs = some x → EksOk ks cs
 | 0, _, _, h, _, _, _, _ => by simp [shapeE] at h
 | n + 1, t, ks, h, fuel, cs, x, hx => by
   simp only [shapeE] at h
   split at h
   ·rename_i ht
    simp only [Option.some.injEq] at h; subst h
    obtain ⟨b, rfl, -⟩ := DataW.trod_bool ht hx
    exact ⟨⟨b, rfl⟩, trivial⟩
   ·rename_i k ht
    simp only [Option.some.injEq] at h; subst h
    obtain ⟨b, rfl, -, hw⟩ := DataW.trod_int ht hx
    exact ⟨⟨b, rfl, hw⟩, trivial⟩
   ·rename_i ht
    simp only [Option.some.injEq] at h; subst h
    obtain ⟨b, rfl, -, hw⟩ := DataW.trod_string ht hx
    exact ⟨⟨b, rfl, hw⟩, trivial⟩
   ·rename_i fs ht
    obtain ⟨xs, m, rfl, -, hl, hlen, hf⟩ := DataW.trod_struct ht hx
    split at h
    ·rename_i ss hss
     split at h
     ·rename_i hc
      simp only [Option.some.injEq] at h; subst h
      have := fields_ok (Ok := EksOk) (cof := P.cellsOf) EksOk.append trivial EksOk.len cs fs.toList 0 ss hss (by
       intro f hfm s hs
       obtain ⟨i, hi⟩ := List.getElem?_of_mem hfm
       have h1 := hf i f (by simpa using hi)
       have hi2 : i < xs.length := by
        have := (List.getElem?_eq_some_iff.1 hi).1
        simp at this; omega
       rw [List.getElem?_eq_getElem hi2] at h1
       exact open_e n f.type s hs _ _ _ h1)
      rw [hc, List.drop_zero, List.take_of_length_le (by omega)] at this
      exact this
     ·cases h
    ·cases h
   ·rename_i m e ht
    obtain ⟨xs, m', rfl, -, hl, hlen, hf⟩ := DataW.trod_array ht hx
    split at h
    ·rename_i s hs
     split at h
     ·rename_i hc
      simp only [Option.some.injEq] at h; subst h
      have := arr_ok (Ok := EksOk) EksOk.append trivial s (P.cellsOf e) cs hc.1 m (by
       intro i hi
       have h1 := hf i hi
       rw [List.getElem?_eq_getElem (by omega)] at h1
       exact open_e n e s hs _ _ _ h1)
      rw [← hc.1, hc.2, List.take_of_length_le (by omega)] at this
      exact this
     ·cases h
    ·cases h
   ·cases h
theorem open_l : ∀ (n : Nat) (t : TypeId) (ks : List LK), shapeL P n t = some ks → ∀ (fuel : Nat) (cs : List Value) (x : DataW H × List MemPlace), DataW.trod enc P w base spare held fuel t cs = some x → LksOk w ks cs
 | 0, _, _, h, _, _, _, _ => by simp [shapeL] at h
 | n + 1, t, ks, h, fuel, cs, x, hx => by
   simp only [shapeL] at h
   split at h
   ·rename_i ht
    simp only [Option.some.injEq] at h; subst h
    obtain ⟨b, rfl, -⟩ := DataW.trod_bool ht hx
    exact ⟨⟨b, rfl⟩, trivial⟩
   ·rename_i k ht
    simp only [Option.some.injEq] at h; subst h
    obtain ⟨b, rfl, -, hw⟩ := DataW.trod_int ht hx
    exact ⟨⟨b, rfl, hw⟩, trivial⟩
   ·rename_i ht
    simp only [Option.some.injEq] at h; subst h
    obtain ⟨b, rfl, -, hw⟩ := DataW.trod_string ht hx
    exact ⟨⟨b, rfl, hw⟩, trivial⟩
   ·rename_i e ht
    split at h
    ·rename_i s hs
     split at h
     ·rename_i hc
      simp only [Option.some.injEq] at h; subst h
      rcases DataW.trod_slice ht hx with ⟨rfl, -⟩ | ⟨a, len, cap, elems, rest, m, -, rfl, -, -, hl, hcm, hlen, hel, -, -⟩
      ·exact ⟨.inl rfl, trivial⟩
      ·refine ⟨.inr ⟨a, len, cap, rfl, ⟨hl, hcm⟩, fun i => (w.cells? base (a.add (i * P.cellsOf e)) (P.cellsOf e)).getD [], fun i hi => ?_⟩, trivial⟩
       have h1 := hel i hi
       rw [List.getElem?_eq_getElem (by omega), Option.bind_eq_some_iff] at h1
       obtain ⟨cs', h2, h3⟩ := h1
       obtain ⟨-, h4, h5⟩ := World.cells?_some h2
       simp only [h2, Option.getD_some]
       refine ⟨open_e n e s hs _ _ _ h3, fun j hj => ?_⟩
       rw [hc] at hj ⊢
       exact h5 j hj
     ·cases h
    ·cases h
   ·rename_i fs ht
    obtain ⟨xs, m, rfl, -, hl, hlen, hf⟩ := DataW.trod_struct ht hx
    split at h
    ·rename_i ss hss
     split at h
     ·rename_i hc
      simp only [Option.some.injEq] at h; subst h
      have := fields_ok (Ok := LksOk w) (cof := P.cellsOf) LksOk.append trivial LksOk.len cs fs.toList 0 ss hss (by
       intro f hfm s hs
       obtain ⟨i, hi⟩ := List.getElem?_of_mem hfm
       have h1 := hf i f (by simpa using hi)
       have hi2 : i < xs.length := by
        have := (List.getElem?_eq_some_iff.1 hi).1
        simp at this; omega
       rw [List.getElem?_eq_getElem hi2] at h1
       exact open_l n f.type s hs _ _ _ h1)
      rw [hc, List.drop_zero, List.take_of_length_le (by omega)] at this
      exact this
     ·cases h
    ·cases h
   ·rename_i m e ht
    obtain ⟨xs, m', rfl, -, hl, hlen, hf⟩ := DataW.trod_array ht hx
    split at h
    ·rename_i s hs
     split at h
     ·rename_i hc
      simp only [Option.some.injEq] at h; subst h
      have := arr_ok (Ok := LksOk w) LksOk.append trivial s (P.cellsOf e) cs hc.1 m (by
       intro i hi
       have h1 := hf i hi
       rw [List.getElem?_eq_getElem (by omega)] at h1
       exact open_l n e s hs _ _ _ h1)
      rw [← hc.1, hc.2, List.take_of_length_le (by omega)] at this
      exact this
     ·cases h
    ·cases h
   ·cases h
end
def noSpot : Value → Prop
 | .slice (some a) _ _ => a.spot = none
 | _ => True
theorem cell_noSpot {P : Program} {w : World} {r : Reach} {base : Nat} {t : TypeId} {v : Value} (h : Cell.okWide P w r base t v) : noSpot v := by
 cases v with
 | slice a len cap =>
   cases a with
   | none => trivial
   | some a =>
     unfold Cell.okWide at h
     split at h <;> try (rename_i e1 e2; cases e2; done)
     unfold Cell.ok at h
     split at h <;> try (rename_i e1 e2; cases e2; done)
     ·rename_i e1 e2; cases e2; exact h.2.2.2.1
     ·exact h.elim
 | _ => trivial
theorem value_noSpot {P : Program} {w : World} {r : Reach} {base : Nat} {t : TypeId} {v : Value} (h : Value.okWide P w r base t v) : ∀ u ∈ v.cells.toList, noSpot u := by
 unfold Value.okWide at h
 have agg : (∃ cs, v = .agg cs ∧ cs.size = P.cellsOf t ∧ Row.okWide P w r base t cs) → ∀ u ∈ v.cells.toList, noSpot u := by
  rintro ⟨cs, rfl, -, ts, -, -, h3⟩ u hu
  have hu2 : u ∈ cs.toList := by simpa [Value.cells] using hu
  obtain ⟨i, hi⟩ := List.getElem?_of_mem hu2
  obtain ⟨ut, -, h4⟩ := h3 i u (by simpa using hi)
  exact cell_noSpot h4
 split at h
 ·exact agg h
 ·exact agg h
 ·intro u hu
  have := cell_noSpot h
  cases v with
  | agg cs =>
    unfold Cell.okWide at h
    split at h <;> try (rename_i e1 e2; cases e2; done)
    unfold Cell.ok at h
    split at h <;> try (rename_i e1 e2; cases e2; done)
    exact h.elim
  | _ =>
    simp [Value.cells] at hu
    subst hu; exact this
def ET.eks : ET → List EK
 | .str => [.str]
 | .int => [.int .i64]
 | .byte => [.int .u8]
 | .late => [.int .i64, .int .i64, .str]
 | .ptr => [.int .i64, .int .i64, .int .i64]
 | .ent => [.int .i64, .int .i64, .int .i64]
 | .bset => [.str, .int .i64, .str, .str, .str, .str, .str, .str, .str, .str, .str]
 | .cset => [.str, .int .i64, .str, .int .i64, .int .i64, .int .i64, .int .i64, .int .i64, .int .i64, .int .i64, .int .i64, .int .i64, .int .i64, .int .i64, .int .i64, .int .i64, .int .i64, .int .i64, .int .i64, .int .i64, .int .i64, .int .i64, .int .i64, .int .i64, .int .i64, .int .i64, .int .i64, .int .i64, .int .i64, .int .i64, .bool]
 | .bop => [.int .i64, .str, .str, .int .i64, .str]
theorem eks_cons {k : EK} {ks : List EK} : ∀ {vs : List Value}, EksOk (k :: ks) vs → ∃ v r, vs = v :: r ∧ EkOk k v ∧ EksOk ks r
 | [], h => h.elim
 | v :: r, h => ⟨v, r, rfl, h.1, h.2⟩
theorem eks_nil : ∀ {vs : List Value}, EksOk [] vs → vs = []
 | [], _ => rfl
 | _ :: _, h => h.elim
theorem eks_str {vs : List Value} (h : EksOk ET.str.eks vs) : ∃ x, ET.str.cells x = vs := by
 obtain ⟨_, _, rfl, ⟨a, rfl, _⟩, h1⟩ := eks_cons h
 obtain rfl := eks_nil h1
 exact ⟨a, rfl⟩
theorem eks_int {vs : List Value} (h : EksOk ET.int.eks vs) : ∃ x, ET.int.cells x = vs := by
 obtain ⟨_, _, rfl, ⟨a, rfl, _⟩, h1⟩ := eks_cons h
 obtain rfl := eks_nil h1
 exact ⟨a, rfl⟩
theorem eks_late {vs : List Value} (h : EksOk ET.late.eks vs) : ∃ x, ET.late.cells x = vs := by
 obtain ⟨_, _, rfl, ⟨a, rfl, _⟩, h1⟩ := eks_cons h
 obtain ⟨_, _, rfl, ⟨b, rfl, _⟩, h2⟩ := eks_cons h1
 obtain ⟨_, _, rfl, ⟨c, rfl, _⟩, h3⟩ := eks_cons h2
 obtain rfl := eks_nil h3
 exact ⟨⟨a, b, c⟩, rfl⟩
theorem eks_ptr {vs : List Value} (h : EksOk ET.ptr.eks vs) : ∃ x, ET.ptr.cells x = vs := by
 obtain ⟨_, _, rfl, ⟨a, rfl, _⟩, h1⟩ := eks_cons h
 obtain ⟨_, _, rfl, ⟨b, rfl, _⟩, h2⟩ := eks_cons h1
 obtain ⟨_, _, rfl, ⟨c, rfl, _⟩, h3⟩ := eks_cons h2
 obtain rfl := eks_nil h3
 exact ⟨⟨a, b, c⟩, rfl⟩
def IsSl (w : World) (t : ET) (v : Value) (xs : List t.α) : Prop :=
 ∃ a cap, v = .slice a xs.length cap ∧ xs.length ≤ cap ∧ (a = none → cap = 0) ∧ (∀ ad, a = some ad → ad.spot = none) ∧ (xs ≠ [] → ∃ b o, a = some ⟨b, o, none⟩ ∧ b < w.heap.size ∧ CellsAt w b o (xs.flatMap t.cells))
theorem sl_open {w : World} {t : ET} {v : Value} (h : LkOk w (.sl t.eks) v) (hs : noSpot v) (hsz : t.eks.length = t.sz) (hpos : 0 < t.sz) (hc : ∀ vs, EksOk t.eks vs → ∃ x, t.cells x = vs) : ∃ xs, IsSl w t v xs ∧ xs.length ≤ maxLen ∧ ∀ i, i < xs.length → EksOk t.eks (t.cells (xs.getD i t.dflt)) := by
 rcases h with rfl | ⟨a, len, cap, rfl, ⟨hl, hcm⟩, f, hf⟩
 ·exact ⟨[], ⟨none, 0, rfl, Nat.le_refl _, fun _ => rfl, fun _ h => by simp at h, fun h => absurd rfl h⟩, Nat.zero_le _, fun i h => absurd h (Nat.not_lt_zero i)⟩
 ·have hex : ∀ i, ∃ x : t.α, i < len → t.cells x = f i := fun i => by
   by_cases hi : i < len
   ·obtain ⟨x, hx⟩ := hc _ (hf i hi).1
    exact ⟨x, fun _ => hx⟩
   ·exact ⟨t.dflt, fun h => (hi h).elim⟩
  obtain ⟨g, hg⟩ := Classical.axiomOfChoice hex
  obtain ⟨b, o, sp⟩ := a
  have hsp : sp = none := hs
  subst hsp
  have hlen : ((List.range len).map g).length = len := by simp
  refine ⟨(List.range len).map g, ⟨some ⟨b, o, none⟩, cap, by rw [hlen], by rw [hlen]; exact hl, (fun h => by cases h), (fun ad h => by cases h; rfl), fun hne => ⟨b, o, rfl, ?_, ?_⟩⟩, by rw [hlen]; omega, fun i hi => ?_⟩
  ·have hpos2 : 0 < len := by
    rw [← hlen]; exact List.length_pos_iff.2 hne
   have h1 := (hf 0 hpos2).2 0 (by omega)
   have h2 := EksOk.len (hf 0 hpos2).1
   rw [List.getElem?_eq_getElem (by omega)] at h1
   unfold World.cell? at h1
   rcases Nat.lt_or_ge b w.heap.size with hb | hb
   ·exact hb
   ·exfalso
    have e0 : (((Addr.mk b o none).add (0 * t.eks.length)).add 0).block = b := by
     unfold Addr.add; repeat' split
     all_goals rfl
    rw [e0, Array.getElem?_eq_none hb] at h1; cases h1
  ·intro p v hv
   have hp : p < len * t.sz := by
    have := (List.getElem?_eq_some_iff.1 hv).1
    rw [flat_len, hlen] at this
    exact this
   have hi : p / t.sz < len := (Nat.div_lt_iff_lt_mul hpos).2 hp
   have hq : p % t.sz < t.sz := Nat.mod_lt _ hpos
   have hpq : p / t.sz * t.sz + p % t.sz = p := by rw [Nat.mul_comm]; exact Nat.div_add_mod p t.sz
   have h1 := (hf (p / t.sz) hi).2 (p % t.sz) (by omega)
   have h5 := flat_get t ((List.range len).map g) (p / t.sz) (p % t.sz) (by rw [hlen]; exact hi) hq
   rw [hpq, hv] at h5
   simp only [List.getElem_map, List.getElem_range] at h5
   rw [hg _ hi] at h5
   rw [← h5, hsz] at h1
   have e0 : (((Addr.mk b o none).add (p / t.sz * t.sz)).add (p % t.sz)) = ⟨b, o + p, none⟩ := by
    unfold Addr.add
    repeat' split
    all_goals first | (simp only [Addr.mk.injEq, and_true, true_and] at *; omega) | (simp_all; omega) | skip
   rw [e0] at h1
   exact h1
  ·rw [hlen] at hi
   have e0 : ((List.range len).map g).getD i t.dflt = g i := by simp [hi]
   rw [e0, hg i hi]
   exact (hf i hi).1
end Go.Proofs.YtfmjgoeclilcnaaGreatDoor
namespace Go.Proofs.YtfmjgoeclilcnaaGreatDoor
open Go.ChangeShapes Go.WideShapes
def EK.tk : EK → TK
 | .int k => .int k
 | .str => .str
 | .bool => .bool
def kOk : List EK → List Value → Bool
 | [], [] => true
 | .int k :: ks, .int k' _ :: vs => decide (k' = k) && kOk ks vs
 | .str :: ks, .string _ :: vs => kOk ks vs
 | .bool :: ks, .bool _ :: vs => kOk ks vs
 | _, _ => false
theorem kOk_cons {k : EK} {ks : List EK} {vs : List Value} (h : kOk (k :: ks) vs = true) : ∃ v r, vs = v :: r ∧ kOk [k] [v] = true ∧ kOk ks r = true := by
 cases vs with
 | nil => cases k <;> simp [kOk] at h
 | cons v r =>
   refine ⟨v, r, rfl, ?_⟩
   cases k <;> cases v <;> simp [kOk] at h ⊢ <;> exact h
theorem kOk_nil {vs : List Value} (h : kOk [] vs = true) : vs = [] := by
 cases vs with
 | nil => rfl
 | cons v r => simp [kOk] at h
theorem kOk_len : ∀ {ks : List EK} {vs : List Value}, kOk ks vs = true → vs.length = ks.length
 | [], vs, h => by rw [kOk_nil h]; rfl
 | k :: ks, vs, h => by
   obtain ⟨v, r, rfl, -, h2⟩ := kOk_cons h
   simp [kOk_len h2]
theorem kOk_split : ∀ (s ss : List EK) (cs : List Value), kOk (s ++ ss) cs = true → kOk s (cs.take s.length) = true ∧ kOk ss (cs.drop s.length) = true
 | [], ss, cs, h => ⟨rfl, h⟩
 | k :: s, ss, cs, h => by
   rw [List.cons_append] at h
   obtain ⟨v, r, rfl, h1, h2⟩ := kOk_cons h
   obtain ⟨h3, h4⟩ := kOk_split s ss r h2
   refine ⟨?_, by simpa using h4⟩
   rw [List.length_cons, List.take_succ_cons]
   cases k <;> cases v <;> simp [kOk] at h1 ⊢
   ·exact ⟨h1, h3⟩
   ·exact h3
   ·exact h3
theorem valsEq_app : ∀ (s : List EK) (a b a' b' : List Value), kOk s a = true → kOk s b = true → valsEq (a ++ a') (b ++ b') = (valsEq a b && valsEq a' b')
 | [], a, b, a', b', h1, h2 => by rw [kOk_nil h1, kOk_nil h2]; rfl
 | k :: s, a, b, a', b', h1, h2 => by
   obtain ⟨v, r, rfl, h3, h4⟩ := kOk_cons h1
   obtain ⟨u, q, rfl, h5, h6⟩ := kOk_cons h2
   have ih := valsEq_app s r q a' b' h4 h6
   cases k <;> cases v <;> simp [kOk] at h3 <;> cases u <;> simp [kOk] at h5 <;> simp only [List.cons_append, valsEq, ih, Bool.and_assoc]
def shapeK (P : Program) : Nat → TypeId → Option (List EK)
 | 0, _ => none
 | n + 1, t => match P.underlying t with
   | some .bool => if P.cellsOf t = 1 then some [.bool] else none
   | some (.int k) => if P.cellsOf t = 1 then some [.int k] else none
   | some .string => if P.cellsOf t = 1 then some [.str] else none
   | some (.struct fs) => if (fs.toList.all (fun f => f.name != "_") && !P.stoodInHeld t) = true then (match fieldsK (shapeK P n) 0 fs.toList with
     | some ss => if ss.length = P.cellsOf t then some ss else none
     | none => none) else none
   | some (.array m e) => match shapeK P n e with
     | some s => if s.length = P.cellsOf e ∧ m * s.length = P.cellsOf t then some ((List.replicate m s).flatten) else none
     | none => none
   | _ => none
theorem shapeK_len {P : Program} : ∀ (n : Nat) (t : TypeId) (ks : List EK), shapeK P n t = some ks → ks.length = P.cellsOf t
 | 0, t, ks, h => by simp [shapeK] at h
 | n + 1, t, ks, h => by
   unfold shapeK at h
   split at h
   ·split at h <;> simp_all
    rw [← h]; rfl
   ·split at h <;> simp_all
    rw [← h]; rfl
   ·split at h <;> simp_all
    rw [← h]; rfl
   ·split at h
    ·split at h
     ·split at h
      ·rename_i hl
       simp only [Option.some.injEq] at h; subst h; exact hl
      ·cases h
     ·cases h
    ·cases h
   ·split at h
    ·split at h
     ·rename_i hl
      simp only [Option.some.injEq] at h; subst h
      rw [List.length_flatten]; simp; exact hl.2
     ·cases h
    ·cases h
   ·cases h
section
variable {P : Program} (w : World)
theorem run_part_k {n : Nat} {e : TypeId} {ks : List EK} (hs : shapeK P n e = some ks) {xs : Array Value} {off : Nat} (hk : kOk ks ((xs.toList.drop off).take (P.cellsOf e)) = true) :
  ∃ a, (Go.part e xs off).run P w = .ok a w ∧ a.formed P e = true ∧ a.cells.toList = (xs.toList.drop off).take (P.cellsOf e) := by
 cases n with
 | zero => simp [shapeK] at hs
 | succ n =>
   have hlen0 := shapeK_len _ _ _ hs
   have hlen : ((xs.toList.drop off).take (P.cellsOf e)).length = P.cellsOf e := by rw [kOk_len hk, hlen0]
   have agg : (∃ n e', P.underlying e = some (.array n e')) ∨ (∃ fs, P.underlying e = some (.struct fs)) → ∃ a, (Go.part e xs off).run P w = .ok a w ∧ a.formed P e = true ∧ a.cells.toList = (xs.toList.drop off).take (P.cellsOf e) := by
    intro hkd
    have hl : (xs.extract off (off + P.cellsOf e)).toList = (xs.toList.drop off).take (P.cellsOf e) := by
     rw [Array.toList_extract]
     simp [List.extract]
    have hsz : (xs.extract off (off + P.cellsOf e)).size = P.cellsOf e := by rw [← Array.length_toList, hl, hlen]
    rcases hkd with ⟨n, e', hu⟩ | ⟨fs, hu⟩
    ·obtain ⟨i, hi⟩ := info_of_underlying hu
     exact ⟨.agg (xs.extract off (off + P.cellsOf e)), by simp [Go.part, isAgg, run_underlying hu, run_sizeOf w hi], by simp [Value.formed, hu, hsz], hl⟩
    ·obtain ⟨i, hi⟩ := info_of_underlying hu
     exact ⟨.agg (xs.extract off (off + P.cellsOf e)), by simp [Go.part, isAgg, run_underlying hu, run_sizeOf w hi], by simp [Value.formed, hu, hsz], hl⟩
   unfold shapeK at hs
   split at hs
   ·rename_i hu
    split at hs
    ·simp only [Option.some.injEq] at hs; subst hs
     obtain ⟨v, r, hv, h1, h2⟩ := kOk_cons hk
     rw [kOk_nil h2] at hv
     rw [hv]
     refine ⟨v, run_part_plain w (by simp [Program.plainKey, hu]) (getElem?_of_chunk hv), ?_, ?_⟩
     ·cases v <;> simp [kOk] at h1; simp [Value.formed, hu]
     ·cases v <;> simp [kOk] at h1; rfl
    ·cases hs
   ·rename_i k hu
    split at hs
    ·simp only [Option.some.injEq] at hs; subst hs
     obtain ⟨v, r, hv, h1, h2⟩ := kOk_cons hk
     rw [kOk_nil h2] at hv
     rw [hv]
     refine ⟨v, run_part_plain w (by simp [Program.plainKey, hu]) (getElem?_of_chunk hv), ?_, ?_⟩
     ·cases v <;> simp [kOk] at h1; simp [Value.formed, hu, h1]
     ·cases v <;> simp [kOk] at h1; rfl
    ·cases hs
   ·rename_i hu
    split at hs
    ·simp only [Option.some.injEq] at hs; subst hs
     obtain ⟨v, r, hv, h1, h2⟩ := kOk_cons hk
     rw [kOk_nil h2] at hv
     rw [hv]
     refine ⟨v, run_part_plain w (by simp [Program.plainKey, hu]) (getElem?_of_chunk hv), ?_, ?_⟩
     ·cases v <;> simp [kOk] at h1; simp [Value.formed, hu]
     ·cases v <;> simp [kOk] at h1; rfl
    ·cases hs
   ·rename_i fs hu; exact agg (.inr ⟨fs, hu⟩)
   ·rename_i m e' hu; exact agg (.inl ⟨m, e', hu⟩)
   ·cases hs
def EqAtK (P : Program) (dd : Nat) (e : TypeId) (ks : List EK) : Prop :=
 ∀ (w : World) (a b : Value), a.formed P e = true → b.formed P e = true → kOk ks a.cells.toList = true → kOk ks b.cells.toList = true →
   (Op.equalIn dd e a b).run P w = .ok (valsEq a.cells.toList b.cells.toList) w
theorem run_step_k {n : Nat} {e : TypeId} {ks : List EK} (hs : shapeK P n e = some ks) {dd : Nat} (IH : EqAtK P dd e ks) {off : Nat} {xs ys : Array Value}
  (ha : kOk ks ((xs.toList.drop off).take (P.cellsOf e)) = true) (hb : kOk ks ((ys.toList.drop off).take (P.cellsOf e)) = true) :
  ∃ a b, (Go.part e xs off).run P w = .ok a w ∧ (Go.part e ys off).run P w = .ok b w ∧ (Op.equalIn dd e a b).run P w = .ok (valsEq ((xs.toList.drop off).take (P.cellsOf e)) ((ys.toList.drop off).take (P.cellsOf e))) w := by
 obtain ⟨a, p1, f1, c1⟩ := run_part_k w hs ha
 obtain ⟨b, p2, f2, c2⟩ := run_part_k w hs hb
 have := IH w a b f1 f2 (by rw [c1]; exact ha) (by rw [c2]; exact hb)
 rw [c1, c2] at this
 exact ⟨a, b, p1, p2, this⟩
theorem run_eqFields_k {n : Nat} (dd : Nat) (xs ys : Array Value) : ∀ (fs : List Field) (off : Nat) (ss : List EK), fieldsK (shapeK P n) off fs = some ss →
  (∀ f ∈ fs, f.name ≠ "_" ∧ ∀ s, shapeK P n f.type = some s → EqAtK P dd f.type s) → kOk ss ((xs.toList.drop off).take ss.length) = true → kOk ss ((ys.toList.drop off).take ss.length) = true →
  (Op.eqFields dd xs ys fs).run P w = .ok (valsEq ((xs.toList.drop off).take ss.length) ((ys.toList.drop off).take ss.length)) w
 | [], off, ss, h, _, hx, hy => by
   simp only [fieldsK, Option.some.injEq] at h
   subst h
   simp [Op.eqFields, valsEq]
 | f :: r, off, ss, h, hf, hx, hy => by
   simp only [fieldsK] at h
   split at h
   ·rename_i s hs
    split at h
    ·rename_i ts hts
     split at h
     ·rename_i ho
      simp only [Option.some.injEq] at h
      subst h
      obtain ⟨hn, hq⟩ := hf f (by simp)
      have hl := shapeK_len _ _ _ hs
      have sx : (xs.toList.drop off).take (s ++ ts).length = (xs.toList.drop off).take s.length ++ (xs.toList.drop (off + s.length)).take ts.length := by
       rw [List.length_append, List.take_add, List.drop_drop]
      have sy : (ys.toList.drop off).take (s ++ ts).length = (ys.toList.drop off).take s.length ++ (ys.toList.drop (off + s.length)).take ts.length := by
       rw [List.length_append, List.take_add, List.drop_drop]
      have lx := kOk_len hx
      have ly := kOk_len hy
      obtain ⟨hx1, hx2⟩ := kOk_split s ts _ hx
      obtain ⟨hy1, hy2⟩ := kOk_split s ts _ hy
      have tx : ((xs.toList.drop off).take (s ++ ts).length).take s.length = (xs.toList.drop off).take s.length := by
       rw [List.take_take]; congr 1; simp
      have ty : ((ys.toList.drop off).take (s ++ ts).length).take s.length = (ys.toList.drop off).take s.length := by
       rw [List.take_take]; congr 1; simp
      have ux : ((xs.toList.drop off).take (s ++ ts).length).drop s.length = (xs.toList.drop (off + s.length)).take ts.length := by
       rw [List.drop_take, List.drop_drop]; congr 1; simp
      have uy : ((ys.toList.drop off).take (s ++ ts).length).drop s.length = (ys.toList.drop (off + s.length)).take ts.length := by
       rw [List.drop_take, List.drop_drop]; congr 1; simp
      rw [tx] at hx1
      rw [ty] at hy1
      rw [ux] at hx2
      rw [uy] at hy2
      rw [sx, sy, valsEq_app s _ _ _ _ hx1 hy1]
      have ih := run_eqFields_k dd xs ys r (off + s.length) ts hts (fun g hg => hf g (by simp [hg])) hx2 hy2
      rw [hl] at hx1 hy1
      obtain ⟨a, b, p1, p2, p3⟩ := run_step_k w hs (hq s hs) hx1 hy1
      rw [← hl] at p3
      rw [← ho] at p1 p2 p3 ⊢
      simp only [Op.eqFields, hn, ne_eq, not_false_eq_true, if_true, Sem.run_bind, p1, p2, p3, Result.andThen_ok]
      rw [← ho] at ih
      cases valsEq (List.take s.length (List.drop f.offset xs.toList)) (List.take s.length (List.drop f.offset ys.toList))
      ·simp
      ·simpa using ih
     ·cases h
    ·cases h
   ·cases h
theorem run_eqItems_k {n : Nat} (dd : Nat) {e : TypeId} {s : List EK} (hs : shapeK P n e = some s) (IH : EqAtK P dd e s) (xs ys : Array Value) : ∀ (m j : Nat),
  kOk ((List.replicate m s).flatten) ((xs.toList.drop (j * P.cellsOf e)).take (m * P.cellsOf e)) = true → kOk ((List.replicate m s).flatten) ((ys.toList.drop (j * P.cellsOf e)).take (m * P.cellsOf e)) = true →
  (Op.eqItems dd e (P.cellsOf e) xs ys (List.range' j m)).run P w = .ok (valsEq ((xs.toList.drop (j * P.cellsOf e)).take (m * P.cellsOf e)) ((ys.toList.drop (j * P.cellsOf e)).take (m * P.cellsOf e))) w
 | 0, j, hx, hy => by simp [Op.eqItems, valsEq]
 | m + 1, j, hx, hy => by
   have hl := shapeK_len _ _ _ hs
   rw [List.replicate_succ, List.flatten_cons] at hx hy
   have e1 : (m + 1) * P.cellsOf e = P.cellsOf e + m * P.cellsOf e := by rw [Nat.add_mul, Nat.one_mul, Nat.add_comm]
   have e2 : (j + 1) * P.cellsOf e = j * P.cellsOf e + P.cellsOf e := by rw [Nat.add_mul, Nat.one_mul]
   obtain ⟨hx1, hx2⟩ := kOk_split s _ _ hx
   obtain ⟨hy1, hy2⟩ := kOk_split s _ _ hy
   have cut : ∀ zs : List Value, (zs.take ((m + 1) * P.cellsOf e)).take s.length = zs.take (P.cellsOf e) ∧ (zs.take ((m + 1) * P.cellsOf e)).drop s.length = (zs.drop (P.cellsOf e)).take (m * P.cellsOf e) ∧ zs.take ((m + 1) * P.cellsOf e) = zs.take (P.cellsOf e) ++ (zs.drop (P.cellsOf e)).take (m * P.cellsOf e) := by
    intro zs
    rw [e1, hl]
    refine ⟨?_, ?_, by rw [List.take_add]⟩
    ·rw [List.take_take]; congr 1; omega
    ·rw [List.drop_take]; congr 1; omega
   rw [(cut _).1] at hx1 hy1
   rw [(cut _).2.1] at hx2 hy2
   rw [List.drop_drop, ← e2] at hx2 hy2
   have ih := run_eqItems_k dd hs IH xs ys m (j + 1) hx2 hy2
   obtain ⟨a, b, p1, p2, p3⟩ := run_step_k w hs IH hx1 hy1
   rw [(cut (xs.toList.drop (j * P.cellsOf e))).2.2, (cut (ys.toList.drop (j * P.cellsOf e))).2.2, valsEq_app s _ _ _ _ hx1 hy1, List.drop_drop, List.drop_drop, ← e2]
   rw [List.range'_succ]
   simp only [Op.eqItems, Sem.run_bind, p1, p2, p3, Result.andThen_ok]
   cases valsEq (List.take (P.cellsOf e) (List.drop (j * P.cellsOf e) xs.toList)) (List.take (P.cellsOf e) (List.drop (j * P.cellsOf e) ys.toList))
   ·simp
   ·simpa using ih
theorem run_equalIn_k (d : Nat) : ∀ (n : Nat) (t : TypeId) (ks : List EK), shapeK P n t = some ks → EqAtK P (d + n) t ks
 | 0, t, ks, h => by simp [shapeK] at h
 | n + 1, t, ks, h => by
   intro w a b fa fb ka kb
   have hlen := shapeK_len _ _ _ h
   unfold shapeK at h
   split at h
   ·rename_i hu
    split at h
    ·simp only [Option.some.injEq] at h; subst h
     cases a <;> (try simp [Value.formed, hu] at fa) <;> (try simp [Value.cells, kOk] at ka)
     cases b <;> (try simp [Value.formed, hu] at fb) <;> (try simp [Value.cells, kOk] at kb)
     rw [show d + (n + 1) = (d + n) + 1 from rfl, run_equalIn_bool' w (d + n) t _ _ hu]
     simp [Value.cells, valsEq]
    ·cases h
   ·rename_i k hu
    split at h
    ·simp only [Option.some.injEq] at h; subst h
     cases a <;> (try simp [Value.formed, hu] at fa) <;> (try simp [Value.cells, kOk] at ka)
     cases b <;> (try simp [Value.formed, hu] at fb) <;> (try simp [Value.cells, kOk] at kb)
     subst ka; subst kb
     rw [show d + (n + 1) = (d + n) + 1 from rfl, run_equalIn_int w (d + n) t _ _ _ _ hu]
     simp [Value.cells, valsEq]
    ·cases h
   ·rename_i hu
    split at h
    ·simp only [Option.some.injEq] at h; subst h
     cases a <;> (try simp [Value.formed, hu] at fa) <;> (try simp [Value.cells, kOk] at ka)
     cases b <;> (try simp [Value.formed, hu] at fb) <;> (try simp [Value.cells, kOk] at kb)
     rw [show d + (n + 1) = (d + n) + 1 from rfl, run_equalIn_string w (d + n) t _ _ hu]
     simp [Value.cells, valsEq]
    ·cases h
   ·rename_i fs hu
    split at h
    ·rename_i hb
     simp only [Bool.and_eq_true, Bool.not_eq_true'] at hb
     split at h
     ·rename_i ss hss
      split at h
      ·simp only [Option.some.injEq] at h; subst h
       cases a <;> simp only [Value.formed, hu, Bool.false_eq_true] at fa
       cases b <;> simp only [Value.formed, hu, Bool.false_eq_true] at fb
       rename_i xs ys
       have hfs : P.fieldsOf t = fs := by simp [Program.fieldsOf, hu]
       have hcx : (Value.agg xs).cells.toList = xs.toList := rfl
       have hcy : (Value.agg ys).cells.toList = ys.toList := rfl
       rw [hcx] at ka ⊢
       rw [hcy] at kb ⊢
       have lx := kOk_len ka
       have ly := kOk_len kb
       have ex : (xs.toList.drop 0).take ss.length = xs.toList := by rw [List.drop_zero, List.take_of_length_le (by omega)]
       have ey : (ys.toList.drop 0).take ss.length = ys.toList := by rw [List.drop_zero, List.take_of_length_le (by omega)]
       have := run_eqFields_k w (d + n) xs ys fs.toList 0 ss hss (fun f hf => by
        have := List.all_eq_true.1 hb.1 f hf
        exact ⟨by simpa using this, fun s hs => run_equalIn_k d n f.type s hs⟩) (by rw [ex]; exact ka) (by rw [ey]; exact kb)
       rw [ex, ey] at this
       rw [show d + (n + 1) = (d + n) + 1 from rfl, run_equalIn_struct w (d + n) t xs ys (by rw [hfs]; exact hu) hb.2, hfs]
       exact this
      ·cases h
     ·cases h
    ·cases h
   ·rename_i m e hu
    split at h
    ·rename_i s hs
     split at h
     ·rename_i hc
      simp only [Option.some.injEq] at h; subst h
      cases a <;> simp only [Value.formed, hu, Bool.false_eq_true] at fa
      cases b <;> simp only [Value.formed, hu, Bool.false_eq_true] at fb
      rename_i xs ys
      obtain ⟨i, hi⟩ : ∃ i, P.info? e = some i := by
       cases n with
       | zero => simp [shapeK] at hs
       | succ n =>
         cases hue : P.underlying e with
         | none => simp [shapeK, hue] at hs
         | some d => exact info_of_underlying hue
      have hcx : (Value.agg xs).cells.toList = xs.toList := rfl
      have hcy : (Value.agg ys).cells.toList = ys.toList := rfl
      rw [hcx] at ka ⊢
      rw [hcy] at kb ⊢
      have lx := kOk_len ka
      have ly := kOk_len kb
      have l1 : m * P.cellsOf e = P.cellsOf t := by rw [← hc.1]; exact hc.2
      have ex : (xs.toList.drop (0 * P.cellsOf e)).take (m * P.cellsOf e) = xs.toList := by rw [Nat.zero_mul, List.drop_zero, List.take_of_length_le (by omega)]
      have ey : (ys.toList.drop (0 * P.cellsOf e)).take (m * P.cellsOf e) = ys.toList := by rw [Nat.zero_mul, List.drop_zero, List.take_of_length_le (by omega)]
      have := run_eqItems_k w (d + n) hs (run_equalIn_k d n e s hs) xs ys m 0 (by rw [ex]; exact ka) (by rw [ey]; exact kb)
      rw [ex, ey] at this
      rw [show d + (n + 1) = (d + n) + 1 from rfl, run_equalIn_array w (d + n) xs ys hu hi, List.range_eq_range']
      exact this
     ·cases h
    ·cases h
   ·cases h
end
theorem kinds_kOk : ∀ (ks : List EK) (vs : List Value), kindsOk (ks.map EK.tk) vs = true → kOk ks vs = true
 | [], [], _ => rfl
 | [], v :: vs, h => by simp [kindsOk] at h
 | k :: ks, [], h => by cases k <;> simp [kindsOk, EK.tk] at h
 | k :: ks, v :: vs, h => by
   cases k with
   | int q => cases v with
     | int q' n =>
       cases q <;> cases q' <;> simp [kindsOk, EK.tk] at h
       simpa [kOk] using kinds_kOk ks vs h
     | _ => cases q <;> simp [kindsOk, EK.tk] at h
   | str => cases v <;> simp [kindsOk, EK.tk] at h; simpa [kOk] using kinds_kOk ks vs h
   | bool => cases v <;> simp [kindsOk, EK.tk] at h; simpa [kOk] using kinds_kOk ks vs h
theorem eqOk_deep {P : Program} {t : TypeId} {tks : List TK} (ks : List EK) (hks : tks = ks.map EK.tk) (hs : shapeK P 8 t = some ks) (hagg : (match P.underlying t with | some (.struct _) => true | _ => false) = true) (hg : P.eqGuardType P.depth t = false) : EqOk P t tks := by
 subst hks
 refine ⟨hg, fun w xs ys hx hy => ?_⟩
 have kx := kinds_kOk ks xs hx
 have ky := kinds_kOk ks ys hy
 have hl := shapeK_len _ _ _ hs
 have fx : ∀ zs : List Value, kOk ks zs = true → (Value.agg zs.toArray).formed P t = true := fun zs hz => by
  have := kOk_len hz
  split at hagg
  ·rename_i fs hu
   simp [Value.formed, hu]; omega
  ·cases hagg
 exact run_equalIn_k 9992 8 t ks hs w (.agg xs.toArray) (.agg ys.toArray) (fx xs kx) (fx ys ky) kx ky
end Go.Proofs.YtfmjgoeclilcnaaGreatDoor
namespace Go.Proofs.YtfmjgoeclilcnaaGreatDoor
open Go.RowKit
theorem ok_3 : TIok Tryz.prog 3 (ti 3) := ⟨⟨((Tryz.prog.info? 3).getD default), by kernel_rfl, by kernel_rfl, by kernel_rfl, (.int .i64 0), by kernel_rfl, rfl, (fun h => by cases h), (fun _ => rfl)⟩, rfl, Tryz.underlying3, ⟨_, Tryz.underlying3, rfl⟩, fun ks h => by cases h⟩
theorem ok_4 : TIok Tryz.prog 4 (ti 4) := ⟨⟨((Tryz.prog.info? 4).getD default), by kernel_rfl, by kernel_rfl, by kernel_rfl, (.bool false), by kernel_rfl, rfl, (fun h => by cases h), (fun _ => rfl)⟩, rfl, Tryz.underlying4, ⟨_, Tryz.underlying4, rfl⟩, fun ks h => by cases h⟩
theorem ok_5 : TIok Tryz.prog 5 (ti 5) := ⟨⟨((Tryz.prog.info? 5).getD default), by kernel_rfl, by kernel_rfl, by kernel_rfl, (.int .u8 0), by kernel_rfl, rfl, (fun h => by cases h), (fun _ => rfl)⟩, rfl, Tryz.underlying5, ⟨_, Tryz.underlying5, rfl⟩, fun ks h => by cases h⟩
theorem ok_9 : TIok Tryz.prog 9 (ti 9) := ⟨⟨((Tryz.prog.info? 9).getD default), by kernel_rfl, by kernel_rfl, by kernel_rfl, (.string ⟨#[]⟩), by kernel_rfl, rfl, (fun h => by cases h), (fun _ => rfl)⟩, rfl, Tryz.underlying9, ⟨_, Tryz.underlying9, rfl⟩, fun ks h => by cases h⟩
theorem ok_22 : TIok Tryz.prog 22 (ti 22) := ⟨⟨((Tryz.prog.info? 22).getD default), by kernel_rfl, by kernel_rfl, by kernel_rfl, (.slice none 0 0), by kernel_rfl, rfl, (fun h => by cases h), (fun _ => rfl)⟩, rfl, Tryz.underlying22, ⟨_, Tryz.underlying22, rfl⟩, fun ks h => by cases h⟩
theorem ok_23 : TIok Tryz.prog 23 (ti 23) := ⟨⟨((Tryz.prog.info? 23).getD default), by kernel_rfl, by kernel_rfl, by kernel_rfl, (.agg #[.slice none 0 0, .slice none 0 0]), by kernel_rfl, rfl, (fun _ => ⟨_, rfl⟩), (fun h => by cases h)⟩, rfl, Tryz.underlying23, ⟨_, Tryz.underlying23, rfl⟩, fun ks h => by cases h⟩
theorem ok_24 : TIok Tryz.prog 24 (ti 24) := ⟨⟨((Tryz.prog.info? 24).getD default), by kernel_rfl, by kernel_rfl, by kernel_rfl, (.slice none 0 0), by kernel_rfl, rfl, (fun h => by cases h), (fun _ => rfl)⟩, rfl, Tryz.underlying24, ⟨_, Tryz.underlying24, rfl⟩, fun ks h => by cases h⟩
theorem ok_26 : TIok Tryz.prog 26 (ti 26) := ⟨⟨((Tryz.prog.info? 26).getD default), by kernel_rfl, by kernel_rfl, by kernel_rfl, (.agg #[.slice none 0 0, .slice none 0 0, .slice none 0 0]), by kernel_rfl, rfl, (fun _ => ⟨_, rfl⟩), (fun h => by cases h)⟩, rfl, ⟨_, Tryz.underlying26, rfl⟩, ⟨_, Tryz.underlying26, rfl⟩, fun ks h => by cases h⟩
theorem ok_27 : TIok Tryz.prog 27 (ti 27) := ⟨⟨((Tryz.prog.info? 27).getD default), by kernel_rfl, by kernel_rfl, by kernel_rfl, (.slice none 0 0), by kernel_rfl, rfl, (fun h => by cases h), (fun _ => rfl)⟩, rfl, Tryz.underlying27, ⟨_, Tryz.underlying27, rfl⟩, fun ks h => by cases h⟩
theorem ok_28 : TIok Tryz.prog 28 (ti 28) := ⟨⟨((Tryz.prog.info? 28).getD default), by kernel_rfl, by kernel_rfl, by kernel_rfl, (.slice none 0 0), by kernel_rfl, rfl, (fun h => by cases h), (fun _ => rfl)⟩, rfl, Tryz.underlying28, ⟨_, Tryz.underlying28, rfl⟩, fun ks h => by cases h⟩
theorem ok_29 : TIok Tryz.prog 29 (ti 29) := ⟨⟨((Tryz.prog.info? 29).getD default), by kernel_rfl, by kernel_rfl, by kernel_rfl, (.slice none 0 0), by kernel_rfl, rfl, (fun h => by cases h), (fun _ => rfl)⟩, rfl, Tryz.underlying29, ⟨_, Tryz.underlying29, rfl⟩, fun ks h => by cases h⟩
theorem ok_30 : TIok Tryz.prog 30 (ti 30) := ⟨⟨((Tryz.prog.info? 30).getD default), by kernel_rfl, by kernel_rfl, by kernel_rfl, (.slice none 0 0), by kernel_rfl, rfl, (fun h => by cases h), (fun _ => rfl)⟩, rfl, Tryz.underlying30, ⟨_, Tryz.underlying30, rfl⟩, fun ks h => by cases h⟩
theorem ok_32 : TIok Tryz.prog 32 (ti 32) := ⟨⟨((Tryz.prog.info? 32).getD default), by kernel_rfl, by kernel_rfl, by kernel_rfl, (.agg #[.int .i64 0, .slice none 0 0, .slice none 0 0, .slice none 0 0, .bool false, .slice none 0 0, .int .i64 0]), by kernel_rfl, rfl, (fun _ => ⟨_, rfl⟩), (fun h => by cases h)⟩, rfl, ⟨_, Tryz.underlying32, rfl⟩, ⟨_, Tryz.underlying32, rfl⟩, fun ks h => by cases h⟩
theorem ok_34 : TIok Tryz.prog 34 (ti 34) := ⟨⟨((Tryz.prog.info? 34).getD default), by kernel_rfl, by kernel_rfl, by kernel_rfl, (.agg #[.slice none 0 0, .slice none 0 0, .slice none 0 0, .int .i64 0, .slice none 0 0, .slice none 0 0, .slice none 0 0, .bool false, .slice none 0 0, .int .i64 0, .bool false]), by kernel_rfl, rfl, (fun _ => ⟨_, rfl⟩), (fun h => by cases h)⟩, rfl, ⟨_, Tryz.underlying34, rfl⟩, ⟨_, Tryz.underlying34, rfl⟩, fun ks h => by cases h⟩
theorem ok_36 : TIok Tryz.prog 36 (ti 36) := ⟨⟨((Tryz.prog.info? 36).getD default), by kernel_rfl, by kernel_rfl, by kernel_rfl, (.slice none 0 0), by kernel_rfl, rfl, (fun h => by cases h), (fun _ => rfl)⟩, rfl, Tryz.underlying36, ⟨_, Tryz.underlying36, rfl⟩, fun ks h => by cases h⟩
theorem ok_38 : TIok Tryz.prog 38 (ti 38) := ⟨⟨((Tryz.prog.info? 38).getD default), by kernel_rfl, by kernel_rfl, by kernel_rfl, (.agg #[.slice none 0 0, .slice none 0 0, .slice none 0 0]), by kernel_rfl, rfl, (fun _ => ⟨_, rfl⟩), (fun h => by cases h)⟩, rfl, ⟨_, Tryz.underlying38, rfl⟩, ⟨_, Tryz.underlying38, rfl⟩, fun ks h => by cases h⟩
theorem ok_39 : TIok Tryz.prog 39 (ti 39) := ⟨⟨((Tryz.prog.info? 39).getD default), by kernel_rfl, by kernel_rfl, by kernel_rfl, (.slice none 0 0), by kernel_rfl, rfl, (fun h => by cases h), (fun _ => rfl)⟩, rfl, Tryz.underlying39, ⟨_, Tryz.underlying39, rfl⟩, fun ks h => by cases h⟩
theorem ok_40 : TIok Tryz.prog 40 (ti 40) := ⟨⟨((Tryz.prog.info? 40).getD default), by kernel_rfl, by kernel_rfl, by kernel_rfl, (.slice none 0 0), by kernel_rfl, rfl, (fun h => by cases h), (fun _ => rfl)⟩, rfl, Tryz.underlying40, ⟨_, Tryz.underlying40, rfl⟩, fun ks h => by cases h⟩
theorem ok_41 : TIok Tryz.prog 41 (ti 41) := ⟨⟨((Tryz.prog.info? 41).getD default), by kernel_rfl, by kernel_rfl, by kernel_rfl, (.slice none 0 0), by kernel_rfl, rfl, (fun h => by cases h), (fun _ => rfl)⟩, rfl, Tryz.underlying41, ⟨_, Tryz.underlying41, rfl⟩, fun ks h => by cases h⟩
theorem ok_43 : TIok Tryz.prog 43 (ti 43) := ⟨⟨((Tryz.prog.info? 43).getD default), by kernel_rfl, by kernel_rfl, by kernel_rfl, (.agg #[.int .i64 0, .slice none 0 0, .slice none 0 0, .slice none 0 0, .bool false, .slice none 0 0, .int .i64 0]), by kernel_rfl, rfl, (fun _ => ⟨_, rfl⟩), (fun h => by cases h)⟩, rfl, ⟨_, Tryz.underlying43, rfl⟩, ⟨_, Tryz.underlying43, rfl⟩, fun ks h => by cases h⟩
theorem ok_45 : TIok Tryz.prog 45 (ti 45) := ⟨⟨((Tryz.prog.info? 45).getD default), by kernel_rfl, by kernel_rfl, by kernel_rfl, (.agg #[.slice none 0 0, .slice none 0 0, .slice none 0 0, .int .i64 0, .slice none 0 0, .slice none 0 0, .slice none 0 0, .bool false, .slice none 0 0, .int .i64 0, .bool false]), by kernel_rfl, rfl, (fun _ => ⟨_, rfl⟩), (fun h => by cases h)⟩, rfl, ⟨_, Tryz.underlying45, rfl⟩, ⟨_, Tryz.underlying45, rfl⟩, fun ks h => by cases h⟩
theorem eqk_71 : EqOk Tryz.prog 71 [.int .i64, .int .i64, .int .i64] := eqOk_deep [.int .i64, .int .i64, .int .i64] rfl (by kernel_rfl) (by kernel_rfl) (by kernel_rfl)
theorem ok_71 : TIok Tryz.prog 71 (ti 71) := ⟨⟨((Tryz.prog.info? 71).getD default), by kernel_rfl, by kernel_rfl, by kernel_rfl, (.agg #[.int .i64 0, .int .i64 0, .int .i64 0]), by kernel_rfl, rfl, (fun _ => ⟨_, rfl⟩), (fun h => by cases h)⟩, rfl, ⟨_, Tryz.underlying71, rfl⟩, ⟨_, Tryz.underlying71, rfl⟩, fun ks h => by cases h; exact eqk_71⟩
theorem ok_91 : TIok Tryz.prog 91 (ti 91) := ⟨⟨((Tryz.prog.info? 91).getD default), by kernel_rfl, by kernel_rfl, by kernel_rfl, (.agg #[.int .i64 0, .int .i64 0, .int .i64 0, .int .i64 0, .int .i64 0, .int .i64 0, .int .i64 0, .int .i64 0, .int .i64 0, .int .i64 0, .int .i64 0, .int .i64 0, .int .i64 0, .int .i64 0, .int .i64 0, .int .i64 0, .int .i64 0, .int .i64 0, .int .i64 0, .int .i64 0, .int .i64 0, .int .i64 0, .int .i64 0, .int .i64 0]), by kernel_rfl, rfl, (fun _ => ⟨_, rfl⟩), (fun h => by cases h)⟩, rfl, Tryz.underlying91, ⟨_, Tryz.underlying91, rfl⟩, fun ks h => by cases h⟩
theorem eqk_93 : EqOk Tryz.prog 93 [.str, .int .i64, .str, .int .i64, .int .i64, .int .i64, .int .i64, .int .i64, .int .i64, .int .i64, .int .i64, .int .i64, .int .i64, .int .i64, .int .i64, .int .i64, .int .i64, .int .i64, .int .i64, .int .i64, .int .i64, .int .i64, .int .i64, .int .i64, .int .i64, .int .i64, .int .i64, .int .i64, .int .i64, .int .i64, .bool] := eqOk_deep [.str, .int .i64, .str, .int .i64, .int .i64, .int .i64, .int .i64, .int .i64, .int .i64, .int .i64, .int .i64, .int .i64, .int .i64, .int .i64, .int .i64, .int .i64, .int .i64, .int .i64, .int .i64, .int .i64, .int .i64, .int .i64, .int .i64, .int .i64, .int .i64, .int .i64, .int .i64, .int .i64, .int .i64, .int .i64, .bool] rfl (by kernel_rfl) (by kernel_rfl) (by kernel_rfl)
theorem ok_93 : TIok Tryz.prog 93 (ti 93) := ⟨⟨((Tryz.prog.info? 93).getD default), by kernel_rfl, by kernel_rfl, by kernel_rfl, (.agg #[.string ⟨#[]⟩, .int .i64 0, .string ⟨#[]⟩, .int .i64 0, .int .i64 0, .int .i64 0, .int .i64 0, .int .i64 0, .int .i64 0, .int .i64 0, .int .i64 0, .int .i64 0, .int .i64 0, .int .i64 0, .int .i64 0, .int .i64 0, .int .i64 0, .int .i64 0, .int .i64 0, .int .i64 0, .int .i64 0, .int .i64 0, .int .i64 0, .int .i64 0, .int .i64 0, .int .i64 0, .int .i64 0, .int .i64 0, .int .i64 0, .int .i64 0, .bool false]), by kernel_rfl, rfl, (fun _ => ⟨_, rfl⟩), (fun h => by cases h)⟩, rfl, ⟨_, Tryz.underlying93, rfl⟩, ⟨_, Tryz.underlying93, rfl⟩, fun ks h => by cases h; exact eqk_93⟩
theorem ok_117 : TIok Tryz.prog 117 (ti 117) := ⟨⟨((Tryz.prog.info? 117).getD default), by kernel_rfl, by kernel_rfl, by kernel_rfl, (.nilFunc), by kernel_rfl, rfl, (fun h => by cases h), (fun _ => rfl)⟩, rfl, trivial, ⟨_, Tryz.underlying117, rfl⟩, fun ks h => by cases h⟩
theorem eqk_122 : EqOk Tryz.prog 122 [.int .i64, .int .i64, .str] := eqOk_deep [.int .i64, .int .i64, .str] rfl (by kernel_rfl) (by kernel_rfl) (by kernel_rfl)
theorem ok_122 : TIok Tryz.prog 122 (ti 122) := ⟨⟨((Tryz.prog.info? 122).getD default), by kernel_rfl, by kernel_rfl, by kernel_rfl, (.agg #[.int .i64 0, .int .i64 0, .string ⟨#[]⟩]), by kernel_rfl, rfl, (fun _ => ⟨_, rfl⟩), (fun h => by cases h)⟩, rfl, ⟨_, Tryz.underlying122, rfl⟩, ⟨_, Tryz.underlying122, rfl⟩, fun ks h => by cases h; exact eqk_122⟩
theorem ok_131 : TIok Tryz.prog 131 (ti 131) := ⟨⟨((Tryz.prog.info? 131).getD default), by kernel_rfl, by kernel_rfl, by kernel_rfl, (.pointer none), by kernel_rfl, rfl, (fun h => by cases h), (fun _ => rfl)⟩, rfl, Tryz.underlying131, ⟨_, Tryz.underlying131, rfl⟩, fun ks h => by cases h⟩
theorem eqk_134 : EqOk Tryz.prog 134 [.int .i64, .int .i64, .str] := eqOk_deep [.int .i64, .int .i64, .str] rfl (by kernel_rfl) (by kernel_rfl) (by kernel_rfl)
theorem ok_134 : TIok Tryz.prog 134 (ti 134) := ⟨⟨((Tryz.prog.info? 134).getD default), by kernel_rfl, by kernel_rfl, by kernel_rfl, (.agg #[.int .i64 0, .int .i64 0, .string ⟨#[]⟩]), by kernel_rfl, rfl, (fun _ => ⟨_, rfl⟩), (fun h => by cases h)⟩, rfl, ⟨_, Tryz.underlying134, rfl⟩, ⟨_, Tryz.underlying134, rfl⟩, fun ks h => by cases h; exact eqk_134⟩
theorem ok_142 : TIok Tryz.prog 142 (ti 142) := ⟨⟨((Tryz.prog.info? 142).getD default), by kernel_rfl, by kernel_rfl, by kernel_rfl, (.slice none 0 0), by kernel_rfl, rfl, (fun h => by cases h), (fun _ => rfl)⟩, rfl, Tryz.underlying142, ⟨_, Tryz.underlying142, rfl⟩, fun ks h => by cases h⟩
theorem ok_144 : TIok Tryz.prog 144 (ti 144) := ⟨⟨((Tryz.prog.info? 144).getD default), by kernel_rfl, by kernel_rfl, by kernel_rfl, (.agg #[.slice none 0 0]), by kernel_rfl, rfl, (fun _ => ⟨_, rfl⟩), (fun h => by cases h)⟩, rfl, ⟨_, Tryz.underlying144, rfl⟩, ⟨_, Tryz.underlying144, rfl⟩, fun ks h => by cases h⟩
theorem ok_148 : TIok Tryz.prog 148 (ti 148) := ⟨⟨((Tryz.prog.info? 148).getD default), by kernel_rfl, by kernel_rfl, by kernel_rfl, (.nilFunc), by kernel_rfl, rfl, (fun h => by cases h), (fun _ => rfl)⟩, rfl, trivial, ⟨_, Tryz.underlying148, rfl⟩, fun ks h => by cases h⟩
theorem eqk_151 : EqOk Tryz.prog 151 [.int .i64, .int .i64, .int .i64] := eqOk_deep [.int .i64, .int .i64, .int .i64] rfl (by kernel_rfl) (by kernel_rfl) (by kernel_rfl)
theorem ok_151 : TIok Tryz.prog 151 (ti 151) := ⟨⟨((Tryz.prog.info? 151).getD default), by kernel_rfl, by kernel_rfl, by kernel_rfl, (.agg #[.int .i64 0, .int .i64 0, .int .i64 0]), by kernel_rfl, rfl, (fun _ => ⟨_, rfl⟩), (fun h => by cases h)⟩, rfl, ⟨_, Tryz.underlying151, rfl⟩, ⟨_, Tryz.underlying151, rfl⟩, fun ks h => by cases h; exact eqk_151⟩
theorem ok_156 : TIok Tryz.prog 156 (ti 156) := ⟨⟨((Tryz.prog.info? 156).getD default), by kernel_rfl, by kernel_rfl, by kernel_rfl, (.nilFunc), by kernel_rfl, rfl, (fun h => by cases h), (fun _ => rfl)⟩, rfl, trivial, ⟨_, Tryz.underlying156, rfl⟩, fun ks h => by cases h⟩
theorem ok_159 : TIok Tryz.prog 159 (ti 159) := ⟨⟨((Tryz.prog.info? 159).getD default), by kernel_rfl, by kernel_rfl, by kernel_rfl, (.nilFunc), by kernel_rfl, rfl, (fun h => by cases h), (fun _ => rfl)⟩, rfl, trivial, ⟨_, Tryz.underlying159, rfl⟩, fun ks h => by cases h⟩
theorem ok_171 : TIok Tryz.prog 171 (ti 171) := ⟨⟨((Tryz.prog.info? 171).getD default), by kernel_rfl, by kernel_rfl, by kernel_rfl, (.nilFunc), by kernel_rfl, rfl, (fun h => by cases h), (fun _ => rfl)⟩, rfl, trivial, ⟨_, Tryz.underlying171, rfl⟩, fun ks h => by cases h⟩
theorem eqk_182 : EqOk Tryz.prog 182 [.int .i64, .int .i64, .int .i64] := eqOk_deep [.int .i64, .int .i64, .int .i64] rfl (by kernel_rfl) (by kernel_rfl) (by kernel_rfl)
theorem ok_182 : TIok Tryz.prog 182 (ti 182) := ⟨⟨((Tryz.prog.info? 182).getD default), by kernel_rfl, by kernel_rfl, by kernel_rfl, (.agg #[.int .i64 0, .int .i64 0, .int .i64 0]), by kernel_rfl, rfl, (fun _ => ⟨_, rfl⟩), (fun h => by cases h)⟩, rfl, ⟨_, Tryz.underlying182, rfl⟩, ⟨_, Tryz.underlying182, rfl⟩, fun ks h => by cases h; exact eqk_182⟩
theorem ok_183 : TIok Tryz.prog 183 (ti 183) := ⟨⟨((Tryz.prog.info? 183).getD default), by kernel_rfl, by kernel_rfl, by kernel_rfl, (.agg #[.int .i64 0, .int .i64 0, .int .i64 0, .int .i64 0, .int .i64 0, .int .i64 0, .int .i64 0, .int .i64 0, .int .i64 0, .int .i64 0, .int .i64 0, .int .i64 0, .int .i64 0, .int .i64 0, .int .i64 0, .int .i64 0, .int .i64 0, .int .i64 0, .int .i64 0, .int .i64 0, .int .i64 0, .int .i64 0, .int .i64 0, .int .i64 0]), by kernel_rfl, rfl, (fun _ => ⟨_, rfl⟩), (fun h => by cases h)⟩, rfl, Tryz.underlying183, ⟨_, Tryz.underlying183, rfl⟩, fun ks h => by cases h⟩
theorem eqk_185 : EqOk Tryz.prog 185 [.str, .int .i64, .str, .int .i64, .int .i64, .int .i64, .int .i64, .int .i64, .int .i64, .int .i64, .int .i64, .int .i64, .int .i64, .int .i64, .int .i64, .int .i64, .int .i64, .int .i64, .int .i64, .int .i64, .int .i64, .int .i64, .int .i64, .int .i64, .int .i64, .int .i64, .int .i64, .int .i64, .int .i64, .int .i64, .bool] := eqOk_deep [.str, .int .i64, .str, .int .i64, .int .i64, .int .i64, .int .i64, .int .i64, .int .i64, .int .i64, .int .i64, .int .i64, .int .i64, .int .i64, .int .i64, .int .i64, .int .i64, .int .i64, .int .i64, .int .i64, .int .i64, .int .i64, .int .i64, .int .i64, .int .i64, .int .i64, .int .i64, .int .i64, .int .i64, .int .i64, .bool] rfl (by kernel_rfl) (by kernel_rfl) (by kernel_rfl)
theorem ok_185 : TIok Tryz.prog 185 (ti 185) := ⟨⟨((Tryz.prog.info? 185).getD default), by kernel_rfl, by kernel_rfl, by kernel_rfl, (.agg #[.string ⟨#[]⟩, .int .i64 0, .string ⟨#[]⟩, .int .i64 0, .int .i64 0, .int .i64 0, .int .i64 0, .int .i64 0, .int .i64 0, .int .i64 0, .int .i64 0, .int .i64 0, .int .i64 0, .int .i64 0, .int .i64 0, .int .i64 0, .int .i64 0, .int .i64 0, .int .i64 0, .int .i64 0, .int .i64 0, .int .i64 0, .int .i64 0, .int .i64 0, .int .i64 0, .int .i64 0, .int .i64 0, .int .i64 0, .int .i64 0, .int .i64 0, .bool false]), by kernel_rfl, rfl, (fun _ => ⟨_, rfl⟩), (fun h => by cases h)⟩, rfl, ⟨_, Tryz.underlying185, rfl⟩, ⟨_, Tryz.underlying185, rfl⟩, fun ks h => by cases h; exact eqk_185⟩
theorem eqk_188 : EqOk Tryz.prog 188 [.int .i64, .int .i64, .int .i64] := eqOk_deep [.int .i64, .int .i64, .int .i64] rfl (by kernel_rfl) (by kernel_rfl) (by kernel_rfl)
theorem ok_188 : TIok Tryz.prog 188 (ti 188) := ⟨⟨((Tryz.prog.info? 188).getD default), by kernel_rfl, by kernel_rfl, by kernel_rfl, (.agg #[.int .i64 0, .int .i64 0, .int .i64 0]), by kernel_rfl, rfl, (fun _ => ⟨_, rfl⟩), (fun h => by cases h)⟩, rfl, ⟨_, Tryz.underlying188, rfl⟩, ⟨_, Tryz.underlying188, rfl⟩, fun ks h => by cases h; exact eqk_188⟩
theorem ok_197 : TIok Tryz.prog 197 (ti 197) := ⟨⟨((Tryz.prog.info? 197).getD default), by kernel_rfl, by kernel_rfl, by kernel_rfl, (.agg #[.string ⟨#[]⟩, .string ⟨#[]⟩, .string ⟨#[]⟩, .string ⟨#[]⟩, .string ⟨#[]⟩, .string ⟨#[]⟩, .string ⟨#[]⟩, .string ⟨#[]⟩]), by kernel_rfl, rfl, (fun _ => ⟨_, rfl⟩), (fun h => by cases h)⟩, rfl, Tryz.underlying197, ⟨_, Tryz.underlying197, rfl⟩, fun ks h => by cases h⟩
theorem eqk_199 : EqOk Tryz.prog 199 [.str, .int .i64, .str, .str, .str, .str, .str, .str, .str, .str, .str] := eqOk_deep [.str, .int .i64, .str, .str, .str, .str, .str, .str, .str, .str, .str] rfl (by kernel_rfl) (by kernel_rfl) (by kernel_rfl)
theorem ok_199 : TIok Tryz.prog 199 (ti 199) := ⟨⟨((Tryz.prog.info? 199).getD default), by kernel_rfl, by kernel_rfl, by kernel_rfl, (.agg #[.string ⟨#[]⟩, .int .i64 0, .string ⟨#[]⟩, .string ⟨#[]⟩, .string ⟨#[]⟩, .string ⟨#[]⟩, .string ⟨#[]⟩, .string ⟨#[]⟩, .string ⟨#[]⟩, .string ⟨#[]⟩, .string ⟨#[]⟩]), by kernel_rfl, rfl, (fun _ => ⟨_, rfl⟩), (fun h => by cases h)⟩, rfl, ⟨_, Tryz.underlying199, rfl⟩, ⟨_, Tryz.underlying199, rfl⟩, fun ks h => by cases h; exact eqk_199⟩
theorem ok_207 : TIok Tryz.prog 207 (ti 207) := ⟨⟨((Tryz.prog.info? 207).getD default), by kernel_rfl, by kernel_rfl, by kernel_rfl, (.nilIface), by kernel_rfl, rfl, (fun h => by cases h), (fun _ => rfl)⟩, rfl, ⟨_, Tryz.underlying207⟩, ⟨_, Tryz.underlying207, rfl⟩, fun ks h => by cases h⟩
theorem ok_215 : TIok Tryz.prog 215 (ti 215) := ⟨⟨((Tryz.prog.info? 215).getD default), by kernel_rfl, by kernel_rfl, by kernel_rfl, (.nilFunc), by kernel_rfl, rfl, (fun h => by cases h), (fun _ => rfl)⟩, rfl, trivial, ⟨_, Tryz.underlying215, rfl⟩, fun ks h => by cases h⟩
theorem ok_216 : TIok Tryz.prog 216 (ti 216) := ⟨⟨((Tryz.prog.info? 216).getD default), by kernel_rfl, by kernel_rfl, by kernel_rfl, (.agg #[.int .i64 0, .int .i64 0, .int .i64 0]), by kernel_rfl, rfl, (fun _ => ⟨_, rfl⟩), (fun h => by cases h)⟩, rfl, Tryz.underlying216, ⟨_, Tryz.underlying216, rfl⟩, fun ks h => by cases h⟩
theorem ok_223 : TIok Tryz.prog 223 (ti 223) := ⟨⟨((Tryz.prog.info? 223).getD default), by kernel_rfl, by kernel_rfl, by kernel_rfl, (.int .u64 0), by kernel_rfl, rfl, (fun h => by cases h), (fun _ => rfl)⟩, rfl, Tryz.underlying223, ⟨_, Tryz.underlying223, rfl⟩, fun ks h => by cases h⟩
theorem ok_225 : TIok Tryz.prog 225 (ti 225) := ⟨⟨((Tryz.prog.info? 225).getD default), by kernel_rfl, by kernel_rfl, by kernel_rfl, (.slice none 0 0), by kernel_rfl, rfl, (fun h => by cases h), (fun _ => rfl)⟩, rfl, Tryz.underlying225, ⟨_, Tryz.underlying225, rfl⟩, fun ks h => by cases h⟩
theorem ok_238 : TIok Tryz.prog 238 (ti 238) := ⟨⟨((Tryz.prog.info? 238).getD default), by kernel_rfl, by kernel_rfl, by kernel_rfl, (.nilFunc), by kernel_rfl, rfl, (fun h => by cases h), (fun _ => rfl)⟩, rfl, trivial, ⟨_, Tryz.underlying238, rfl⟩, fun ks h => by cases h⟩
theorem ok_264 : TIok Tryz.prog 264 (ti 264) := ⟨⟨((Tryz.prog.info? 264).getD default), by kernel_rfl, by kernel_rfl, by kernel_rfl, (.pointer none), by kernel_rfl, rfl, (fun h => by cases h), (fun _ => rfl)⟩, rfl, Tryz.underlying264, ⟨_, Tryz.underlying264, rfl⟩, fun ks h => by cases h⟩
theorem ok_266 : TIok Tryz.prog 266 (ti 266) := ⟨⟨((Tryz.prog.info? 266).getD default), by kernel_rfl, by kernel_rfl, by kernel_rfl, (.pointer none), by kernel_rfl, rfl, (fun h => by cases h), (fun _ => rfl)⟩, rfl, Tryz.underlying266, ⟨_, Tryz.underlying266, rfl⟩, fun ks h => by cases h⟩
theorem ok_268 : TIok Tryz.prog 268 (ti 268) := ⟨⟨((Tryz.prog.info? 268).getD default), by kernel_rfl, by kernel_rfl, by kernel_rfl, (.agg #[.pointer none, .slice none 0 0]), by kernel_rfl, rfl, (fun _ => ⟨_, rfl⟩), (fun h => by cases h)⟩, rfl, ⟨_, Tryz.underlying268, rfl⟩, ⟨_, Tryz.underlying268, rfl⟩, fun ks h => by cases h⟩
theorem ti_ok (t : TypeId) (h : (ti t).k ≠ .other ∨ 0 < (ti t).sz) : TIok Tryz.prog t (ti t) := by
 unfold ti at h
 split at h
 ·exact ok_3
 ·exact ok_4
 ·exact ok_5
 ·exact ok_9
 ·exact ok_22
 ·exact ok_23
 ·exact ok_24
 ·exact ok_26
 ·exact ok_27
 ·exact ok_28
 ·exact ok_29
 ·exact ok_30
 ·exact ok_32
 ·exact ok_34
 ·exact ok_36
 ·exact ok_38
 ·exact ok_39
 ·exact ok_40
 ·exact ok_41
 ·exact ok_43
 ·exact ok_45
 ·exact ok_71
 ·exact ok_91
 ·exact ok_93
 ·exact ok_117
 ·exact ok_122
 ·exact ok_131
 ·exact ok_134
 ·exact ok_142
 ·exact ok_144
 ·exact ok_148
 ·exact ok_151
 ·exact ok_156
 ·exact ok_159
 ·exact ok_171
 ·exact ok_182
 ·exact ok_183
 ·exact ok_185
 ·exact ok_188
 ·exact ok_197
 ·exact ok_199
 ·exact ok_207
 ·exact ok_215
 ·exact ok_216
 ·exact ok_223
 ·exact ok_225
 ·exact ok_238
 ·exact ok_264
 ·exact ok_266
 ·exact ok_268
 ·simp at h
structure Known where
 Γ : FuncId → Option Ct
 ok : ∀ g ct, Γ g = some ct → Sound Tryz.prog g ct ∧ EnterOk Tryz.prog g
def Known.nil : Known := ⟨fun _ => none, fun _ _ h => by cases h⟩
def Known.cons (K : Known) (f : FuncId) (ct : Ct) (h : Sound Tryz.prog f ct) (he : EnterOk Tryz.prog f) : Known :=
 ⟨fun g => if g = f then some ct else K.Γ g, fun g c hg => by
  split at hg
  ·rename_i he'; cases hg; subst he'; exact ⟨h, he⟩
  ·exact K.ok g c hg⟩
theorem Known.env (K : Known) (sk : List Nat) : EnvOk Tryz.prog ⟨ti, K.Γ, sk⟩ := ⟨fun t h => ti_ok t h, K.ok⟩
end Go.Proofs.YtfmjgoeclilcnaaGreatDoor
