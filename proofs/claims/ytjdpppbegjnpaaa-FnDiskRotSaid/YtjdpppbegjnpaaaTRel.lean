/- What the evaluator's values and objects say of memory. -/
import Derived.Test.YtjdpppbegjnpaaaTCore
import Derived.Below
import Derived.Laws.Sem
set_option linter.unusedSimpArgs false
set_option linter.unusedVariables false
set_option linter.unusedSectionVars false
namespace Go.Proofs.Ytjdpppbegjnpaaa
open Go.RowKit

/-- Where the objects lie, and which blocks belong to callers further out. -/
structure Phi where
  f : Nat → Option (Nat × Nat)
  fr : Nat → Prop
instance : CoeFun Phi fun _ => Nat → Option (Nat × Nat) := ⟨Phi.f⟩
abbrev Tab := Nat → Option Obj

/-- A block that one of the own objects lies in. -/
def Own (φ : Phi) (T : Tab) (b : Nat) : Prop := ∃ k base, T k ≠ none ∧ φ k = some (b, base)
/-- A block that was there and that nobody writes to. -/
def Imm (φ : Phi) (T : Tab) (w : World) (b : Nat) : Prop := b < w.heap.size ∧ ¬ Own φ T b ∧ ¬ φ.fr b
def CellsAt (w : World) (b o : Nat) (cs : List Value) : Prop := ∀ i v, cs[i]? = some v → w.cell? ⟨b, o + i, none⟩ = some v

def CapR (φ : Phi) : Nat × Nat → Value → Prop
  | (k, off), v => ∃ b base, φ k = some (b, base) ∧ v = .pointer (some ⟨b, base + off, none⟩)
def All2 {α β : Type} (R : α → β → Prop) : List α → List β → Prop
  | [], [] => True
  | a :: as, b :: bs => R a b ∧ All2 R as bs
  | _, _ => False

def sizeAt (w : World) (b : Nat) : Nat := match w.heap[b]? with
  | some (.cells c _ _) => c.size
  | _ => 0

def CR (φ : Phi) (T : Tab) (w : World) : TC → Value → Prop
  | .val u, v => v = u
  | .ptr k off, v => CapR φ (k, off) v
  | .eptr k sz i j, v => CapR φ (k, i * sz + j) v
  | .osl t k off len, v => ∃ a cap, v = .slice a len cap ∧ len ≤ cap ∧ (a = none → cap = 0) ∧ (∀ ad, a = some ad → ad.spot = none) ∧
      (cap ≠ 0 → ∃ b base, φ k = some (b, base) ∧ a = some ⟨b, base + off * t.sz, none⟩ ∧ base + (off + cap) * t.sz ≤ sizeAt w b)
  | .isl t xs, v => ∃ a cap, v = .slice a xs.length cap ∧ xs.length ≤ cap ∧ (a = none → cap = 0) ∧ (∀ ad, a = some ad → ad.spot = none) ∧
      (xs ≠ [] → ∃ b o, a = some ⟨b, o, none⟩ ∧ Imm φ T w b ∧ CellsAt w b o (xs.flatMap t.cells))
  | .ip cs off, v => ∃ b o, v = .pointer (some ⟨b, o + off, none⟩) ∧ Imm φ T w b ∧ CellsAt w b o cs
  | .fn f caps, v => ∃ vs, v = .func (.func f) #[] vs ∧ All2 (CapR φ) caps vs.toList
  | .ifc, v => ∃ t u, v = .iface t u
  | .nb p q, v => ∃ b, v = .bool b ∧ (b = true → p) ∧ (b = false → q)
  | .any, _ => True

mutual
def VR (φ : Phi) (T : Tab) (w : World) : TV → Value → Prop
  | .one c, v => CR φ T w c v
  | .agg cs, v => ∃ vs, v = .agg vs ∧ All2 (CR φ T w) cs vs.toList
  | .tup l, v => ∃ vs, v = .tuple vs ∧ VRs φ T w l vs.toList
  | .gd c u, v => (c = true → VR φ T w u v) ∧ (c = false → v = undef)
def VRs (φ : Phi) (T : Tab) (w : World) : List TV → List Value → Prop
  | [], [] => True
  | a :: as, b :: bs => VR φ T w a b ∧ VRs φ T w as bs
  | _, _ => False
end

/-- The block lies there, whole, none of it frozen. -/
def Cells (w : World) (b : Nat) (c : Array Value) : Prop := ∃ e fr, w.heap[b]? = some (.cells c e fr) ∧ ∀ j, j < c.size → ¬ (fr.1 ≤ j ∧ j < fr.2)

def ObjR (φ : Phi) (T : Tab) (w : World) (k : Nat) : Obj → Prop
  | .cells cs => ∃ b base c, φ k = some (b, base) ∧ Cells w b c ∧ ∀ i tc, cs[i]? = some tc → ∃ v, c[base + i]? = some v ∧ CR φ T w tc v
  | .arr t xs => (φ k = none ∧ xs = []) ∨ ∃ b base c, φ k = some (b, base) ∧ Cells w b c ∧ ∀ i v, (xs.flatMap t.cells)[i]? = some v → c[base + i]? = some v

structure Rel (φ : Phi) (T : Tab) (w : World) : Prop where
  obj : ∀ k o, T k = some o → ObjR φ T w k o
  inj : ∀ k k' b base base', T k ≠ none → T k' ≠ none → φ k = some (b, base) → φ k' = some (b, base') → k = k'
  frd : ∀ b, φ.fr b → b < w.heap.size ∧ ¬ Own φ T b

/-- From one state of memory to a later one. -/
structure Ge (φ : Phi) (T : Tab) (w : World) (φ' : Phi) (T' : Tab) (w' : World) : Prop where
  os : w'.os = w.os
  tape : w'.tape = w.tape
  output : w'.output = w.output
  size : w.heap.size ≤ w'.heap.size
  phi : ∀ k p, φ k = some p → φ' k = some p
  block : ∀ b, b < w.heap.size → ¬ Own φ T b → w'.heap[b]? = w.heap[b]?
  own : ∀ b, b < w.heap.size → Own φ' T' b → Own φ T b
  sizes : ∀ b, b < w.heap.size → sizeAt w' b = sizeAt w b
  fr : ∀ b, φ'.fr b ↔ φ.fr b

theorem Ge.refl (φ : Phi) (T : Tab) (w : World) : Ge φ T w φ T w :=
  ⟨rfl, rfl, rfl, Nat.le_refl _, fun _ _ h => h, fun _ _ _ => rfl, fun _ _ h => h, fun _ _ => rfl, fun _ => Iff.rfl⟩
theorem Ge.trans {φ φ' φ'' : Phi} {T T' T'' : Tab} {w w' w'' : World} (h : Ge φ T w φ' T' w') (k : Ge φ' T' w' φ'' T'' w'') : Ge φ T w φ'' T'' w'' where
  os := k.os.trans h.os
  tape := k.tape.trans h.tape
  output := k.output.trans h.output
  size := Nat.le_trans h.size k.size
  phi := fun i p hp => k.phi i p (h.phi i p hp)
  block := fun b hb hn => (k.block b (Nat.lt_of_lt_of_le hb h.size) (fun ho => hn (h.own b hb ho))).trans (h.block b hb hn)
  own := fun b hb ho => h.own b hb (k.own b (Nat.lt_of_lt_of_le hb h.size) ho)
  sizes := fun b hb => (k.sizes b (Nat.lt_of_lt_of_le hb h.size)).trans (h.sizes b hb)
  fr := fun b => (k.fr b).trans (h.fr b)

section
variable {φ φ' : Phi} {T T' : Tab} {w w' : World}

theorem All2.mono {α β : Type} {R S : α → β → Prop} (h : ∀ a b, R a b → S a b) : ∀ {as bs}, All2 R as bs → All2 S as bs
  | [], [], _ => trivial
  | _ :: _, _ :: _, ⟨x, y⟩ => ⟨h _ _ x, y.mono h⟩
  | [], _ :: _, x => x.elim
  | _ :: _, [], x => x.elim
theorem All2.length {α β : Type} {R : α → β → Prop} : ∀ {as : List α} {bs : List β}, All2 R as bs → as.length = bs.length
  | [], [], _ => rfl
  | _ :: _, _ :: _, ⟨_, y⟩ => by simp [y.length]
  | [], _ :: _, x => x.elim
  | _ :: _, [], x => x.elim
theorem All2.get {α β : Type} {R : α → β → Prop} : ∀ {as : List α} {bs : List β}, All2 R as bs → ∀ (i : Nat) (a : α), as[i]? = some a → ∃ b, bs[i]? = some b ∧ R a b
  | [], [], _, i, a, h => by simp at h
  | a :: as, b :: bs, ⟨x, _⟩, 0, c, h => by simp at h; subst h; exact ⟨b, rfl, x⟩
  | _ :: _, _ :: _, ⟨_, y⟩, i + 1, c, h => by simpa using y.get i c (by simpa using h)
  | [], _ :: _, x, _, _, _ => x.elim
  | _ :: _, [], x, _, _, _ => x.elim
theorem All2.of_get {α β : Type} {R : α → β → Prop} : ∀ {as : List α} {bs : List β}, as.length = bs.length → (∀ (i : Nat) a b, as[i]? = some a → bs[i]? = some b → R a b) → All2 R as bs
  | [], [], _, _ => trivial
  | a :: as, b :: bs, hl, h => ⟨h 0 a b rfl rfl, All2.of_get (by simpa using hl) fun i a b ha hb => h (i + 1) a b (by simpa using ha) (by simpa using hb)⟩
  | [], _ :: _, hl, _ => by simp at hl
  | _ :: _, [], hl, _ => by simp at hl

theorem Imm.mono (g : Ge φ T w φ' T' w') {b : Nat} (h : Imm φ T w b) : Imm φ' T' w' b :=
  ⟨Nat.lt_of_lt_of_le h.1 g.size, fun ho => h.2.1 (g.own b h.1 ho), fun hf => h.2.2 ((g.fr b).1 hf)⟩
theorem CellsAt.mono (g : Ge φ T w φ' T' w') {b o : Nat} {cs : List Value} (hi : Imm φ T w b) (h : CellsAt w b o cs) : CellsAt w' b o cs := by
  intro i v hv
  rw [World.cell?_of_block (w := w) (g.block b hi.1 hi.2.1)]
  exact h i v hv
theorem CapR.mono (h : ∀ k p, φ k = some p → φ' k = some p) {q : Nat × Nat} {v : Value} (x : CapR φ q v) : CapR φ' q v := by
  obtain ⟨k, off⟩ := q
  obtain ⟨b, base, hk, hv⟩ := x
  exact ⟨b, base, h _ _ hk, hv⟩
theorem sizeAt_lt {b n : Nat} (h : 0 < n) (hb : n ≤ sizeAt w b) : b < w.heap.size := by
  unfold sizeAt at hb
  rcases Nat.lt_or_ge b w.heap.size with hl | hl
  · exact hl
  · rw [Array.getElem?_eq_none hl] at hb; simp at hb; omega
theorem ET.sz_pos (t : ET) : 0 < t.sz := by cases t <;> decide
theorem ET.cells_len (t : ET) (x : t.α) : (t.cells x).length = t.sz := by
  cases t <;> simp [ET.cells, ET.sz, Ptr.cells]
  rw [List.map_const', List.sum_replicate_nat]; simp
theorem cells_one (t : ET) (x : t.α) (v : Value) (h : v ∈ t.cells x) : v.oneCell' = true := by
  cases t <;> simp [ET.cells, Ptr.cells] at h <;> (try (rcases h with h | h | h | h | h <;> subst h <;> rfl)) <;> (try (rcases h with h | h | h <;> subst h <;> rfl)) <;> (try (subst h; rfl))
  · rcases h with h | h | h | ⟨a, -, h⟩ <;> subst h <;> rfl
  · rcases h with h | h | h | ⟨a, -, h⟩ | h | h | h | h <;> (try (subst h; rfl))
    rcases h with h | h | h <;> subst h <;> rfl
theorem flat_get (t : ET) : ∀ (xs : List t.α) (i q : Nat) (hi : i < xs.length), q < t.sz → (xs.flatMap t.cells)[i * t.sz + q]? = (t.cells xs[i])[q]?
  | [], i, q, hi, _ => by simp at hi
  | x :: xs, 0, q, _, hq => by
    have := ET.cells_len t x
    simp only [List.flatMap_cons, Nat.zero_mul, Nat.zero_add, List.getElem_cons_zero]
    rw [List.getElem?_append_left (by omega)]
  | x :: xs, i + 1, q, hi, hq => by
    have hl := ET.cells_len t x
    simp only [List.flatMap_cons, List.getElem_cons_succ]
    rw [List.getElem?_append_right (by rw [hl, Nat.succ_mul]; omega), hl, show (i + 1) * t.sz + q - t.sz = i * t.sz + q by rw [Nat.succ_mul]; omega]
    exact flat_get t xs i q (by simpa using hi) hq
theorem flat_len (t : ET) : ∀ (xs : List t.α), (xs.flatMap t.cells).length = xs.length * t.sz
  | [] => by simp
  | x :: xs => by simp only [List.flatMap_cons, List.length_append, flat_len t xs, ET.cells_len, List.length_cons, Nat.add_mul, Nat.one_mul, Nat.add_comm]
theorem CR.mono (g : Ge φ T w φ' T' w') {c : TC} {v : Value} (h : CR φ T w c v) : CR φ' T' w' c v := by
  cases c with
  | val u => exact h
  | ptr k off => exact CapR.mono (q := (k, off)) g.phi h
  | eptr k sz i j => exact CapR.mono (q := (k, i * sz + j)) g.phi h
  | osl t k off len =>
    obtain ⟨a, cap, h1, h2, h3, h4, h5⟩ := h
    refine ⟨a, cap, h1, h2, h3, h4, fun hc => ?_⟩
    obtain ⟨b, base, hk, ha, hs⟩ := h5 hc
    refine ⟨b, base, g.phi _ _ hk, ha, ?_⟩
    have hp : 0 < base + (off + cap) * t.sz := by have := Nat.mul_pos (show 0 < off + cap by omega) t.sz_pos; omega
    rw [g.sizes b (sizeAt_lt hp hs)]; exact hs
  | isl t xs =>
    obtain ⟨a, cap, h1, h2, h3, h4, h5⟩ := h
    refine ⟨a, cap, h1, h2, h3, h4, fun hc => ?_⟩
    obtain ⟨b, o, ha, hi, hcs⟩ := h5 hc
    exact ⟨b, o, ha, hi.mono g, hcs.mono g hi⟩
  | ip cs off =>
    obtain ⟨b, o, hv, hi, hcs⟩ := h
    exact ⟨b, o, hv, hi.mono g, hcs.mono g hi⟩
  | fn f caps =>
    obtain ⟨vs, hv, ha⟩ := h
    exact ⟨vs, hv, ha.mono fun q v => CapR.mono g.phi⟩
  | ifc => exact h
  | nb p q => exact h
  | any => trivial
mutual
theorem VR.mono (g : Ge φ T w φ' T' w') : ∀ {x : TV} {v : Value}, VR φ T w x v → VR φ' T' w' x v
  | .one c, v, h => by unfold VR at *; exact CR.mono g h
  | .agg cs, v, h => by
    unfold VR at *
    obtain ⟨vs, hv, ha⟩ := h
    exact ⟨vs, hv, ha.mono fun _ _ => CR.mono g⟩
  | .tup l, v, h => by
    unfold VR at *
    obtain ⟨vs, hv, ha⟩ := h
    exact ⟨vs, hv, VRs.mono g ha⟩
  | .gd c u, v, h => by
    unfold VR at *
    exact ⟨fun hc => VR.mono g (h.1 hc), h.2⟩
theorem VRs.mono (g : Ge φ T w φ' T' w') : ∀ {x : List TV} {v : List Value}, VRs φ T w x v → VRs φ' T' w' x v
  | [], [], _ => by unfold VRs; trivial
  | _ :: _, _ :: _, h => by unfold VRs at *; exact ⟨VR.mono g h.1, VRs.mono g h.2⟩
  | [], _ :: _, h => by unfold VRs at h; exact h.elim
  | _ :: _, [], h => by unfold VRs at h; exact h.elim
end
end
end Go.Proofs.Ytjdpppbegjnpaaa
