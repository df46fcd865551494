/- Plain facts: books. -/
import Derived.Test.YtfmeopnankeaeaaDoorTFbn
import Derived.Test.YtfmeopnankeaeaaDoorTEl
import Derived.Sort.Walk0
set_option linter.unusedSimpArgs false
set_option linter.unusedVariables false
set_option linter.unusedSectionVars false
namespace Go.Proofs.YtfmeopnankeaeaaDoor
open Go.RowKit

def long24 (t : ByteArray) : Bool := decide ((t.size : Int) > 24)
noncomputable def atB (xs : List BSet) (name : ByteArray) : Int := firstAt (fun x => same x.name name) xs
/-- The set of that name, or none. -/
noncomputable def setOf (xs : List BSet) (name : ByteArray) : BSet := xs.getD (atB xs name).toNat ET.bset.dflt
/-- Does following From lead to a volume without one, in so many rounds? -/
noncomputable def leadsN (xs : List BSet) : Nat → BSet → Bool
  | 0, _ => false
  | n + 1, s => if same s.from_ ⟨#[]⟩ = true then s.kind == 1 else if atB xs s.from_ < 0 ∨ (setOf xs s.from_).kind = s.kind then false else leadsN xs n (setOf xs s.from_)
def big8 (x : BSet) : Bool := [x.blocks.x0, x.blocks.x1, x.blocks.x2, x.blocks.x3, x.blocks.x4, x.blocks.x5, x.blocks.x6, x.blocks.x7].any long24
def lessB (a b : ByteArray) : Bool := Op.bytesLess a.toList b.toList
/-- The set of place i is well formed. -/
structure SetOk (xs : List BSet) (i : Nat) : Prop where
  name : nameB (xs.getD i ET.bset.dflt).name = true
  less : 0 < i → lessB (xs.getD (i - 1) ET.bset.dflt).name (xs.getD i ET.bset.dflt).name = true
  kind : (xs.getD i ET.bset.dflt).kind = 1 ∨ (xs.getD i ET.bset.dflt).kind = 2
  small : big8 (xs.getD i ET.bset.dflt) = false
structure BookP (xs : List BSet) : Prop where
  few : xs.length ≤ 6
  each : ∀ i, i < xs.length → SetOk xs i
  leads : xs.any (fun s => !leadsN xs xs.length s) = false
noncomputable def bookB (xs : List BSet) : Bool := @decide (BookP xs) (Classical.propDecidable _)
theorem bookB_true {xs : List BSet} : bookB xs = true ↔ BookP xs := by simp [bookB]
theorem bookB_false {xs : List BSet} : bookB xs = false ↔ ¬ BookP xs := by simp [bookB]
theorem bad_expr (A B k1 k2 G : Bool) (P : Prop) [Decidable P] : (if (if (if (!A) = true then true else if P then !B else false) = true then true else if k1 = true then k2 else false) = true then true else G) = false ↔ A = true ∧ (P → B = true) ∧ (k1 = false ∨ k2 = false) ∧ G = false := by
  by_cases h : P <;> cases A <;> cases B <;> cases k1 <;> cases k2 <;> cases G <;> simp [h]
end Go.Proofs.YtfmeopnankeaeaaDoor
