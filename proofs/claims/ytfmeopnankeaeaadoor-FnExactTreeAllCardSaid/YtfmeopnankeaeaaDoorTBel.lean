/- A contract of plain values: from a library's own contract. -/
import Derived.Test.YtfmeopnankeaeaaDoorTTac
import Derived.Below
set_option linter.unusedSimpArgs false
set_option linter.unusedVariables false
set_option linter.unusedSectionVars false
namespace Go.Proofs.YtfmeopnankeaeaaDoor
open Go.RowKit

def plainV (vals : List Value) : List TV := vals.map fun v => .one (.val v)
theorem plainV_R {φ : Phi} {T : Tab} {w : World} : ∀ {vals rs : List Value}, VRs φ T w (plainV vals) rs → rs = vals
  | [], [], _ => rfl
  | [], _ :: _, h => by simp [plainV, VRs] at h
  | v :: vs, [], h => by simp [plainV, VRs] at h
  | v :: vs, r :: rs, h => by
    simp only [plainV, List.map_cons, VRs, VR, CR] at h
    obtain ⟨rfl, h2⟩ := h
    rw [plainV_R (vals := vs) (rs := rs) h2]
theorem sound_plain {P : Program} {f : FuncId} {ct : Ct} (h : ∀ args os, (ct.spec args os).pre → os = [] ∧ ∃ (vals : List Value) (r : Value), args = plainV vals ∧ ct.spec args os = ⟨(ct.spec args os).pre, .one (.val r), [], []⟩ ∧
    ∀ w, Calls P f vals.toArray w fun e w' => e = .returned r ∧ Below w.heap.size w w') : Sound P f ct := by
  intro args os hp φ w rargs hrel hv hn
  obtain ⟨rfl, vals, r, rfl, hs, hc⟩ := h args os hp
  obtain rfl := plainV_R hv
  refine (hc w).mono ?_
  rintro e w' ⟨rfl, hb⟩
  rw [hs]
  have hT : newT (tabOf []) ([] : List Obj).length ⟨(ct.spec (plainV rargs) []).pre, .one (.val r), [], []⟩ = tabOf [] := by
    funext k; simp [newT, addT, updT]
  have no : ∀ b, ¬ Own φ (tabOf []) b := fun b ⟨k, base, h1, _⟩ => by simp [tabOf] at h1
  have old : ∀ b, b < w.heap.size → w'.heap[b]? = w.heap[b]? := fun b hb' => hb.block b hb'
  refine ⟨r, φ, rfl, by simp only [VR, CR], ?_, ?_, fun k hk => .inl hk, fun b hb' _ => old b hb'⟩
  · rw [hT]
    exact ⟨fun k o h => by simp [tabOf] at h, fun k _ _ _ _ h _ _ _ => by simp [tabOf] at h, fun b h => ⟨Nat.lt_of_lt_of_le (hrel.frd b h).1 hb.size, no b⟩⟩
  · rw [hT]
    exact ⟨hb.os, hb.tape, hb.output, hb.size, fun _ _ h => h, fun b hb' _ => old b hb', fun b _ h => h, fun b hb' => by unfold sizeAt; rw [old b hb'], fun _ => Iff.rfl⟩
end Go.Proofs.YtfmeopnankeaeaaDoor
