/- Conversions. -/
import Derived.Test.YtjdpppbegjnpaaaTOps11
import Derived.Laws.BytesString
set_option linter.unusedSimpArgs false
set_option linter.unusedVariables false
set_option linter.unusedSectionVars false
namespace Go.Proofs.Ytjdpppbegjnpaaa
open Go.RowKit

theorem flat_bytes : ∀ (xs : List UInt8), (show List ET.byte.α from xs).flatMap ET.byte.cells = xs.map fun b => .int .u8 b.toNat
  | [] => rfl
  | x :: xs => by
    have := flat_bytes xs
    simp only [List.flatMap_cons, List.map_cons]
    rw [this]; rfl
theorem fold_bytes : ∀ (xs : List UInt8) (s : ByteArray), ((xs.map fun b => (b.toNat : Int)).foldl (fun r n => r.push (UInt8.ofNat n.toNat)) s) = ⟨s.data ++ xs.toArray⟩
  | [], s => by simp
  | x :: xs, s => by
    rw [List.map_cons, List.foldl_cons, fold_bytes xs]
    congr 1
    apply Array.ext'
    simp [ByteArray.push]

section
variable {P : Program} {ti : TypeId → TI} (hti : ∀ t, ((ti t).k ≠ .other ∨ 0 < (ti t).sz) → TIok P t (ti t))
variable {φ : Phi} {T : Tab} {w : World} {n : Nat} {rd : Nat → Option Obj} (hrel : Rel φ T w)
include hti hrel

theorem convv_ran {src dst : TypeId} {x : TV} {v : Value} (hfresh : (convv ti rd n src dst x).news ≠ [] → φ n = none ∧ T n = none) (hrd : ∀ k, k ∈ refsV true x → T k = rd k) (hx : VR φ T w x v) (hp : (convv ti rd n src dst x).pre) :
    Ran P φ T w n (convv ti rd n src dst x) (convert src dst v) := by
  unfold convv at hp hfresh ⊢
  split at hp
  · rename_i k0 k k' i hs hd
    have ok1 := hti src (.inl (by rw [hs]; simp))
    have ok2 := hti dst (.inl (by rw [hd]; simp))
    have h1 : P.underlying src = some (.int k0) := by have := ok1.kind; rwa [hs] at this
    have h2 : P.underlying dst = some (.int k) := by have := ok2.kind; rwa [hd] at this
    simp only [VR, CR] at hx; subst hx
    refine Ran.pure hrel ⟨rfl, rfl⟩ ⟨_, ?_, rfl⟩
    simp [convert, run_under' h1, run_under' h2, Conv.intToInt]
  · rename_i s hs hd
    have ok1 := hti src (.inl (by rw [hs]; simp))
    have ok2 := hti dst (.inl (by rw [hd]; simp))
    have h1 : P.underlying src = some .string := by have := ok1.kind; rwa [hs] at this
    have h2 : P.underlying dst = some .string := by have := ok2.kind; rwa [hd] at this
    simp only [VR, CR] at hx; subst hx
    refine Ran.pure hrel ⟨rfl, rfl⟩ ⟨_, ?_, rfl⟩
    simp [convert, run_under' h1, run_under' h2]
  · rename_i e s hs hd
    have ok1 := hti src (.inl (by rw [hs]; simp))
    have ok2 := hti dst (.inl (by rw [hd]; simp))
    have h1 : P.underlying src = some .string := by have := ok1.kind; rwa [hs] at this
    have h2 : P.underlying dst = some (.slice e) := by have := ok2.kind; rwa [hd] at this
    obtain ⟨hk, hsz⟩ := hp
    obtain ⟨hn, hTn⟩ := hfresh (by simp [hs, hd])
    have oke := hti e (.inr (by omega))
    have h3 : P.underlying e = some (.int .u8) := by have := oke.kind; rwa [hk] at this
    simp only [VR, CR] at hx; subst hx
    obtain ⟨nc, hnc⟩ : ∃ nc, nc = (Question.appendCap s.size 0 e).cut (w.tape w.drawn (.appendCap s.size 0 e)) := ⟨_, rfl⟩
    have hge : s.size ≤ nc := by rw [hnc]; simp only [Question.cut]; omega
    have h0 : Rel φ T { w with drawn := w.drawn + 1 } := hrel.of_heap rfl rfl rfl rfl
    let cs : Array Value := s.data.map (fun b => .int .u8 b.toNat) ++ Array.replicate (nc - s.size) (.int .u8 0)
    have hcs : cs.size = nc := by simp only [cs, Array.size_append, Array.size_map, Array.size_replicate]; show s.size + _ = _; omega
    obtain ⟨r1, r2, r3, r4⟩ := new_obj h0 hn hTn e cs (.arr .byte s.data.toList) (cs.size, cs.size + 1) (fun j hj => by simp; omega) fun φ' T' w' g hφ hC => .inr ⟨_, _, _, hφ, hC, fun i v hv => by
      rw [flat_bytes] at hv
      simp only [Nat.zero_add, cs]
      rw [Array.getElem?_append_left]
      · simpa using hv
      · have := (List.getElem?_eq_some_iff.1 hv).1; simpa using this⟩
    have hge0 : Ge φ T w φ T { w with drawn := w.drawn + 1 } := Ge.of_heap rfl rfl rfl rfl
    refine ⟨.slice (some ⟨w.heap.size, 0, none⟩) s.size nc, _, _, ?_, ?_, r1, hge0.trans r2, r3, fun b hb _ => r4 b hb⟩
    · simp only [convert, Sem.run_bind, run_under' h1, run_under' h2, run_under' h3, Result.andThen_ok, Conv.stringToBytes]
      have hch : (choose (.appendCap s.size 0 e)).run P w = .ok nc { w with drawn := w.drawn + 1 } := by
        simp [choose, Sem.run, Question.forced, hnc]
      simp only [hch, Result.andThen_ok, newRow, newObj, Sem.run_bind, Sem.run, Sem.run_pure, markStringish, shape, freeze]
      simp [World.shape?, World.freeze, cs, Sem.run]
      apply Array.ext_getElem?
      intro j
      rw [Array.getElem?_modify, Array.getElem?_push, Array.getElem?_push]
      by_cases hj : w.heap.size = j
      · subst hj; simp
      · rw [if_neg hj]
        by_cases hj' : j = w.heap.size
        · exact absurd hj'.symm hj
        · rw [if_neg hj', if_neg hj']
    · simp only [VR, CR]
      refine ⟨_, nc, rfl, hge, fun h => by simp at h, fun ad h => by simp at h; rw [← h], fun _ => ⟨w.heap.size, 0, by simp [putPhi], by simp, ?_⟩⟩
      unfold sizeAt
      simp only [Array.getElem?_push_size, hcs, ET.sz]
      omega
  · rename_i e c hs hd
    split at hp
    · rename_i xs hxs
      have ok1 := hti src (.inl (by rw [hs]; simp))
      have ok2 := hti dst (.inl (by rw [hd]; simp))
      have h1 : P.underlying src = some (.slice e) := by have := ok1.kind; rwa [hs] at this
      have h2 : P.underlying dst = some .string := by have := ok2.kind; rwa [hd] at this
      obtain ⟨hk, hsz⟩ := hp
      have oke := hti e (.inr (by omega))
      have h3 : P.underlying e = some (.int .u8) := by have := oke.kind; rwa [hk] at this
      simp only [VR] at hx
      obtain ⟨a, cap, rfl, hcap, hnone, hspot, hne⟩ := content_at hrel (fun k hk => hrd k (by simpa [refsV] using hk)) hx hxs
      refine Ran.pure hrel ⟨rfl, rfl⟩ ⟨.string ⟨xs.toArray⟩, ?_, rfl⟩
      simp only [convert, Sem.run_bind, run_under' h1, run_under' h2, run_under' h3, Result.andThen_ok]
      cases a with
      | none =>
        have hx0 : xs = [] := by
          cases xs with
          | nil => rfl
          | cons y ys => obtain ⟨b, o, hab, -⟩ := hne (by simp); cases hab
        subst hx0
        rfl
      | some ad =>
        have hload : (loadCells ad xs.length).run P w = .ok ((xs.map fun b => (b.toNat : Int)).map (Value.int .u8)).toArray w := by
          cases xs with
          | nil => simp [loadCells, loadCellsFrom]
          | cons y ys =>
            obtain ⟨b, o, hab, hcs⟩ := hne (by simp)
            cases hab
            have := run_loadCells_list (P := P) w ⟨b, o, none⟩ ((y :: ys).map fun b => Value.int .u8 b.toNat) (fun j v hv => by rw [add_addr]; exact hcs j v (by rw [← flat_bytes] at hv; exact hv))
            rw [List.length_map] at this
            rw [List.map_map]; exact this
        rw [run_bytesToString w ad _ cap _ hload, fold_bytes]
        simp
    · exact hp.elim
  · exact hp.elim
end
end Go.Proofs.Ytjdpppbegjnpaaa
