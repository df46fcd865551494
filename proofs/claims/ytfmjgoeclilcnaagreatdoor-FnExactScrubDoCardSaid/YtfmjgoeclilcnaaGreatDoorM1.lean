import Derived.IntWalk
import Derived.Laws.BytesString
import Derived.Test.YtfmjgoeclilcnaaGreatDoorM0
set_option linter.unusedSimpArgs false
set_option linter.unusedVariables false
set_option linter.unusedSectionVars false
namespace Go.Proofs.YtfmjgoeclilcnaaGreatDoor
open Go.RowKit
theorem Ge.of_heap {φ : Phi} {T : Tab} {w w' : World} (h : w'.heap = w.heap) (h1 : w'.os = w.os) (h2 : w'.tape = w.tape) (h3 : w'.output = w.output) : Ge φ T w φ T w' :=
 ⟨h1, h2, h3, by rw [h]; exact Nat.le_refl _, fun _ _ h => h, fun b _ _ => by rw [h], fun _ _ h => h, fun b _ => by unfold sizeAt; rw [h], fun _ => Iff.rfl⟩
theorem Rel.of_heap {φ : Phi} {T : Tab} {w w' : World} (hr : Rel φ T w) (h : w'.heap = w.heap) (h1 : w'.os = w.os) (h2 : w'.tape = w.tape) (h3 : w'.output = w.output) : Rel φ T w' :=
 ⟨fun k o hk => (hr.obj k o hk).mono (Ge.of_heap h h1 h2 h3) (fun b _ _ => by rw [h]) fun h => h, hr.inj, Ge.frd hr (Ge.of_heap h h1 h2 h3), Ge.glo hr (Ge.of_heap h h1 h2 h3)⟩
theorem content_at {φ : Phi} {T : Tab} {w : World} {rd : Nat → Option Obj} (hrel : Rel φ T w) {t : ET} {c : TC} {v : Value} {xs : List t.α} (hrd : ∀ k, k ∈ refsC true c → T k = rd k) (hv : CR φ T w c v) (hc : content rd t c = some xs) :
  ∃ a cap, v = .slice a xs.length cap ∧ xs.length ≤ cap ∧ (a = none → cap = 0) ∧ (∀ ad, a = some ad → ad.spot = none) ∧ (xs ≠ [] → ∃ b o, a = some ⟨b, o, none⟩ ∧ CellsAt w b o (xs.flatMap t.cells)) := by
 unfold content at hc
 split at hc
 ·rename_i t' ys
  split at hc
  ·rename_i h
   subst h; cases hc
   obtain ⟨a, cap, h1, h2, h3, h4, h5⟩ := hv
   exact ⟨a, cap, h1, h2, h3, h4, fun hne => by obtain ⟨b, o, ha, -, hcs⟩ := h5 hne; exact ⟨b, o, ha, hcs⟩⟩
  ·exact absurd hc (by simp)
 ·rename_i t' k off len
  have hk := hrd k (by simp [refsC])
  split at hc
  ·rename_i t'' ys hcs
   split at hc
   ·rename_i h
    subst h
    split at hc
    ·rename_i h'
     subst h'
     split at hc
     ·rename_i hin
      cases hc
      obtain ⟨a, cap, rfl, h2, h3, h4, h5⟩ := hv
      have hl : ((ys.drop off).take len).length = len := by simp; omega
      refine ⟨a, cap, by rw [hl], by rw [hl]; exact h2, h3, h4, fun hne => ?_⟩
      have hpos : len ≠ 0 := by intro h; rw [h] at hne; simp at hne
      obtain ⟨b, base, hφ, rfl, hs⟩ := h5 (by omega)
      refine ⟨b, base + off * t'.sz, rfl, fun i u hu => ?_⟩
      have hT := hk.trans hcs
      rcases hrel.obj k _ hT with ⟨hn, -⟩ | ⟨b', base', c, hφ', hC, hcells⟩
      ·rw [hφ] at hn; cases hn
      rw [hφ] at hφ'; cases hφ'
      rw [cell_of_Cells hC, Nat.add_assoc]
      exact hcells _ _ (flat_part t' ys off len i u hu)
     ·exact absurd hc (by simp)
    ·exact absurd hc (by simp)
   ·exact absurd hc (by simp)
  ·exact absurd hc (by simp)
 ·cases hc
  cases hv
  exact ⟨none, 0, rfl, Nat.le_refl _, fun _ => rfl, fun _ h => by simp at h, fun h => absurd rfl h⟩
 ·exact absurd hc (by simp)
theorem cellsStr_get : ∀ {cs : List TC} {xs : List ByteArray}, cellsStr cs = some xs → cs = (xs.flatMap ET.str.cells).map TC.val
 | [], xs, h => by simp [cellsStr] at h; subst h; rfl
 | c :: r, xs, h => by
   unfold cellsStr at h
   split at h
   ·rename_i he; cases he
   ·rename_i s r' he
    cases he
    simp only [Option.map_eq_some_iff] at h
    obtain ⟨ys, hy, rfl⟩ := h
    rw [cellsStr_get hy]; rfl
   ·cases h
theorem cellsPtr_get (n : Nat) : ∀ {cs : List TC} {xs : List Ptr}, cs.length ≤ n → cellsPtr cs = some xs → cs = (xs.flatMap ET.ptr.cells).map TC.val := by
 induction n with
 | zero =>
   intro cs xs hl h
   obtain rfl := List.length_eq_zero_iff.1 (Nat.le_zero.1 hl)
   simp [cellsPtr] at h; subst h; rfl
 | succ n ih =>
   intro cs xs hl h
   unfold cellsPtr at h
   split at h
   ·simp at h; subst h; rfl
   ·rename_i a b c r
    simp only [Option.map_eq_some_iff] at h
    obtain ⟨ys, hy, rfl⟩ := h
    have := ih (by simp only [List.length_cons] at hl; omega) hy
    rw [this]; rfl
   ·cases h
theorem cellsE_get {t : ET} {cs : List TC} {xs : List t.α} (h : cellsE t cs = some xs) : cs = (xs.flatMap t.cells).map TC.val := by
 cases t with
 | str => exact cellsStr_get h
 | ptr => exact cellsPtr_get _ (Nat.le_refl _) h
 | _ => cases h
theorem contentV_at {φ : Phi} {T : Tab} {w : World} {rd : Nat → Option Obj} (hrel : Rel φ T w) {t : ET} {k off len : Nat} {v : Value} {xs : List t.α} (hrd : T k = rd k) (hv : CR φ T w (.osl t k off len) v) (hc : contentV rd t k off len = some xs) :
  T k ≠ none ∧ ∃ a cap, v = .slice a xs.length cap ∧ xs.length ≤ cap ∧ (a = none → cap = 0) ∧ (∀ ad, a = some ad → ad.spot = none) ∧ (xs ≠ [] → ∃ b o, a = some ⟨b, o, none⟩ ∧ CellsAt w b o (xs.flatMap t.cells)) := by
 unfold contentV at hc
 split at hc
 ·rename_i ys hys
  cases hc
  refine ⟨fun hn => ?_, content_at hrel (fun j hj => by simp [refsC] at hj; subst hj; exact hrd) hv hys⟩
  rw [hrd] at hn
  simp [content, hn] at hys
 ·split at hc
  ·rename_i cs hcs
   split at hc
   ·rename_i hin
    have hT := hrd.trans hcs
    refine ⟨by rw [hT]; simp, ?_⟩
    have h2 := cellsE_get hc
    obtain ⟨a, cap, rfl, k2, k3, k4, k5⟩ := hv
    have hz : 0 < t.sz := t.sz_pos
    have hl : xs.length = len := by
     have h3 := congrArg List.length h2
     rw [List.length_map, flat_len] at h3
     have h4 : (part (off * t.sz) (len * t.sz) cs).length = len * t.sz := by
      simp only [part, List.length_take, List.length_drop]
      rw [Nat.add_mul] at hin
      omega
     rw [h4] at h3
     exact (Nat.eq_of_mul_eq_mul_right hz h3).symm
    refine ⟨a, cap, by rw [hl], by rw [hl]; exact k2, k3, k4, fun hne => ?_⟩
    have hpos : len ≠ 0 := by rw [← hl]; intro h0; exact hne (List.length_eq_zero_iff.1 h0)
    obtain ⟨b, base, hφ, rfl, hs⟩ := k5 (by omega)
    refine ⟨b, base + off * t.sz, rfl, fun i u hu => ?_⟩
    obtain ⟨b', base', c, hφ', hC, hcells⟩ := hrel.obj k _ hT
    rw [hφ] at hφ'; cases hφ'
    rw [cell_of_Cells hC]
    have h3 : (part (off * t.sz) (len * t.sz) cs)[i]? = some (.val u) := by
     rw [h2, List.getElem?_map, hu]; rfl
    simp only [part, List.getElem?_take, List.getElem?_drop] at h3
    split at h3
    ·obtain ⟨z, hz1, hr⟩ := hcells _ _ h3
     simp only [CR] at hr
     subst hr
     rw [Nat.add_assoc]; exact hz1
    ·cases h3
   ·cases hc
  ·cases hc
theorem nextcap_le (need old : Nat) (h : old < need) : Builtin.nextslicecap need old ≤ 2 * need + 1024 := by
 have hg : ∀ (r c : Nat), c < need + 0 ∨ c ≤ 2 * need + 1024 → Builtin.growBy need r c ≤ 2 * need + 1024 := by
  intro r
  induction r with
  | zero => intro c hc; simp only [Builtin.growBy]; omega
  | succ r ih =>
    intro c hc
    simp only [Builtin.growBy]
    split
    ·omega
    ·exact ih _ (.inr (by omega))
 unfold Builtin.nextslicecap
 split
 ·omega
 ·split
  ·omega
  ·exact hg _ _ (.inl (by omega))
section
variable {P : Program} {ti : TypeId → TI} (hti : ∀ t, ((ti t).k ≠ .other ∨ 0 < (ti t).sz) → TIok P t (ti t))
variable {φ : Phi} {T : Tab} {w : World} {n : Nat} {rd : Nat → Option Obj} (hrel : Rel φ T w)
include hti hrel
omit hti hrel in
theorem firstCells_run {a : Option Addr} {t : ET} {xs : List t.α} {cap : Nat} {w : World} (hne : xs ≠ [] → ∃ b o, a = some ⟨b, o, none⟩ ∧ CellsAt w b o (xs.flatMap t.cells)) :
  (Builtin.firstCells t.sz xs.length (.slice a xs.length cap)).run P w = .ok (xs.flatMap t.cells).toArray w := by
 by_cases hnil : xs = []
 ·subst hnil
  cases a with
  | none => simp [Builtin.firstCells]
  | some ad => simp [Builtin.firstCells, loadCells, loadCellsFrom]
 ·obtain ⟨b, o, rfl, hcs⟩ := hne hnil
  have := run_loadCells_list (P := P) w ⟨b, o, none⟩ (xs.flatMap t.cells) (fun j v hv => by rw [add_addr]; exact hcs j v hv)
  rw [flat_len] at this
  exact this
omit hti hrel in
theorem append_run {sT xT ty e xe : TypeId} {t : ET} {s x : Value} {a a' : Option Addr} {xs ys : List t.α} {cap cap' : Nat} (hs : s = .slice a xs.length cap) (hx : x = .slice a' ys.length cap')
  (hsT : P.underlying sT = some (.slice e)) (hxT : P.underlying xT = some (.slice xe)) (oke : TIok P e (ti e)) (hsz : (ti e).sz = t.sz) (hb : 0 < (ti e).bytes) (hroom : (2 * (xs.length + ys.length) + 1024) * (ti e).bytes ≤ bytesMax)
  (hle : xs.length ≤ cap)
  (h1 : xs ≠ [] → ∃ b o, a = some ⟨b, o, none⟩ ∧ CellsAt w b o (xs.flatMap t.cells)) (h2 : ys ≠ [] → ∃ b o, a' = some ⟨b, o, none⟩ ∧ CellsAt w b o (ys.flatMap t.cells)) :
  (xs.length + ys.length ≤ cap ∧ (Builtin.append_ #[sT, xT] ty #[s, x]).run P w = Result.andThen ((match a with | some ad => storeCells (ad.add (xs.length * t.sz)) (ys.flatMap t.cells) | none => (pure () : Sem Unit)).run P w) (fun _ w' => .ok (.slice a (xs.length + ys.length) cap) w')) ∨
  (cap < xs.length + ys.length ∧ ∃ (newCap : Nat) (rest : Array Value), xs.length + ys.length ≤ newCap ∧ rest.size = (newCap - (xs.length + ys.length)) * t.sz ∧
   (Builtin.append_ #[sT, xT] ty #[s, x]).run P w = .ok (.slice (some ⟨w.heap.size, 0, none⟩) (xs.length + ys.length) newCap) { w with drawn := w.drawn + 1, heap := w.heap.push (.cells ((xs ++ ys).flatMap t.cells ++ rest.toList).toArray e) }) := by
 subst hs hx
 obtain ⟨i, hi, hisz, hib⟩ := oke.run_info w
 have hfx := firstCells_run (P := P) (cap := cap') h2
 have hfs := firstCells_run (P := P) (cap := cap) h1
 by_cases hc : xs.length + ys.length ≤ cap
 ·left
  refine ⟨hc, ?_⟩
  simp only [Builtin.append_, List.getElem?_toArray, List.getElem?_cons_zero, List.getElem?_cons_succ, Sem.run_bind, run_under' hsT, run_under' hxT, Result.andThen_ok, Sem.run_pure, oke.run_sizeOf, hsz, Builtin.lenOf, Bool.false_eq_true, if_false, if_pos hc, Bool.not_false, if_true, hfx]
  cases a with
  | none => rfl
  | some ad =>
    simp only [Sem.run_bind, List.toList_toArray]
    rfl
 ·right
  refine ⟨by omega, ?_⟩
  obtain ⟨z, hz, hz1, -, -⟩ := oke.run_zero { w with drawn := w.drawn + 1 }
  have hneed : ¬ ((((xs.length + ys.length : Nat) : Int) > IntKind.i64.max) ∧ (False ∨ i.bytes = 0)) := by rw [hib]; simp; omega
  have hcap : ¬ (Builtin.nextslicecap (xs.length + ys.length) cap * i.bytes > 2 ^ 48) := by
   have h1 := nextcap_le (xs.length + ys.length) cap (by omega)
   have h2 := Nat.mul_le_mul_right (ti e).bytes h1
   rw [hib]; unfold bytesMax at hroom; omega
  have hfs' := firstCells_run (P := P) (cap := cap) (w := { w with drawn := w.drawn + 1 }) h1
  have hfx' := firstCells_run (P := P) (cap := cap') (w := { w with drawn := w.drawn + 1 }) h2
  obtain ⟨nc, hnc⟩ : ∃ nc, nc = (Question.appendCap (xs.length + ys.length) cap e).cut (w.tape w.drawn (.appendCap (xs.length + ys.length) cap e)) := ⟨_, rfl⟩
  have hge : xs.length + ys.length ≤ nc := by rw [hnc]; simp only [Question.cut]; omega
  refine ⟨nc, Builtin.zeroCells z.cells (nc - (xs.length + ys.length)), hge, ?_, ?_⟩
  ·have hzs : z.cells.size = t.sz := by rw [← hsz, ← oke.zlen, ← hz1]; simp
   simp [Builtin.zeroCells, hzs]
  ·simp only [Builtin.append_, List.getElem?_toArray, List.getElem?_cons_zero, List.getElem?_cons_succ, Sem.run_bind, run_under' hsT, run_under' hxT, Result.andThen_ok, Sem.run_pure, oke.run_sizeOf, hsz, Builtin.lenOf, Bool.false_eq_true, if_false, if_neg hc, Bool.not_false, if_true, hi, if_neg hneed, if_neg hcap]
   have hch : (choose (.appendCap (xs.length + ys.length) cap e)).run P w = .ok nc { w with drawn := w.drawn + 1 } := by
    simp [choose, Sem.run, Question.forced, hnc]
   have hinfo' : (typeInfo e).run P { w with drawn := w.drawn + 1 } = .ok i { w with drawn := w.drawn + 1 } := by
    obtain ⟨i', hi', -⟩ := oke.info
    have : (typeInfo e).run P w = .ok i' w := by simp [typeInfo, program, Sem.run, hi']
    rw [hi] at this; cases this
    simp [typeInfo, program, Sem.run, hi']
   have hask : ∀ m, (askRoom m).run P { w with drawn := w.drawn + 1 } = .ok () { w with drawn := w.drawn + 1 } := by
    intro m; unfold askRoom; split <;> rfl
   simp only [hch, Result.andThen_ok, hinfo', hask, hfs', hfx', hz]
   simp [newRow, newObj, Sem.run]
   refine ⟨?_, rfl, rfl⟩
   show w.heap.push _ = _
   congr 2
   apply Array.ext'
   simp
end
end Go.Proofs.YtfmjgoeclilcnaaGreatDoor
namespace Go.Proofs.YtfmjgoeclilcnaaGreatDoor
open Go.RowKit
theorem retire {φ : Phi} {T : Tab} {w : World} (hrel : Rel φ T w) (k : Nat) : Rel φ (updT T [(k, none)]) w ∧ Ge φ T w φ (updT T [(k, none)]) w := by
 have hT : ∀ j, updT T [(k, none)] j = none ∨ updT T [(k, none)] j = T j := by
  intro j; simp only [updT]; split <;> simp
 have hge : Ge φ T w φ (updT T [(k, none)]) w := {
  os := rfl, tape := rfl, output := rfl, size := Nat.le_refl _, phi := fun _ _ h => h, block := fun _ _ _ => rfl
  own := by
   rintro b hb ⟨j, c, hj, hφ⟩
   refine ⟨j, c, ?_, hφ⟩
   rcases hT j with h | h
   ·exact absurd h hj
   ·rwa [h] at hj
  sizes := fun _ _ => rfl
  fr := fun _ => Iff.rfl }
 refine ⟨⟨fun j o hj => ?_, fun i j b base base' hi hj hφi hφj => ?_, Ge.frd hrel hge, Ge.glo hrel hge⟩, hge⟩
 ·rcases hT j with h | h
  ·rw [h] at hj; cases hj
  ·exact (hrel.obj j o (by rwa [h] at hj)).mono hge (fun _ _ _ => rfl) fun h => h
 ·refine hrel.inj i j b base base' ?_ ?_ hφi hφj
  ·rcases hT i with h | h
   ·exact absurd h hi
   ·rwa [h] at hi
  ·rcases hT j with h | h
   ·exact absurd h hj
   ·rwa [h] at hj
theorem ghost {φ : Phi} {T : Tab} {w : World} {n : Nat} (hrel : Rel φ T w) (hn : φ n = none) (hT : T n = none) (t : ET) : Rel φ (addT T n [.arr t []]) w ∧ Ge φ T w φ (addT T n [.arr t []]) w := by
 have hge : Ge φ T w φ (addT T n [.arr t []]) w := {
  os := rfl, tape := rfl, output := rfl, size := Nat.le_refl _, phi := fun _ _ h => h, block := fun _ _ _ => rfl
  own := by
   rintro b hb ⟨j, c, hj, hφ⟩
   refine ⟨j, c, ?_, hφ⟩
   by_cases h : j = n
   ·subst h; rw [hn] at hφ; cases hφ
   ·rwa [addT_one_ne T n _ h] at hj
  sizes := fun _ _ => rfl
  fr := fun _ => Iff.rfl }
 have hne : ∀ j b c, addT T n [.arr t []] j ≠ none → φ j = some (b, c) → T j ≠ none := by
  intro j b c hj hφ
  by_cases h : j = n
  ·subst h; rw [hn] at hφ; cases hφ
  ·rwa [addT_one_ne T n _ h] at hj
 refine ⟨⟨fun j o hj => ?_, fun i j b base base' hi hj hφi hφj => hrel.inj i j b base base' (hne _ _ _ hi hφi) (hne _ _ _ hj hφj) hφi hφj, Ge.frd hrel hge, Ge.glo hrel hge⟩, hge⟩
 by_cases h : j = n
 ·subst h; rw [addT_one_self] at hj; cases hj; exact .inl ⟨hn, rfl⟩
 ·rw [addT_one_ne T n _ h] at hj
  exact (hrel.obj j o hj).mono hge (fun _ _ _ => rfl) fun h => h
theorem transfer {φ : Phi} {T : Tab} {w : World} {n k : Nat} (hrel : Rel φ T w) (hn : φ n = none) (hTn : T n = none) {t : ET} {ys : List t.α} (hk : T k = some (.arr t ys)) {b base : Nat} (hφ : φ k = some (b, base)) (off len : Nat) (hin : off + len ≤ ys.length) :
  Rel (putPhi φ n (some (b, base + off * t.sz))) (addT (updT T [(k, none)]) n [.arr t ((ys.drop off).take len)]) w ∧
  Ge φ T w (putPhi φ n (some (b, base + off * t.sz))) (addT (updT T [(k, none)]) n [.arr t ((ys.drop off).take len)]) w := by
 have hnk : k ≠ n := by rintro rfl; rw [hTn] at hk; cases hk
 have hT : ∀ j, j ≠ n → addT (updT T [(k, none)]) n [.arr t ((ys.drop off).take len)] j = if j = k then none else T j := by
  intro j hj
  rw [addT_one_ne _ _ _ hj]
  simp only [updT]
  by_cases h : j = k <;> simp [h, hk]
 have hφ' : ∀ j, j ≠ n → putPhi φ n (some (b, base + off * t.sz)) j = φ j := fun j hj => by simp [putPhi, hj]
 have hφn : putPhi φ n (some (b, base + off * t.sz)) n = some (b, base + off * t.sz) := by simp [putPhi]
 have hge : Ge φ T w (putPhi φ n (some (b, base + off * t.sz))) (addT (updT T [(k, none)]) n [.arr t ((ys.drop off).take len)]) w := {
  os := rfl, tape := rfl, output := rfl, size := Nat.le_refl _, block := fun _ _ _ => rfl
  phi := fun j p hj => by
   rw [hφ' j (by rintro rfl; rw [hn] at hj; cases hj)]; exact hj
  own := by
   rintro b' hb ⟨j, c, hj, hφj⟩
   by_cases h : j = n
   ·subst h; rw [hφn] at hφj; cases hφj; exact ⟨k, base, by rw [hk]; simp, hφ⟩
   ·rw [hφ' j h] at hφj
    rw [hT j h] at hj
    refine ⟨j, c, ?_, hφj⟩
    intro h0; rw [h0] at hj; simp at hj
  sizes := fun _ _ => rfl
  fr := fun _ => Iff.rfl }
 refine ⟨⟨fun j o hj => ?_, fun i j b' c c' hi hj hφi hφj => ?_, Ge.frd hrel hge, Ge.glo hrel hge⟩, hge⟩
 ·by_cases h : j = n
  ·subst h
   rw [addT_one_self] at hj; cases hj
   rcases hrel.obj k _ hk with ⟨h1, -⟩ | ⟨b', base', c, h1, hC, hcells⟩
   ·rw [hφ] at h1; cases h1
   rw [hφ] at h1; cases h1
   exact .inr ⟨b, base + off * t.sz, c, hφn, hC, fun i v hv => by rw [Nat.add_assoc]; exact hcells _ _ (flat_part t ys off len i v hv)⟩
  ·rw [hT j h] at hj
   split at hj
   ·cases hj
   ·exact (hrel.obj j o hj).mono hge (fun _ _ _ => rfl) fun h0 => by rw [hφ' j h]; exact h0
 ·have key : ∀ i, addT (updT T [(k, none)]) n [.arr t ((ys.drop off).take len)] i ≠ none → i ≠ n → T i ≠ none ∧ i ≠ k := by
   intro i hi hne
   rw [hT i hne] at hi
   by_cases h : i = k
   ·rw [if_pos h] at hi; exact absurd rfl hi
   ·rw [if_neg h] at hi; exact ⟨hi, h⟩
  by_cases h : i = n
  ·by_cases h' : j = n
   ·rw [h, h']
   ·obtain ⟨h1, h2⟩ := key j hj h'
    subst h; rw [hφn] at hφi; cases hφi
    rw [hφ' j h'] at hφj
    exact absurd (hrel.inj j k _ _ _ h1 (by rw [hk]; simp) hφj hφ) h2
  ·obtain ⟨h1, h2⟩ := key i hi h
   rw [hφ' i h] at hφi
   by_cases h' : j = n
   ·subst h'; rw [hφn] at hφj; cases hφj
    exact absurd (hrel.inj i k _ _ _ h1 (by rw [hk]; simp) hφi hφ) h2
   ·obtain ⟨h3, -⟩ := key j hj h'
    rw [hφ' j h'] at hφj
    exact hrel.inj i j b' c c' h1 h3 hφi hφj
theorem upd_add (T : Tab) (n : Nat) (o o' : Obj) : updT (addT T n [o]) [(n, some o')] = addT T n [o'] := by
 funext j
 simp only [updT]
 by_cases h : j = n
 ·subst h; simp [addT_one_self]
 ·rw [addT_one_ne T n _ h, addT_one_ne T n _ h]; simp [h]
section
variable {P : Program} {ti : TypeId → TI} (hti : ∀ t, ((ti t).k ≠ .other ∨ 0 < (ti t).sz) → TIok P t (ti t))
variable {φ : Phi} {T : Tab} {w : World} {n : Nat} {rd : Nat → Option Obj} (hrel : Rel φ T w)
include hti hrel
theorem new_row {e : TypeId} {t : ET} {zs : List t.α} {rest : List Value} {k : Option Nat} (hn : φ n = none) (hT : T n = none) :
  let w' : World := { w with drawn := w.drawn + 1, heap := w.heap.push (.cells (zs.flatMap t.cells ++ rest).toArray e) }
  let T' := addT (updT T (k.toList.map fun k => (k, none))) n [.arr t zs]
  Rel (putPhi φ n (some (w.heap.size, 0))) T' w' ∧ Ge φ T w (putPhi φ n (some (w.heap.size, 0))) T' w' ∧ Dom φ (putPhi φ n (some (w.heap.size, 0))) n 1 ∧ ∀ b, b < w.heap.size → w'.heap[b]? = w.heap[b]? := by
 intro w' T'
 have key : ∃ T1, Rel φ T1 w ∧ Ge φ T w φ T1 w ∧ T1 n = none ∧ T' = addT T1 n [.arr t zs] := by
  cases k with
  | none => exact ⟨T, hrel, Ge.refl _ _ _, hT, rfl⟩
  | some k =>
    obtain ⟨h1, h2⟩ := retire hrel k
    refine ⟨_, h1, h2, ?_, rfl⟩
    simp only [updT]; split
    ·rfl
    ·exact hT
 obtain ⟨T1, h1, h2, h3, h4⟩ := key
 have h5 : Rel φ T1 { w with drawn := w.drawn + 1 } := h1.of_heap rfl rfl rfl rfl
 obtain ⟨r1, r2, r3, r4⟩ := new_obj h5 hn h3 e (zs.flatMap t.cells ++ rest).toArray (.arr t zs) (0, 0) (fun _ _ => by simp) fun φ' T' w' g hφ hC => .inr ⟨_, _, _, hφ, hC, fun i v hv => by
  simp only [Nat.zero_add, List.getElem?_toArray]
  rw [List.getElem?_append_left (List.getElem?_eq_some_iff.1 hv).1]; exact hv⟩
 rw [h4]
 have h6 : Ge φ T1 w φ T1 { w with drawn := w.drawn + 1 } := Ge.of_heap rfl rfl rfl rfl
 exact ⟨r1, h2.trans (h6.trans r2), r3, r4⟩
theorem append_ran {sT xT ty e xe : TypeId} {t : ET} {s x : Value} {k off : Nat} {ws ys : List t.α} {len : Nat} {xc : TC} (hk : T k = some (.arr t ws)) (hin : off + len ≤ ws.length) (hn : φ n = none) (hTn : T n = none)
  (hsT : P.underlying sT = some (.slice e)) (hxT : P.underlying xT = some (.slice xe)) (oke : TIok P e (ti e)) (hsz : (ti e).sz = t.sz) (hb : 0 < (ti e).bytes) (hroom : (2 * (len + ys.length) + 1024) * (ti e).bytes ≤ bytesMax)
  (hs : CR φ T w (.osl t k off len) s) (hx : CR φ T w xc x) (hrd : ∀ k, k ∈ refsC true xc → T k = rd k) (hc : content rd t xc = some ys) :
  ∃ r w' φ', (Builtin.append_ #[sT, xT] ty #[s, x]).run P w = .ok r w' ∧ CR φ' (addT (updT T [(k, none)]) n [.arr t ((ws.drop off).take len ++ ys)]) w' (.osl t n 0 (len + ys.length)) r ∧
    Rel φ' (addT (updT T [(k, none)]) n [.arr t ((ws.drop off).take len ++ ys)]) w' ∧ Ge φ T w φ' (addT (updT T [(k, none)]) n [.arr t ((ws.drop off).take len ++ ys)]) w' ∧ Dom φ φ' n 1 ∧ Kept φ T (fun j => j = k) w w' := by
 obtain ⟨a', cap', rfl, hc1, hc2, hc3, hc4⟩ := content_at hrel hrd hx hc
 have hl : ((ws.drop off).take len).length = len := by simp; omega
 obtain ⟨a, cap, rfl, hcap, hnone, hspot, hne⟩ := hs
 have hxs : (ws.drop off).take len ≠ [] → ∃ b o, a = some ⟨b, o, none⟩ ∧ CellsAt w b o (((ws.drop off).take len).flatMap t.cells) := by
  intro hnil
  have hpos : len ≠ 0 := by intro h; rw [h] at hnil; simp at hnil
  obtain ⟨b, base, hφ, rfl, -⟩ := hne (by omega)
  refine ⟨b, _, rfl, fun i v hv => ?_⟩
  rcases hrel.obj k _ hk with ⟨h1, -⟩ | ⟨b', base', c, h1, hC, hcells⟩
  ·rw [hφ] at h1; cases h1
  rw [hφ] at h1; cases h1
  rw [cell_of_Cells hC, Nat.add_assoc]
  exact hcells _ _ (flat_part t ws off len i v hv)
 rcases append_run (P := P) (ti := ti) (w := w) (ty := ty) (e := e) (xe := xe) (sT := sT) (xT := xT) (t := t) (xs := (ws.drop off).take len) (ys := ys) (cap := cap) (cap' := cap') (a := a) (a' := a') (by rw [hl]) rfl hsT hxT oke hsz hb (by rw [hl]; exact hroom) (by rw [hl]; exact hcap) hxs hc4 with ⟨hfit, hrun⟩ | ⟨hgrow, nc, rest, hnc, hrest, hrun⟩
 ·rw [hl] at hfit hrun
  by_cases hc0 : cap = 0
  ·have h0 : len = 0 := by omega
   have h1 : ys = [] := List.length_eq_zero_iff.1 (by omega)
   subst h1
   have hnil : (ws.drop off).take len ++ ([] : List t.α) = [] := by subst h0; simp
   rw [hnil]
   obtain ⟨r1, r2⟩ := retire hrel k
   obtain ⟨g1, g2⟩ := ghost r1 hn (by simp only [updT]; split <;> first | rfl | exact hTn) t
   refine ⟨.slice a (len + ([] : List t.α).length) cap, w, φ, ?_, ?_, g1, r2.trans g2, fun j hj => .inl hj, fun _ _ _ => rfl⟩
   ·rw [hrun]
    cases a with
    | none => rfl
    | some ad => simp [storeCells]
   ·refine ⟨a, cap, rfl, ?_, hnone, hspot, fun h => absurd hc0 h⟩
    simp; omega
  ·obtain ⟨b, base, hφ, rfl, hsize⟩ := hne hc0
   obtain ⟨t1, t2⟩ := transfer hrel hn hTn hk hφ off len hin
   rcases hrel.obj k _ hk with ⟨h1, -⟩ | ⟨b', base', c, h1, hC, hcells⟩
   ·rw [hφ] at h1; cases h1
   rw [hφ] at h1; cases h1
   obtain ⟨e', fr, hb', hfr⟩ := hC
   have hcs : sizeAt w b = c.size := by unfold sizeAt; rw [hb']
   have hfl := flat_len t ys
   have hroom' : base + off * t.sz + len * t.sz + (ys.flatMap t.cells).length ≤ c.size := by
    rw [hfl, ← hcs]
    refine Nat.le_trans ?_ hsize
    rw [Nat.add_mul]
    have : len * t.sz + ys.length * t.sz ≤ cap * t.sz := by rw [← Nat.add_mul]; exact Nat.mul_le_mul_right _ hfit
    omega
   obtain ⟨c', k1, k2, k3, k4, k5, k6, k7, k8⟩ := setCells_heap b (ys.flatMap t.cells) (base + off * t.sz + len * t.sz) w c e' fr hb' hroom'
   have hC' : Cells (w.setCells b (base + off * t.sz + len * t.sz) (ys.flatMap t.cells)) b c' := ⟨e', fr, k1, fun j hj => hfr j (by omega)⟩
   obtain ⟨w1, w2⟩ := write_obj t1 (k := n) (b := b) (base := base + off * t.sz) (o := .arr t ((ws.drop off).take len ++ ys)) (by rw [addT_one_self]; simp) (by simp [putPhi]) (Cells.lt ⟨e', fr, hb', hfr⟩) k4 k5 k6 k7 k8 (by unfold sizeAt; rw [k1, hb']; exact k2) fun T' g => by
    refine .inr ⟨b, base + off * t.sz, c', by simp [putPhi], hC', fun i v hv => ?_⟩
    rw [List.flatMap_append] at hv
    have hfl2 := flat_len t ((ws.drop off).take len)
    rw [hl] at hfl2
    rw [k3]
    by_cases hi : i < len * t.sz
    ·rw [List.getElem?_append_left (by omega)] at hv
     rw [if_neg (by omega), Nat.add_assoc]
     exact hcells _ _ (flat_part t ws off len i v hv)
    ·rw [List.getElem?_append_right (by omega), hfl2] at hv
     have := (List.getElem?_eq_some_iff.1 hv).1
     rw [if_pos ⟨by omega, by omega⟩, show base + off * t.sz + i - (base + off * t.sz + len * t.sz) = i - len * t.sz by omega]
     exact hv
   rw [upd_add] at w1 w2
   refine ⟨.slice (some ⟨b, base + off * t.sz, none⟩) (len + ys.length) cap, w.setCells b (base + off * t.sz + len * t.sz) (ys.flatMap t.cells), putPhi φ n (some (b, base + off * t.sz)), ?_, ?_, w1, t2.trans w2, ?_, fun b' _ hU => k4 b' (by rintro rfl; exact hU k base rfl (by rw [hk]; simp) hφ)⟩
   ·rw [hrun]
    simp only [add_addr]
    rw [run_storeCells_cells b _ (ys.flatMap t.cells) 0 w]
    ·simp
    ·intro j hj
     have : base + off * t.sz + len * t.sz + j < c.size := by omega
     simp [World.cell?, hb', this]
    ·intro j hj
     have h1 : base + off * t.sz + len * t.sz + j < c.size := by omega
     have h2 := hfr _ h1
     simp only [World.frozen?, hb', Nat.add_zero]
     simp only [Bool.and_eq_false_imp, decide_eq_true_eq, decide_eq_false_iff_not]
     intro h; omega
    ·intro v hv
     simp only [List.mem_flatMap] at hv
     obtain ⟨y, -, hv⟩ := hv
     exact cells_one t y v hv
   ·refine ⟨_, cap, rfl, by omega, fun h => by simp at h, fun ad h => by simp at h; rw [← h], fun _ => ⟨b, base + off * t.sz, by simp [putPhi], by simp, ?_⟩⟩
    have hsz' : sizeAt (w.setCells b (base + off * t.sz + len * t.sz) (ys.flatMap t.cells)) b = sizeAt w b := by unfold sizeAt; rw [k1, hb']; exact k2
    rw [hsz']
    refine Nat.le_trans ?_ hsize
    rw [Nat.zero_add, Nat.add_mul]; omega
   ·intro j hj
    by_cases h : j = n
    ·exact .inr ⟨by omega, by omega⟩
    ·left; simpa [putPhi, h] using hj
 ·rw [hl] at hgrow hnc hrest hrun
  obtain ⟨r1, r2, r3, r4⟩ := new_row hti hrel (e := e) (t := t) (zs := (ws.drop off).take len ++ ys) (rest := rest.toList) (k := some k) hn hTn
  refine ⟨_, _, _, hrun, ?_, r1, r2, r3, fun b hb _ => r4 b hb⟩
  refine ⟨_, nc, rfl, hnc, fun h => by simp at h, fun ad h => by simp at h; rw [← h], fun _ => ⟨w.heap.size, 0, by simp [putPhi], by simp, ?_⟩⟩
  unfold sizeAt
  simp only [Array.getElem?_push_size]
  simp only [List.size_toArray, List.length_append, flat_len, hl, Array.length_toList, hrest, Nat.zero_add]
  rw [← Nat.add_mul]
  exact Nat.mul_le_mul_right _ (by omega)
end
end Go.Proofs.YtfmjgoeclilcnaaGreatDoor
namespace Go.Proofs.YtfmjgoeclilcnaaGreatDoor
open Go.RowKit
theorem wrap_id (n : Int) (h0 : -9223372036854775808 ≤ n) (h1 : n ≤ 9223372036854775807) : IntKind.i64.wrap n = n :=
 IntWalk.i64_in _ ⟨by omega, by omega⟩
section
variable {P : Program} {ti : TypeId → TI} (hti : ∀ t, ((ti t).k ≠ .other ∨ 0 < (ti t).sz) → TIok P t (ti t))
variable {φ : Phi} {T : Tab} {w : World} {n : Nat} {rd : Nat → Option Obj} (hrel : Rel φ T w)
include hti hrel
theorem append_nil_ran {sT xT ty e xe : TypeId} {t : ET} {x : Value} {ys : List t.α} {xc : TC} (hn : φ n = none) (hTn : T n = none)
  (hsT : P.underlying sT = some (.slice e)) (hxT : P.underlying xT = some (.slice xe)) (oke : TIok P e (ti e)) (hsz : (ti e).sz = t.sz) (hb : 0 < (ti e).bytes) (hroom : (2 * ys.length + 1024) * (ti e).bytes ≤ bytesMax)
  (hx : CR φ T w xc x) (hrd : ∀ k, k ∈ refsC true xc → T k = rd k) (hc : content rd t xc = some ys) :
  ∃ r w' φ', (Builtin.append_ #[sT, xT] ty #[.slice none 0 0, x]).run P w = .ok r w' ∧ CR φ' (addT T n [.arr t ys]) w' (.osl t n 0 ys.length) r ∧
    Rel φ' (addT T n [.arr t ys]) w' ∧ Ge φ T w φ' (addT T n [.arr t ys]) w' ∧ Dom φ φ' n 1 ∧ Kept φ T (fun _ => False) w w' := by
 obtain ⟨a', cap', rfl, hc1, hc2, hc3, hc4⟩ := content_at hrel hrd hx hc
 rcases append_run (P := P) (ti := ti) (w := w) (ty := ty) (e := e) (xe := xe) (sT := sT) (xT := xT) (t := t) (xs := []) (ys := ys) (cap := 0) (cap' := cap') (a := none) (a' := a') rfl rfl hsT hxT oke hsz hb (by simpa using hroom) (by simp) (by simp) hc4 with ⟨hfit, hrun⟩ | ⟨hgrow, nc, rest, hnc, hrest, hrun⟩
 ·have h1 : ys = [] := List.length_eq_zero_iff.1 (by simpa using hfit)
  subst h1
  obtain ⟨g1, g2⟩ := ghost hrel hn hTn t
  refine ⟨.slice none 0 0, w, φ, hrun.trans rfl, ?_, g1, g2, fun j hj => .inl hj, fun _ _ _ => rfl⟩
  exact ⟨none, 0, rfl, by simp, fun _ => rfl, fun _ h => by simp at h, fun h => absurd rfl h⟩
 ·obtain ⟨r1, r2, r3, r4⟩ := new_row hti hrel (e := e) (t := t) (zs := ys) (rest := rest.toList) (k := none) hn hTn
  simp only [List.length_nil, Nat.zero_add, List.nil_append] at hgrow hnc hrest hrun
  refine ⟨_, _, _, hrun, ?_, r1, r2, r3, fun b hb _ => r4 b hb⟩
  refine ⟨_, nc, rfl, hnc, fun h => by simp at h, fun ad h => by simp at h; rw [← h], fun _ => ⟨w.heap.size, 0, by simp [putPhi], by simp, ?_⟩⟩
  unfold sizeAt
  simp only [Array.getElem?_push_size]
  simp only [List.size_toArray, List.length_append, flat_len, Array.length_toList, hrest, Nat.zero_add]
  rw [← Nat.add_mul]
  exact Nat.mul_le_mul_right _ (by omega)
theorem appendv_ran {sT xT ty : TypeId} {x y : TV} {u v : Value} (hn : φ n = none) (hTn : T n = none) (hrd : ∀ k, k ∈ refsV true x ++ refsV true y → T k = rd k) (hx : VR φ T w x u) (hy : VR φ T w y v)
  (hp : (appendv ti rd n sT xT x y).pre) : Ran P φ T w n (appendv ti rd n sT xT x y) (Builtin.append_ #[sT, xT] ty #[u, v]) := by
 unfold appendv at hp ⊢
 split at hp
 case h_2 => exact hp.elim
 rename_i e hsk
 split at hp
 case h_2 => exact hp.elim
 rename_i t xe het hxk
 have oks := hti sT (.inl (by rw [hsk]; simp))
 have hsT : P.underlying sT = some (.slice e) := by have := oks.kind; rwa [hsk] at this
 have okx := hti xT (.inl (by rw [hxk]; simp))
 have hxT : P.underlying xT = some (.slice xe) := by have := okx.kind; rwa [hxk] at this
 split at hp
 ·rename_i t' k off len xc
  split at hp
  ·rename_i xs ys hxs hys
   obtain ⟨rfl, hsz, hroom, hb⟩ := hp
   have oke := hti e (.inr (by rw [hsz]; exact t'.sz_pos))
   have hTk := hrd k (by simp [refsV, refsC])
   unfold content at hxs
   simp only at hxs
   split at hxs
   ·rename_i t'' ws hrk
    split at hxs
    ·rename_i h
     subst h
     simp only [if_true] at hxs
     split at hxs
     ·rename_i hin
      cases hxs
      simp only [VR] at hx hy
      obtain ⟨r, w', φ', h1, h2, h3, h4, h5, h6⟩ := append_ran hti hrel (rd := rd) (ty := ty) (hTk.trans hrk) hin hn hTn hsT hxT oke hsz hb hroom hx hy (fun k' hk' => hrd k' (by simp [refsV, hk'])) hys
      exact ⟨r, w', φ', h1, h2, h3, h4, h5, fun b hb hU => h6 b hb fun j base hj => hU j base ⟨none, by simp [hj]⟩⟩
     ·cases hxs
    ·cases hxs
   ·cases hxs
  ·exact hp.elim
 ·rename_i xc
  split at hp
  ·rename_i ys hys
   obtain ⟨hsz, hroom, hb⟩ := hp
   have oke := hti e (.inr (by rw [hsz]; exact t.sz_pos))
   simp only [VR, CR] at hx
   subst hx
   simp only [VR] at hy
   obtain ⟨r, w', φ', h1, h2, h3, h4, h5, h6⟩ := append_nil_ran hti hrel (rd := rd) (ty := ty) hn hTn hsT hxT oke hsz hb hroom hy (fun k' hk' => hrd k' (by simp [refsV, hk'])) hys
   exact ⟨r, w', φ', h1, h2, h3, h4, h5, fun b hb hU => h6 b hb fun j base hj => hj.elim⟩
  ·exact hp.elim
 ·exact hp.elim
omit hti hrel in
theorem flat_replicate (t : ET) (x : t.α) : ∀ (m : Nat), (List.replicate m x).flatMap t.cells = (List.range (m * t.sz)).map fun i => (t.cells x).getD (i % t.sz) undef
 | 0 => by simp
 | m + 1 => by
   have hl := ET.cells_len t x
   have hp := t.sz_pos
   have h1 : (List.range t.sz).map (fun i => (t.cells x).getD (i % t.sz) undef) = t.cells x := by
    apply List.ext_getElem?
    intro i
    by_cases hi : i < t.sz
    ·simp [List.getElem?_range hi, Nat.mod_eq_of_lt hi, List.getD, List.getElem?_eq_getElem (show i < (t.cells x).length by omega)]
    ·rw [List.getElem?_eq_none (by simp; omega), List.getElem?_eq_none (by omega)]
   have e : (m + 1) * t.sz = t.sz + m * t.sz := by rw [Nat.succ_mul]; omega
   rw [List.replicate_succ, List.flatMap_cons, flat_replicate t x m, e, List.range_add, List.map_append, h1, List.map_map]
   congr 1
   apply List.map_congr_left
   intro i _
   simp [Nat.add_mod_left]
theorem makev_ran {t : TypeId} {l c : TV} {u v : Value} (hn : φ n = none) (hTn : T n = none) (hl : VR φ T w l u) (hc : VR φ T w c v) (hp : (makev ti n t l c).pre) : Ran P φ T w n (makev ti n t l c) (Instr.makeSlice t u v) := by
 unfold makev at hp ⊢
 split at hp
 case h_2 => exact hp.elim
 rename_i e hk
 split at hp
 case h_2 => exact hp.elim
 rename_i t' l' c' het hl' hc'
 obtain ⟨h0, rfl, hsz, hb, hz, hbp⟩ := hp
 have ok := hti t (.inl (by rw [hk]; simp))
 have hu : P.underlying t = some (.slice e) := by have := ok.kind; rwa [hk] at this
 have oke := hti e (.inr (by rw [hsz]; exact t'.sz_pos))
 obtain ⟨k1, rfl⟩ := asI_val hti hrel hl hl'
 obtain ⟨k2, rfl⟩ := asI_val hti hrel hc hc'
 obtain ⟨i, hi, hisz, hib⟩ := oke.run_info w
 obtain ⟨z, hzr, hz1, -, -⟩ := oke.run_zero w
 have hmax : l' ≤ 281474976710656 := by
  have h1 : l' * 1 ≤ l' * ((ti e).bytes : Int) := Int.mul_le_mul_of_nonneg_left (by omega) h0
  unfold bytesMax at hb; omega
 have hw : IntKind.i64.wrap l' = l' := wrap_id l' (by omega) (by omega)
 have hbig : ¬ (((ti e).bytes : Int) * l' > 2 ^ 48) := by rw [Int.mul_comm]; unfold bytesMax at hb; omega
 have hcells : (Array.map (fun j => (if l'.toNat * t'.sz = 0 then (#[] : Array Value) else z.cells)[j % (if l'.toNat * t'.sz = 0 then (#[] : Array Value) else z.cells).size]!) (Array.range (l'.toNat * t'.sz))) = ((List.replicate l'.toNat t'.dflt).flatMap t'.cells ++ []).toArray := by
  rw [List.append_nil, flat_replicate]
  by_cases h : l'.toNat * t'.sz = 0
  ·simp [h]
  ·simp only [if_neg h]
   apply Array.ext'
   simp only [Array.toList_map, Array.toList_range]
   apply List.map_congr_left
   intro j _
   have hzs : z.cells.size = t'.sz := by rw [← hsz, ← oke.zlen, ← hz1]; simp
   have hlt : j % t'.sz < z.cells.size := by rw [hzs]; exact Nat.mod_lt _ t'.sz_pos
   rw [hzs, getElem!_pos z.cells _ hlt, hz, ← hz1, List.getD_eq_getElem?_getD, Array.getElem?_toList, Array.getElem?_eq_getElem hlt]; rfl
 obtain ⟨r1, r2, r3, r4⟩ := new_obj hrel hn hTn e ((List.replicate l'.toNat t'.dflt).flatMap t'.cells ++ []).toArray (.arr t' (List.replicate l'.toNat t'.dflt)) (0, 0) (fun _ _ => by simp) fun φ' T' w' g hφ hC => .inr ⟨_, _, _, hφ, hC, fun i v hv => by
  simpa using hv⟩
 refine ⟨.slice (some ⟨w.heap.size, 0, none⟩) l'.toNat l'.toNat, _, _, ?_, ?_, r1, r2, r3, fun b hb _ => r4 b hb⟩
 ·simp only [Instr.makeSlice, Sem.run_bind, run_under' hu, Result.andThen_ok, asInt, asIntOf, Sem.run_pure, hi, hib, hw]
  have h1 : (decide (l' < 0) || decide (((ti e).bytes : Int) * l' > 2 ^ 48)) = false := by simp; omega
  have h2 : ¬ (((decide (l' < 0) || decide (((ti e).bytes : Int) * l' > 2 ^ 48)) || decide (l' < 0) || decide (l' > l')) = true) := by rw [h1]; simp; omega
  rw [if_neg h2]
  have hask : ∀ m, (askRoom m).run P w = .ok () w := by intro m; unfold askRoom; split <;> rfl
  simp only [Sem.run_bind, hask, Result.andThen_ok, oke.run_sizeOf, hsz]
  by_cases h : l'.toNat * t'.sz = 0
  ·simp only [if_pos h] at hcells ⊢
   simp only [Sem.run_bind, Result.andThen_ok, newRow, newObj, Sem.run, Sem.run_pure]
   rw [hcells]
  ·simp only [if_neg h] at hcells ⊢
   simp only [Sem.run_bind, hzr, Result.andThen_ok, newRow, newObj, Sem.run, Sem.run_pure]
   rw [hcells]
 ·simp only [VR, CR]
  refine ⟨_, l'.toNat, rfl, Nat.le_refl _, fun h => by simp at h, fun ad h => by simp at h; rw [← h], fun _ => ⟨w.heap.size, 0, by simp [putPhi], by simp, ?_⟩⟩
  unfold sizeAt
  simp only [Array.getElem?_push_size]
  simp [flat_len, ET.cells_len]
end
end Go.Proofs.YtfmjgoeclilcnaaGreatDoor
namespace Go.Proofs.YtfmjgoeclilcnaaGreatDoor
open Go.RowKit
theorem fold_lay : ∀ (vs : List Value) (k off : Nat) (cs : Array Value), ((vs.zipIdx k).foldl (fun cs q => cs.setIfInBounds (off + q.2) q.1) cs).toList = layV (off + k) vs cs.toList
 | [], k, off, cs => rfl
 | v :: vs, k, off, cs => by
   rw [List.zipIdx_cons, List.foldl_cons, fold_lay vs (k + 1) off, layV, Nat.add_assoc]
   simp
theorem fold_lay' (v : Value) (off : Nat) (cs : Array Value) : (v.cells.zipIdx.foldl (fun cs (c, j) => cs.setIfInBounds (off + j) c) cs).toList = layV off v.cells.toList cs.toList := by
 have := fold_lay v.cells.toList 0 off cs
 rw [Nat.add_zero] at this
 rw [← this, ← Array.foldl_toList, Array.toList_zipIdx]
theorem All2.lay {R : TC → Value → Prop} {vs cs : List TC} {us ds : List Value} (off : Nat) (h : All2 R cs ds) (k : All2 R vs us) (hl : off + vs.length ≤ cs.length) : All2 R (lay off vs cs) (layV off us ds) := by
 have h1 := h.length
 have h2 := k.length
 refine All2.of_get (by rw [lay_len, layV_len, h1]) fun i a b ha hb => ?_
 rw [lay_get _ _ _ _ hl] at ha
 rw [layV_get _ _ _ _ (by omega)] at hb
 by_cases hi : off ≤ i ∧ i < off + vs.length
 ·rw [if_pos hi] at ha
  rw [if_pos (by omega)] at hb
  obtain ⟨b', hb', hr⟩ := k.get _ _ ha
  rw [hb'] at hb; cases hb; exact hr
 ·rw [if_neg hi] at ha
  rw [if_neg (by omega)] at hb
  obtain ⟨b', hb', hr⟩ := h.get _ _ ha
  rw [hb'] at hb; cases hb; exact hr
def PartsR (φ : Phi) (T : Tab) (w : World) : List (Nat × TV) → List (Nat × Value) → Prop
 | [], [] => True
 | (i, x) :: r, (j, v) :: s => i = j ∧ VR φ T w x v ∧ PartsR φ T w r s
 | _, _ => False
theorem fills_run {φ : Phi} {T : Tab} {w : World} {place : Nat → Option (Nat × Nat)} {place' : Nat → Option (Nat × Nat)} (hpl : ∀ i q, place i = some q → place' i = some q) :
  ∀ (parts : List (Nat × TV)) (rparts : List (Nat × Value)) (cs : List TC) (cells : Array Value) (p : Prop) (ds : List TC), PartsR φ T w parts rparts → All2 (CR φ T w) cs cells.toList → fills place cs parts = some (p, ds) → p →
    ∃ cells', Instr.fill place' cells rparts = some cells' ∧ All2 (CR φ T w) ds cells'.toList
 | [], [], cs, cells, p, ds, _, h, hf, hp => by
   simp only [fills, Option.some.injEq, Prod.mk.injEq] at hf
   obtain ⟨-, rfl⟩ := hf
   exact ⟨cells, rfl, h⟩
 | (i, x) :: parts, (j, v) :: rparts, cs, cells, p, ds, ⟨hij, hx, hr⟩, h, hf, hp => by
   subst hij
   unfold fills at hf
   split at hf
   ·exact absurd hf (by simp)
   ·rename_i off sz hi
    split at hf
    ·rename_i p' ds' hf'
     simp only [Option.some.injEq, Prod.mk.injEq] at hf
     obtain ⟨rfl, rfl⟩ := hf
     obtain ⟨h1, h2, hpos, h3, h4⟩ := hp
     have hne : x.cells ≠ [] := by intro h; rw [h] at h1; simp at h1; omega
     have hv := (hx.cells' hne (isAgg_or hne h3)).1
     have hvl := hv.length
     have hcl := h.length
     obtain ⟨cells', k1, k2⟩ := fills_run hpl parts rparts (lay off x.cells cs) (v.cells.zipIdx.foldl (fun cs (c, j) => cs.setIfInBounds (off + j) c) cells) p' ds' hr (by rw [fold_lay']; exact h.lay off hv (by omega)) hf' h4
     refine ⟨cells', ?_, k2⟩
     unfold Instr.fill
     rw [hpl i _ hi]
     simp only
     rw [if_neg]
     ·exact k1
     ·simp only [Array.length_toList] at hvl hcl
      simp; omega
    ·exact absurd hf (by simp)
 | [], _ :: _, _, _, _, _, h, _, _, _ => h.elim
 | _ :: _, [], _, _, _, _, h, _, _, _ => h.elim
section
variable {P : Program} {ti : TypeId → TI} (hti : ∀ t, ((ti t).k ≠ .other ∨ 0 < (ti t).sz) → TIok P t (ti t))
variable {φ : Phi} {T : Tab} {w : World} {n : Nat} {rd : Nat → Option Obj} (hrel : Rel φ T w)
include hti hrel
theorem zero_All2 {t : TypeId} (ok : TIok P t (ti t)) : ∃ z, (zeroValue t).run P w = .ok z w ∧ All2 (CR φ T w) ((ti t).zero.map .val) z.cells.toList := by
 obtain ⟨z, hz, h1, -, -⟩ := ok.run_zero w
 refine ⟨z, hz, ?_⟩
 rw [h1]
 exact All2.of_get (by simp) fun i a b ha hb => by
  simp only [List.getElem?_map, Option.map_eq_some_iff] at ha
  obtain ⟨u, hu, rfl⟩ := ha
  rw [hu] at hb; cases hb; rfl
theorem mapM_fields {fields : Array Field} (h : ∀ f ∈ fields.toList, 0 < (ti f.type).sz) : (fields.mapM fun f => (do pure (f.offset, ← sizeOf f.type) : Sem (Nat × Nat))).run P w = .ok (fields.map fun f => (f.offset, (ti f.type).sz)) w := by
 rw [Array.mapM_eq_mapM_toList]
 have : ∀ (l : List Field), (∀ f ∈ l, 0 < (ti f.type).sz) → (l.mapM fun f => (do pure (f.offset, ← sizeOf f.type) : Sem (Nat × Nat))).run P w = .ok (l.map fun f => (f.offset, (ti f.type).sz)) w := by
  intro l
  induction l with
  | nil => intro _; rfl
  | cons f l ih =>
    intro hl
    have ok := hti f.type (.inr (hl f (by simp)))
    simp only [List.mapM_cons, Sem.run_bind, ok.run_sizeOf, Result.andThen_ok, Sem.run_pure, ih fun g hg => hl g (by simp [hg]), List.map_cons]
 simp only [Sem.run_map, this _ h, Result.andThen_ok]
 congr 1
 apply Array.ext'
 simp
theorem buildv_ran {t : TypeId} {parts : List (Nat × TV)} {rparts : Array (Nat × Value)} (hparts : PartsR φ T w parts rparts.toList) (hp : (buildv ti t parts).pre) : Ran P φ T w n (buildv ti t parts) (Instr.build t rparts) := by
 unfold buildv at hp ⊢
 split at hp
 case h_2 => exact hp.elim
 rename_i p cs hf
 obtain ⟨hagg, hall, hp⟩ := hp
 unfold knownAll at hall
 split at hall
 ·rename_i fs hk
  have ok := hti t (.inl (by rw [hk]; simp))
  have hkind := ok.kind
  rw [hk] at hkind
  obtain ⟨fields, hu, hfs⟩ := hkind
  obtain ⟨z, hz, hzr⟩ := zero_All2 hti hrel (φ := φ) (T := T) (w := w) ok
  have hsz : ∀ f ∈ fields.toList, 0 < (ti f.type).sz := by
   intro f hf
   rw [← hfs] at hall
   simp only [List.all_map, List.all_eq_true] at hall
   simpa using hall f hf
  obtain ⟨cells', h1, h2⟩ := fills_run (place := placeOf ti t) (place' := fun i => (fields.map fun f => (f.offset, (ti f.type).sz))[i]?) (by
   intro i q hq
   unfold placeOf at hq
   rw [hk] at hq
   simp only [← hfs, List.getElem?_map, Option.map_map, Option.map_eq_some_iff] at hq
   obtain ⟨f, hf, rfl⟩ := hq
   rw [Array.getElem?_toList] at hf
   simp [hf]) parts rparts.toList _ z.cells p cs hparts hzr hf hp
  refine Ran.pure hrel ⟨rfl, rfl⟩ ⟨.agg cells', ?_, ?_⟩
  ·simp only [Instr.build, Sem.run_bind, hz, Result.andThen_ok, run_under' hu, mapM_fields hti hrel hsz, h1, Sem.run_pure]
  ·simp only [ifp, VR]; exact ⟨cells', rfl, h2⟩
 ·rename_i m e hk
  have ok := hti t (.inl (by rw [hk]; simp))
  have hu : P.underlying t = some (.array m e) := by have := ok.kind; rwa [hk] at this
  have oke := hti e (.inr (by simpa using hall))
  obtain ⟨z, hz, hzr⟩ := zero_All2 hti hrel (φ := φ) (T := T) (w := w) ok
  obtain ⟨cells', h1, h2⟩ := fills_run (place := placeOf ti t) (place' := fun i => some (i * (ti e).sz, (ti e).sz)) (by
   intro i q hq
   unfold placeOf at hq
   rw [hk] at hq
   exact hq) parts rparts.toList _ z.cells p cs hparts hzr hf hp
  refine Ran.pure hrel ⟨rfl, rfl⟩ ⟨.agg cells', ?_, ?_⟩
  ·simp only [Instr.build, Sem.run_bind, hz, Result.andThen_ok, run_under' hu, oke.run_sizeOf, h1, Sem.run_pure]
  ·simp only [ifp, VR]; exact ⟨cells', rfl, h2⟩
 ·simp at hall
end
end Go.Proofs.YtfmjgoeclilcnaaGreatDoor
namespace Go.Proofs.YtfmjgoeclilcnaaGreatDoor
open Go.RowKit
theorem plain_cells {φ : Phi} {T : Tab} {w : World} {x : TV} {v : Value} {vs : List Value} (hx : VR φ T w x v) (hne : vs ≠ []) (hp : plain x.cells = some vs) (hs : allStorable x.cells) : v.cells.toList = vs := by
 have hxc := plain_eq hp
 have hcne : x.cells ≠ [] := by rw [hxc]; simpa using hne
 have hvr := (hx.cells' hcne (isAgg_or hcne hs)).1
 have hlen := hvr.length
 rw [hxc] at hlen; simp at hlen
 apply List.ext_getElem?
 intro q
 by_cases hq : q < vs.length
 ·obtain ⟨z, hz, hr⟩ := hvr.get q (.val vs[q]) (by rw [hxc]; simp [hq])
  rw [hz, List.getElem?_eq_getElem hq]; exact congrArg some hr
 ·rw [List.getElem?_eq_none (by rw [Array.length_toList]; omega), List.getElem?_eq_none (by omega)]
theorem elems_run {φ : Phi} {T : Tab} {w : World} {t : ET} : ∀ (parts : List (Nat × TV)) (rparts : List (Nat × Value)) (i : Nat) (cells : Array Value) (p : Prop) (xs : List t.α), PartsR φ T w parts rparts → elems t i parts = some (p, xs) → p → cells.size = (i + xs.length) * t.sz →
   ∃ cells', Instr.fill (fun i => some (i * t.sz, t.sz)) cells rparts = some cells' ∧ cells'.size = cells.size ∧ (∀ q, q < i * t.sz → cells'[q]? = cells[q]?) ∧ ∀ q v, (xs.flatMap t.cells)[q]? = some v → cells'[i * t.sz + q]? = some v
 | [], [], i, cells, p, xs, _, hf, hp, hsz => by
   simp only [elems, Option.some.injEq, Prod.mk.injEq] at hf
   obtain ⟨-, rfl⟩ := hf
   exact ⟨cells, rfl, rfl, fun _ _ => rfl, fun q v h => by simp at h⟩
 | (j, x) :: parts, (j', v) :: rparts, i, cells, p, xs, ⟨hij, hx, hr⟩, hf, hp, hsz => by
   subst hij
   unfold elems at hf
   split at hf
   ·rename_i vs p' xs' hvs hf'
    simp only [Option.some.injEq, Prod.mk.injEq] at hf
    obtain ⟨rfl, rfl⟩ := hf
    obtain ⟨rfl, hst, hcell, hp'⟩ := hp
    have hvl : vs.length = t.sz := by rw [← hcell, ET.cells_len]
    have hne : vs ≠ [] := by intro h; rw [h] at hvl; have := t.sz_pos; simp at hvl; omega
    have hveq := plain_cells hx hne hvs hst
    have hfold := fold_lay' v (i * t.sz) cells
    rw [hveq] at hfold
    have hroom : i * t.sz + t.sz ≤ cells.size := by
     rw [hsz, List.length_cons, show i + (xs'.length + 1) = (i + 1) + xs'.length by omega, Nat.add_mul, Nat.succ_mul]; omega
    have hfs : (v.cells.zipIdx.foldl (fun cs (c, j) => cs.setIfInBounds (i * t.sz + j) c) cells).size = cells.size := by
     rw [← Array.length_toList, hfold, layV_len, Array.length_toList]
    obtain ⟨cells', k1, k2, k3, k4⟩ := elems_run parts rparts (i + 1) _ p' xs' hr hf' hp' (by rw [hfs, hsz, List.length_cons]; congr 1; omega)
    have hget : ∀ q, (v.cells.zipIdx.foldl (fun cs (c, j) => cs.setIfInBounds (i * t.sz + j) c) cells)[q]? = if i * t.sz ≤ q ∧ q < i * t.sz + vs.length then vs[q - i * t.sz]? else cells[q]? := by
     intro q
     rw [← Array.getElem?_toList, hfold, layV_get _ _ _ _ (by rw [hvl, Array.length_toList]; exact hroom)]
     split <;> simp
    refine ⟨cells', ?_, by rw [k2, hfs], fun q hq => ?_, fun q u hu => ?_⟩
    ·unfold Instr.fill
     simp only
     rw [if_neg]
     ·exact k1
     ·have : v.cells.size = t.sz := by rw [← hvl, ← hveq]; simp
      simp; omega
    ·rw [k3 q (by rw [Nat.succ_mul]; omega), hget, if_neg (by omega)]
    ·rw [List.flatMap_cons] at hu
     have hl := ET.cells_len t (t.ofCells vs)
     by_cases hq : q < t.sz
     ·rw [List.getElem?_append_left (by omega), hcell] at hu
      rw [k3 _ (by rw [Nat.succ_mul]; omega), hget, if_pos ⟨by omega, by omega⟩, show i * t.sz + q - i * t.sz = q by omega]; exact hu
     ·rw [List.getElem?_append_right (by omega), hl] at hu
      have := k4 _ _ hu
      rwa [Nat.succ_mul, show i * t.sz + t.sz + (q - t.sz) = i * t.sz + q by omega] at this
   ·exact absurd hf (by simp)
 | [], _ :: _, _, _, _, _, h, _, _, _ => h.elim
 | _ :: _, [], _, _, _, _, h, _, _, _ => h.elim
section
variable {P : Program} {ti : TypeId → TI} (hti : ∀ t, ((ti t).k ≠ .other ∨ 0 < (ti t).sz) → TIok P t (ti t))
variable {φ : Phi} {T : Tab} {w : World} {n : Nat} {rd : Nat → Option Obj} (hrel : Rel φ T w)
include hti hrel
theorem litv_ran {t : TypeId} {len : Nat} {parts : List (Nat × TV)} {rparts : Array (Nat × Value)} (hn : φ n = none) (hTn : T n = none) (hparts : PartsR φ T w parts rparts.toList) (hp : (litv ti n t len parts).pre) :
  Ran P φ T w n (litv ti n t len parts) (Instr.buildSlice t len rparts) := by
 unfold litv at hp ⊢
 split at hp
 case h_2 => exact hp.elim
 rename_i e hk
 split at hp
 case h_2 => exact hp.elim
 rename_i t' het
 split at hp
 case h_2 => exact hp.elim
 rename_i p xs hf
 obtain ⟨hp, rfl, hsz, hmax⟩ := hp
 have ok := hti t (.inl (by rw [hk]; simp))
 have hu : P.underlying t = some (.slice e) := by have := ok.kind; rwa [hk] at this
 have oke := hti e (.inr (by rw [hsz]; exact t'.sz_pos))
 obtain ⟨z, hz, hz1, -, -⟩ := oke.run_zero w
 have hmake : ∀ zero : Array Value, ∃ cells', Instr.fill (fun i => some (i * t'.sz, t'.sz)) ((Array.range (xs.length * t'.sz)).map (zero[· % zero.size]!)) rparts.toList = some cells' ∧ cells' = (xs.flatMap t'.cells).toArray := by
  intro zero
  obtain ⟨cells', k1, k2, -, k4⟩ := elems_run parts rparts.toList 0 ((Array.range (xs.length * t'.sz)).map (zero[· % zero.size]!)) p xs hparts hf hp (by simp)
  refine ⟨cells', k1, ?_⟩
  apply Array.ext_getElem?
  intro q
  have hfl := flat_len t' xs
  by_cases hq : q < xs.length * t'.sz
  ·have := k4 q _ (List.getElem?_eq_getElem (by omega))
   rw [Nat.zero_mul, Nat.zero_add] at this
   rw [this]; simp [hfl, hq]
  ·rw [Array.getElem?_eq_none (by rw [k2]; simp; omega), Array.getElem?_eq_none (by simp [hfl]; omega)]
 obtain ⟨r1, r2, r3, r4⟩ := new_obj hrel hn hTn e (xs.flatMap t'.cells).toArray (.arr t' xs) (0, 0) (fun _ _ => by simp) fun φ' T' w' g hφ hC => .inr ⟨_, _, _, hφ, hC, fun i v hv => by
  simpa using hv⟩
 refine ⟨.slice (some ⟨w.heap.size, 0, none⟩) xs.length xs.length, _, _, ?_, ?_, r1, r2, r3, fun b hb _ => r4 b hb⟩
 ·simp only [Instr.buildSlice, Sem.run_bind, run_under' hu, Result.andThen_ok, oke.run_sizeOf, hsz]
  rw [if_neg (by omega)]
  by_cases h : xs.length * t'.sz = 0
  ·obtain ⟨cells', k1, rfl⟩ := hmake #[]
   simp only [if_pos h, Sem.run_bind, Sem.run_pure, Result.andThen_ok, k1, newRow, newObj, Sem.run]
  ·obtain ⟨cells', k1, rfl⟩ := hmake z.cells
   simp only [if_neg h, Sem.run_bind, hz, Sem.run_pure, Result.andThen_ok, k1, newRow, newObj, Sem.run]
 ·simp only [VR, CR]
  refine ⟨_, xs.length, rfl, Nat.le_refl _, fun h => by simp at h, fun ad h => by simp at h; rw [← h], fun _ => ⟨w.heap.size, 0, by simp [putPhi], by simp, ?_⟩⟩
  unfold sizeAt
  simp only [Array.getElem?_push_size, List.size_toArray, flat_len]
  simp
theorem minv_ran {ts : Array TypeId} {ty : TypeId} {xs : List TV} {us : List Value} (hx : VRs φ T w xs us) (hp : (minv xs).pre) : Ran P φ T w n (minv xs) (Builtin.min_ ts ty us.toArray) := by
 unfold minv at hp ⊢
 split at hp
 ·rename_i k a k' b
  match us, hx with
  | [u, v], hx =>
    simp only [VRs, VR, CR] at hx
    obtain ⟨rfl, rfl, -⟩ := hx
    refine Ran.pure hrel ⟨rfl, rfl⟩ ⟨.int k (if b < a then b else a), ?_, rfl⟩
    simp [Builtin.min_, Builtin.min2]
 ·exact hp.elim
end
end Go.Proofs.YtfmjgoeclilcnaaGreatDoor
namespace Go.Proofs.YtfmjgoeclilcnaaGreatDoor
open Go.RowKit
theorem flat_bytes : ∀ (xs : List UInt8), (show List ET.byte.α from xs).flatMap ET.byte.cells = xs.map fun b => .int .u8 b.toNat
 | [] => rfl
 | x :: xs => by
   have := flat_bytes xs
   simp only [List.flatMap_cons, List.map_cons]
   rw [this]; rfl
theorem fold_bytes : ∀ (xs : List UInt8) (s : ByteArray), ((xs.map fun b => (b.toNat : Int)).foldl (fun r n => r.push (UInt8.ofNat n.toNat)) s) = ⟨s.data ++ xs.toArray⟩
 | [], s => by simp
 | x :: xs, s => by
   rw [List.map_cons, List.foldl_cons, fold_bytes xs]
   congr 1
   apply Array.ext'
   simp [ByteArray.push]
section
variable {P : Program} {ti : TypeId → TI} (hti : ∀ t, ((ti t).k ≠ .other ∨ 0 < (ti t).sz) → TIok P t (ti t))
variable {φ : Phi} {T : Tab} {w : World} {n : Nat} {rd : Nat → Option Obj} (hrel : Rel φ T w)
include hti hrel
theorem convv_ran {src dst : TypeId} {x : TV} {v : Value} (hfresh : (convv ti rd n src dst x).news ≠ [] → φ n = none ∧ T n = none) (hrd : ∀ k, k ∈ refsV true x → T k = rd k) (hx : VR φ T w x v) (hp : (convv ti rd n src dst x).pre) :
  Ran P φ T w n (convv ti rd n src dst x) (convert src dst v) := by
 unfold convv at hp hfresh ⊢
 split at hp
 ·rename_i k0 k k' i hs hd
  have ok1 := hti src (.inl (by rw [hs]; simp))
  have ok2 := hti dst (.inl (by rw [hd]; simp))
  have h1 : P.underlying src = some (.int k0) := by have := ok1.kind; rwa [hs] at this
  have h2 : P.underlying dst = some (.int k) := by have := ok2.kind; rwa [hd] at this
  simp only [VR, CR] at hx; subst hx
  refine Ran.pure hrel ⟨rfl, rfl⟩ ⟨_, ?_, rfl⟩
  simp [convert, run_under' h1, run_under' h2, Conv.intToInt]
 ·rename_i s hs hd
  have ok1 := hti src (.inl (by rw [hs]; simp))
  have ok2 := hti dst (.inl (by rw [hd]; simp))
  have h1 : P.underlying src = some .string := by have := ok1.kind; rwa [hs] at this
  have h2 : P.underlying dst = some .string := by have := ok2.kind; rwa [hd] at this
  simp only [VR, CR] at hx; subst hx
  refine Ran.pure hrel ⟨rfl, rfl⟩ ⟨_, ?_, rfl⟩
  simp [convert, run_under' h1, run_under' h2]
 ·rename_i e s hs hd
  have ok1 := hti src (.inl (by rw [hs]; simp))
  have ok2 := hti dst (.inl (by rw [hd]; simp))
  have h1 : P.underlying src = some .string := by have := ok1.kind; rwa [hs] at this
  have h2 : P.underlying dst = some (.slice e) := by have := ok2.kind; rwa [hd] at this
  obtain ⟨hk, hsz⟩ := hp
  obtain ⟨hn, hTn⟩ := hfresh (by simp [hs, hd])
  have oke := hti e (.inr (by omega))
  have h3 : P.underlying e = some (.int .u8) := by have := oke.kind; rwa [hk] at this
  simp only [VR, CR] at hx; subst hx
  obtain ⟨nc, hnc⟩ : ∃ nc, nc = (Question.appendCap s.size 0 e).cut (w.tape w.drawn (.appendCap s.size 0 e)) := ⟨_, rfl⟩
  have hge : s.size ≤ nc := by rw [hnc]; simp only [Question.cut]; omega
  have h0 : Rel φ T { w with drawn := w.drawn + 1 } := hrel.of_heap rfl rfl rfl rfl
  let cs : Array Value := s.data.map (fun b => .int .u8 b.toNat) ++ Array.replicate (nc - s.size) (.int .u8 0)
  have hcs : cs.size = nc := by simp only [cs, Array.size_append, Array.size_map, Array.size_replicate]; show s.size + _ = _; omega
  obtain ⟨r1, r2, r3, r4⟩ := new_obj h0 hn hTn e cs (.arr .byte s.data.toList) (cs.size, cs.size + 1) (fun j hj => by simp; omega) fun φ' T' w' g hφ hC => .inr ⟨_, _, _, hφ, hC, fun i v hv => by
   rw [flat_bytes] at hv
   simp only [Nat.zero_add, cs]
   rw [Array.getElem?_append_left]
   ·simpa using hv
   ·have := (List.getElem?_eq_some_iff.1 hv).1; simpa using this⟩
  have hge0 : Ge φ T w φ T { w with drawn := w.drawn + 1 } := Ge.of_heap rfl rfl rfl rfl
  refine ⟨.slice (some ⟨w.heap.size, 0, none⟩) s.size nc, _, _, ?_, ?_, r1, hge0.trans r2, r3, fun b hb _ => r4 b hb⟩
  ·simp only [convert, Sem.run_bind, run_under' h1, run_under' h2, run_under' h3, Result.andThen_ok, Conv.stringToBytes]
   have hch : (choose (.appendCap s.size 0 e)).run P w = .ok nc { w with drawn := w.drawn + 1 } := by
    simp [choose, Sem.run, Question.forced, hnc]
   simp only [hch, Result.andThen_ok, newRow, newObj, Sem.run_bind, Sem.run, Sem.run_pure, markStringish, shape, freeze]
   simp [World.shape?, World.freeze, cs, Sem.run]
   apply Array.ext_getElem?
   intro j
   rw [Array.getElem?_modify, Array.getElem?_push, Array.getElem?_push]
   by_cases hj : w.heap.size = j
   ·subst hj; simp
   ·rw [if_neg hj]
    by_cases hj' : j = w.heap.size
    ·exact absurd hj'.symm hj
    ·rw [if_neg hj', if_neg hj']
  ·simp only [VR, CR]
   refine ⟨_, nc, rfl, hge, fun h => by simp at h, fun ad h => by simp at h; rw [← h], fun _ => ⟨w.heap.size, 0, by simp [putPhi], by simp, ?_⟩⟩
   unfold sizeAt
   simp only [Array.getElem?_push_size, hcs, ET.sz]
   omega
 ·rename_i e c hs hd
  split at hp
  ·rename_i xs hxs
   have ok1 := hti src (.inl (by rw [hs]; simp))
   have ok2 := hti dst (.inl (by rw [hd]; simp))
   have h1 : P.underlying src = some (.slice e) := by have := ok1.kind; rwa [hs] at this
   have h2 : P.underlying dst = some .string := by have := ok2.kind; rwa [hd] at this
   obtain ⟨hk, hsz⟩ := hp
   have oke := hti e (.inr (by omega))
   have h3 : P.underlying e = some (.int .u8) := by have := oke.kind; rwa [hk] at this
   simp only [VR] at hx
   obtain ⟨a, cap, rfl, hcap, hnone, hspot, hne⟩ := content_at hrel (fun k hk => hrd k (by simpa [refsV] using hk)) hx hxs
   refine Ran.pure hrel ⟨rfl, rfl⟩ ⟨.string ⟨xs.toArray⟩, ?_, rfl⟩
   simp only [convert, Sem.run_bind, run_under' h1, run_under' h2, run_under' h3, Result.andThen_ok]
   cases a with
   | none =>
     have hx0 : xs = [] := by
      cases xs with
      | nil => rfl
      | cons y ys => obtain ⟨b, o, hab, -⟩ := hne (by simp); cases hab
     subst hx0
     rfl
   | some ad =>
     have hload : (loadCells ad xs.length).run P w = .ok ((xs.map fun b => (b.toNat : Int)).map (Value.int .u8)).toArray w := by
      cases xs with
      | nil => simp [loadCells, loadCellsFrom]
      | cons y ys =>
        obtain ⟨b, o, hab, hcs⟩ := hne (by simp)
        cases hab
        have := run_loadCells_list (P := P) w ⟨b, o, none⟩ ((y :: ys).map fun b => Value.int .u8 b.toNat) (fun j v hv => by rw [add_addr]; exact hcs j v (by rw [← flat_bytes] at hv; exact hv))
        rw [List.length_map] at this
        rw [List.map_map]; exact this
     rw [run_bytesToString w ad _ cap _ hload, fold_bytes]
     simp
  ·exact hp.elim
 ·exact hp.elim
end
end Go.Proofs.YtfmjgoeclilcnaaGreatDoor
namespace Go.Proofs.YtfmjgoeclilcnaaGreatDoor
open Go.RowKit
def tabOf (os : List Obj) : Tab := fun k => os[k]?
def Post (φ : Phi) (T : Tab) (w : World) (n : Nat) (s : St) (e : Ending) (w' : World) : Prop :=
 ∃ r φ', e = .returned r ∧ VR φ' (newT T n s) w' s.v r ∧ Rel φ' (newT T n s) w' ∧ Ge φ T w φ' (newT T n s) w' ∧ Dom φ φ' n s.news.length ∧ Kept φ T (fun k => ∃ o, (k, o) ∈ s.upd) w w'
def Sound (P : Program) (f : FuncId) (ct : Ct) : Prop :=
 ∀ args os, (ct.spec args os).pre → ∀ φ w rargs, Rel φ (tabOf os) w → VRs φ (tabOf os) w args rargs → (∀ k, os.length ≤ k → φ k = none) →
   Calls P f rargs.toArray w (Post φ (tabOf os) w os.length (ct.spec args os))
theorem idxOf_some : ∀ {π : List Nat} {k j : Nat}, idxOf π k = some j → π[j]? = some k
 | [], k, j, h => by simp [idxOf] at h
 | i :: r, k, j, h => by
   unfold idxOf at h
   split at h
   ·rename_i hi; cases h; simpa using hi
   ·simp only [Option.map_eq_some_iff] at h
    obtain ⟨j', h', rfl⟩ := h
    simpa using idxOf_some h'
theorem idxOf_none : ∀ {π : List Nat} {k : Nat}, idxOf π k = none → k ∉ π
 | [], k, h => by simp
 | i :: r, k, h => by
   unfold idxOf at h
   split at h
   ·cases h
   ·rename_i hi
    simp only [Option.map_eq_none_iff] at h
    simp only [List.mem_cons, not_or]
    exact ⟨fun e => hi e.symm, idxOf_none h⟩
theorem addNew_nodup {π : List Nat} (h : π.Nodup) (k : Nat) : (addNew π k).Nodup := by
 unfold addNew
 cases hk : idxOf π k with
 | some j => simpa using h
 | none =>
   have := idxOf_none hk
   simp only [Option.isSome_none, Bool.false_eq_true, if_false]
   rw [List.nodup_append]
   refine ⟨h, by simp, ?_⟩
   intro a ha b hb
   simp at hb; subst hb
   rintro rfl; exact this ha
theorem foldl_addNew : ∀ (l π : List Nat), π.Nodup → (l.foldl addNew π).Nodup
 | [], π, h => h
 | k :: l, π, h => foldl_addNew l _ (addNew_nodup h k)
theorem handed_nodup (rd : Nat → Option Obj) (own : Bool) (args : List TV) : (handed rd own args).Nodup :=
 foldl_addNew _ _ (foldl_addNew _ _ List.nodup_nil)
theorem mapO_get {α β : Type} {f : α → Option β} : ∀ {l : List α} {m : List β}, mapO f l = some m → m.length = l.length ∧ ∀ (i : Nat) (a : α), l[i]? = some a → ∃ b, m[i]? = some b ∧ f a = some b
 | [], m, h => by simp [mapO] at h; subst h; exact ⟨rfl, fun i a h => by simp at h⟩
 | a :: l, m, h => by
   unfold mapO at h
   split at h
   ·rename_i b bs hb hbs
    cases h
    obtain ⟨h1, h2⟩ := mapO_get hbs
    refine ⟨by simp [h1], fun i x hx => ?_⟩
    cases i with
    | zero => simp at hx; subst hx; exact ⟨b, rfl, hb⟩
    | succ i => simpa using h2 i x (by simpa using hx)
   ·cases h
section
variable {φ : Phi} {T : Tab} {w : World} {rd : Nat → Option Obj} {π : List Nat} {os : List Obj} {ow : Bool}
def frC (ow : Bool) (φ : Phi) (T : Tab) (π : List Nat) : Nat → Prop := fun b => φ.fr b ∨ (ow = true ∧ ∃ k base, k ∉ π ∧ T k ≠ none ∧ φ k = some (b, base))
def phiC (φ : Phi) (π : List Nat) (ow : Bool) (T : Tab) : Phi := ⟨fun j => match π[j]? with | some k => φ k | none => none, frC ow φ T π⟩
variable (hrel : Rel φ T w) (hπ : π.Nodup) (hos : mapO (viewO rd π) π = some os) (hrd : ∀ k, k ∈ π → T k = rd k)
include hrel hπ hos hrd
theorem tabC {j : Nat} (h : tabOf os j ≠ none) : ∃ k, π[j]? = some k ∧ T k ≠ none ∧ ∃ o, tabOf os j = some o ∧ viewO rd π k = some o := by
 obtain ⟨hl, hg⟩ := mapO_get hos
 have hj : j < π.length := by
  rcases Nat.lt_or_ge j os.length with h' | h'
  ·omega
  ·exact absurd (List.getElem?_eq_none h') h
 have hk : π[j]? = some π[j] := List.getElem?_eq_getElem hj
 obtain ⟨o, h1, h2⟩ := hg j _ hk
 refine ⟨π[j], hk, ?_, o, h1, h2⟩
 rw [hrd _ (List.getElem_mem hj)]
 intro hn
 unfold viewO at h2
 rw [hn] at h2; cases h2
theorem ownC {b : Nat} (h : Own (phiC φ π ow T) (tabOf os) b) : ∃ j k base, π[j]? = some k ∧ T k ≠ none ∧ tabOf os j ≠ none ∧ φ k = some (b, base) := by
 obtain ⟨j, base, hj, hφ⟩ := h
 obtain ⟨k, hk, hT, -⟩ := tabC hrel hπ hos hrd hj
 refine ⟨j, k, base, hk, hT, hj, ?_⟩
 simpa [phiC, hk] using hφ
theorem ownC' {b : Nat} (h : Own (phiC φ π ow T) (tabOf os) b) : Own φ T b := by
 obtain ⟨j, k, base, -, hT, -, hφ⟩ := ownC hrel hπ hos hrd h
 exact ⟨k, base, hT, hφ⟩
theorem immC {b : Nat} (h : Imm φ T w b) : Imm (phiC φ π ow T) (tabOf os) w b := ⟨h.1, fun ho => h.2.1 (ownC' hrel hπ hos hrd ho), fun hf => hf.elim h.2.2 fun ⟨_, k, base, _, hT, hφ⟩ => h.2.1 ⟨k, base, hT, hφ⟩⟩
theorem phiC_idx {k j : Nat} (h : idxOf π k = some j) : phiC φ π ow T j = φ k := by simp [phiC, idxOf_some h]
theorem viewCap_R {q q' : Nat × Nat} {v : Value} (h : viewCap π q = some q') (hv : CapR φ q v) : CapR (phiC φ π ow T) q' v := by
 obtain ⟨k, off⟩ := q
 unfold viewCap at h
 simp only [Option.map_eq_some_iff] at h
 obtain ⟨j, hj, rfl⟩ := h
 obtain ⟨b, base, hφ, hv⟩ := hv
 exact ⟨b, base, by rw [phiC_idx hrel hπ hos hrd hj]; exact hφ, hv⟩
theorem viewC_R {own : Bool} (hw : own = false → ow = false) {sh : Option ET} {c c' : TC} {v : Value} (h : viewC rd own π sh c = some c') (hc : ∀ k, k ∈ refsC true c → T k = rd k) (hv : CR φ T w c v) : CR (phiC φ π ow T) (tabOf os) w c' v := by
 unfold viewC at h
 split at h
 ·simp only [Option.map_eq_some_iff] at h
  obtain ⟨j, hj, rfl⟩ := h
  obtain ⟨b, base, hφ, hv⟩ := hv
  exact ⟨b, base, by rw [phiC_idx hrel hπ hos hrd hj]; exact hφ, hv⟩
 ·simp only [Option.map_eq_some_iff] at h
  obtain ⟨j, hj, rfl⟩ := h
  obtain ⟨b, base, hφ, hv⟩ := hv
  exact ⟨b, base, by rw [phiC_idx hrel hπ hos hrd hj]; exact hφ, hv⟩
 ·rename_i t k off len
  split at h
  ·simp only [Option.map_eq_some_iff] at h
   obtain ⟨j, hj, rfl⟩ := h
   obtain ⟨a, cap, h1, h2, h3, h4, h5⟩ := hv
   exact ⟨a, cap, h1, h2, h3, h4, fun hc => by rw [phiC_idx hrel hπ hos hrd hj]; exact h5 hc⟩
  ·rename_i hown
   split at h
   ·rename_i hidx
    simp only [Option.map_eq_some_iff] at h
    obtain ⟨xs, hxs, rfl⟩ := h
    obtain ⟨hTk0, a, cap, h1, h2, h3, h4, h5⟩ := contentV_at hrel (hc k (by simp [refsC])) hv hxs
    refine ⟨a, cap, h1, h2, h3, h4, fun hne => ?_⟩
    obtain ⟨b, o, hab, hcs⟩ := h5 hne
    refine ⟨b, o, hab, ?_, hcs⟩
    subst h1
    obtain ⟨a', cap', he, k2, k3, k4, k5⟩ := hv
    cases he
    have hcap : cap ≠ 0 := by
     intro h0
     have : xs.length = 0 := by omega
     exact hne (List.length_eq_zero_iff.1 this)
    obtain ⟨b', base, hφ, hab', hsz⟩ := k5 hcap
    rw [hab] at hab'; cases hab'
    have hTk : T k ≠ none := hTk0
    refine ⟨?_, fun ho => ?_, fun hf => ?_⟩
    ·exact Own.lt hrel ⟨k, base, hTk, hφ⟩
    ·obtain ⟨j, k', base', hj, hT', -, hφ'⟩ := ownC hrel hπ hos hrd ho
     have := hrel.inj k' k b base' base hT' hTk hφ' hφ
     subst this
     exact idxOf_none hidx (List.mem_of_getElem? hj)
    ·rcases hf with hf | ⟨hf, -⟩
     ·exact (hrel.frd b hf).2 ⟨k, base, hTk, hφ⟩
     ·rw [hw (by simpa using hown)] at hf; cases hf
   ·cases h
 ·rename_i f cs
  simp only [Option.map_eq_some_iff] at h
  obtain ⟨cs', hcs, rfl⟩ := h
  obtain ⟨vs, hv, ha⟩ := hv
  refine ⟨vs, hv, ?_⟩
  obtain ⟨hl, hg⟩ := mapO_get hcs
  refine All2.of_get (by rw [hl]; exact ha.length) fun i q' b hq' hb => ?_
  have hi : i < cs.length := by rw [← hl]; exact (List.getElem?_eq_some_iff.1 hq').1
  obtain ⟨q'', h1, h2⟩ := hg i _ (List.getElem?_eq_getElem hi)
  rw [hq'] at h1; cases h1
  obtain ⟨b', h3, h4⟩ := ha.get i _ (List.getElem?_eq_getElem hi)
  rw [hb] at h3; cases h3
  exact viewCap_R hrel hπ hos hrd h2 h4
 ·split at h
  ·cases h
   cases hv
   exact ⟨none, 0, rfl, Nat.le_refl _, fun _ => rfl, fun _ h => by simp at h, fun h => absurd rfl h⟩
  ·cases h; exact hv
 ·cases h
  cases c with
  | val u => exact hv
  | ptr k off => rename_i h1 _ _ _ _; exact absurd rfl (h1 _ _)
  | eptr k sz i j => rename_i _ h1 _ _ _; exact absurd rfl (h1 _ _ _ _)
  | osl t k off len => rename_i _ _ h1 _ _; exact absurd rfl (h1 _ _ _ _)
  | isl t xs =>
    obtain ⟨a, cap, h1, h2, h3, h4, h5⟩ := hv
    exact ⟨a, cap, h1, h2, h3, h4, fun hne => by obtain ⟨b, o, hab, him, hcs⟩ := h5 hne; exact ⟨b, o, hab, immC hrel hπ hos hrd him, hcs⟩⟩
  | ip cs off =>
    obtain ⟨b, o, h1, him, hcs⟩ := hv
    exact ⟨b, o, h1, immC hrel hπ hos hrd him, hcs⟩
  | fn f cs => rename_i _ _ _ h1 _; exact absurd rfl (h1 _ _)
  | ifc => exact hv
  | nb p q => exact hv
  | any => trivial
theorem viewCs_R {own : Bool} (hw : own = false → ow = false) : ∀ {sh : List (Option ET)} {cs cs' : List TC} {vs : List Value}, viewCs rd own π sh cs = some cs' → (∀ c ∈ cs, ∀ k, k ∈ refsC true c → T k = rd k) → All2 (CR φ T w) cs vs → All2 (CR (phiC φ π ow T) (tabOf os) w) cs' vs
 | _, [], cs', vs, h, _, ha => by
   simp [viewCs] at h; subst h
   match vs, ha with
   | [], _ => trivial
 | [], c :: cs, cs', v :: vs, h, hc, ha => by
   unfold viewCs at h
   split at h
   ·rename_i d ds hd hds
    cases h
    exact ⟨viewC_R hrel hπ hos hrd hw hd (hc c (by simp)) ha.1, viewCs_R hw hds (fun c hm => hc c (by simp [hm])) ha.2⟩
   ·cases h
 | s :: ss, c :: cs, cs', v :: vs, h, hc, ha => by
   unfold viewCs at h
   split at h
   ·rename_i d ds hd hds
    cases h
    exact ⟨viewC_R hrel hπ hos hrd hw hd (hc c (by simp)) ha.1, viewCs_R hw hds (fun c hm => hc c (by simp [hm])) ha.2⟩
   ·cases h
 | [], _ :: _, _, [], _, _, ha => ha.elim
 | _ :: _, _ :: _, _, [], _, _, ha => ha.elim
theorem viewV_R {own : Bool} (hw : own = false → ow = false) {sh : List (Option ET)} {x x' : TV} {v : Value} (h : viewV rd own π sh x = some x') (hc : ∀ k, k ∈ refsV true x → T k = rd k) (hv : VR φ T w x v) : VR (phiC φ π ow T) (tabOf os) w x' v := by
 unfold viewV at h
 split at h
 ·simp only [Option.map_eq_some_iff] at h
  obtain ⟨c', hc', rfl⟩ := h
  simp only [VR] at hv ⊢
  exact viewC_R hrel hπ hos hrd hw hc' (fun k hk => hc k (by simpa [refsV] using hk)) hv
 ·simp only [Option.map_eq_some_iff] at h
  obtain ⟨cs', hcs', rfl⟩ := h
  simp only [VR] at hv ⊢
  obtain ⟨vs, rfl, ha⟩ := hv
  exact ⟨vs, rfl, viewCs_R hrel hπ hos hrd hw hcs' (fun c hm k hk => hc k (by simp only [refsV, List.mem_flatMap]; exact ⟨c, hm, hk⟩)) ha⟩
 ·cases h
theorem viewVs_R {own : Bool} (hw : own = false → ow = false) : ∀ {sh : List (List (Option ET))} {xs xs' : List TV} {vs : List Value}, viewVs rd own π sh xs = some xs' → (∀ x ∈ xs, ∀ k, k ∈ refsV true x → T k = rd k) → VRs φ T w xs vs → VRs (phiC φ π ow T) (tabOf os) w xs' vs
 | _, [], xs', vs, h, _, ha => by
   simp [viewVs] at h; subst h
   match vs, ha with
   | [], _ => simp [VRs]
   | _ :: _, ha => simp [VRs] at ha
 | [], x :: xs, xs', v :: vs, h, hc, ha => by
   unfold viewVs at h
   split at h
   ·rename_i d ds hd hds
    cases h
    simp only [VRs] at ha ⊢
    exact ⟨viewV_R hrel hπ hos hrd hw hd (hc x (by simp)) ha.1, viewVs_R hw hds (fun c hm => hc c (by simp [hm])) ha.2⟩
   ·cases h
 | s :: ss, x :: xs, xs', v :: vs, h, hc, ha => by
   unfold viewVs at h
   split at h
   ·rename_i d ds hd hds
    cases h
    simp only [VRs] at ha ⊢
    exact ⟨viewV_R hrel hπ hos hrd hw hd (hc x (by simp)) ha.1, viewVs_R hw hds (fun c hm => hc c (by simp [hm])) ha.2⟩
   ·cases h
 | [], _ :: _, _, [], _, _, ha => by simp [VRs] at ha
 | _ :: _, _ :: _, _, [], _, _, ha => by simp [VRs] at ha
theorem viewC_R' {sh : Option ET} {c c' : TC} {v : Value} (h : viewC rd true π sh c = some c') (hv : CR φ T w c v) : CR (phiC φ π ow T) (tabOf os) w c' v := by
 cases c with
 | osl t k off len =>
   simp only [viewC, if_true, Option.map_eq_some_iff] at h
   obtain ⟨j, hj, rfl⟩ := h
   obtain ⟨a, cap, h1, h2, h3, h4, h5⟩ := hv
   exact ⟨a, cap, h1, h2, h3, h4, fun hc => by rw [phiC_idx hrel hπ hos hrd hj]; exact h5 hc⟩
 | ptr k off =>
   simp only [viewC, Option.map_eq_some_iff] at h
   obtain ⟨j, hj, rfl⟩ := h
   obtain ⟨b, base, hφ, hv⟩ := hv
   exact ⟨b, base, by rw [phiC_idx hrel hπ hos hrd hj]; exact hφ, hv⟩
 | eptr k sz i j =>
   simp only [viewC, Option.map_eq_some_iff] at h
   obtain ⟨j, hj, rfl⟩ := h
   obtain ⟨b, base, hφ, hv⟩ := hv
   exact ⟨b, base, by rw [phiC_idx hrel hπ hos hrd hj]; exact hφ, hv⟩
 | fn f cs =>
   refine viewC_R (rd := rd) hrel hπ hos hrd (own := true) (fun h => by cases h) (sh := sh) (c := .fn f cs) h ?_ hv
   intro k hk
   simp only [refsC, List.mem_map] at hk
   obtain ⟨q, hq, rfl⟩ := hk
   simp only [viewC, Option.map_eq_some_iff] at h
   obtain ⟨cs', hcs, -⟩ := h
   obtain ⟨hl, hg⟩ := mapO_get hcs
   obtain ⟨i, hi, rfl⟩ := List.getElem_of_mem hq
   obtain ⟨q', -, h2⟩ := hg i _ (List.getElem?_eq_getElem hi)
   unfold viewCap at h2
   simp only [Option.map_eq_some_iff] at h2
   obtain ⟨j, hj, -⟩ := h2
   exact hrd _ (List.mem_of_getElem? (idxOf_some hj))
 | val u => exact viewC_R hrel hπ hos hrd (own := true) (fun h => by cases h) h (by simp [refsC]) hv
 | isl t xs => exact viewC_R hrel hπ hos hrd (own := true) (fun h => by cases h) h (by simp [refsC]) hv
 | ip cs off => exact viewC_R hrel hπ hos hrd (own := true) (fun h => by cases h) h (by simp [refsC]) hv
 | ifc => exact viewC_R hrel hπ hos hrd (own := true) (fun h => by cases h) h (by simp [refsC]) hv
 | nb p q => exact viewC_R hrel hπ hos hrd (own := true) (fun h => by cases h) h (by simp [refsC]) hv
 | any => exact viewC_R hrel hπ hos hrd (own := true) (fun h => by cases h) h (by simp [refsC]) hv
omit hrel hπ hos hrd in
theorem viewCs_get : ∀ {cs cs' : List TC}, viewCs rd true π [] cs = some cs' → ∀ (i : Nat) (tc : TC), cs'[i]? = some tc → ∃ tc0, cs[i]? = some tc0 ∧ viewC rd true π none tc0 = some tc
 | [], cs', h, i, tc, hi => by simp [viewCs] at h; subst h; simp at hi
 | c :: cs, cs', h, i, tc, hi => by
   unfold viewCs at h
   split at h
   ·rename_i d ds hd hds
    cases h
    cases i with
    | zero => simp at hi; subst hi; exact ⟨c, rfl, hd⟩
    | succ i => simpa using viewCs_get hds i tc (by simpa using hi)
   ·cases h
theorem relC : Rel (phiC φ π ow T) (tabOf os) w := by
 refine ⟨fun j o hj => ?_, fun i j b base base' hi hj hφi hφj => ?_, fun b hb => ?_, fun q hq => ⟨fun ho => (hrel.glo q hq).1 (ownC' hrel hπ hos hrd ho), (hrel.glo q hq).2⟩⟩
 ·obtain ⟨k, hk, hT, o', h1, h2⟩ := tabC hrel hπ hos hrd (by rw [hj]; simp)
  rw [hj] at h1; cases h1
  have hφ : phiC φ π ow T j = φ k := by simp [phiC, hk]
  have hTk := hrd k (List.mem_of_getElem? hk)
  unfold viewO at h2
  split at h2
  ·rename_i cs hcs
   simp only [Option.map_eq_some_iff] at h2
   obtain ⟨cs', hcs', rfl⟩ := h2
   obtain ⟨b, base, c, hφk, hC, hcells⟩ := hrel.obj k _ (hTk.trans hcs)
   refine ⟨b, base, c, by rw [hφ]; exact hφk, hC, fun i tc hi => ?_⟩
   obtain ⟨tc0, h3, h4⟩ := viewCs_get hcs' i tc hi
   obtain ⟨v, hv, hr⟩ := hcells i tc0 h3
   exact ⟨v, hv, viewC_R' hrel hπ hos hrd h4 hr⟩
  ·rename_i t xs hcs
   cases h2
   rcases hrel.obj k _ (hTk.trans hcs) with ⟨h3, h4⟩ | ⟨b, base, c, hφk, hC, hcells⟩
   ·exact .inl ⟨by rw [hφ]; exact h3, h4⟩
   ·exact .inr ⟨b, base, c, by rw [hφ]; exact hφk, hC, hcells⟩
  ·cases h2
 ·obtain ⟨k, hk, hT, -⟩ := tabC hrel hπ hos hrd hi
  obtain ⟨k', hk', hT', -⟩ := tabC hrel hπ hos hrd hj
  have h1 : φ k = some (b, base) := by simpa [phiC, hk] using hφi
  have h2 : φ k' = some (b, base') := by simpa [phiC, hk'] using hφj
  have := hrel.inj k k' b base base' hT hT' h1 h2
  subst this
  exact (List.getElem?_inj (List.getElem?_eq_some_iff.1 hk).1 hπ).1 (hk.trans hk'.symm)
 ·rcases hb with hb | ⟨-, k, base, hkπ, hTk, hφ⟩
  ·exact ⟨(hrel.frd b hb).1, fun ho => (hrel.frd b hb).2 (ownC' hrel hπ hos hrd ho)⟩
  ·refine ⟨Own.lt hrel ⟨k, base, hTk, hφ⟩, fun ho => ?_⟩
   obtain ⟨j, k', base', hj, hT', -, hφ'⟩ := ownC hrel hπ hos hrd ho
   have := hrel.inj k' k b base' base hT' hTk hφ' hφ
   subst this
   exact hkπ (List.mem_of_getElem? hj)
end
end Go.Proofs.YtfmjgoeclilcnaaGreatDoor
namespace Go.Proofs.YtfmjgoeclilcnaaGreatDoor
open Go.RowKit
theorem updT_other : ∀ (upd : List (Nat × Option Obj)) (T : Tab) (k : Nat), (∀ o, (k, o) ∉ upd) → updT T upd k = T k
 | [], T, k, h => rfl
 | (i, o) :: r, T, k, h => by
   simp only [updT]
   rw [updT_other r _ k fun o' ho => h o' (by simp [ho])]
   have : k ≠ i := by rintro rfl; exact h o (by simp)
   simp [this]
theorem updT_ren {π : List Nat} {n : Nat} (hπ : π.Nodup) : ∀ (upd : List (Nat × Option Obj)) (Tc T : Tab), (∀ q ∈ upd, q.1 < π.length) → (∀ j k, π[j]? = some k → (Tc j = none ↔ T k = none)) →
  ∀ j k, π[j]? = some k → (updT Tc upd j = Tc j ∧ updT T (upd.map fun q => (ren π n q.1, q.2.map (renO π n))) k = T k ∧ (Tc j ≠ none → ∀ o, (j, o) ∉ upd)) ∨
    (∃ o, (j, o) ∈ upd ∧ updT Tc upd j = o ∧ updT T (upd.map fun q => (ren π n q.1, q.2.map (renO π n))) k = o.map (renO π n))
 | [], Tc, T, _, _, j, k, _ => .inl ⟨rfl, rfl, fun _ _ h => by simp at h⟩
 | (i, o) :: r, Tc, T, hlt, hiff, j, k, hjk => by
   have hi : i < π.length := hlt (i, o) (by simp)
   have hren : ren π n i = π[i] := by simp [ren, hi, List.getD, List.getElem?_eq_getElem hi]
   have hj : j < π.length := (List.getElem?_eq_some_iff.1 hjk).1
   have hkj : π[j] = k := (List.getElem?_eq_some_iff.1 hjk).2
   have hiff' : ∀ j k, π[j]? = some k → ((fun x => if x = i ∧ Tc i ≠ none then o else Tc x) j = none ↔ (fun x => if x = π[i] ∧ T π[i] ≠ none then o.map (renO π n) else T x) k = none) := by
    intro j' k' hj'
    have h1 : j' < π.length := (List.getElem?_eq_some_iff.1 hj').1
    have h2 : π[j'] = k' := (List.getElem?_eq_some_iff.1 hj').2
    have h3 := hiff j' k' hj'
    have h4 := hiff i π[i] (List.getElem?_eq_getElem hi)
    by_cases hji : j' = i
    ·subst hji
     subst h2
     simp only [true_and, ne_eq]
     by_cases hn : Tc j' = none
     ·have := h4.1 hn; simp [hn, this]
     ·have hn' : T π[j'] ≠ none := fun h => hn (h4.2 h)
      simp [hn, hn']
    ·have : k' ≠ π[i] := by
      rw [← h2]; intro he; exact hji ((List.getElem_inj hπ).1 he)
     simp [hji, this, h3]
   have ih := updT_ren (n := n) hπ r (fun x => if x = i ∧ Tc i ≠ none then o else Tc x) (fun x => if x = π[i] ∧ T π[i] ≠ none then o.map (renO π n) else T x) (fun q hq => hlt q (by simp [hq])) hiff' j k hjk
   simp only [updT, List.map_cons, hren]
   rcases ih with ⟨h1, h2, h3⟩ | ⟨o', h1, h2, h3⟩
   ·by_cases hji : j = i
    ·subst hji
     by_cases hn : Tc j = none
     ·left
      have hT : T k = none := (hiff j k hjk).1 hn
      rw [h1, h2]
      refine ⟨by simp [hn], ?_, fun h => absurd hn h⟩
      rw [hkj]; simp [hT]
     ·right
      have hT : T k ≠ none := fun h => hn ((hiff j k hjk).2 h)
      refine ⟨o, by simp, ?_, ?_⟩
      ·rw [h1]; simp [hn]
      ·rw [h2, hkj]; simp [hT]
    ·left
     have hne : k ≠ π[i] := by rw [← hkj]; intro he; exact hji ((List.getElem_inj hπ).1 he)
     refine ⟨by rw [h1]; simp [hji], by rw [h2]; simp [hne], fun hn o' ho => ?_⟩
     simp only [List.mem_cons, Prod.mk.injEq] at ho
     rcases ho with ⟨h, -⟩ | ho
     ·exact hji h
     ·exact h3 (by simpa [hji] using hn) o' ho
   ·exact .inr ⟨o', by simp [h1], h2, h3⟩
theorem updT_map_other {π : List Nat} {n : Nat} (upd : List (Nat × Option Obj)) (T : Tab) (hlt : ∀ q ∈ upd, q.1 < π.length) (k : Nat) (hk : k ∉ π) : updT T (upd.map fun q => (ren π n q.1, q.2.map (renO π n))) k = T k := by
 refine updT_other _ _ _ fun o ho => hk ?_
 simp only [List.mem_map, Prod.mk.injEq] at ho
 obtain ⟨q, hq, h1, -⟩ := ho
 have := hlt q hq
 rw [← h1]; simp [ren, this, List.getD, List.getElem?_eq_getElem this]
theorem allFree {α : Type} {ow : Bool} {f : α → Bool} {cs : List α} (hf : (ow || cs.all f) = true) {c : α} (hc : c ∈ cs) : (ow || f c) = true := by
 cases ow with
 | true => rfl
 | false => simpa using List.all_eq_true.1 (by simpa using hf) c hc
section
variable {φc φ' : Phi} {Tc T' : Tab} {w : World} {π : List Nat} {n : Nat} {ow : Bool}
variable (hφ : ∀ j, φc j ≠ none → φ' (ren π n j) = φc j) (hI : ow = true → ∀ b, Imm φc Tc w b → Imm φ' T' w b)
include hφ hI
theorem renC_R {c : TC} {v : Value} (hf : (ow || freeC c) = true) (h : CR φc Tc w c v) : CR φ' T' w (renC π n c) v := by
 have hp : ∀ k p, φc k = some p → φ' (ren π n k) = some p := fun k p hk => by rw [hφ k (by rw [hk]; simp), hk]
 cases c with
 | val u => exact h
 | ptr k off => obtain ⟨b, base, hk, hv⟩ := h; exact ⟨b, base, hp _ _ hk, hv⟩
 | eptr k sz i j => obtain ⟨b, base, hk, hv⟩ := h; exact ⟨b, base, hp _ _ hk, hv⟩
 | osl t k off len =>
   obtain ⟨a, cap, h1, h2, h3, h4, h5⟩ := h
   refine ⟨a, cap, h1, h2, h3, h4, fun hc => ?_⟩
   obtain ⟨b, base, hk, rest⟩ := h5 hc
   exact ⟨b, base, hp _ _ hk, rest⟩
 | isl t xs =>
   have hI := hI (by simpa [freeC] using hf)
   obtain ⟨a, cap, h1, h2, h3, h4, h5⟩ := h
   exact ⟨a, cap, h1, h2, h3, h4, fun hne => by obtain ⟨b, o, hab, him, hcs⟩ := h5 hne; exact ⟨b, o, hab, hI b him, hcs⟩⟩
 | ip cs off =>
   have hI := hI (by simpa [freeC] using hf)
   obtain ⟨b, o, h1, him, hcs⟩ := h
   exact ⟨b, o, h1, hI b him, hcs⟩
 | fn f cs =>
   obtain ⟨vs, hv, ha⟩ := h
   refine ⟨vs, hv, All2.of_get (by simp [ha.length]) fun i q b hq hb => ?_⟩
   simp only [List.getElem?_map, Option.map_eq_some_iff] at hq
   obtain ⟨q0, hq0, rfl⟩ := hq
   obtain ⟨b', hb', hr⟩ := ha.get i q0 hq0
   rw [hb] at hb'; cases hb'
   obtain ⟨k, off⟩ := q0
   obtain ⟨b, base, hk, hv⟩ := hr
   exact ⟨b, base, hp _ _ hk, hv⟩
 | ifc => exact h
 | nb p q => exact h
 | any => trivial
theorem renCs_R {cs : List TC} {vs : List Value} (hf : (ow || cs.all freeC) = true) (h : All2 (CR φc Tc w) cs vs) : All2 (CR φ' T' w) (cs.map (renC π n)) vs := by
 refine All2.of_get (by simp [h.length]) fun i c b hc hb => ?_
 simp only [List.getElem?_map, Option.map_eq_some_iff] at hc
 obtain ⟨c0, hc0, rfl⟩ := hc
 obtain ⟨b', hb', hr⟩ := h.get i c0 hc0
 rw [hb] at hb'; cases hb'
 exact renC_R hφ hI (allFree hf (List.mem_of_getElem? hc0)) hr
mutual
theorem renV_R : ∀ {x : TV} {v : Value}, (ow || freeV x) = true → VR φc Tc w x v → VR φ' T' w (renV π n x) v
 | .one c, v, hf, h => by
   simp only [renV, VR] at h ⊢
   exact renC_R hφ hI hf h
 | .agg cs, v, hf, h => by
   simp only [renV, VR] at h ⊢
   obtain ⟨vs, hv, ha⟩ := h
   exact ⟨vs, hv, renCs_R hφ hI hf ha⟩
 | .tup l, v, hf, h => by
   simp only [renV, VR] at h ⊢
   obtain ⟨vs, hv, ha⟩ := h
   exact ⟨vs, hv, renVs_R hf ha⟩
 | .gd c u, v, hf, h => by
   simp only [renV, VR] at h ⊢
   have ho : ow = true := by simpa [freeV] using hf
   exact ⟨fun hc => renV_R (by simp [ho]) (h.1 hc), h.2⟩
theorem renVs_R : ∀ {x : List TV} {v : List Value}, (ow || freeV.freeVs x) = true → VRs φc Tc w x v → VRs φ' T' w (renV.renVs π n x) v
 | [], [], _, _ => by simp [renV.renVs, VRs]
 | a :: as, b :: bs, hf, h => by
   simp only [renV.renVs, VRs] at h ⊢
   have h1 : (ow || freeV a) = true ∧ (ow || freeV.freeVs as) = true := by
    cases ow <;> simp_all [freeV.freeVs]
   exact ⟨renV_R h1.1 h.1, renVs_R h1.2 h.2⟩
 | [], _ :: _, _, h => by simp [VRs] at h
 | _ :: _, [], _, h => by simp [VRs] at h
end
theorem renO_R {j : Nat} {o : Obj} (hn : φc j = none → φ' (ren π n j) = none) (hf : (ow || freeO o) = true) (h : ObjR φc Tc w j o) : ObjR φ' T' w (ren π n j) (renO π n o) := by
 cases o with
 | cells cs =>
   obtain ⟨b, base, c, hk, hC, hcs⟩ := h
   refine ⟨b, base, c, by rw [hφ j (by rw [hk]; simp), hk], hC, fun i tc hi => ?_⟩
   simp only [List.getElem?_map, Option.map_eq_some_iff] at hi
   obtain ⟨c0, hc0, rfl⟩ := hi
   obtain ⟨v, hv, hr⟩ := hcs i c0 hc0
   exact ⟨v, hv, renC_R hφ hI (allFree (f := freeC) hf (List.mem_of_getElem? hc0)) hr⟩
 | arr t xs =>
   rcases h with ⟨h1, h2⟩ | ⟨b, base, c, hk, hC, hcs⟩
   ·exact .inl ⟨hn h1, h2⟩
   ·exact .inr ⟨b, base, c, by rw [hφ j (by rw [hk]; simp), hk], hC, hcs⟩
end
theorem callWith_sound {P : Program} {g : FuncId} {ct : Ct} (hs : Sound P g ct) {φ : Phi} {T : Tab} {w : World} {rd : Nat → Option Obj} {n : Nat} {args : List TV} {rargs : List Value} (hrel : Rel φ T w)
  (hrd : ∀ k, (k ∈ handed rd ct.own args ∨ ∃ x ∈ args, k ∈ refsV true x) → T k = rd k) (hargs : VRs φ T w args rargs) (hp : (callWith rd n ct args).pre)
  (hfresh : ∀ k, n ≤ k → k < n + (callWith rd n ct args).news.length → φ k = none ∧ T k = none) :
  Calls P g rargs.toArray w (Post φ T w n (callWith rd n ct args)) := by
 have hπ := handed_nodup rd ct.own args
 unfold callWith at hp hfresh ⊢
 generalize handed rd ct.own args = π at *
 simp only at hp hfresh ⊢
 split at hp
 case h_2 => exact hp.elim
 rename_i as os has hos
 simp only [has, hos] at hfresh
 cases hsp : ct.spec as os with
 | mk p v upd news =>
 simp only [hsp] at hp hfresh ⊢
 obtain ⟨hp, hfv, hfu, hfn⟩ := hp
 have hrdπ : ∀ k, k ∈ π → T k = rd k := fun k hk => hrd k (.inl hk)
 have hrelC := relC hrel hπ hos hrdπ (ow := ct.own)
 have hargsC := viewVs_R hrel hπ hos hrdπ (ow := ct.own) (fun h => h) has (fun x hx k hk => hrd k (.inr ⟨x, hx, hk⟩)) hargs
 obtain ⟨hosl, hosg⟩ := mapO_get hos
 have hcall := hs as os (by rw [hsp]; exact hp) (phiC φ π ct.own T) w rargs hrelC hargsC (fun k hk => by simp only [phiC]; rw [List.getElem?_eq_none (by omega)])
 rw [hsp] at hcall
 refine hcall.mono ?_
 rintro e w' ⟨r, φc', rfl, hv, hrel', hge, hdom, hkept⟩
 simp only at hv hrel' hge hdom hkept hfresh
 rw [hosl] at hdom
 have hlt : ∀ q ∈ upd, q.1 < π.length ∧ ∀ o, q.2 = some o → (ct.own || freeO o) = true := by
  intro q hq
  have := List.all_eq_true.1 hfu q hq
  simp only [Bool.and_eq_true, decide_eq_true_eq] at this
  refine ⟨this.2, fun o ho => ?_⟩
  have h1 := this.1
  rw [ho] at h1; simpa using h1
 let φ' : Phi := ⟨fun k => if n ≤ k ∧ k < n + news.length then φc' (π.length + (k - n)) else φ k, φ.fr⟩
 have hnl : (news.map (renO π n)).length = news.length := by simp
 rw [hnl] at hfresh
 have hphi : ∀ k q, φ k = some q → φ' k = some q := by
  intro k q hk
  simp only [φ']
  rw [if_neg]
  ·exact hk
  ·rintro ⟨h1, h2⟩
   rw [(hfresh k h1 h2).1] at hk; cases hk
 have haliveπ : ∀ k, k ∈ π → T k ≠ none := by
  intro k hk
  obtain ⟨j, hj, rfl⟩ := List.getElem_of_mem hk
  obtain ⟨o, h1, h2⟩ := hosg j _ (List.getElem?_eq_getElem hj)
  rw [hrdπ _ hk]
  intro hn
  unfold viewO at h2; rw [hn] at h2; cases h2
 have hold : ∀ k, k ∈ π → ¬ (n ≤ k ∧ k < n + news.length) := fun k hk h => haliveπ k hk (hfresh k h.1 h.2).2
 have hrenlt : ∀ j, (hj : j < π.length) → ren π n j = π[j] := fun j hj => by simp [ren, hj, List.getD, List.getElem?_eq_getElem hj]
 have hrenge : ∀ j, π.length ≤ j → ren π n j = n + (j - π.length) := fun j hj => by simp [ren, Nat.not_lt.2 hj]
 have hagree : ∀ j, j < π.length + news.length → φ' (ren π n j) = φc' j := by
  intro j hj
  by_cases hjm : j < π.length
  ·rw [hrenlt j hjm]
   simp only [φ']
   rw [if_neg (hold _ (List.getElem_mem hjm))]
   cases hk : φ π[j] with
   | some q =>
     exact (hge.phi j q (by simp [phiC, List.getElem?_eq_getElem hjm, hk])).symm
   | none =>
     cases hc : φc' j with
     | none => rfl
     | some q =>
       rcases hdom j (by rw [hc]; simp) with h | h
       ·simp [phiC, List.getElem?_eq_getElem hjm, hk] at h
       ·omega
  ·rw [hrenge j (by omega)]
   simp only [φ']
   rw [if_pos ⟨by omega, by omega⟩]
   congr 1; omega
 have hdomc : ∀ j, φc' j ≠ none → j < π.length + news.length := by
  intro j hj
  rcases hdom j hj with h | h
  ·have : j < π.length := by
    rcases Nat.lt_or_ge j π.length with h' | h'
    ·exact h'
    ·simp [phiC, List.getElem?_eq_none h'] at h
   omega
  ·omega
 have hφ : ∀ j, φc' j ≠ none → φ' (ren π n j) = φc' j := fun j hj => hagree j (hdomc j hj)
 generalize hTc' : newT (tabOf os) os.length ⟨p, v, upd, news⟩ = Tc' at hv hrel' hge
 have hTc : Tc' = addT (updT (tabOf os) upd) π.length news := by rw [← hTc', hosl]; rfl
 generalize hT' : newT T n ⟨p ∧ (ct.own || freeV v) = true ∧ (upd.all fun q => (ct.own || (q.2.map freeO).getD true) && decide (q.1 < π.length)) = true ∧ (ct.own || news.all freeO) = true, renV π n v, upd.map fun q => (ren π n q.1, q.2.map (renO π n)), news.map (renO π n)⟩ = T'
 have hT : T' = addT (updT T (upd.map fun q => (ren π n q.1, q.2.map (renO π n)))) n (news.map (renO π n)) := by rw [← hT']; rfl
 have hiff : ∀ j k, π[j]? = some k → (tabOf os j = none ↔ T k = none) := by
  intro j k hjk
  obtain ⟨o, h1, h2⟩ := hosg j k hjk
  constructor
  ·intro h; rw [tabOf, h1] at h; cases h
  ·intro h; exact absurd h (haliveπ k (List.mem_of_getElem? hjk))
 have hup := updT_ren (n := n) hπ upd (tabOf os) T (fun q hq => (hlt q hq).1) hiff
 have hTnew : ∀ i, i < news.length → ∃ o, news[i]? = some o ∧ T' (n + i) = some (renO π n o) ∧ Tc' (π.length + i) = some o ∧ (ct.own || freeO o) = true := by
  intro i hi
  refine ⟨news[i], List.getElem?_eq_getElem hi, ?_, ?_, allFree hfn (List.getElem_mem hi)⟩
  ·rw [hT]; simp [addT, hi]
  ·rw [hTc]; simp [addT, hi]
 have hTold : ∀ k, ¬ (n ≤ k ∧ k < n + news.length) → T' k = updT T (upd.map fun q => (ren π n q.1, q.2.map (renO π n))) k := by
  intro k hk
  rw [hT]
  unfold addT
  split
  ·rw [List.getElem?_eq_none (by simp; omega)]
  ·rfl
 have hTcold : ∀ j, j < π.length → Tc' j = updT (tabOf os) upd j := by
  intro j hj
  rw [hTc]; unfold addT; rw [if_neg (by omega)]
 have hcases : ∀ k o, T' k = some o → (∃ j oc, j < π.length + news.length ∧ k = ren π n j ∧ o = renO π n oc ∧ Tc' j = some oc ∧ (ct.own || freeO oc) = true) ∨
   (T k = some o ∧ ¬ (n ≤ k ∧ k < n + news.length) ∧ (∀ b base, φ k = some (b, base) → w'.heap[b]? = w.heap[b]?) ∧ (k ∈ π → ∃ j, π[j]? = some k ∧ Tc' j ≠ none)) := by
  intro k o hk
  by_cases hnew : n ≤ k ∧ k < n + news.length
  ·left
   obtain ⟨oc, h1, h2, h3, h4⟩ := hTnew (k - n) (by omega)
   rw [show n + (k - n) = k by omega] at h2
   rw [hk] at h2; cases h2
   exact ⟨π.length + (k - n), oc, by omega, by rw [hrenge _ (by omega)]; omega, rfl, h3, h4⟩
  ·rw [hTold k hnew] at hk
   by_cases hkπ : k ∈ π
   ·obtain ⟨j, hj, hjk⟩ := List.getElem_of_mem hkπ
    have hjk' : π[j]? = some k := by rw [List.getElem?_eq_getElem hj, hjk]
    rcases hup j k hjk' with ⟨h1, h2, h3⟩ | ⟨o', h1, h2, h3⟩
    ·right
     rw [h2] at hk
     have hTcj : tabOf os j ≠ none := fun h => by rw [(hiff j k hjk').1 h] at hk; cases hk
     refine ⟨hk, hnew, fun b base hφk => ?_, fun _ => ⟨j, hjk', by rw [hTcold j hj, h1]; exact hTcj⟩⟩
     refine hkept b ((hrel.obj k o hk).lt hφk) ?_
     rintro j0 base0 ⟨o0, hj0⟩ hT0 hφ0
     obtain ⟨k0, hk0, hTk0, -⟩ := tabC hrel hπ hos hrdπ hT0
     have hφk0 : φ k0 = some (b, base0) := by simpa [phiC, hk0] using hφ0
     have := hrel.inj k0 k b base0 base hTk0 (by rw [hk]; simp) hφk0 hφk
     subst this
     have hj0j : j0 = j := (List.getElem?_inj (List.getElem?_eq_some_iff.1 hk0).1 hπ).1 (hk0.trans hjk'.symm)
     subst hj0j
     exact h3 hTcj o0 hj0
    ·left
     rw [h3] at hk
     cases o' with
     | none => cases hk
     | some oc =>
       simp only [Option.map_some, Option.some.injEq] at hk
       exact ⟨j, oc, by omega, by rw [hrenlt j hj, hjk], hk.symm, by rw [hTcold j hj, h2], (hlt _ h1).2 oc rfl⟩
   ·right
    rw [updT_map_other upd T (fun q hq => (hlt q hq).1) k hkπ] at hk
    refine ⟨hk, hnew, fun b base hφk => ?_, fun h => absurd h hkπ⟩
    refine hkept b ((hrel.obj k o hk).lt hφk) ?_
    rintro j0 base0 - hT0 hφ0
    obtain ⟨k0, hk0, hTk0, -⟩ := tabC hrel hπ hos hrdπ hT0
    have hφk0 : φ k0 = some (b, base0) := by simpa [phiC, hk0] using hφ0
    have := hrel.inj k0 k b base0 base hTk0 (by rw [hk]; simp) hφk0 hφk
    subst this
    exact hkπ (List.mem_of_getElem? hk0)
 have hge' : Ge φ T w φ' T' w' := {
  os := hge.os, tape := hge.tape, output := hge.output, size := hge.size, phi := hphi
  block := fun b hb hn => hge.block b hb fun ho => hn (ownC' hrel hπ hos hrdπ ho)
  own := by
   rintro b hb ⟨k, base, hk, hφk⟩
   cases hTk : T' k with
   | none => exact absurd hTk hk
   | some o =>
     rcases hcases k o hTk with ⟨j, oc, hj, rfl, rfl, hTcj, -⟩ | ⟨h1, h2, -, -⟩
     ·rw [hagree j hj] at hφk
      exact ownC' hrel hπ hos hrdπ (hge.own b hb ⟨j, base, by rw [hTcj]; simp, hφk⟩)
     ·simp only [φ'] at hφk
      rw [if_neg h2] at hφk
      exact ⟨k, base, by rw [h1]; simp, hφk⟩
  sizes := hge.sizes
  fr := fun _ => Iff.rfl }
 have hI : ct.own = true → ∀ b, Imm φc' Tc' w' b → Imm φ' T' w' b := by
  intro hown b hb
  have hfrc : ¬ frC ct.own φ T π b := fun hf => hb.2.2 ((hge.fr b).2 hf)
  refine ⟨hb.1, ?_, fun hf => hfrc (.inl hf)⟩
  rintro ⟨k, base, hk, hφk⟩
  cases hTk : T' k with
  | none => exact absurd hTk hk
  | some o =>
    rcases hcases k o hTk with ⟨j, oc, hj, rfl, rfl, hTcj, -⟩ | ⟨h1, h2, -, h4⟩
    ·rw [hagree j hj] at hφk
     exact hb.2.1 ⟨j, base, by rw [hTcj]; simp, hφk⟩
    ·simp only [φ'] at hφk
     rw [if_neg h2] at hφk
     by_cases hkπ : k ∈ π
     ·obtain ⟨j, hj, hTj⟩ := h4 hkπ
      exact hb.2.1 ⟨j, base, hTj, hge.phi j _ (by simp [phiC, hj, hφk])⟩
     ·exact hfrc (.inr ⟨hown, k, base, hkπ, by rw [h1]; simp, hφk⟩)
 unfold Post
 rw [hT']
 refine ⟨r, φ', rfl, renV_R hφ hI hfv hv, ⟨?_, ?_, Ge.frd hrel hge', Ge.glo hrel hge'⟩, hge', ?_, ?_⟩
 ·intro k o hk
  rcases hcases k o hk with ⟨j, oc, hj, rfl, rfl, hTcj, hfo⟩ | ⟨h1, h2, h3, -⟩
  ·exact renO_R hφ hI (fun h => by rw [hagree j hj]; exact h) hfo (hrel'.obj j oc hTcj)
  ·exact (hrel.obj k o h1).mono hge' h3 fun h => by simp only [φ']; rw [if_neg h2]; exact h
 ·intro k1 k2 b base1 base2 hk1 hk2 hφ1 hφ2
  have side : ∀ k base, T' k ≠ none → φ' k = some (b, base) → (∃ j oc, j < π.length + news.length ∧ k = ren π n j ∧ Tc' j = some oc ∧ φc' j = some (b, base)) ∨ (T k ≠ none ∧ φ k = some (b, base) ∧ b < w.heap.size ∧ (k ∈ π → ∃ j oc, j < π.length + news.length ∧ k = ren π n j ∧ Tc' j = some oc ∧ φc' j = some (b, base))) := by
   intro k base hk hφk
   cases hTk : T' k with
   | none => exact absurd hTk hk
   | some o =>
     rcases hcases k o hTk with ⟨j, oc, hj, rfl, rfl, hTcj, -⟩ | ⟨h1, h2, -, h4⟩
     ·left; exact ⟨j, oc, hj, rfl, hTcj, by rw [← hagree j hj]; exact hφk⟩
     ·right
      simp only [φ'] at hφk
      rw [if_neg h2] at hφk
      refine ⟨by rw [h1]; simp, hφk, (hrel.obj k o h1).lt hφk, fun hkπ => ?_⟩
      obtain ⟨j, hj, hTj⟩ := h4 hkπ
      obtain ⟨oc, hoc⟩ := Option.ne_none_iff_exists'.1 hTj
      have hjl := (List.getElem?_eq_some_iff.1 hj).1
      have hjk : π[j] = k := (List.getElem?_eq_some_iff.1 hj).2
      refine ⟨j, oc, by omega, by rw [hrenlt j hjl, hjk], hoc, ?_⟩
      exact hge.phi j _ (by simp [phiC, hj, hφk])
  have cross : ∀ k j oc base base', T k ≠ none → φ k = some (b, base) → b < w.heap.size → k ∉ π → Tc' j = some oc → φc' j = some (b, base') → False := by
   intro k j oc base base' hTk hφk hb hkπ hTj hφj
   obtain ⟨j0, k0, base0, hk0, hTk0, -, hφ0⟩ := ownC hrel hπ hos hrdπ (hge.own b hb ⟨j, base', by rw [hTj]; simp, hφj⟩)
   have := hrel.inj k0 k b base0 base hTk0 hTk hφ0 hφk
   subst this
   exact hkπ (List.mem_of_getElem? hk0)
  have norm : ∀ k base, T' k ≠ none → φ' k = some (b, base) → (∃ j oc, j < π.length + news.length ∧ k = ren π n j ∧ Tc' j = some oc ∧ φc' j = some (b, base)) ∨ (T k ≠ none ∧ φ k = some (b, base) ∧ b < w.heap.size ∧ k ∉ π) := by
   intro k base hk hφk
   rcases side k base hk hφk with h | ⟨h1, h2, h3, h4⟩
   ·exact .inl h
   ·by_cases hkπ : k ∈ π
    ·exact .inl (h4 hkπ)
    ·exact .inr ⟨h1, h2, h3, hkπ⟩
  rcases norm k1 base1 hk1 hφ1 with ⟨j1, oc1, hj1, rfl, hT1, hf1⟩ | ⟨a1, a2, a3, a4⟩
  ·rcases norm k2 base2 hk2 hφ2 with ⟨j2, oc2, hj2, rfl, hT2, hf2⟩ | ⟨b1, b2, b3, b4⟩
   ·have := hrel'.inj j1 j2 b base1 base2 (by rw [hT1]; simp) (by rw [hT2]; simp) hf1 hf2
    rw [this]
   ·exact (cross k2 j1 oc1 _ _ b1 b2 b3 b4 hT1 hf1).elim
  ·rcases norm k2 base2 hk2 hφ2 with ⟨j2, oc2, hj2, rfl, hT2, hf2⟩ | ⟨b1, b2, b3, b4⟩
   ·exact (cross k1 j2 oc2 _ _ a1 a2 a3 a4 hT2 hf2).elim
   ·exact hrel.inj k1 k2 b base1 base2 a1 b1 a2 b2
 ·intro k hk
  rw [hnl]
  by_cases h : n ≤ k ∧ k < n + news.length
  ·exact .inr h
  ·left; simp only [φ'] at hk; rwa [if_neg h] at hk
 ·intro b hb hU
  refine hkept b hb ?_
  rintro j0 base0 ⟨o0, hj0⟩ hT0 hφ0
  obtain ⟨k0, hk0, hTk0, -⟩ := tabC hrel hπ hos hrdπ hT0
  have hφk0 : φ k0 = some (b, base0) := by simpa [phiC, hk0] using hφ0
  have hj0l := (List.getElem?_eq_some_iff.1 hk0).1
  refine hU k0 base0 ⟨o0.map (renO π n), ?_⟩ hTk0 hφk0
  simp only [List.mem_map, Prod.mk.injEq]
  exact ⟨(j0, o0), hj0, by rw [hrenlt j0 hj0l]; exact (List.getElem?_eq_some_iff.1 hk0).2, rfl⟩
end Go.Proofs.YtfmjgoeclilcnaaGreatDoor
