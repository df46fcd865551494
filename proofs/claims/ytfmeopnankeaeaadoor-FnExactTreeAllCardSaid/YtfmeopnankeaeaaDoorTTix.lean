/- What is handed in to an exact law, as the walks see it. -/
import Derived.Test.YtfmeopnankeaeaaDoorTTie
import Derived.Test.YtfmeopnankeaeaaDoorTOp
import Derived.Test.YtfmeopnankeaeaaDoorTEa
set_option linter.unusedSimpArgs false
set_option linter.unusedVariables false
set_option linter.unusedSectionVars false
namespace Go.Proofs.YtfmeopnankeaeaaDoor
open Go.ChangeShapes Go.WideShapes Go.ChangeAt Go.RowKit

abbrev VR0 (w : World) (x : TV) (v : Value) : Prop := VR phi0 (tabOf []) w x v
theorem isSl_R {w : World} {t : ET} {v : Value} {xs : List t.α} (h : IsSl w t v xs) : CR phi0 (tabOf []) w (.isl t xs) v := by
  obtain ⟨a, cap, h1, h2, h3, h4, h5⟩ := h
  simp only [CR]
  exact ⟨a, cap, h1, h2, h3, h4, fun hne => by
    obtain ⟨b, o, h6, h7, h8⟩ := h5 hne
    exact ⟨b, o, h6, ⟨h7, not_own0, fun hf => hf⟩, h8⟩⟩
theorem str_all {xs : List ByteArray} (h : ∀ i, i < xs.length → EksOk ET.str.eks (ET.str.cells (xs.getD i ET.str.dflt))) (i : Nat) : (xs.getD i ET.str.dflt).size ≤ 9223372036854775807 := by
  rcases Nat.lt_or_ge i xs.length with hi | hi
  · obtain ⟨⟨s, hs, h2⟩, -⟩ := h i hi
    have : xs.getD i ET.str.dflt = s := by injection hs
    rw [this]; exact h2
  · rw [List.getD_eq_getElem?_getD, List.getElem?_eq_none hi]; exact Nat.zero_le _
theorem late_all {xs : List Late} (h : ∀ i, i < xs.length → EksOk ET.late.eks (ET.late.cells (xs.getD i ET.late.dflt))) (i : Nat) : (xs.getD i ET.late.dflt).text.size ≤ 9223372036854775807 := by
  rcases Nat.lt_or_ge i xs.length with hi | hi
  · obtain ⟨-, -, ⟨s, hs, h2⟩, -⟩ := h i hi
    have : (xs.getD i ET.late.dflt).text = s := by injection hs
    rw [this]; exact h2
  · rw [List.getD_eq_getElem?_getD, List.getElem?_eq_none hi]; exact Nat.zero_le _
section
variable {H : Type} {enc : TypeId × Value → H} {P : Program} {w : World} {base : Nat} {sp : Nat → Bool} {held : Bool} {t : TypeId} {v : Value} {d : DataW H} {ps : List MemPlace}
theorem lks_one {k : LK} {cs : List Value} (h : LksOk w [k] cs) : ∃ x, cs = [x] ∧ LkOk w k x := by
  cases cs with
  | nil => exact h.elim
  | cons x r => cases r with
    | nil => exact ⟨x, rfl, h.1⟩
    | cons y r => exact h.2.elim
theorem lks_cons {k : LK} {ks : List LK} {cs : List Value} (h : LksOk w (k :: ks) cs) : ∃ x r, cs = x :: r ∧ LkOk w k x ∧ LksOk w ks r := by
  cases cs with
  | nil => exact h.elim
  | cons x r => exact ⟨x, r, rfl, h.1, h.2⟩
theorem lks_nil {cs : List Value} (h : LksOk w [] cs) : cs = [] := by
  cases cs with
  | nil => rfl
  | cons x r => exact h.elim
theorem okWide_agg (n : Nat) (hu : (match P.underlying t with | some (.struct _) => true | some (.array _ _) => true | _ => false) = true) (h : Value.okWide P w .any n t v) : ∃ cs, v = .agg cs := by
  unfold Value.okWide at h
  split at h
  · obtain ⟨cs, h1, -⟩ := h; exact ⟨cs, h1⟩
  · obtain ⟨cs, h1, -⟩ := h; exact ⟨cs, h1⟩
  · rename_i h1 h2
    split at hu
    · rename_i fs e; exact (h1 fs e).elim
    · rename_i a b e; exact (h2 a b e).elim
    · cases hu
theorem arg_int (ht : P.underlying t = some (.int .i64)) (hv : Value.okWide P w .any base t v) : ∃ n, VR0 w (.one (.val (.int .i64 n))) v := by
  obtain ⟨n, rfl⟩ := okWide_int ht hv
  exact ⟨n, by simp only [VR, CR]⟩
theorem arg_str (ht : P.underlying t = some .string) (hv : Value.okWide P w .any base t v) (h : DataW.Trod enc P w 0 sp held t v d ps) : ∃ s, s.size ≤ 9223372036854775807 ∧ VR0 w (.one (.val (.string s))) v := by
  obtain ⟨fuel, hf⟩ := h
  obtain ⟨s, hc, -, hs⟩ := DataW.trod_string ht hf
  obtain ⟨u, rfl⟩ := okWide_string ht hv
  simp [Value.cells] at hc
  subst hc
  exact ⟨u, hs, by simp only [VR, CR]⟩
theorem arg_ints (n : Nat) (hsh : shapeL P n t = some [.sl ET.int.eks]) {e : TypeId} (ht : P.underlying t = some (.slice e)) (hv : Value.okWide P w .any base t v) (h : DataW.Trod enc P w 0 sp held t v d ps) : ∃ xs : List Int, xs.length ≤ 9223372036854775807 ∧ VR0 w (.one (.isl .int xs)) v := by
  obtain ⟨fuel, hf⟩ := h
  obtain ⟨a, len, cap, rfl⟩ := okWide_slice ht hv
  obtain ⟨x, hx, h1⟩ := lks_one (open_l n t _ hsh _ _ _ hf)
  have hns := value_noSpot hv
  simp [Value.cells] at hx hns
  subst hx
  obtain ⟨xs, h2, h3, -⟩ := sl_open h1 hns rfl (by decide) fun vs h => eks_int h
  exact ⟨xs, h3, isSl_R h2⟩
theorem arg_disk (n : Nat) (hsh : shapeL P n t = some [.sl ET.str.eks, .sl ET.str.eks, .sl ET.late.eks]) (hu : (match P.underlying t with | some (.struct _) => true | some (.array _ _) => true | _ => false) = true) (hv : Value.okWide P w .any base t v) (h : DataW.Trod enc P w 0 sp held t v d ps) :
    ∃ a b l, (Dk.mk a b l).inn ∧ VR0 w (.agg [.isl .str a, .isl .str b, .isl .late l]) v := by
  obtain ⟨fuel, hf⟩ := h
  obtain ⟨cs, rfl⟩ := okWide_agg base hu hv
  have hns := value_noSpot hv
  have h0 := open_l n t _ hsh _ _ _ hf
  obtain ⟨x, _, e1, h1, h0⟩ := lks_cons h0
  obtain ⟨y, _, rfl, h2, h0⟩ := lks_cons h0
  obtain ⟨z, _, rfl, h3, h0⟩ := lks_cons h0
  obtain rfl := lks_nil h0
  rw [e1] at hns
  have hcs : cs.toList = [x, y, z] := by simpa [Value.cells] using e1
  obtain ⟨a, a1, a2, a3⟩ := sl_open h1 (hns x (by simp)) rfl (by decide) fun vs h => eks_str h
  obtain ⟨b, b1, b2, b3⟩ := sl_open h2 (hns y (by simp)) rfl (by decide) fun vs h => eks_str h
  obtain ⟨l, l1, l2, l3⟩ := sl_open h3 (hns z (by simp)) rfl (by decide) fun vs h => eks_late h
  refine ⟨a, b, l, ⟨⟨a2, str_all a3⟩, ⟨b2, str_all b3⟩, ⟨l2, late_all l3⟩⟩, ?_⟩
  simp only [VR]
  exact ⟨cs, rfl, by rw [hcs]; exact ⟨isSl_R a1, isSl_R b1, isSl_R l1, trivial⟩⟩
theorem arg_ptr (n : Nat) (hsh : shapeL P n t = some [.e (.int .i64), .e (.int .i64), .e (.int .i64)]) (hu : (match P.underlying t with | some (.struct _) => true | some (.array _ _) => true | _ => false) = true) (hv : Value.okWide P w .any base t v) (h : DataW.Trod enc P w 0 sp held t v d ps) :
    ∃ a b c, VR0 w (.agg [.val (.int .i64 a), .val (.int .i64 b), .val (.int .i64 c)]) v := by
  obtain ⟨fuel, hf⟩ := h
  obtain ⟨cs, rfl⟩ := okWide_agg base hu hv
  have h0 := open_l n t _ hsh _ _ _ hf
  obtain ⟨_, _, e1, ⟨a, rfl, -⟩, h1⟩ := lks_cons h0
  obtain ⟨_, _, rfl, ⟨b, rfl, -⟩, h2⟩ := lks_cons h1
  obtain ⟨_, _, rfl, ⟨c, rfl, -⟩, h3⟩ := lks_cons h2
  obtain rfl := lks_nil h3
  have hcs : cs.toList = [.int .i64 a, .int .i64 b, .int .i64 c] := by simpa [Value.cells] using e1
  refine ⟨a, b, c, ?_⟩
  simp only [VR]
  exact ⟨cs, rfl, by rw [hcs]; exact ⟨rfl, rfl, rfl, trivial⟩⟩
end
/-- What a contract says that hands over nothing: the answer, and that all is as it was. -/
theorem lawN {f : FuncId} {ct : Ct} (h : Sound Tryd.prog f ct) {w : World} {vs : List Value} {args : List TV} (hs : ct.spec args [] = ifp True (vb true) ∨ ∃ p, p ∧ ct.spec args [] = ifp p (vb true)) (hr : VRs phi0 (tabOf []) w args vs) :
    Calls Tryd.prog f vs.toArray w fun e w' => e = .returned (.bool true) ∧ Below w.heap.size w w' := by
  have hpre : (ct.spec args []).pre ∧ (ct.spec args []).v = vb true := by
    rcases hs with hs | ⟨p, hp, hs⟩
    · rw [hs]; exact ⟨trivial, rfl⟩
    · rw [hs]; exact ⟨hp, rfl⟩
  refine (h args [] hpre.1 phi0 w vs (rel0 w) hr fun _ _ => rfl).mono ?_
  rintro e w' hp
  obtain ⟨r, φ', rfl, hv, hbl⟩ := post_below hp
  rw [hpre.2] at hv
  simp only [vb, VR, CR] at hv
  subst hv
  exact ⟨rfl, hbl⟩
end Go.Proofs.YtfmeopnankeaeaaDoor
