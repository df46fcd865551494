import Derived.Test.YtjedcphhajlnoaaDoorRows
import Derived.ProofKit
import Derived.OpenShut
import Derived.ShutString
import Derived.ChangeOld
import Derived.Below
import Derived.LaidMore
import Derived.Lay
import Derived.Test.YtjedcphhajlnoaaDoorM4
import Derived.Test.YtjedcphhajlnoaaDoorM5
import Derived.Test.YtjedcphhajlnoaaDoorM6
import Derived.Test.YtjedcphhajlnoaaDoorM9
set_option linter.unusedSimpArgs false
set_option linter.unusedVariables false
set_option linter.unusedSectionVars false
/- Plain facts: what is under a set has it in its line, and nothing else has. -/
namespace Go.Proofs.YtjedcphhajlnoaaDoor
open Go.RowKit

theorem ends_mono {xs : List BSet} {m : Nat} {name : ByteArray} (h : Ends xs m name) : Ends xs (m + 1) name := fun ht => leads_mono xs _ _ (h ht)
theorem line_up {xs : List BSet} (h : BookP xs) {m : Nat} {name : ByteArray} (he : Ends xs m name) : ∀ j, lineN xs (m + j) name = lineN xs m name ∧ Ends xs (m + j) name
  | 0 => ⟨rfl, he⟩
  | j + 1 => by
    obtain ⟨h1, h2⟩ := line_up h he j
    refine ⟨?_, ends_mono h2⟩
    rw [← Nat.add_assoc, line_more h _ _ h2, h1]
theorem line_cons {xs : List BSet} {k : Nat} {name : ByteArray} (ht : thereB xs name = true) : lineN xs (k + 1) name = name :: lineN xs k (xs.getD (lowN xs name) ET.bset.dflt).from_ := by
  show (if thereB xs name = true then name :: lineN xs k _ else []) = _
  rw [if_pos ht]
theorem mem_len {xs : List BSet} (h : BookP xs) : ∀ (m : Nat) (s : ByteArray), m ≤ xs.length → Ends xs m s → ∀ t ∈ lineN xs m s, (lineN xs xs.length t).length ≤ (lineN xs m s).length
  | m, s, hm, he, t, ht => by
    cases hs : thereB xs s with
    | false => rw [line_none hs] at ht; cases ht
    | true =>
      obtain ⟨k, rfl, h2⟩ := ends_next h he hs
      rw [line_cons hs] at ht
      rcases List.mem_cons.1 ht with rfl | ht
      · have h3 := (line_up h he (xs.length - (k + 1))).1
        rw [show k + 1 + (xs.length - (k + 1)) = xs.length by omega] at h3
        rw [h3]; exact Nat.le_refl _
      · have h4 := mem_len h k _ (by omega) h2 t ht
        rw [line_cons hs, List.length_cons]; omega
theorem line_nodup {xs : List BSet} (h : BookP xs) : ∀ (m : Nat) (s : ByteArray), m ≤ xs.length → Ends xs m s → (lineN xs m s).Nodup
  | m, s, hm, he => by
    cases hs : thereB xs s with
    | false => rw [line_none hs]; exact List.nodup_nil
    | true =>
      obtain ⟨k, rfl, h2⟩ := ends_next h he hs
      rw [line_cons hs, List.nodup_cons]
      refine ⟨fun hmem => ?_, line_nodup h k _ (by omega) h2⟩
      have h4 := mem_len h k _ (by omega) h2 s hmem
      have h3 := (line_up h he (xs.length - (k + 1))).1
      rw [show k + 1 + (xs.length - (k + 1)) = xs.length by omega] at h3
      rw [h3, line_cons hs, List.length_cons] at h4
      omega
noncomputable def countL (l : List ByteArray) (name : ByteArray) : Nat := (l.filter fun t => same t name).length
theorem countL_cons (t : ByteArray) (l : List ByteArray) (name : ByteArray) : countL (t :: l) name = (if same t name = true then 1 else 0) + countL l name := by
  unfold countL
  cases h : same t name <;> simp [h, Nat.add_comm]
theorem countL_nodup : ∀ {l : List ByteArray} (name : ByteArray), l.Nodup → countL l name = if l.any (fun t => same t name) = true then 1 else 0
  | [], _, _ => rfl
  | t :: l, name, hl => by
    rw [List.nodup_cons] at hl
    rw [countL_cons, countL_nodup name hl.2, List.any_cons]
    by_cases ht : same t name = true
    · have : l.any (fun t => same t name) = false := by
        rw [List.any_eq_false]
        intro x hx hxn
        rw [same_true] at ht hxn
        rw [ht, ← hxn] at hl
        exact hl.1 hx
      simp [ht, this]
    · rw [show same t name = false by simpa using ht]
      simp
theorem book_names {xs : List BSet} (h : BookP xs) : xs.Pairwise fun a b => a.name ≠ b.name := by
  rw [List.pairwise_iff_getElem]
  intro i j hi hj hij he
  have h2 := (book_sorted h).lt i (j - i - 1) (by omega)
  rw [show i + (j - i - 1) + 1 = j by omega, show xs.getD i ET.bset.dflt = xs[i] by simp [hi], show xs.getD j ET.bset.dflt = xs[j] by simp [hj], he, less_irrefl] at h2
  cases h2
theorem one_name : ∀ {xs : List BSet} {x : BSet}, xs.Pairwise (fun a b => a.name ≠ b.name) → x ∈ xs → xs.filter (fun y => same y.name x.name) = [x]
  | y :: ys, x, hp, hx => by
    rw [List.pairwise_cons] at hp
    rcases List.mem_cons.1 hx with rfl | hx
    · have : ys.filter (fun z => same z.name x.name) = [] := by
        rw [List.filter_eq_nil_iff]
        intro z hz hzn
        exact hp.1 z hz (same_true.1 hzn).symm
      simp [this, same_true.2]
    · have hne : same y.name x.name = false := same_false.2 (hp.1 x hx)
      simp [hne, one_name hp.2 hx]
theorem kids_count {xs : List BSet} (h : BookP xs) {t : ByteArray} (ht : thereB xs t = true) (name : ByteArray) : countL (kidsOf xs name) t = if same (xs.getD (lowN xs t) ET.bset.dflt).from_ name = true then 1 else 0 := by
  obtain ⟨h1, h2⟩ := there_lt ht
  have hx : xs.getD (lowN xs t) ET.bset.dflt ∈ xs := by simp [h1]
  have h3 := one_name (book_names h) hx
  rw [h2] at h3
  have h4 : countL (kidsOf xs name) t = ((xs.filter (fun y => same y.name t)).filter fun y => same y.from_ name).length := by
    unfold countL kidsOf
    rw [List.filter_map, List.length_map, List.filter_filter, List.filter_filter]
    congr 1
    apply List.filter_congr
    intro y _
    simp [Bool.and_comm]
  rw [h4, h3]
  cases hf : same (xs.getD (lowN xs t) ET.bset.dflt).from_ name <;> simp only [List.filter_cons, List.filter_nil, hf] <;> rfl
noncomputable def sumK (ks l : List ByteArray) : Nat := (ks.map fun k => countL l k).sum
theorem sumK_nil (ks : List ByteArray) : sumK ks [] = 0 := by
  unfold sumK
  induction ks with
  | nil => rfl
  | cons k ks ih => rw [List.map_cons, List.sum_cons, ih]; rfl
theorem same_comm {α : Type} (a b : α) : same a b = same b a := by
  rw [Bool.eq_iff_iff, same_true, same_true]; exact eq_comm
theorem sumK_cons (t : ByteArray) (l : List ByteArray) : ∀ ks : List ByteArray, sumK ks (t :: l) = countL ks t + sumK ks l
  | [] => rfl
  | k :: ks => by
    have ih := sumK_cons t l ks
    unfold sumK at ih ⊢
    rw [List.map_cons, List.sum_cons, List.map_cons, List.sum_cons, ih, countL_cons, countL_cons, same_comm t k]
    omega
/-- A name stands in a line if the line begins with it, or a kid of it stands there. -/
theorem line_count {xs : List BSet} (h : BookP xs) {name : ByteArray} (hn : thereB xs name = true) : ∀ (m : Nat) (s : ByteArray), Ends xs m s → countL (lineN xs m s) name = (if same s name = true then 1 else 0) + sumK (kidsOf xs name) (lineN xs m s)
  | m, s, he => by
    cases hs : thereB xs s with
    | false =>
      have : same s name = false := same_false.2 fun e => by rw [e, hn] at hs; cases hs
      rw [line_none hs, sumK_nil, this]; rfl
    | true =>
      obtain ⟨k, rfl, h2⟩ := ends_next h he hs
      have ih := line_count h hn k _ h2
      rw [line_cons hs, countL_cons, sumK_cons, ih, kids_count h hs]
theorem sum_add {α : Type} (f g : α → Nat) : ∀ l : List α, (l.map fun a => f a + g a).sum = (l.map f).sum + (l.map g).sum
  | [] => rfl
  | a :: l => by
    rw [List.map_cons, List.sum_cons, List.map_cons, List.sum_cons, List.map_cons, List.sum_cons, sum_add f g l]
    omega
theorem sum_swap {α β : Type} (f : α → β → Nat) (ks : List β) : ∀ l : List α, (l.map fun a => (ks.map fun k => f a k).sum).sum = (ks.map fun k => (l.map fun a => f a k).sum).sum
  | [] => by
    rw [List.map_nil, List.sum_nil]
    induction ks with
    | nil => rfl
    | cons k ks ih => rw [List.map_cons, List.sum_cons, ← ih]; rfl
  | a :: l => by
    rw [List.map_cons, List.sum_cons, sum_swap f ks l, ← sum_add]
    congr 1
noncomputable def mult (xs : List BSet) (name : ByteArray) : Nat := (xs.map fun s => countL (lineN xs xs.length s.name) name).sum
theorem sum_ind {α : Type} (p : α → Bool) : ∀ l : List α, (l.map fun a => if p a = true then 1 else 0).sum = (l.filter p).length
  | [] => rfl
  | a :: l => by
    rw [List.map_cons, List.sum_cons, sum_ind p l]
    cases h : p a <;> simp [h, Nat.add_comm]
theorem sum_congr {α : Type} {f g : α → Nat} : ∀ {l : List α}, (∀ a ∈ l, f a = g a) → (l.map f).sum = (l.map g).sum
  | [], _ => rfl
  | a :: l, h => by rw [List.map_cons, List.sum_cons, List.map_cons, List.sum_cons, h a (by simp), sum_congr fun b hb => h b (by simp [hb])]
theorem mult_kids {xs : List BSet} (h : BookP xs) {name : ByteArray} (hn : thereB xs name = true) : mult xs name = 1 + ((kidsOf xs name).map fun k => mult xs k).sum := by
  have h1 : mult xs name = (xs.map fun s => (if same s.name name = true then 1 else 0) + sumK (kidsOf xs name) (lineN xs xs.length s.name)).sum :=
    sum_congr fun s _ => line_count h hn _ _ (ends_first h _)
  rw [h1, sum_add, sum_ind (fun s : BSet => same s.name name)]
  obtain ⟨h2, h3⟩ := there_lt hn
  have hx : xs.getD (lowN xs name) ET.bset.dflt ∈ xs := by simp [h2]
  have h4 := one_name (book_names h) hx
  rw [h3] at h4
  rw [h4]
  have h5 := sum_swap (fun (s : BSet) (k : ByteArray) => countL (lineN xs xs.length s.name) k) (kidsOf xs name) xs
  unfold sumK mult
  rw [h5]; rfl
theorem len_flm {α β : Type} (f : α → List β) : ∀ l : List α, (l.flatMap f).length = (l.map fun a => (f a).length).sum
  | [] => rfl
  | a :: l => by rw [List.flatMap_cons, List.length_append, List.map_cons, List.sum_cons, len_flm f l]
theorem mult_under {xs : List BSet} (h : BookP xs) : ∀ (m : Nat) (name : ByteArray), Hgt xs m name → thereB xs name = true → mult xs name = (underN xs m name).length
  | 0, _, hh, _ => hh.elim
  | m + 1, name, hh, hn => by
    rw [mult_kids h hn]
    show _ = ((kidsOf xs name).flatMap (underN xs m) ++ [name]).length
    rw [List.length_append, List.length_singleton, len_flm, sum_congr fun k hk => mult_under h m k (hh k hk) (kid_there h hk)]
    omega
/-- So many sets have a name in their line as stand under it. -/
noncomputable def hasUp (xs : List BSet) (name : ByteArray) (s : BSet) : Bool := (treeLine xs s.name).any fun t => same t name
theorem up_count {xs : List BSet} (hb : bookB xs = true) (name : ByteArray) : (xs.filter (hasUp xs name)).length = (treeUnder xs name).length := by
  have h := bookB_true.1 hb
  have e1 : (xs.filter (hasUp xs name)).length = mult xs name := by
    rw [← sum_ind]
    refine sum_congr fun s _ => ?_
    have h1 := countL_nodup name (line_nodup h _ s.name (Nat.le_refl _) (ends_first h _))
    rw [h1]
    unfold hasUp treeLine
    rw [if_pos hb]
  rw [e1]
  unfold treeUnder
  by_cases hn : thereB xs name = true
  · rw [if_pos ⟨hb, hn⟩]
    exact mult_under h 7 name (under_seven h hn) hn
  · rw [if_neg fun hh => hn hh.2]
    have : ∀ s : ByteArray, ∀ m, Ends xs m s → countL (lineN xs m s) name = 0 := fun s m => by
      induction m generalizing s with
      | zero => intro _; rfl
      | succ m ih =>
        intro he
        cases hs : thereB xs s with
        | false => rw [line_none hs]; rfl
        | true =>
          obtain ⟨k, hk, h2⟩ := ends_next h he hs
          obtain rfl : m = k := by omega
          rw [line_cons hs, countL_cons, ih _ h2, if_neg]
          intro hh
          rw [same_true] at hh
          rw [hh] at hs
          exact hn hs
    unfold mult
    rw [sum_congr fun s _ => this s.name _ (ends_first h _)]
    have h0 : ∀ l : List BSet, (l.map fun _ => 0).sum = 0 := fun l => by
      induction l with
      | nil => rfl
      | cons a l ih => rw [List.map_cons, List.sum_cons, ih]
    rw [h0]; rfl
theorem under_nil {xs : List BSet} {name : ByteArray} : (treeLine xs name).length = 0 ↔ (treeUnder xs name).length = 0 := by
  unfold treeLine treeUnder
  by_cases hb : bookB xs = true
  · rw [if_pos hb]
    have h := bookB_true.1 hb
    cases hn : thereB xs name with
    | false => rw [line_none hn, if_neg (fun hh => by cases hh.2)]
    | true =>
      obtain ⟨k, hk, -⟩ := ends_next h (ends_first h name) hn
      rw [if_pos ⟨hb, rfl⟩, hk, line_cons hn]
      constructor
      · intro h2; simp at h2
      · intro h2
        have e : underN xs 7 name = (kidsOf xs name).flatMap (underN xs 6) ++ [name] := rfl
        rw [e, List.length_append] at h2
        simp at h2
  · rw [if_neg hb, if_neg fun hh => hb hh.1]
theorem line_kids {xs : List BSet} (h : BookP xs) : ∀ (m : Nat) (s : ByteArray), Ends xs m s → ∀ i, i + 1 < (lineN xs m s).length → (lineN xs m s).getD i ET.str.dflt ∈ kidsOf xs ((lineN xs m s).getD (i + 1) ET.str.dflt)
  | m, s, he, i, hi => by
    cases hs : thereB xs s with
    | false => rw [line_none hs] at hi; simp at hi
    | true =>
      obtain ⟨k, rfl, h2⟩ := ends_next h he hs
      have ih := line_kids h k _ h2
      rw [line_cons hs] at hi ⊢
      rw [List.length_cons] at hi
      cases i with
      | zero =>
        rw [List.getD_cons_zero, List.getD_cons_succ]
        obtain ⟨t, rest, ht⟩ : ∃ t rest, lineN xs k (xs.getD (lowN xs s) ET.bset.dflt).from_ = t :: rest := by
          cases hl : lineN xs k (xs.getD (lowN xs s) ET.bset.dflt).from_ with
          | nil => rw [hl] at hi; simp at hi
          | cons t rest => exact ⟨t, rest, rfl⟩
        have ht2 : t = (xs.getD (lowN xs s) ET.bset.dflt).from_ := by
          cases k with
          | zero => cases ht
          | succ k =>
            cases hf : thereB xs (xs.getD (lowN xs s) ET.bset.dflt).from_ with
            | false => rw [line_none hf] at ht; cases ht
            | true => rw [line_cons hf] at ht; cases ht; rfl
        rw [ht, List.getD_cons_zero, ht2]
        obtain ⟨h5, h6⟩ := there_lt hs
        unfold kidsOf
        rw [List.mem_map]
        refine ⟨xs.getD (lowN xs s) ET.bset.dflt, ?_, h6⟩
        rw [List.mem_filter]
        exact ⟨by simp [h5], same_true.2 rfl⟩
      | succ i =>
        rw [List.getD_cons_succ, List.getD_cons_succ]
        exact ih i (by omega)
end Go.Proofs.YtjedcphhajlnoaaDoor
/- From a contract to the given statement: laws of one text of bytes. -/
namespace Go.Proofs.YtjedcphhajlnoaaDoor
open Go.ChangeShapes Go.WideShapes Go.ChangeAt Go.RowKit

theorem own : ownKnob Tryd.prog.godebug = none := by kernel_rfl
theorem laidOut : laidOutB Tryd.prog = true := by kernel_rfl

def bytesOf (zs : List Int) : List UInt8 := zs.map fun n => UInt8.ofNat n.toNat
/-- What is known of a slice of bytes that came in. -/
def IsBytes (w : World) (v : Value) (bs : List UInt8) : Prop :=
  ∃ a cap, v = .slice a bs.length cap ∧ bs.length ≤ cap ∧ (a = none → cap = 0) ∧ (∀ ad, a = some ad → ad.spot = none) ∧ (bs ≠ [] → ∃ b o, a = some ⟨b, o, none⟩ ∧ b < w.heap.size ∧ CellsAt w b o (bs.flatMap (ET.cells .byte)))
theorem bytes_open {H : Type} {enc : TypeId × Value → H} {P : Program} {w : World} {base : Nat} {spare : Nat → Bool} {held : Bool} {t e : TypeId} {v : Value} {x : DataW H × List MemPlace} (ht : P.underlying t = some (.slice e)) (he : P.underlying e = some (.int .u8)) (hc : P.cellsOf e = 1)
    (hv : Value.okWide P w .any base t v) {fuel : Nat} (h : DataW.trod enc P w 0 spare held fuel t v.cells.toList = some x) : ∃ bs, IsBytes w v bs := by
  obtain ⟨a, len, cap, rfl⟩ := okWide_slice ht hv
  rcases open_ints ht he hc h with ⟨hcs, _⟩ | ⟨x, l, c, zs, hcs, _, hl, hm, hz, _, hcell, hwz⟩
  · simp [Value.cells] at hcs
    obtain ⟨rfl, rfl, rfl⟩ := hcs
    exact ⟨[], none, 0, rfl, Nat.le_refl _, fun _ => rfl, fun _ h => by simp at h, fun h => absurd rfl h⟩
  · simp [Value.cells] at hcs
    obtain ⟨rfl, rfl, rfl⟩ := hcs
    have hsp : x.spot = none := by
      simp only [Value.okWide, ht, Cell.okWide, Cell.ok] at hv
      exact hv.2.2.2.1
    obtain ⟨b, o, sp⟩ := x
    simp only at hsp
    subst hsp
    have hlz : len ≤ zs.length := by
      rw [hz]; split
      · exact hl
      · exact Nat.le_refl _
    have hlen : (bytesOf (zs.take len)).length = len := by
      unfold bytesOf; rw [List.length_map, List.length_take]; omega
    have hval : ∀ i, i < len → w.cell? ⟨b, o + i, none⟩ = some (.int .u8 ((bytesOf (zs.take len)).getD i 0).toNat) := by
      intro i hi
      have h1 := hcell i (by omega)
      have h2 := hwz (zs.getD i 0) (by
        rw [List.getD_eq_getElem?_getD, List.getElem?_eq_getElem (show i < zs.length by omega)]
        exact List.getElem_mem _)
      have h3 : 0 ≤ zs.getD i 0 ∧ zs.getD i 0 ≤ 255 := by
        have : ∀ n : Int, (Lit.int .u8 n).wf = true → 0 ≤ n ∧ n ≤ 255 := by
          intro n hn
          simp [Lit.wf, show IntKind.u8.min = 0 from rfl, show IntKind.u8.max = 255 from rfl] at hn
          omega
        exact this _ h2
      have h4 : ((bytesOf (zs.take len)).getD i 0) = UInt8.ofNat (zs.getD i 0).toNat := by
        unfold bytesOf
        rw [List.getD_eq_getElem?_getD, List.getElem?_map, List.getElem?_take, if_pos hi, List.getD_eq_getElem?_getD, List.getElem?_eq_getElem (show i < zs.length by omega)]
        rfl
      rw [h4, UInt8.toNat_ofNat']
      have h6 : (Addr.mk b o none).add i = Addr.mk b (o + i) none := by
        unfold Addr.add; split
        · rename_i h; subst h; rfl
        · rfl
      rw [h6] at h1
      rw [h1]
      congr 2
      omega
    refine ⟨bytesOf (zs.take len), some ⟨b, o, none⟩, cap, by rw [hlen], by rw [hlen]; exact hl, (fun h => by cases h), (fun ad h => by cases h; rfl), fun hne => ⟨b, o, rfl, ?_, ?_⟩⟩
    · have : 0 < len := by
        rw [← hlen]; exact List.length_pos_iff.2 hne
      have h0 := hval 0 this
      unfold World.cell? at h0
      rcases Nat.lt_or_ge b w.heap.size with hb | hb
      · exact hb
      · rw [Array.getElem?_eq_none hb] at h0; cases h0
    · intro i v hv
      have hi : i < len := by
        have := (List.getElem?_eq_some_iff.1 hv).1
        rw [flat_len, hlen] at this
        simpa [ET.sz] using this
      rw [hval i hi]
      have h5 := flat_get .byte (bytesOf (zs.take len)) i 0 (by rw [hlen]; exact hi) (by decide)
      have h6 : i * ET.byte.sz + 0 = i := by simp [ET.sz]
      rw [h6, hv] at h5
      simp only [ET.cells, List.getElem?_cons_zero, Option.some.injEq] at h5
      rw [h5, List.getD_eq_getElem?_getD, List.getElem?_eq_getElem (by rw [hlen]; exact hi)]
      rfl
def phi0 : Phi := ⟨fun _ => none, fun _ => False⟩
theorem not_own0 {b : Nat} : ¬ Own phi0 (tabOf []) b := fun ⟨k, base, h, _⟩ => by simp [tabOf] at h
theorem isBytes_R {w : World} {v : Value} {bs : List UInt8} (h : IsBytes w v bs) : VR phi0 (tabOf []) w (.one (.isl .byte bs)) v := by
  obtain ⟨a, cap, h1, h2, h3, h4, h5⟩ := h
  simp only [VR, CR]
  exact ⟨a, cap, h1, h2, h3, h4, fun hne => by
    obtain ⟨b, o, h6, h7, h8⟩ := h5 hne
    exact ⟨b, o, h6, ⟨h7, not_own0, fun hf => hf⟩, h8⟩⟩
theorem glo_none (h : gloL = []) (w : World) : GloOk0 w := fun q hq => by rw [h] at hq; cases hq
theorem rel0 (w : World) (hg : GloOk0 w) : Rel phi0 (tabOf []) w := ⟨fun k o h => by simp [tabOf] at h, fun k _ _ _ _ h _ _ _ => by simp [tabOf] at h, fun b h => h.elim, fun q hq => ⟨fun ⟨k, _, h, _⟩ => h (by simp [tabOf]), hg q hq⟩⟩
/-- A contract that hands over nothing and gets nothing new back: what was there is as it was. -/
theorem post_below {w w' : World} {n : Nat} {s : St} {e : Ending} (h : Post phi0 (tabOf []) w n s e w') : ∃ r φ', e = .returned r ∧ VR φ' (newT (tabOf []) n s) w' s.v r ∧ Below w.heap.size w w' := by
  obtain ⟨r, φ', h1, h2, -, hg, -⟩ := h
  exact ⟨r, φ', h1, h2, hg.os, hg.tape, hg.output, hg.size, fun b hb => hg.block b hb not_own0⟩
@[go_sem] def ctLaw1 : Ct := ⟨false, [[some .byte]], fun args os => match args, os with
  | [.one (.isl .byte code)], [] => ⟨True, vb true, [], []⟩
  | _, _ => no⟩
@[go_sem] def ctLaw2 : Ct := ⟨false, [[some .byte], [some .byte]], fun args os => match args, os with
  | [.one (.isl .byte code), .one (.isl .byte more)], [] => ⟨True, vb true, [], []⟩
  | _, _ => no⟩
theorem law1 {f : FuncId} (h : Sound Tryd.prog f ctLaw1) {w : World} {v : Value} {bs : List UInt8} (hb : IsBytes w v bs) (hg : GloOk0 w) :
    Calls Tryd.prog f #[v] w fun e w' => e = .returned (.bool true) ∧ Below w.heap.size w w' := by
  refine (h [.one (.isl .byte bs)] [] trivial phi0 w [v] (rel0 w hg) (by simp only [VRs]; exact ⟨isBytes_R hb, trivial⟩) fun _ _ => rfl).mono ?_
  rintro e w' hp
  obtain ⟨r, φ', rfl, hv, hbl⟩ := post_below hp
  simp only [ctLaw1, vb, VR, CR] at hv
  subst hv
  exact ⟨rfl, hbl⟩
theorem law2 {f : FuncId} (h : Sound Tryd.prog f ctLaw2) {w : World} {v u : Value} {bs cs : List UInt8} (hb : IsBytes w v bs) (hc : IsBytes w u cs) (hg : GloOk0 w) :
    Calls Tryd.prog f #[v, u] w fun e w' => e = .returned (.bool true) ∧ Below w.heap.size w w' := by
  refine (h [.one (.isl .byte bs), .one (.isl .byte cs)] [] trivial phi0 w [v, u] (rel0 w hg) (by simp only [VRs]; exact ⟨isBytes_R hb, isBytes_R hc, trivial⟩) fun _ _ => rfl).mono ?_
  rintro e w' hp
  obtain ⟨r, φ', rfl, hv, hbl⟩ := post_below hp
  simp only [ctLaw2, vb, VR, CR] at hv
  subst hv
  exact ⟨rfl, hbl⟩
end Go.Proofs.YtjedcphhajlnoaaDoor
/- The law of ancestry: for all codes FnTreeLine answers true. -/
namespace Go.Proofs.YtjedcphhajlnoaaDoor
open Go.RowKit

/-- Two lists of texts that are the same. -/
@[go_sem] def ctTexts : Ct := ⟨false, [[some .str], [some .str]], fun args os => match args, os with
  | [.one (.isl .str xs), .one (.isl .str ys)], [] => ifp (xs = ys ∧ xs.length ≤ 4000000) (vb true)
  | _, _ => no⟩
theorem s_texts_e : EnterOk Tryd.prog 8 := ⟨_, Tryd.func8, rfl, by decide⟩
@[go_sem] def s_texts_lv : List (List Nat) := [[0, 1], [0, 1, 10], [4], [0, 1, 5], [0, 1, 5, 14], [0, 1, 5], [0, 1, 5, 25], [4], [4]]
@[go_sem] noncomputable def s_texts_K : Known := Known.nil
set_option maxHeartbeats 8000000 in
theorem s_texts : Sound Tryd.prog 8 ctTexts := by
  have ke := s_texts_K.env []
  have kl : Lives s_texts_lv := trivial
  refine sound_intro (E := ⟨ti, s_texts_K.Γ, []⟩) ke Tryd.func8 Tryd.ntmps8 rfl (rs := [.tmp 4]) rfl ?_
  intro args os hp
  unfold ctTexts at hp ⊢
  dsimp only at hp ⊢
  split at hp
  · rename_i xs ys
    obtain ⟨rfl, hlen⟩ : xs = ys ∧ xs.length ≤ 4000000 := hp
    refine ⟨by simp, fun φ0 w0 => ?_⟩
    refine goh trivial ?_
    refine W_cnd ?_ ?_ <;> intro hlit <;> try (cases hlit; done)
    refine goh trivial ?_
    refine W_for xs.length (fun i => True) (fun i => ⟨[(0, .one (.isl .str xs)), (1, .one (.isl .str xs)), (5, vi i)], [], []⟩) [] (leh trivial) trivial fun i hi _ => ?_
    refine goh trivial ?_
    refine W_cnd ?_ ?_ <;> (try simp only [cnd_r]) <;> intro hlt
    · refine goh trivial ?_
      refine W_cnd ?_ ?_ <;> intro hlit <;> try (cases hlit; done)
      refine goh trivial ?_
      exact ⟨[], by omega, leh trivial, trivial⟩
    · refine goh trivial ?_
      exact finh [] trivial
  · simp [no, ifp] at hp
/-- Does a name stand among the first j? -/
noncomputable def hasN (K : List ByteArray) (c : ByteArray) (j : Nat) : Bool := (K.take j).any fun t => same t c
theorem hasN_succ {K : List ByteArray} {j : Nat} (h : j < K.length) (c : ByteArray) : hasN K c (j + 1) = if hasN K c j = true then true else same (K.getD j ET.str.dflt) c := by
  unfold hasN
  rw [List.take_add_one, List.getElem?_eq_getElem h, List.any_append]
  have e : K.getD j ET.str.dflt = K[j] := by simp [h]
  rw [e]
  cases (K.take j).any fun t => same t c <;> simp
theorem hasN_all (K : List ByteArray) (c : ByteArray) : hasN K c K.length = K.any fun t => same t c := by unfold hasN; rw [List.take_length]
theorem hasN_mem {K : List ByteArray} {c : ByteArray} (h : c ∈ K) : hasN K c K.length = true := by
  rw [hasN_all, List.any_eq_true]
  exact ⟨c, h, same_true.2 rfl⟩
noncomputable def cntN (xs : List BSet) (name : ByteArray) (i : Nat) : Nat := ((xs.take i).filter (hasUp xs name)).length
theorem cntN_succ {xs : List BSet} {i : Nat} (h : i < xs.length) (name : ByteArray) : cntN xs name (i + 1) = cntN xs name i + if hasUp xs name (xs.getD i ET.bset.dflt) = true then 1 else 0 := by
  unfold cntN
  rw [List.take_add_one, List.getElem?_eq_getElem h, List.filter_append, List.length_append]
  have e : xs.getD i ET.bset.dflt = xs[i] := by simp [h]
  rw [e]
  cases hc : hasUp xs name xs[i] <;> simp [hc]
theorem cntN_le (xs : List BSet) (name : ByteArray) (i : Nat) : cntN xs name i ≤ i := by
  unfold cntN
  exact Nat.le_trans (List.length_filter_le _ _) (by rw [List.length_take]; omega)
theorem cntN_all {xs : List BSet} (h : bookB xs = true) (name : ByteArray) : cntN xs name xs.length = (treeUnder xs name).length := by
  unfold cntN; rw [List.take_length, up_count h]
theorem line_there (xs : List BSet) : ∀ (n : Nat) (name t : ByteArray), t ∈ lineN xs n name → thereB xs t = true
  | 0, name, t, h => by cases h
  | n + 1, name, t, h => by
    cases hs : thereB xs name with
    | false => rw [line_none hs] at h; cases h
    | true =>
      rw [line_cons hs] at h
      rcases List.mem_cons.1 h with rfl | h
      · exact hs
      · exact line_there xs n _ t h
/-- Each in the line is a kid of the next. -/
theorem line_kid {xs : List BSet} {name : ByteArray} {i : Nat} (hi : i + 1 < (treeLine xs name).length) : hasN (treeKids xs ((treeLine xs name).getD (i + 1) ET.str.dflt)) ((treeLine xs name).getD i ET.str.dflt) (treeKids xs ((treeLine xs name).getD (i + 1) ET.str.dflt)).length = true := by
  have hb : bookB xs = true := by
    cases h : bookB xs with
    | true => rfl
    | false => unfold treeLine at hi; rw [h] at hi; simp at hi
  have hB := bookB_true.1 hb
  have et : treeLine xs name = lineN xs xs.length name := by unfold treeLine; rw [if_pos hb]
  have hm := line_kids hB xs.length name (ends_first hB name) i (by rw [← et]; exact hi)
  rw [← et] at hm
  have ht : thereB xs ((treeLine xs name).getD (i + 1) ET.str.dflt) = true := line_there xs xs.length name _ (by rw [← et, List.getD_eq_getElem?_getD, List.getElem?_eq_getElem hi]; exact List.getElem_mem hi)
  have hn := there_name hB ht
  have ek : treeKids xs ((treeLine xs name).getD (i + 1) ET.str.dflt) = kidsOf xs ((treeLine xs name).getD (i + 1) ET.str.dflt) := by unfold treeKids; rw [if_pos ⟨hb, hn⟩]
  rw [ek]
  exact hasN_mem hm
theorem s_lawTreeLine_e : EnterOk Tryd.prog 3 := ⟨_, Tryd.func3, rfl, by decide⟩
@[go_sem] def s_lawTreeLine_lv : List (List Nat) := [[0], [0, 18], [2], [3, 4], [3, 4, 5], [3, 4, 5, 6], [3, 4, 5, 6, 43], [2], [3, 4, 5, 6, 7], [3, 4, 5, 6, 7, 48], [3, 4, 5, 6, 7], [3, 4, 5, 6, 7, 8], [3, 4, 5, 6, 7, 8, 9], [3, 4, 5, 6, 7, 8, 9, 10], [3, 4, 5, 6, 7, 8, 9, 10, 61], [3, 4, 5, 6, 7, 8, 9, 10], [3, 4, 5, 6, 7, 8, 9, 10], [3, 4, 5, 6, 7, 77], [2], [3, 4, 5, 6, 11], [3, 4, 5, 6, 11, 12], [3, 4, 5, 6, 11, 12, 86], [3, 4, 5, 6, 11, 12], [3, 4, 5, 6, 11, 12, 13], [3, 4, 5, 6, 11, 12, 13, 14], [3, 4, 5, 6, 11, 12, 13, 14, 15], [3, 4, 5, 6, 11, 12, 13, 14, 15, 100], [3, 4, 5, 6, 11, 12, 13, 14, 15], [3, 4, 5, 6, 11, 12, 13, 14, 15], [3, 4, 5, 6, 11, 12, 112], [3, 4, 5, 6, 11, 12], [2]]
@[go_sem] noncomputable def s_lawTreeLine_K : Known := ((((((((Known.nil).cons 5 ctL15Named s_drawTreeLine s_drawTreeLine_e).cons 6 ctTreeLine s_treeLine s_treeLine_e).cons 7 ctTreeUnder s_treeUnder s_treeUnder_e).cons 9 ctTreeLine s_specTreeLine s_specTreeLine_e).cons 8 ctTexts s_texts s_texts_e).cons 10 ctTreeUnder s_specTreeUnder s_specTreeUnder_e).cons 11 ctTreeKids s_treeKids s_treeKids_e).cons 12 ctBookOk s_specBookOk s_specBookOk_e
set_option maxHeartbeats 8000000 in
theorem s_lawTreeLine : Sound Tryd.prog 3 ctLaw1 := by
  have ke := s_lawTreeLine_K.env []
  have kl : Lives s_lawTreeLine_lv := trivial
  refine sound_intro (E := ⟨ti, s_lawTreeLine_K.Γ, []⟩) ke Tryd.func3 Tryd.ntmps3 rfl (rs := [.tmp 2]) rfl ?_
  intro args os hp
  unfold ctLaw1 at hp ⊢
  dsimp only at hp ⊢
  split at hp
  · rename_i code
    refine ⟨by simp, fun φ0 w0 => ?_⟩
    clear hp
    refine goh trivial ?_
    refine W_cnd ?_ ?_ <;> (try simp only [cnd_r]) <;> intro hlen
    · refine goh trivial ?_
      exact finh [] trivial
    · obtain ⟨k1, k2, k3⟩ := named_brief code
      obtain ⟨xs, hxs⟩ : ∃ xs, nBook code = xs := ⟨_, rfl⟩
      obtain ⟨nm, hnm⟩ : ∃ nm, nName code = nm := ⟨_, rfl⟩
      rw [hxs] at k1 k2
      rw [hnm] at k3
      have hsz : ∀ i : Nat, (xs.getD i ET.bset.dflt).name.size ≤ 9223372036854775807 := fun i => Nat.le_trans (k1.at_ i).1 (by omega)
      have hl1 := treeLine_len xs nm
      have hl2 := treeUnder_len xs nm
      have hsm : xs.length ≤ 4000000 ∧ ∀ i : Nat, (xs.getD i ET.bset.dflt).name.size ≤ 9223372036854775807 := ⟨by omega, hsz⟩
      have hlong : code.length ≤ 1048576 := by omega
      obtain ⟨L, hL⟩ : ∃ L, treeLine xs nm = L := ⟨_, rfl⟩
      obtain ⟨U, hU⟩ : ∃ U, treeUnder xs nm = U := ⟨_, rfl⟩
      have hkid : ∀ i, i + 1 < L.length → hasN (treeKids xs (L.getD (i + 1) ET.str.dflt)) (L.getD i ET.str.dflt) (treeKids xs (L.getD (i + 1) ET.str.dflt)).length = true := fun i hi => by
        rw [← hL] at hi ⊢; exact line_kid hi
      have hnil : ((L.length : Int) == 0) = ((U.length : Int) == 0) := by
        have := under_nil (xs := xs) (name := nm)
        rw [hL, hU] at this
        rw [Bool.eq_iff_iff, beq_iff_eq, beq_iff_eq]; omega
      have hcnt : bookB xs = true → cntN xs nm xs.length = U.length := fun h => by rw [cntN_all h, hU]
      rw [hL] at hl1
      rw [hU] at hl2
      have hU0 : bookB xs = false → U.length = 0 := fun h => by rw [← hU]; unfold treeUnder; rw [if_neg (fun hh => by rw [h] at hh; cases hh.1)]; rfl
      refine goh (And.intro hxs (And.intro hnm (And.intro hsm (And.intro hlong (And.intro hL hU))))) ?_
      refine W_cnd ?_ ?_ <;> intro hlit <;> try (cases hlit; done)
      refine goh trivial ?_
      refine W_for (L.length - 1) (fun i => True) (fun i => ⟨[(3, .one (.ptr 1 0)), (4, vs nm), (5, .one (.osl .str 2 0 L.length)), (6, .one (.osl .str 3 0 U.length)), (7, vi i)], [some (.arr .bset xs), some (.cells [.osl .bset 0 0 xs.length]), some (.arr .str L), some (.arr .str U)], []⟩) [some 0, some 1, some 2, some 3] (leh trivial) trivial fun i hi _ => ?_
      have hw : IntKind.i64.wrap ((i : Int) + 1) = ((i + 1 : Nat) : Int) := wrap_id _ (by omega) (by omega)
      refine goh hw ?_
      refine W_cnd ?_ ?_ <;> (try simp only [cnd_r]) <;> intro hlt
      · have hlt2 : i + 1 < L.length := by omega
        have hk1 := hkid i hlt2
        have hk2 := treeKids_len xs (L.getD (i + 1) ET.str.dflt)
        obtain ⟨K, hK⟩ : ∃ K, treeKids xs (L.getD (i + 1) ET.str.dflt) = K := ⟨_, rfl⟩
        rw [hK] at hk1 hk2
        obtain ⟨c, hc⟩ : ∃ c, L.getD i ET.str.dflt = c := ⟨_, rfl⟩
        rw [hc] at hk1
        refine goh (And.intro hsm (And.intro hw hK)) ?_
        refine W_for K.length (fun j => True) (fun j => ⟨[(3, .one (.ptr 1 0)), (4, vs nm), (5, .one (.osl .str 2 0 L.length)), (6, .one (.osl .str 3 0 U.length)), (7, vi i), (8, .one (.osl .str 4 0 K.length)), (9, vb (hasN K c j)), (10, vi j)], [some (.arr .bset xs), some (.cells [.osl .bset 0 0 xs.length]), some (.arr .str L), some (.arr .str U), some (.arr .str K)], []⟩) [some 0, some 1, some 2, some 3, some 4] (leh (show hasN K c 0 = false from rfl)) trivial fun j hj _ => ?_
        refine goh trivial ?_
        refine W_cnd ?_ ?_ <;> (try simp only [cnd_r]) <;> intro hltj
        · have hs := hasN_succ (show j < K.length by omega) c
          cases hb : hasN K c j with
          | true =>
            rw [hb, if_pos rfl] at hs
            refine goh hc ?_
            exact ⟨[some 0, some 1, some 2, some 3, some 4], by omega, leh (And.intro hs hb), trivial⟩
          | false =>
            rw [hb, if_neg Bool.false_ne_true] at hs
            refine goh hc ?_
            exact ⟨[some 0, some 1, some 2, some 3, some 4], by omega, leh (And.intro hs hb), trivial⟩
        · obtain rfl : j = K.length := by omega
          refine goh hk1 ?_
          refine W_cnd ?_ ?_ <;> intro hlit <;> try (cases hlit; done)
          refine goh hw ?_
          exact ⟨[some 0, some 1, some 2, some 3], by omega, leh trivial, trivial⟩
      · repeat' first
          | with_reducible refine red ?_
          | refine W_seq ?_
          | (refine W_reg (s_lawTreeLine_K.env []) s_lawTreeLine_lv fun K' hK' => ?_
             simp only [go_sem, ↓reduceIte, ↓reduceDIte, reduceCtorEq, Nat.reduceAdd, Nat.reduceMul, Nat.reduceSub, Nat.reduceDiv, Nat.reduceMod, Nat.reduceLT, Nat.reduceLeDiff, Nat.reduceEqDiff, Nat.reduceBEq, Int.reduceToNat, Int.reduceLE, Int.reduceLT, Int.reduceEq, Int.reduceNe, Int.reduceNeg]
             (repeat' refine And.intro ?_ ?_) <;> try first | with_reducible refine hK' ?_ | exact shut6)
          | with_reducible refine blockG_o (by decide) ?_
        cases hb : bookB xs with
        | false =>
          refine W_for 0 (fun i => True) (fun i => ⟨[(3, .one (.ptr 1 0)), (4, vs nm), (5, .one (.osl .str 2 0 L.length)), (6, .one (.osl .str 3 0 U.length)), (11, vi 0), (12, vi i)], [some (.arr .bset xs), some (.cells [.osl .bset 0 0 xs.length]), some (.arr .str L), some (.arr .str U)], []⟩) [some 0, some 1, some 2, some 3] (leh trivial) trivial fun i hi _ => ?_
          obtain rfl : i = 0 := by omega
          have hu := hU0 hb
          have hu2 : ((U.length : Int) == 0) = true := by rw [hu]; rfl
          have hu3 : ((0 : Int) == (U.length : Int)) = true := by rw [hu]; rfl
          repeat' first
            | with_reducible refine red ?_
            | refine W_seq ?_
            | (refine W_reg (s_lawTreeLine_K.env []) s_lawTreeLine_lv fun K' hK' => ?_
               simp only [go_sem, hsm, hb, ite_self, ↓reduceIte, ↓reduceDIte, reduceCtorEq, Nat.reduceAdd, Nat.reduceMul, Nat.reduceSub, Nat.reduceDiv, Nat.reduceMod, Nat.reduceLT, Nat.reduceLeDiff, Nat.reduceEqDiff, Nat.reduceBEq, Int.reduceToNat, Int.reduceLE, Int.reduceLT, Int.reduceEq, Int.reduceNe, Int.reduceNeg]
               (repeat' refine And.intro ?_ ?_) <;> try first | with_reducible refine hK' ?_ | exact shut6)
            | with_reducible refine blockG_o (by decide) ?_
          refine W_cnd ?_ ?_ <;> intro hlit <;> try (cases hlit; done)
          refine goh (And.intro hnil (And.intro hu (And.intro hu2 hu3))) ?_
          exact finh [] trivial
        | true =>
          have hc0 : cntN xs nm 0 = 0 := rfl
          have hcu := hcnt hb
          refine W_for xs.length (fun i => True) (fun i => ⟨[(3, .one (.ptr 1 0)), (4, vs nm), (5, .one (.osl .str 2 0 L.length)), (6, .one (.osl .str 3 0 U.length)), (11, vi (cntN xs nm i)), (12, vi i)], [some (.arr .bset xs), some (.cells [.osl .bset 0 0 xs.length]), some (.arr .str L), some (.arr .str U)], []⟩) [some 0, some 1, some 2, some 3] (leh hc0) trivial fun i hi _ => ?_
          by_cases g : i < xs.length
          · have g1 : (i : Int) < (xs.length : Int) := by omega
            have hle := cntN_le xs nm i
            have hw : IntKind.i64.wrap ((cntN xs nm i : Int) + 1) = ((cntN xs nm i + 1 : Nat) : Int) := wrap_id _ (by omega) (by omega)
            have hs := cntN_succ g nm
            unfold hasUp at hs
            obtain ⟨s, hse⟩ : ∃ s, (xs.getD i ET.bset.dflt).name = s := ⟨_, rfl⟩
            rw [hse] at hs
            have hk2 := treeLine_len xs s
            obtain ⟨K, hK⟩ : ∃ K, treeLine xs s = K := ⟨_, rfl⟩
            rw [hK] at hs hk2
            rw [← hasN_all] at hs
            refine goh (And.intro hsm (And.intro hb g1)) ?_
            refine W_cnd ?_ ?_ <;> intro hlit <;> try (cases hlit; done)
            refine goh (And.intro hsm (And.intro hse hK)) ?_
            refine W_for K.length (fun j => True) (fun j => ⟨[(3, .one (.ptr 1 0)), (4, vs nm), (5, .one (.osl .str 2 0 L.length)), (6, .one (.osl .str 3 0 U.length)), (11, vi (cntN xs nm i)), (12, vi i), (13, .one (.osl .str 4 0 K.length)), (14, vb (hasN K nm j)), (15, vi j)], [some (.arr .bset xs), some (.cells [.osl .bset 0 0 xs.length]), some (.arr .str L), some (.arr .str U), some (.arr .str K)], []⟩) [some 0, some 1, some 2, some 3, some 4] (leh (show hasN K nm 0 = false from rfl)) trivial fun j hj _ => ?_
            refine goh trivial ?_
            refine W_cnd ?_ ?_ <;> (try simp only [cnd_r]) <;> intro hltj
            · have hs2 := hasN_succ (show j < K.length by omega) nm
              cases hb2 : hasN K nm j with
              | true =>
                rw [hb2, if_pos rfl] at hs2
                refine goh trivial ?_
                exact ⟨[some 0, some 1, some 2, some 3, some 4], by omega, leh (And.intro hs2 hb2), trivial⟩
              | false =>
                rw [hb2, if_neg Bool.false_ne_true] at hs2
                refine goh trivial ?_
                exact ⟨[some 0, some 1, some 2, some 3, some 4], by omega, leh (And.intro hs2 hb2), trivial⟩
            · obtain rfl : j = K.length := by omega
              cases hh : hasN K nm K.length with
              | true =>
                rw [hh, if_pos rfl] at hs
                refine goh hh ?_
                refine W_cnd ?_ ?_ <;> intro hlit <;> try (cases hlit; done)
                refine goh hw ?_
                exact ⟨[some 0, some 1, some 2, some 3], by omega, leh hs, trivial⟩
              | false =>
                rw [hh, if_neg Bool.false_ne_true, Nat.add_zero] at hs
                refine goh hh ?_
                refine W_cnd ?_ ?_ <;> intro hlit <;> try (cases hlit; done)
                refine goh trivial ?_
                exact ⟨[some 0, some 1, some 2, some 3], by omega, leh hs, trivial⟩
          · obtain rfl : i = xs.length := by omega
            have g1 : ¬ (xs.length : Int) < (xs.length : Int) := by omega
            refine goh (And.intro hsm (And.intro hb g1)) ?_
            refine W_cnd ?_ ?_ <;> intro hlit <;> try (cases hlit; done)
            refine goh (And.intro hcu hnil) ?_
            exact finh [] trivial
  · exact hp.elim
end Go.Proofs.YtjedcphhajlnoaaDoor
/- What is handed in to an exact law, as the walks see it. -/
namespace Go.Proofs.YtjedcphhajlnoaaDoor
open Go.ChangeShapes Go.WideShapes Go.ChangeAt Go.RowKit

abbrev VR0 (w : World) (x : TV) (v : Value) : Prop := VR phi0 (tabOf []) w x v
theorem isSl_R {w : World} {t : ET} {v : Value} {xs : List t.α} (h : IsSl w t v xs) : CR phi0 (tabOf []) w (.isl t xs) v := by
  obtain ⟨a, cap, h1, h2, h3, h4, h5⟩ := h
  simp only [CR]
  exact ⟨a, cap, h1, h2, h3, h4, fun hne => by
    obtain ⟨b, o, h6, h7, h8⟩ := h5 hne
    exact ⟨b, o, h6, ⟨h7, not_own0, fun hf => hf⟩, h8⟩⟩
theorem str_all {xs : List ByteArray} (h : ∀ i, i < xs.length → EksOk ET.str.eks (ET.str.cells (xs.getD i ET.str.dflt))) (i : Nat) : (xs.getD i ET.str.dflt).size ≤ 9223372036854775807 := by
  rcases Nat.lt_or_ge i xs.length with hi | hi
  · obtain ⟨⟨s, hs, h2⟩, -⟩ := h i hi
    have : xs.getD i ET.str.dflt = s := by injection hs
    rw [this]; exact h2
  · rw [List.getD_eq_getElem?_getD, List.getElem?_eq_none hi]; exact Nat.zero_le _
theorem late_all {xs : List Late} (h : ∀ i, i < xs.length → EksOk ET.late.eks (ET.late.cells (xs.getD i ET.late.dflt))) (i : Nat) : (xs.getD i ET.late.dflt).text.size ≤ 9223372036854775807 := by
  rcases Nat.lt_or_ge i xs.length with hi | hi
  · obtain ⟨-, -, ⟨s, hs, h2⟩, -⟩ := h i hi
    have : (xs.getD i ET.late.dflt).text = s := by injection hs
    rw [this]; exact h2
  · rw [List.getD_eq_getElem?_getD, List.getElem?_eq_none hi]; exact Nat.zero_le _
section
variable {H : Type} {enc : TypeId × Value → H} {P : Program} {w : World} {base : Nat} {sp : Nat → Bool} {held : Bool} {t : TypeId} {v : Value} {d : DataW H} {ps : List MemPlace}
theorem lks_one {k : LK} {cs : List Value} (h : LksOk w [k] cs) : ∃ x, cs = [x] ∧ LkOk w k x := by
  cases cs with
  | nil => exact h.elim
  | cons x r => cases r with
    | nil => exact ⟨x, rfl, h.1⟩
    | cons y r => exact h.2.elim
theorem lks_cons {k : LK} {ks : List LK} {cs : List Value} (h : LksOk w (k :: ks) cs) : ∃ x r, cs = x :: r ∧ LkOk w k x ∧ LksOk w ks r := by
  cases cs with
  | nil => exact h.elim
  | cons x r => exact ⟨x, r, rfl, h.1, h.2⟩
theorem lks_nil {cs : List Value} (h : LksOk w [] cs) : cs = [] := by
  cases cs with
  | nil => rfl
  | cons x r => exact h.elim
theorem okWide_agg (n : Nat) (hu : (match P.underlying t with | some (.struct _) => true | some (.array _ _) => true | _ => false) = true) (h : Value.okWide P w .any n t v) : ∃ cs, v = .agg cs := by
  unfold Value.okWide at h
  split at h
  · obtain ⟨cs, h1, -⟩ := h; exact ⟨cs, h1⟩
  · obtain ⟨cs, h1, -⟩ := h; exact ⟨cs, h1⟩
  · rename_i h1 h2
    split at hu
    · rename_i fs e; exact (h1 fs e).elim
    · rename_i a b e; exact (h2 a b e).elim
    · cases hu
theorem arg_int (ht : P.underlying t = some (.int .i64)) (hv : Value.okWide P w .any base t v) : ∃ n, VR0 w (.one (.val (.int .i64 n))) v := by
  obtain ⟨n, rfl⟩ := okWide_int ht hv
  exact ⟨n, by simp only [VR, CR]⟩
theorem arg_str (ht : P.underlying t = some .string) (hv : Value.okWide P w .any base t v) (h : DataW.Trod enc P w 0 sp held t v d ps) : ∃ s, s.size ≤ 9223372036854775807 ∧ VR0 w (.one (.val (.string s))) v := by
  obtain ⟨fuel, hf⟩ := h
  obtain ⟨s, hc, -, hs⟩ := DataW.trod_string ht hf
  obtain ⟨u, rfl⟩ := okWide_string ht hv
  simp [Value.cells] at hc
  subst hc
  exact ⟨u, hs, by simp only [VR, CR]⟩
theorem arg_ints (n : Nat) (hsh : shapeL P n t = some [.sl ET.int.eks]) {e : TypeId} (ht : P.underlying t = some (.slice e)) (hv : Value.okWide P w .any base t v) (h : DataW.Trod enc P w 0 sp held t v d ps) : ∃ xs : List Int, xs.length ≤ 9223372036854775807 ∧ VR0 w (.one (.isl .int xs)) v := by
  obtain ⟨fuel, hf⟩ := h
  obtain ⟨a, len, cap, rfl⟩ := okWide_slice ht hv
  obtain ⟨x, hx, h1⟩ := lks_one (open_l n t _ hsh _ _ _ hf)
  have hns := value_noSpot hv
  simp [Value.cells] at hx hns
  subst hx
  obtain ⟨xs, h2, h3, -⟩ := sl_open h1 hns rfl (by decide) fun vs h => eks_int h
  exact ⟨xs, h3, isSl_R h2⟩
theorem arg_disk (n : Nat) (hsh : shapeL P n t = some [.sl ET.str.eks, .sl ET.str.eks, .sl ET.late.eks]) (hu : (match P.underlying t with | some (.struct _) => true | some (.array _ _) => true | _ => false) = true) (hv : Value.okWide P w .any base t v) (h : DataW.Trod enc P w 0 sp held t v d ps) :
    ∃ a b l, (Dk.mk a b l).inn ∧ VR0 w (.agg [.isl .str a, .isl .str b, .isl .late l]) v := by
  obtain ⟨fuel, hf⟩ := h
  obtain ⟨cs, rfl⟩ := okWide_agg base hu hv
  have hns := value_noSpot hv
  have h0 := open_l n t _ hsh _ _ _ hf
  obtain ⟨x, _, e1, h1, h0⟩ := lks_cons h0
  obtain ⟨y, _, rfl, h2, h0⟩ := lks_cons h0
  obtain ⟨z, _, rfl, h3, h0⟩ := lks_cons h0
  obtain rfl := lks_nil h0
  rw [e1] at hns
  have hcs : cs.toList = [x, y, z] := by simpa [Value.cells] using e1
  obtain ⟨a, a1, a2, a3⟩ := sl_open h1 (hns x (by simp)) rfl (by decide) fun vs h => eks_str h
  obtain ⟨b, b1, b2, b3⟩ := sl_open h2 (hns y (by simp)) rfl (by decide) fun vs h => eks_str h
  obtain ⟨l, l1, l2, l3⟩ := sl_open h3 (hns z (by simp)) rfl (by decide) fun vs h => eks_late h
  refine ⟨a, b, l, ⟨⟨a2, str_all a3⟩, ⟨b2, str_all b3⟩, ⟨l2, late_all l3⟩⟩, ?_⟩
  simp only [VR]
  exact ⟨cs, rfl, by rw [hcs]; exact ⟨isSl_R a1, isSl_R b1, isSl_R l1, trivial⟩⟩
theorem arg_ptr (n : Nat) (hsh : shapeL P n t = some [.e (.int .i64), .e (.int .i64), .e (.int .i64)]) (hu : (match P.underlying t with | some (.struct _) => true | some (.array _ _) => true | _ => false) = true) (hv : Value.okWide P w .any base t v) (h : DataW.Trod enc P w 0 sp held t v d ps) :
    ∃ a b c, VR0 w (.agg [.val (.int .i64 a), .val (.int .i64 b), .val (.int .i64 c)]) v := by
  obtain ⟨fuel, hf⟩ := h
  obtain ⟨cs, rfl⟩ := okWide_agg base hu hv
  have h0 := open_l n t _ hsh _ _ _ hf
  obtain ⟨_, _, e1, ⟨a, rfl, -⟩, h1⟩ := lks_cons h0
  obtain ⟨_, _, rfl, ⟨b, rfl, -⟩, h2⟩ := lks_cons h1
  obtain ⟨_, _, rfl, ⟨c, rfl, -⟩, h3⟩ := lks_cons h2
  obtain rfl := lks_nil h3
  have hcs : cs.toList = [.int .i64 a, .int .i64 b, .int .i64 c] := by simpa [Value.cells] using e1
  refine ⟨a, b, c, ?_⟩
  simp only [VR]
  exact ⟨cs, rfl, by rw [hcs]; exact ⟨rfl, rfl, rfl, trivial⟩⟩
end
/-- What a contract says that hands over nothing: the answer, and that all is as it was. -/
theorem lawN {f : FuncId} {ct : Ct} (h : Sound Tryd.prog f ct) {w : World} {vs : List Value} {args : List TV} (hs : ct.spec args [] = ifp True (vb true) ∨ ∃ p, p ∧ ct.spec args [] = ifp p (vb true)) (hr : VRs phi0 (tabOf []) w args vs) (hg : GloOk0 w) :
    Calls Tryd.prog f vs.toArray w fun e w' => e = .returned (.bool true) ∧ Below w.heap.size w w' := by
  have hpre : (ct.spec args []).pre ∧ (ct.spec args []).v = vb true := by
    rcases hs with hs | ⟨p, hp, hs⟩
    · rw [hs]; exact ⟨trivial, rfl⟩
    · rw [hs]; exact ⟨hp, rfl⟩
  refine (h args [] hpre.1 phi0 w vs (rel0 w hg) hr fun _ _ => rfl).mono ?_
  rintro e w' hp
  obtain ⟨r, φ', rfl, hv, hbl⟩ := post_below hp
  rw [hpre.2] at hv
  simp only [vb, VR, CR] at hv
  subst hv
  exact ⟨rfl, hbl⟩
end Go.Proofs.YtjedcphhajlnoaaDoor
/- What stands in Go's tables. -/
namespace Go.Proofs.YtjedcphhajlnoaaDoor
open Go.ChangeShapes Go.WideShapes Go.ChangeAt Go.RowKit

set_option maxRecDepth 100000 in
theorem mapsR : mapsRowed Tryd.prog = true := by kernel_rfl
def laidU : List (String × DataW Unit) := [("unicode/utf8.acceptRanges", Rows.laid_unicode_utf8_acceptRanges), ("unicode/utf8.first", Rows.laid_unicode_utf8_first)]
set_option maxRecDepth 100000 in
/-- A world in which the tables lie. -/
theorem laidU_met (os : Os) (args : Array Value) : laidMetH Tryd.prog laidU ((World.laidAll Tryd.prog os laidU).forCall (fun _ _ => 0) ⟨#[], args, []⟩).memory := by
  rw [MakeChecks.laidMetH_plain _ _ _ (by kernel_rfl)]
  exact laidMet_laidAll _ (by kernel_rfl) (by kernel_rfl)
set_option maxRecDepth 100000 in
theorem laidU_shaped (os : Os) : World.Shaped Tryd.prog (World.laidAll Tryd.prog os laidU) := World.shaped_of_ZipB (by kernel_rfl) (by kernel_rfl)
end Go.Proofs.YtjedcphhajlnoaaDoor
/- What is handed in to an exact law of pools, as the walks see it. -/
namespace Go.Proofs.YtjedcphhajlnoaaDoor
open Go.ChangeShapes Go.WideShapes Go.ChangeAt Go.RowKit

def EK.wide : EK → Bool
  | .int .i64 => true
  | .int _ => false
  | _ => true
theorem eks_kinds : ∀ {ks : List EK} {vs : List Value}, ks.all EK.wide = true → EksOk ks vs → kindsOk (ks.map EK.tk) vs = true
  | [], [], _, _ => rfl
  | [], _ :: _, _, h => h.elim
  | _ :: _, [], _, h => h.elim
  | k :: ks, v :: vs, hw, ⟨h, h2⟩ => by
    rw [List.all_cons, Bool.and_eq_true] at hw
    have ih := eks_kinds hw.2 h2
    cases k with
    | int q =>
      obtain ⟨n, rfl, -⟩ := h
      cases q <;> simp [EK.wide] at hw
      simpa [kindsOk, EK.tk] using ih
    | str => obtain ⟨n, rfl, -⟩ := h; simpa [kindsOk, EK.tk] using ih
    | bool => obtain ⟨n, rfl⟩ := h; simpa [kindsOk, EK.tk] using ih
theorem eks_cset {vs : List Value} (h : EksOk ET.cset.eks vs) : ∃ x, ET.cset.cells x = vs := ⟨_, cset_cells (eks_kinds (by decide) h)⟩
theorem eks_ent {vs : List Value} (h : EksOk ET.ent.eks vs) : ∃ x, ET.ent.cells x = vs := by
  obtain ⟨_, _, rfl, ⟨a, rfl, _⟩, h1⟩ := eks_cons h
  obtain ⟨_, _, rfl, ⟨b, rfl, _⟩, h2⟩ := eks_cons h1
  obtain ⟨_, _, rfl, ⟨c, rfl, _⟩, h3⟩ := eks_cons h2
  obtain rfl := eks_nil h3
  exact ⟨⟨a, b, c⟩, rfl⟩
theorem cset_all {xs : List CSet} (h : ∀ i, i < xs.length → EksOk ET.cset.eks (ET.cset.cells (xs.getD i ET.cset.dflt))) (i : Nat) : (xs.getD i ET.cset.dflt).name.size ≤ 9223372036854775807 ∧ (xs.getD i ET.cset.dflt).from_.size ≤ 9223372036854775807 := by
  rcases Nat.lt_or_ge i xs.length with hi | hi
  · obtain ⟨⟨s, hs, h2⟩, -, ⟨f, hf, hf2⟩, -⟩ := h i hi
    have e1 : (xs.getD i ET.cset.dflt).name = s := by injection hs
    have e2 : (xs.getD i ET.cset.dflt).from_ = f := by injection hf
    rw [e1, e2]; exact ⟨h2, hf2⟩
  · rw [List.getD_eq_getElem?_getD, List.getElem?_eq_none hi]; exact ⟨Nat.zero_le _, Nat.zero_le _⟩
section
variable {H : Type} {enc : TypeId × Value → H} {P : Program} {w : World} {base : Nat} {sp : Nat → Bool} {held : Bool} {t : TypeId} {v : Value} {d : DataW H} {ps : List MemPlace}
theorem arg_pool (n : Nat) (hsh : shapeL P n t = some [.sl ET.str.eks, .sl ET.str.eks, .sl ET.late.eks, .e (.int .i64), .sl ET.cset.eks, .sl ET.ent.eks, .sl ET.ptr.eks, .e .bool, .sl ET.int.eks, .e (.int .i64), .e .bool]) (hu : (match P.underlying t with | some (.struct _) => true | some (.array _ _) => true | _ => false) = true) (hv : Value.okWide P w .any base t v) (h : DataW.Trod enc P w 0 sp held t v d ps) :
    ∃ a b l x cs es ps' y zs u o, (Pl.mk ⟨a, b, l⟩ ⟨x, cs, es, ps', y, zs, u⟩ o).inn ∧ VR0 w (.agg [.isl .str a, .isl .str b, .isl .late l, .val (.int .i64 x), .isl .cset cs, .isl .ent es, .isl .ptr ps', .val (.bool y), .isl .int zs, .val (.int .i64 u), .val (.bool o)]) v := by
  obtain ⟨fuel, hf⟩ := h
  obtain ⟨vs, rfl⟩ := okWide_agg base hu hv
  have hns := value_noSpot hv
  have h0 := open_l n t _ hsh _ _ _ hf
  obtain ⟨v1, _, e1, h1, g1⟩ := lks_cons h0
  obtain ⟨v2, _, rfl, h2, g2⟩ := lks_cons g1
  obtain ⟨v3, _, rfl, h3, g3⟩ := lks_cons g2
  obtain ⟨_, _, rfl, ⟨x, rfl, -⟩, g4⟩ := lks_cons g3
  obtain ⟨v5, _, rfl, h5, g5⟩ := lks_cons g4
  obtain ⟨v6, _, rfl, h6, g6⟩ := lks_cons g5
  obtain ⟨v7, _, rfl, h7, g7⟩ := lks_cons g6
  obtain ⟨_, _, rfl, ⟨y, rfl⟩, g8⟩ := lks_cons g7
  obtain ⟨v9, _, rfl, h9, g9⟩ := lks_cons g8
  obtain ⟨_, _, rfl, ⟨u, rfl, -⟩, g10⟩ := lks_cons g9
  obtain ⟨_, _, rfl, ⟨o, rfl⟩, g11⟩ := lks_cons g10
  obtain rfl := lks_nil g11
  rw [e1] at hns
  have hcs : vs.toList = [v1, v2, v3, .int .i64 x, v5, v6, v7, .bool y, v9, .int .i64 u, .bool o] := by simpa [Value.cells] using e1
  obtain ⟨a, a1, a2, a3⟩ := sl_open h1 (hns v1 (by simp)) rfl (by decide) fun vs h => eks_str h
  obtain ⟨b, b1, b2, b3⟩ := sl_open h2 (hns v2 (by simp)) rfl (by decide) fun vs h => eks_str h
  obtain ⟨l, l1, l2, l3⟩ := sl_open h3 (hns v3 (by simp)) rfl (by decide) fun vs h => eks_late h
  obtain ⟨cs, c1, c2, c3⟩ := sl_open h5 (hns v5 (by simp)) rfl (by decide) fun vs h => eks_cset h
  obtain ⟨es, s1, s2, -⟩ := sl_open h6 (hns v6 (by simp)) rfl (by decide) fun vs h => eks_ent h
  obtain ⟨qs, p1, p2, -⟩ := sl_open h7 (hns v7 (by simp)) rfl (by decide) fun vs h => eks_ptr h
  obtain ⟨zs, z1, z2, -⟩ := sl_open h9 (hns v9 (by simp)) rfl (by decide) fun vs h => eks_int h
  refine ⟨a, b, l, x, cs, es, qs, y, zs, u, o, ⟨⟨⟨a2, str_all a3⟩, ⟨b2, str_all b3⟩, ⟨l2, late_all l3⟩⟩, ⟨⟨c2, cset_all c3⟩, s2, p2, z2⟩⟩, ?_⟩
  simp only [VR]
  exact ⟨vs, rfl, by rw [hcs]; exact ⟨isSl_R a1, isSl_R b1, isSl_R l1, rfl, isSl_R c1, isSl_R s1, isSl_R p1, rfl, isSl_R z1, rfl, rfl, trivial⟩⟩
end
end Go.Proofs.YtjedcphhajlnoaaDoor
