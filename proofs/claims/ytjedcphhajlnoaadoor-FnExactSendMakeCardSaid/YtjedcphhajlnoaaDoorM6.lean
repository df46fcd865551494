import Derived.Test.YtjedcphhajlnoaaDoorM5
set_option linter.unusedSimpArgs false
set_option linter.unusedVariables false
set_option linter.unusedSectionVars false
/- Functions: falls. -/
namespace Go.Proofs.YtjedcphhajlnoaaDoor
open Go.RowKit

theorem at_set {α : Type} (xs : List α) (i j : Nat) (v d : α) : (xs.set i v).getD j d = if i = j ∧ j < xs.length then v else xs.getD j d := by
  simp only [List.getD_eq_getElem?_getD, List.getElem?_set]
  by_cases h : i = j
  · subst h
    by_cases h2 : i < xs.length
    · simp [h2]
    · simp [h2]
  · simp [h]
abbrev Two := List ByteArray × List ByteArray
/-- A sector. -/
def sec (x : Two) (s k : Int) : ByteArray := if s = 0 then ET.str.at x.1 k.toNat else ET.str.at x.2 k.toNat
def Sm (x : Two) : Prop := ∀ j : Nat, (x.1.getD j ET.str.dflt).size ≤ 420 ∧ (x.2.getD j ET.str.dflt).size ≤ 420
theorem Sm.sec {x : Two} (h : Sm x) (s k : Int) : (sec x s k).size ≤ 420 := by
  unfold Go.Proofs.YtjedcphhajlnoaaDoor.sec; split
  · exact (h _).1
  · exact (h _).2
theorem Sm.put {x : Two} (h : Sm x) (w : Late) (hw : w.text.size ≤ 420) : Sm (putW x w) := by
  intro j
  unfold putW
  split
  · refine ⟨?_, (h j).2⟩
    simp only [at_set]
    split
    · exact hw
    · exact (h j).1
  · refine ⟨(h j).1, ?_⟩
    simp only [at_set]
    split
    · exact hw
    · exact (h j).2
theorem torn_size (old now : ByteArray) (h1 : old.size ≤ 420) (h2 : now.size ≤ 420) : (torn old now).size ≤ 420 := by
  unfold torn
  split
  · rw [ByteArray.size_append, ByteArray.size_extract, ByteArray.size_extract]; omega
  · rw [ByteArray.size_extract]; omega
/-- What becomes of a write. -/
def fell (f : Int) (x : Two) (w : Late) : Two := if f = 1 then putW x w else if f = 2 then putW x ⟨w.side, w.at_, torn (sec x w.side w.at_) w.text⟩ else x
theorem fell_len (f : Int) (x : Two) (w : Late) : (fell f x w).1.length = x.1.length ∧ (fell f x w).2.length = x.2.length := by
  unfold fell; split
  · exact putW_len x w
  · split
    · exact putW_len x _
    · exact ⟨rfl, rfl⟩
theorem Sm.fell {x : Two} (h : Sm x) (f : Int) (w : Late) (hw : w.text.size ≤ 420) : Sm (fell f x w) := by
  unfold Go.Proofs.YtjedcphhajlnoaaDoor.fell; split
  · exact h.put w hw
  · split
    · exact h.put _ (torn_size _ _ (h.sec _ _) hw)
    · exact h
def Dk.fallN (d : Dk) (fate : List Int) : Nat → Two
  | 0 => (d.a, d.b)
  | n + 1 => fell (ET.int.at fate n) (d.fallN fate n) (ET.late.at d.l n)
theorem Dk.fallN_len (d : Dk) (fate : List Int) : ∀ n, (d.fallN fate n).1.length = d.a.length ∧ (d.fallN fate n).2.length = d.b.length
  | 0 => ⟨rfl, rfl⟩
  | n + 1 => by
    have h := fell_len (ET.int.at fate n) (d.fallN fate n) (ET.late.at d.l n)
    have h' := d.fallN_len fate n
    unfold Dk.fallN; rw [h.1, h.2]; exact h'
theorem Dk.ok_sm {d : Dk} (h : d.ok = true) : Sm (d.a, d.b) := by
  obtain ⟨-, -, -, -, h5, h6, -⟩ := (Dk.ok_iff d).1 h
  intro j
  have e : ∀ xs : List ByteArray, (∀ j, j < xs.length → long (xs.getD j ET.str.dflt) = false) → (xs.getD j ET.str.dflt).size ≤ 420 := by
    intro xs hx
    rcases Nat.lt_or_ge j xs.length with hj | hj
    · have := hx j hj; unfold long at this; simp only [decide_eq_false_iff_not] at this; omega
    · rw [List.getD_eq_getElem?_getD, List.getElem?_eq_none hj]; exact Nat.zero_le _
  exact ⟨e d.a h5, e d.b h6⟩
theorem Dk.fallN_sm {d : Dk} (h : d.ok = true) (fate : List Int) : ∀ n, n ≤ d.l.length → Sm (d.fallN fate n)
  | 0, _ => d.ok_sm h
  | n + 1, hn => (d.fallN_sm h fate n (by omega)).fell _ _ (Dk.ok_late h n (by omega)).2.2.2
def Dk.fallen (d : Dk) (fate : List Int) : Dk := ⟨(d.fallN fate (min d.l.length fate.length)).1, (d.fallN fate (min d.l.length fate.length)).2, []⟩
def dkFall (d : Dk) (fate : List Int) : Dk := if d.ok then d.fallen fate else .nil
@[go_sem] def ctDiskFall : Ct := ⟨false, [[some .str, some .str, some .late], [some .int]], fun args os => match args, os with
  | [.agg [.isl .str a, .isl .str b, .isl .late l], .one (.isl .int fate)], [] => ⟨(Dk.mk a b l).small ∧ fate.length ≤ 4000000, (dkFall ⟨a, b, l⟩ fate).v 0, [], (dkFall ⟨a, b, l⟩ fate).objs⟩
  | _, _ => no⟩
theorem extr_id (s : ByteArray) : s.extract 0 s.size = s := ByteArray.extract_zero_size
@[go_sem] def sgFall (a b : List ByteArray) (l : List Late) (fate : List Int) (x : Two) (i : Nat) : Sg := ⟨[(1, .one (.isl .int fate)), (2, .one (.ptr 0 0)), (4, .one (.ptr 1 0)), (5, .one (.ptr 5 0)), (6, vi i)],
  [some (.cells [.isl .str a, .isl .str b, .isl .late l]), some (.cells [.val (.slice none 0 0), .val (.slice none 0 0), .val (.slice none 0 0)]), some (.arr .str x.1), some (.arr .str x.2), some (.arr .late l), some (.cells [.osl .str 2 0 x.1.length, .osl .str 3 0 x.2.length, .osl .late 4 0 l.length])], []⟩
end Go.Proofs.YtjedcphhajlnoaaDoor
/- Plain facts: what a fall leaves. -/
namespace Go.Proofs.YtjedcphhajlnoaaDoor
open Go.RowKit

/-- Is one of the first n late writes one of this sector? -/
def lateB (l : List Late) (s a : Int) : Nat → Bool
  | 0 => false
  | n + 1 => lateB l s a n || (((ET.late.at l n).side == s) && ((ET.late.at l n).at_ == a))
theorem putW_at (x : Two) (w : Late) (hs : w.side = 0 ∨ w.side = 1) (ha : 0 ≤ w.at_) (a : Nat) :
    (¬ (w.side = 0 ∧ w.at_ = a) → (putW x w).1.getD a ET.str.dflt = x.1.getD a ET.str.dflt) ∧ (¬ (w.side = 1 ∧ w.at_ = a) → (putW x w).2.getD a ET.str.dflt = x.2.getD a ET.str.dflt) := by
  unfold putW
  constructor
  · intro h
    split
    · rename_i h0
      simp only [at_set]
      rw [if_neg]
      rintro ⟨h1, -⟩
      exact h ⟨h0, by omega⟩
    · rfl
  · intro h
    split
    · rfl
    · rename_i h0
      simp only [at_set]
      rw [if_neg]
      rintro ⟨h1, -⟩
      exact h ⟨by omega, by omega⟩
theorem fell_at (f : Int) (x : Two) (w : Late) (hs : w.side = 0 ∨ w.side = 1) (ha : 0 ≤ w.at_) (a : Nat) :
    (¬ (w.side = 0 ∧ w.at_ = a) → (fell f x w).1.getD a ET.str.dflt = x.1.getD a ET.str.dflt) ∧ (¬ (w.side = 1 ∧ w.at_ = a) → (fell f x w).2.getD a ET.str.dflt = x.2.getD a ET.str.dflt) := by
  unfold fell
  split
  · exact putW_at x w hs ha a
  · split
    · exact putW_at x ⟨w.side, w.at_, torn (sec x w.side w.at_) w.text⟩ hs ha a
    · exact ⟨fun _ => rfl, fun _ => rfl⟩
theorem fallN_keep {d : Dk} (h : d.ok = true) (fate : List Int) (a : Nat) : ∀ n, n ≤ d.l.length →
    (lateB d.l 0 a n = false → (d.fallN fate n).1.getD a ET.str.dflt = d.a.getD a ET.str.dflt) ∧ (lateB d.l 1 a n = false → (d.fallN fate n).2.getD a ET.str.dflt = d.b.getD a ET.str.dflt)
  | 0, _ => ⟨fun _ => rfl, fun _ => rfl⟩
  | n + 1, hn => by
    obtain ⟨i1, i2⟩ := fallN_keep h fate a n (by omega)
    obtain ⟨ws, w1, -⟩ := Dk.ok_late h n (by omega)
    obtain ⟨f1, f2⟩ := fell_at (ET.int.at fate n) (d.fallN fate n) (ET.late.at d.l n) ws w1 a
    constructor
    · intro hl
      unfold lateB at hl
      simp only [Bool.or_eq_false_iff, Bool.and_eq_false_iff, beq_eq_false_iff_ne] at hl
      show (fell _ _ _).1.getD a ET.str.dflt = _
      rw [f1 (fun hh => hl.2.elim (fun h => h hh.1) (fun h => h hh.2)), i1 hl.1]
    · intro hl
      unfold lateB at hl
      simp only [Bool.or_eq_false_iff, Bool.and_eq_false_iff, beq_eq_false_iff_ne] at hl
      show (fell _ _ _).2.getD a ET.str.dflt = _
      rw [f2 (fun hh => hl.2.elim (fun h => h hh.1) (fun h => h hh.2)), i2 hl.1]
theorem lateB_mono (l : List Late) (s a : Int) : ∀ m n, m ≤ n → lateB l s a n = false → lateB l s a m = false
  | m, 0, h, _ => by obtain rfl : m = 0 := by omega
                     rfl
  | m, n + 1, h, hl => by
    rcases Nat.lt_succ_iff_lt_or_eq.1 (Nat.lt_succ_of_le h) with h' | rfl
    · refine lateB_mono l s a m n (by omega) ?_
      unfold lateB at hl
      simp only [Bool.or_eq_false_iff] at hl
      exact hl.1
    · exact hl
theorem dkFall_keep {d : Dk} (h : d.ok = true) (fate : List Int) (a : Nat) :
    (lateB d.l 0 a d.l.length = false → (dkFall d fate).a.getD a ET.str.dflt = d.a.getD a ET.str.dflt) ∧ (lateB d.l 1 a d.l.length = false → (dkFall d fate).b.getD a ET.str.dflt = d.b.getD a ET.str.dflt) := by
  have e : dkFall d fate = d.fallen fate := by unfold dkFall; rw [if_pos h]
  rw [e]
  obtain ⟨i1, i2⟩ := fallN_keep h fate a (min d.l.length fate.length) (by omega)
  exact ⟨fun hl => i1 (lateB_mono _ _ _ _ _ (by omega) hl), fun hl => i2 (lateB_mono _ _ _ _ _ (by omega) hl)⟩
theorem dkFall_nil {d : Dk} (h : d.ok = true) : dkFall d [] = ⟨d.a, d.b, []⟩ := by
  unfold dkFall Dk.fallen
  rw [if_pos h]
  simp only [List.length_nil, Nat.min_zero]
  rfl
theorem fallN_all (d : Dk) (m : Nat) : ∀ n, n ≤ d.l.length → n ≤ m → d.fallN (List.replicate m 1) n = d.done n
  | 0, _, _ => by rw [Dk.done_zero]; rfl
  | n + 1, h, hm => by
    rw [Dk.done_succ d n h]
    unfold Dk.fallN
    rw [fallN_all d m n (by omega) (by omega)]
    have : ET.int.at (List.replicate m 1) n = 1 := by
      unfold ET.at
      rw [List.getD_eq_getElem?_getD, List.getElem?_replicate, if_pos (by omega)]; rfl
    rw [this]
    rfl
theorem dkFall_all (d : Dk) : dkFall d (List.replicate d.l.length 1) = dkFlush d := by
  unfold dkFall dkFlush Dk.fallen Dk.flushed
  rw [List.length_replicate, Nat.min_self, fallN_all d d.l.length d.l.length (Nat.le_refl _) (Nat.le_refl _)]
theorem dkFall_small (d : Dk) (fate : List Int) : (dkFall d fate).a.length ≤ d.a.length ∧ (dkFall d fate).b.length ≤ d.b.length ∧ (dkFall d fate).l = [] := by
  unfold dkFall
  split
  · have := d.fallN_len fate (min d.l.length fate.length)
    exact ⟨by show (d.fallN _ _).1.length ≤ _; omega, by show (d.fallN _ _).2.length ≤ _; omega, rfl⟩
  · exact ⟨Nat.zero_le _, Nat.zero_le _, rfl⟩
theorem dkFall_len {d : Dk} (h : d.ok = true) (fate : List Int) : (dkFall d fate).a.length = d.a.length ∧ (dkFall d fate).b.length = d.b.length := by
  have e : dkFall d fate = d.fallen fate := by unfold dkFall; rw [if_pos h]
  rw [e]; exact d.fallN_len fate _
end Go.Proofs.YtjedcphhajlnoaaDoor
/- Functions: decay. -/
namespace Go.Proofs.YtjedcphhajlnoaaDoor
open Go.RowKit

/-- A byte, some of its bits turned. -/
def turn (x : UInt8) (mask : Int) : UInt8 := UInt8.ofNat (IntKind.u8.wrap ((BitVec.ofInt 8 (x.toNat : Int) ^^^ BitVec.ofInt 8 (IntKind.u8.wrap mask)).toNat : Int)).toNat
def rotB (s : ByteArray) (k mask : Int) : ByteArray := ⟨(s.data.toList.set k.toNat (turn (s.data.toList.getD k.toNat ET.byte.dflt) mask)).toArray⟩
def Dk.mayRot (d : Dk) (s at_ k mask : Int) : Bool := sector d.a.length s at_ && decide (0 ≤ k) && decide (k < (sec (d.a, d.b) s at_).size) && decide (1 ≤ mask) && decide (mask ≤ 255)
def Dk.rot (d : Dk) (s at_ k mask : Int) : Dk := ⟨(putW (d.a, d.b) ⟨s, at_, rotB (sec (d.a, d.b) s at_) k mask⟩).1, (putW (d.a, d.b) ⟨s, at_, rotB (sec (d.a, d.b) s at_) k mask⟩).2, d.l⟩
def dkRot (d : Dk) (s at_ k mask : Int) : Dk := if d.ok then if d.mayRot s at_ k mask then d.rot s at_ k mask else d else .nil
@[go_sem] def ctDiskRot : Ct := ⟨false, [[some .str, some .str, some .late]], fun args os => match args, os with
  | [.agg [.isl .str a, .isl .str b, .isl .late l], .one (.val (.int .i64 s)), .one (.val (.int .i64 i)), .one (.val (.int .i64 k)), .one (.val (.int .i64 mask))], [] => ⟨(Dk.mk a b l).small, (dkRot ⟨a, b, l⟩ s i k mask).v 0, [], (dkRot ⟨a, b, l⟩ s i k mask).objs⟩
  | _, _ => no⟩
theorem fits_sector (n : Nat) (s k : Int) : fits n s k ⟨#[]⟩ = sector n s k := by
  have : (⟨#[]⟩ : ByteArray).size = 0 := rfl
  unfold fits sector
  rw [Bool.eq_iff_iff]
  simp only [Bool.and_eq_true, decide_eq_true_eq, this]
  omega
theorem sector_iff (n : Nat) (s k : Int) : sector n s k = true ↔ (s = 0 ∨ s = 1) ∧ 0 ≤ k ∧ k < n := by
  unfold sector
  simp only [Bool.and_eq_true, decide_eq_true_eq]
  omega
end Go.Proofs.YtjedcphhajlnoaaDoor
/- Functions: what is read; pointers. -/
namespace Go.Proofs.YtjedcphhajlnoaaDoor
open Go.RowKit

/-- The last of the first n late writes of a sector, or what the sector has. -/
def lateText (l : List Late) (s k : Int) (dflt : ByteArray) : Nat → ByteArray
  | 0 => dflt
  | n + 1 => if (ET.late.at l n).side = s ∧ (ET.late.at l n).at_ = k then (ET.late.at l n).text else lateText l s k dflt n
def Dk.text (d : Dk) (s k : Int) : ByteArray := lateText d.l s k (sec (d.a, d.b) s k) d.l.length
@[go_sem] def ctTextOf : Ct := ⟨false, [[some .str, some .str, some .late]], fun args os => match args, os with
  | [.agg [.isl .str a, .isl .str b, .isl .late l], .one (.val (.int .i64 s)), .one (.val (.int .i64 k))], [] => ifp ((Dk.mk a b l).small ∧ b.length = a.length ∧ sector a.length s k = true) (vs ((Dk.mk a b l).text s k))
  | _, _ => no⟩
@[go_sem] def sgTx (a b : List ByteArray) (l : List Late) (s k : Int) (n : Nat) : Sg := ⟨[(1, vi s), (2, vi k), (3, .one (.ptr 0 0)), (7, vi ((n : Int) - 1))], [some (.cells [.isl .str a, .isl .str b, .isl .late l])], []⟩
def dkReads (d : Dk) (s k : Int) : Bool := d.ok && sector d.a.length s k
def dkRead (d : Dk) (s k : Int) : ByteArray := if dkReads d s k then d.text s k else ⟨#[]⟩
@[go_sem] def ctDiskRead : Ct := ⟨false, [[some .str, some .str, some .late]], fun args os => match args, os with
  | [.agg [.isl .str a, .isl .str b, .isl .late l], .one (.val (.int .i64 s)), .one (.val (.int .i64 k))], [] => ifp (Dk.mk a b l).small (.tup [vs (dkRead ⟨a, b, l⟩ s k), vb (dkReads ⟨a, b, l⟩ s k)])
  | _, _ => no⟩
def ptrOkB (p : Ptr) : Bool := (decide (p.at_ = 0) && decide (p.sum = 0) && decide (p.birth = 0)) || (decide (1 ≤ p.at_) && decide (p.at_ ≤ 119) && (decide (0 ≤ p.sum) && decide (p.sum ≤ 65520)) && (decide (0 ≤ p.birth) && decide (p.birth ≤ 1000000)))
@[go_sem] def ctPtrOk : Ct := ⟨false, [], fun args os => match args, os with
  | [.agg [.val (.int .i64 a), .val (.int .i64 s), .val (.int .i64 b)]], [] => is (vb (ptrOkB ⟨a, s, b⟩))
  | _, _ => no⟩
theorem same_ptr (a s b : Int) : same (Ptr.mk a s b) (Ptr.mk 0 0 0) = (decide (a = 0) && decide (s = 0) && decide (b = 0)) := by
  rw [Bool.eq_iff_iff, same_true]
  simp only [Ptr.mk.injEq, Bool.and_eq_true, decide_eq_true_eq, and_assoc]
def realB (p : Ptr) : Bool := ptrOkB p && !(p.at_ == 0)
@[go_sem] def ctReal : Ct := ⟨false, [], fun args os => match args, os with
  | [.agg [.val (.int .i64 a), .val (.int .i64 s), .val (.int .i64 b)]], [] => is (vb (realB ⟨a, s, b⟩))
  | _, _ => no⟩
/-- Does a side of a disk have the block of a pointer? -/
def Dk.has (d : Dk) (p : Ptr) (side : Int) : Bool := sector d.a.length side p.at_ && decide ((sumOf (d.text side p.at_) : Int) = p.sum)
theorem lateText_size (l : List Late) (s k : Int) (dflt : ByteArray) {m : Nat} (h : ∀ i, i < l.length → (l.getD i ET.late.dflt).text.size ≤ m) (hd : dflt.size ≤ m) : ∀ n, n ≤ l.length → (lateText l s k dflt n).size ≤ m
  | 0, _ => hd
  | n + 1, hn => by
    unfold lateText
    split
    · exact h n (by omega)
    · exact lateText_size l s k dflt h hd n (by omega)
theorem Dk.text_size {d : Dk} (h : d.ok = true) (s k : Int) : (d.text s k).size ≤ 420 :=
  lateText_size _ _ _ _ (fun i hi => (Dk.ok_late h i hi).2.2.2) ((Dk.ok_sm h).sec s k) _ (Nat.le_refl _)
@[go_sem] def ctHas : Ct := ⟨false, [[some .str, some .str, some .late]], fun args os => match args, os with
  | [.agg [.isl .str a, .isl .str b, .isl .late l], .agg [.val (.int .i64 pa), .val (.int .i64 ps), .val (.int .i64 pb)], .one (.val (.int .i64 s))], [] => ifp ((Dk.mk a b l).ok = true) (vb ((Dk.mk a b l).has ⟨pa, ps, pb⟩ s))
  | _, _ => no⟩
end Go.Proofs.YtjedcphhajlnoaaDoor
/- Plain facts: the last write wins. -/
namespace Go.Proofs.YtjedcphhajlnoaaDoor
open Go.RowKit

theorem may_iff (d : Dk) (s k : Int) (t : ByteArray) : d.may s k t = true ↔ (s = 0 ∨ s = 1) ∧ 0 ≤ k ∧ k < d.a.length ∧ t.size ≤ 420 ∧ d.l.length < 600 := by
  unfold Dk.may fits
  simp only [Bool.and_eq_true, decide_eq_true_eq]
  omega
theorem snoc_getD {α : Type} (l : List α) (x d : α) (i : Nat) : (l ++ [x]).getD i d = if i = l.length then x else l.getD i d := by
  simp only [List.getD_eq_getElem?_getD]
  by_cases h : i = l.length
  · subst h; simp
  · rw [if_neg h]
    rcases Nat.lt_or_ge i l.length with h' | h'
    · rw [List.getElem?_append_left h']
    · rw [List.getElem?_eq_none (by simp; omega), List.getElem?_eq_none (by omega)]
theorem Dk.add_ok {d : Dk} (h : d.ok = true) {s k : Int} {t : ByteArray} (hm : d.may s k t = true) : (d.add s k t).ok = true := by
  obtain ⟨m1, m2, m3, m4, m5⟩ := (may_iff d s k t).1 hm
  rw [Dk.ok_iff] at h ⊢
  obtain ⟨h1, h2, h3, h4, h5, h6, h7⟩ := h
  refine ⟨h1, h2, h3, ?_, h5, h6, fun j hj => ?_⟩
  · show (d.l ++ [_]).length ≤ 600
    rw [List.length_append]; simp only [List.length_cons, List.length_nil]; omega
  · show badLate d.a.length ((d.l ++ [(⟨s, k, t⟩ : Late)]).getD j ET.late.dflt) = false
    rw [snoc_getD]
    split
    · unfold badLate sector long
      simp only [Bool.or_eq_false_iff, Bool.not_eq_false', Bool.and_eq_true, decide_eq_true_eq, decide_eq_false_iff_not]
      omega
    · rename_i hne
      refine h7 j ?_
      have : (d.l ++ [(⟨s, k, t⟩ : Late)]).length = d.l.length + 1 := by simp
      have hj' : j < (d.l ++ [(⟨s, k, t⟩ : Late)]).length := hj
      omega
theorem lateText_snoc (l : List Late) (w : Late) (s k : Int) (z : ByteArray) : ∀ n, n ≤ l.length → lateText (l ++ [w]) s k z n = lateText l s k z n
  | 0, _ => rfl
  | n + 1, h => by
    unfold lateText
    have e : ET.late.at (l ++ [w]) n = ET.late.at l n := by
      show (l ++ [w]).getD n ET.late.dflt = _
      rw [snoc_getD, if_neg (by omega)]; rfl
    rw [e, lateText_snoc l w s k z n (by omega)]
theorem Dk.add_text (d : Dk) (s k : Int) (t : ByteArray) (s' k' : Int) : (d.add s k t).text s' k' = if s = s' ∧ k = k' then t else d.text s' k' := by
  unfold Dk.text
  show lateText (d.l ++ [(⟨s, k, t⟩ : Late)]) s' k' (sec (d.a, d.b) s' k') (d.l ++ [(⟨s, k, t⟩ : Late)]).length = _
  have e : (d.l ++ [(⟨s, k, t⟩ : Late)]).length = d.l.length + 1 := by simp
  rw [e]
  have e2 : ET.late.at (d.l ++ [(⟨s, k, t⟩ : Late)]) d.l.length = ⟨s, k, t⟩ := by
    show (d.l ++ [(⟨s, k, t⟩ : Late)]).getD d.l.length ET.late.dflt = _
    rw [snoc_getD, if_pos rfl]
  have e3 : ∀ (l : List Late) (z : ByteArray) (n : Nat), lateText l s' k' z (n + 1) = if (ET.late.at l n).side = s' ∧ (ET.late.at l n).at_ = k' then (ET.late.at l n).text else lateText l s' k' z n := fun _ _ _ => rfl
  rw [e3, e2, lateText_snoc _ _ _ _ _ _ (Nat.le_refl _)]
theorem sec_put (x : Two) (w : Late) (hs : w.side = 0 ∨ w.side = 1) (ha : 0 ≤ w.at_) (h1 : w.at_ < x.1.length) (h2 : w.at_ < x.2.length) (s k : Int) (hs' : s = 0 ∨ s = 1) (hk : 0 ≤ k) :
    sec (putW x w) s k = if w.side = s ∧ w.at_ = k then w.text else sec x s k := by
  unfold sec putW
  by_cases h0 : w.side = 0
  · rw [if_pos h0]
    by_cases hs0 : s = 0
    · rw [if_pos hs0, if_pos hs0]
      show (x.1.set w.at_.toNat w.text).getD k.toNat ET.str.dflt = _
      rw [at_set]
      by_cases hk' : w.at_ = k
      · rw [if_pos ⟨by omega, by omega⟩, if_pos ⟨by omega, hk'⟩]
      · rw [if_neg (by omega), if_neg (by omega)]; rfl
    · rw [if_neg hs0, if_neg (by omega), if_neg hs0]
  · rw [if_neg h0]
    by_cases hs0 : s = 0
    · rw [if_pos hs0, if_neg (by omega), if_pos hs0]
    · rw [if_neg hs0, if_neg hs0]
      show (x.2.set w.at_.toNat w.text).getD k.toNat ET.str.dflt = _
      rw [at_set]
      by_cases hk' : w.at_ = k
      · rw [if_pos ⟨by omega, by omega⟩, if_pos ⟨by omega, hk'⟩]
      · rw [if_neg (by omega), if_neg (by omega)]; rfl
/-- What is performed is what was read. -/
theorem done_text {d : Dk} (h : d.ok = true) (s k : Int) (hs : s = 0 ∨ s = 1) (hk : 0 ≤ k) : ∀ n, n ≤ d.l.length → sec (d.done n) s k = lateText d.l s k (sec (d.a, d.b) s k) n
  | 0, _ => by rw [Dk.done_zero]; rfl
  | n + 1, hn => by
    obtain ⟨ws, w1, w2, -⟩ := Dk.ok_late h n (by omega)
    obtain ⟨-, -, hab, -⟩ := (Dk.ok_iff _).1 h
    obtain ⟨l1, l2⟩ := d.done_len n
    rw [Dk.done_succ d n (by omega), sec_put _ _ ws w1 (by omega) (by omega) s k hs hk, done_text h s k hs hk n (by omega)]
    rfl
theorem sm_ok {a b : List ByteArray} (h1 : 1 ≤ a.length) (h2 : a.length ≤ 120) (h3 : b.length = a.length) (h : Sm (a, b)) : (Dk.mk a b []).ok = true := by
  rw [Dk.ok_iff]
  refine ⟨h1, h2, h3, Nat.zero_le _, fun j _ => ?_, fun j _ => ?_, fun j hj => absurd hj (Nat.not_lt_zero j)⟩
  · have := (h j).1; unfold long; simp only [decide_eq_false_iff_not]; simp only at this; omega
  · have := (h j).2; unfold long; simp only [decide_eq_false_iff_not]; simp only at this; omega
theorem dkFall_ok {d : Dk} (h : d.ok = true) (fate : List Int) : (dkFall d fate).ok = true := by
  have e : dkFall d fate = d.fallen fate := by unfold dkFall; rw [if_pos h]
  obtain ⟨h1, h2, h3, -⟩ := (Dk.ok_iff _).1 h
  obtain ⟨l1, l2⟩ := d.fallN_len fate (min d.l.length fate.length)
  rw [e]
  exact sm_ok (by omega) (by omega) (by omega) (Dk.fallN_sm h fate _ (by omega))
theorem dkFlush_ok {d : Dk} (h : d.ok = true) : (dkFlush d).ok = true := by rw [← dkFall_all]; exact dkFall_ok h _
/-- What is read where only the first n late writes have been kept. -/
theorem fall_read {d : Dk} (h : d.ok = true) (n : Nat) (hn : n ≤ d.l.length) (s k : Int) (hs : sector d.a.length s k = true) :
    dkRead (dkFall d (List.replicate n 1)) s k = lateText d.l s k (sec (d.a, d.b) s k) n := by
  obtain ⟨ws, w1, w2⟩ := (sector_iff _ _ _).1 hs
  have hok := dkFall_ok h (List.replicate n 1)
  have e : dkFall d (List.replicate n 1) = ⟨(d.done n).1, (d.done n).2, []⟩ := by
    unfold dkFall Dk.fallen
    rw [if_pos h, List.length_replicate, Nat.min_eq_right hn, fallN_all d n n hn (Nat.le_refl _)]
  rw [e] at hok ⊢
  have hl := (d.done_len n).1
  unfold dkRead dkReads
  rw [hok]
  simp only [hl, hs, Bool.and_self, if_true]
  show lateText [] s k (sec ((d.done n).1, (d.done n).2) s k) 0 = _
  exact done_text h s k ws w1 n hn
theorem dkRead_ok {d : Dk} (h : d.ok = true) (s k : Int) (hs : sector d.a.length s k = true) : dkRead d s k = d.text s k := by
  unfold dkRead dkReads; rw [h, hs]; rfl
theorem last_all {d : Dk} {s k : Int} {t o : ByteArray} (h1 : dkWrites d s k t = true) (h2 : dkWrites (dkWrite d s k t) s k o = true) :
    (dkWrite (dkWrite d s k t) s k o).ok = true ∧ 1 ≤ (dkWrite (dkWrite d s k t) s k o).l.length ∧ dkRead (dkWrite (dkWrite d s k t) s k o) s k = o ∧
    dkRead (dkFall (dkWrite (dkWrite d s k t) s k o) (List.replicate (dkWrite (dkWrite d s k t) s k o).l.length 1)) s k = o ∧
    dkRead (dkFall (dkWrite (dkWrite d s k t) s k o) (List.replicate ((dkWrite (dkWrite d s k t) s k o).l.length - 1) 1)) s k = t := by
  have hd : d.ok = true ∧ d.may s k t = true := by unfold dkWrites at h1; simpa using h1
  have e1 : dkWrite d s k t = d.add s k t := by unfold dkWrite; rw [if_pos hd.1, if_pos hd.2]
  rw [e1] at h2 ⊢
  have hx : (d.add s k t).ok = true ∧ (d.add s k t).may s k o = true := by unfold dkWrites at h2; simpa using h2
  have e2 : dkWrite (d.add s k t) s k o = (d.add s k t).add s k o := by unfold dkWrite; rw [if_pos hx.1, if_pos hx.2]
  rw [e2]
  have hy := Dk.add_ok hx.1 hx.2
  obtain ⟨m1, m2, m3, -, -⟩ := (may_iff _ _ _ _).1 hx.2
  have hs : sector (((d.add s k t).add s k o)).a.length s k = true := (sector_iff _ _ _).2 ⟨m1, m2, m3⟩
  have hl : ((d.add s k t).add s k o).l.length = (d.add s k t).l.length + 1 := by show ((d.add s k t).l ++ [_]).length = _; simp
  have r1 := dkRead_ok hy s k hs
  have r2 := fall_read hy ((d.add s k t).add s k o).l.length (Nat.le_refl _) s k hs
  have r3 := fall_read hy (((d.add s k t).add s k o).l.length - 1) (by omega) s k hs
  have t1 : ((d.add s k t).add s k o).text s k = o := by rw [Dk.add_text, if_pos ⟨rfl, rfl⟩]
  refine ⟨hy, by omega, by rw [r1, t1], by rw [r2]; exact t1, ?_⟩
  rw [r3, hl, Nat.add_sub_cancel]
  show lateText ((d.add s k t).l ++ [_]) s k _ (d.add s k t).l.length = t
  rw [lateText_snoc _ _ _ _ _ _ (Nat.le_refl _)]
  have t2 : (d.add s k t).text s k = t := by rw [Dk.add_text, if_pos ⟨rfl, rfl⟩]
  exact t2
end Go.Proofs.YtjedcphhajlnoaaDoor
/- Plain facts: what a decayed byte does to a sector, and to its sum. -/
namespace Go.Proofs.YtjedcphhajlnoaaDoor
open Go.RowKit

theorem turn_turn (x : UInt8) (mask : Int) (h1 : 1 ≤ mask) (h2 : mask ≤ 255) : turn (turn x mask) mask = x ∧ turn x mask ≠ x := by
  obtain ⟨m, rfl⟩ := Int.eq_ofNat_of_zero_le (show 0 ≤ mask by omega)
  have hm : m < 256 := by omega
  have hm1 : 1 ≤ m := by omega
  have hx : x.toNat < 256 := UInt8.toNat_lt x
  have key : ∀ a : Nat, a < 256 → IntKind.u8.wrap (((BitVec.ofInt 8 ((a : Nat) : Int) ^^^ BitVec.ofInt 8 (IntKind.u8.wrap (m : Int))).toNat : Nat) : Int) = ((a ^^^ m : Nat) : Int) := by
    intro a ha
    have e1 : IntKind.u8.wrap (m : Int) = m := IntWalk.u8_in _ (by omega)
    have hlt : a ^^^ m < 2 ^ 8 := Nat.xor_lt_two_pow (by omega) (by omega)
    have e2 : (BitVec.ofInt 8 ((a : Nat) : Int) ^^^ BitVec.ofInt 8 (m : Int)).toNat = a ^^^ m := by
      rw [BitVec.toNat_xor, BitVec.toNat_ofInt, BitVec.toNat_ofInt]
      congr 1 <;> omega
    rw [e1, e2]
    exact IntWalk.u8_in _ (by omega)
  have tn : ∀ y : UInt8, (turn y m).toNat = y.toNat ^^^ m := by
    intro y
    have hy : y.toNat < 256 := UInt8.toNat_lt y
    have hlt : y.toNat ^^^ m < 2 ^ 8 := Nat.xor_lt_two_pow (by omega) (by omega)
    unfold turn
    rw [key _ hy, Int.toNat_natCast, UInt8.toNat_ofNat']
    omega
  have t1 := tn x
  have t2 : (turn (turn x m) m).toNat = x.toNat := by rw [tn, t1, Nat.xor_assoc, Nat.xor_self, Nat.xor_zero]
  refine ⟨UInt8.toNat_inj.1 t2, fun h => ?_⟩
  have h3 : x.toNat ^^^ m = x.toNat := by rw [← t1, h]
  have h4 : x.toNat ^^^ (x.toNat ^^^ m) = x.toNat ^^^ x.toNat := by rw [h3]
  rw [← Nat.xor_assoc, Nat.xor_self, Nat.zero_xor] at h4
  omega
theorem rotB_size (s : ByteArray) (k mask : Int) : (rotB s k mask).size = s.size := by
  unfold rotB
  show (List.toArray _).size = _
  rw [List.size_toArray, List.length_set, Array.length_toList]; rfl
theorem rotB_rotB (s : ByteArray) (k mask : Int) (hk : 0 ≤ k) (hk2 : k < s.size) (h1 : 1 ≤ mask) (h2 : mask ≤ 255) : rotB (rotB s k mask) k mask = s := by
  obtain ⟨⟨xs⟩⟩ := s
  have hl : k.toNat < xs.length := by
    have : ((⟨⟨xs⟩⟩ : ByteArray).size : Int) = xs.length := rfl
    omega
  unfold rotB
  simp only [List.set_set]
  congr 2
  have e : (xs.set k.toNat (turn (xs.getD k.toNat ET.byte.dflt) mask)).getD k.toNat ET.byte.dflt = turn (xs.getD k.toNat ET.byte.dflt) mask := by
    rw [at_set]; rw [if_pos ⟨rfl, hl⟩]
  show xs.set k.toNat (turn ((xs.set k.toNat (turn (xs.getD k.toNat ET.byte.dflt) mask)).getD k.toNat ET.byte.dflt) mask) = xs
  rw [e, (turn_turn _ mask h1 h2).1]
  apply List.ext_getElem
  · simp
  · intro i hi1 hi2
    rw [List.getElem_set]
    split
    · rename_i h; subst h
      rw [List.getD_eq_getElem?_getD, List.getElem?_eq_getElem hl]; rfl
    · rfl

theorem sumAt_same (s t : ByteArray) (hs : s.size = t.size) : ∀ (i : Nat), (∀ j, j < i → s.data.getD j 0 = t.data.getD j 0) → sumAt s i = sumAt t i
  | 0, _ => by unfold sumAt; rw [hs]
  | i + 1, h => by
    unfold sumAt
    rw [sumAt_same s t hs i fun j hj => h j (by omega), h i (by omega)]
theorem sum_inj {a b c : Nat} (ha : a < 65521) (hb : b < 65521) (h : (257 * a + c + 1) % 65521 = (257 * b + c + 1) % 65521) : a = b := by omega
theorem sumAt_apart (s t : ByteArray) (k : Nat) (hk : sumAt s (k + 1) ≠ sumAt t (k + 1)) : ∀ (i : Nat), k < i → (∀ j, k < j → j < i → s.data.getD j 0 = t.data.getD j 0) → sumAt s i ≠ sumAt t i
  | 0, h, _ => by omega
  | i + 1, h, hj => by
    rcases Nat.lt_succ_iff_lt_or_eq.1 h with h' | rfl
    · intro he
      refine sumAt_apart s t k hk i h' (fun j h1 h2 => hj j h1 (by omega)) ?_
      unfold sumAt at he
      rw [hj i h' (by omega)] at he
      exact sum_inj (sumAt_lt s i) (sumAt_lt t i) he
    · exact hk
/-- A turned byte turns the sum. -/
theorem rotB_sum (s : ByteArray) (k mask : Int) (hk : 0 ≤ k) (hk2 : k < s.size) (h1 : 1 ≤ mask) (h2 : mask ≤ 255) : sumOf (rotB s k mask) ≠ sumOf s := by
  have hsz := rotB_size s k mask
  have hat : ∀ j, j < s.size → (rotB s k mask).data.getD j 0 = if j = k.toNat then turn (s.data.getD j 0) mask else s.data.getD j 0 := by
    intro j hj
    obtain ⟨⟨xs⟩⟩ := s
    have hj : j < xs.length := hj
    have e : ∀ (ys : List UInt8) (i : Nat), (⟨ys⟩ : Array UInt8).getD i 0 = ys.getD i 0 := by
      intro ys i
      rw [Array.getD_eq_getD_getElem?, List.getD_eq_getElem?_getD]; simp
    unfold rotB
    simp only
    show (⟨xs.set k.toNat _⟩ : Array UInt8).getD j 0 = _
    rw [e, e, at_set]
    by_cases hjk : j = k.toNat
    · subst hjk; rw [if_pos ⟨rfl, hj⟩, if_pos rfl]; rfl
    · rw [if_neg (fun h => hjk h.1.symm), if_neg hjk]
  unfold sumOf
  rw [hsz]
  refine sumAt_apart _ _ k.toNat ?_ s.size (by omega) fun j hj1 hj2 => ?_
  · have hs0 : sumAt (rotB s k mask) k.toNat = sumAt s k.toNat := sumAt_same _ _ hsz _ fun j hj => by rw [hat j (by omega), if_neg (by omega)]
    unfold sumAt
    rw [hs0, hat k.toNat (by omega), if_pos rfl]
    have hne := (turn_turn (s.data.getD k.toNat 0) mask h1 h2).2
    have l1 : (s.data.getD k.toNat 0).toNat < 256 := UInt8.toNat_lt _
    have l2 : (turn (s.data.getD k.toNat 0) mask).toNat < 256 := UInt8.toNat_lt _
    have hne' : (turn (s.data.getD k.toNat 0) mask).toNat ≠ (s.data.getD k.toNat 0).toNat := fun h => hne (UInt8.toNat_inj.1 h)
    omega
  · rw [hat j hj2, if_neg (by omega)]
end Go.Proofs.YtjedcphhajlnoaaDoor
/- Plain facts: a decayed disk. -/
namespace Go.Proofs.YtjedcphhajlnoaaDoor
open Go.RowKit

theorem Dk.eqv_self (d : Dk) : d.eqv d = true := by simp [Dk.eqv, same]
theorem Dk.rot_at {d : Dk} {s i k m : Int} (hm : d.mayRot s i k m = true) (j : Nat) :
    (d.rot s i k m).a.getD j ET.str.dflt = (if s = 0 ∧ i = j then rotB (d.a.getD j ET.str.dflt) k m else d.a.getD j ET.str.dflt) ∧
    (d.rot s i k m).b.getD j ET.str.dflt = (if s = 1 ∧ i = j ∧ j < d.b.length then rotB (d.b.getD j ET.str.dflt) k m else d.b.getD j ET.str.dflt) := by
  unfold Dk.mayRot at hm
  simp only [Bool.and_eq_true, decide_eq_true_eq] at hm
  obtain ⟨ws, w1, w2⟩ := (sector_iff _ _ _).1 hm.1.1.1.1
  obtain ⟨i, rfl⟩ := Int.eq_ofNat_of_zero_le w1
  unfold Dk.rot putW sec
  rcases ws with rfl | rfl
  · simp only [↓reduceIte, Int.toNat_natCast, at_set, Int.reduceEq, false_and, if_false, and_true, true_and]
    by_cases h : i = j
    · subst h
      rw [if_pos ⟨rfl, by omega⟩, if_pos rfl]; rfl
    · rw [if_neg (fun hh => h hh.1), if_neg (by omega)]
  · simp only [↓reduceIte, Int.toNat_natCast, at_set, Int.reduceEq, false_and, if_false, and_true, true_and]
    by_cases h : i = j
    · subst h
      by_cases h2 : i < d.b.length
      · rw [if_pos ⟨rfl, h2⟩, if_pos ⟨rfl, h2⟩]; rfl
      · rw [if_neg (fun hh => h2 hh.2), if_neg (fun hh => h2 hh.2)]
    · rw [if_neg (fun hh => h hh.1), if_neg (fun hh => h (by omega))]
theorem Dk.rot_len (d : Dk) (s i k m : Int) : (d.rot s i k m).a.length = d.a.length ∧ (d.rot s i k m).b.length = d.b.length ∧ (d.rot s i k m).l = d.l :=
  ⟨(putW_len (d.a, d.b) _).1, (putW_len (d.a, d.b) _).2, rfl⟩
theorem Dk.rot_ok {d : Dk} (h : d.ok = true) {s i k m : Int} (hm : d.mayRot s i k m = true) : (d.rot s i k m).ok = true := by
  obtain ⟨l1, l2, l3⟩ := d.rot_len s i k m
  rw [Dk.ok_iff] at h ⊢
  obtain ⟨h1, h2, h3, h4, h5, h6, h7⟩ := h
  rw [l1, l2, l3]
  have hl : ∀ s : ByteArray, long (rotB s k m) = long s := fun s => by unfold long; rw [rotB_size]
  refine ⟨h1, h2, h3, h4, fun j hj => ?_, fun j hj => ?_, h7⟩
  · rw [(Dk.rot_at hm j).1]
    split
    · rw [hl]; exact h5 j hj
    · exact h5 j hj
  · rw [(Dk.rot_at hm j).2]
    split
    · rw [hl]; exact h6 j hj
    · exact h6 j hj
theorem dkRot_ok {d : Dk} (h : d.ok = true) (s i k m : Int) : (dkRot d s i k m).ok = true := by
  unfold dkRot
  rw [if_pos h]
  split
  · rename_i hm; exact Dk.rot_ok h hm
  · exact h
theorem dkRot_len {d : Dk} (h : d.ok = true) (s i k m : Int) : (dkRot d s i k m).a.length = d.a.length ∧ (dkRot d s i k m).b.length = d.b.length ∧ (dkRot d s i k m).l = d.l := by
  unfold dkRot
  rw [if_pos h]
  split
  · exact d.rot_len s i k m
  · exact ⟨rfl, rfl, rfl⟩
theorem Dk.ext' {d e : Dk} (h1 : d.a = e.a) (h2 : d.b = e.b) (h3 : d.l = e.l) : d = e := by
  cases d; cases e; simp_all
/-- Turned once more a disk is as it was. -/
theorem dkRot_dkRot {d : Dk} (h : d.ok = true) (s i k m : Int) : dkRot (dkRot d s i k m) s i k m = d := by
  have hok := dkRot_ok h s i k m
  by_cases hm : d.mayRot s i k m = true
  · have e : dkRot d s i k m = d.rot s i k m := by unfold dkRot; rw [if_pos h, if_pos hm]
    rw [e] at hok ⊢
    obtain ⟨l1, l2, l3⟩ := d.rot_len s i k m
    obtain ⟨-, -, hab, -⟩ := (Dk.ok_iff _).1 h
    have hm0 := hm
    unfold Dk.mayRot at hm
    simp only [Bool.and_eq_true, decide_eq_true_eq] at hm
    obtain ⟨⟨⟨⟨q1, q2⟩, q3⟩, q4⟩, q5⟩ := hm
    obtain ⟨ws, w1, w2⟩ := (sector_iff _ _ _).1 q1
    have hsec : (sec ((d.rot s i k m).a, (d.rot s i k m).b) s i).size = (sec (d.a, d.b) s i).size := by
      unfold sec
      rcases ws with rfl | rfl
      · rw [if_pos rfl, if_pos rfl]
        show ((d.rot 0 i k m).a.getD i.toNat ET.str.dflt).size = _
        rw [(Dk.rot_at hm0 _).1]
        split
        · rw [rotB_size]; rfl
        · rfl
      · rw [if_neg (by decide), if_neg (by decide)]
        show ((d.rot 1 i k m).b.getD i.toNat ET.str.dflt).size = _
        rw [(Dk.rot_at hm0 _).2]
        split
        · rw [rotB_size]; rfl
        · rfl
    have hm2 : (d.rot s i k m).mayRot s i k m = true := by
      unfold Dk.mayRot
      rw [l1, hsec]
      simp only [Bool.and_eq_true, decide_eq_true_eq]
      exact ⟨⟨⟨⟨q1, q2⟩, q3⟩, q4⟩, q5⟩
    unfold dkRot
    rw [if_pos hok, if_pos hm2]
    obtain ⟨r1, r2, r3⟩ := (d.rot s i k m).rot_len s i k m
    refine Dk.ext' (list_same (d := ET.str.dflt) (by rw [r1, l1]) fun j hj => ?_) (list_same (d := ET.str.dflt) (by rw [r2, l2]) fun j hj => ?_) (by rw [r3, l3])
    · rw [(Dk.rot_at hm2 j).1, (Dk.rot_at hm0 j).1]
      by_cases hc : s = 0 ∧ i = j
      · rw [if_pos hc, if_pos hc]
        refine rotB_rotB _ k m q2 ?_ q4 q5
        obtain ⟨rfl, rfl⟩ := hc
        unfold sec at q3; rw [if_pos rfl, Int.toNat_natCast] at q3; exact q3
      · rw [if_neg hc, if_neg hc]
    · rw [(Dk.rot_at hm2 j).2, (Dk.rot_at hm0 j).2, l2]
      by_cases hc : s = 1 ∧ i = j ∧ j < d.b.length
      · rw [if_pos hc, if_pos hc]
        refine rotB_rotB _ k m q2 ?_ q4 q5
        obtain ⟨rfl, rfl, -⟩ := hc
        unfold sec at q3; rw [if_neg (by decide), Int.toNat_natCast] at q3; exact q3
      · rw [if_neg hc, if_neg hc]
  · have e : dkRot d s i k m = d := by unfold dkRot; rw [if_pos h, if_neg hm]
    rw [e, e]
/-- A sector that is not as it was is the one that is named, and its sum is another one. -/
theorem dkRot_at {d : Dk} (h : d.ok = true) (s i k m : Int) (j : Nat) (hj : j < d.a.length) :
    ((dkRot d s i k m).a.getD j ET.str.dflt ≠ d.a.getD j ET.str.dflt → d.mayRot s i k m = true ∧ s = 0 ∧ i = j ∧ sumOf ((dkRot d s i k m).a.getD j ET.str.dflt) ≠ sumOf (d.a.getD j ET.str.dflt)) ∧
    ((dkRot d s i k m).b.getD j ET.str.dflt ≠ d.b.getD j ET.str.dflt → d.mayRot s i k m = true ∧ s = 1 ∧ i = j ∧ sumOf ((dkRot d s i k m).b.getD j ET.str.dflt) ≠ sumOf (d.b.getD j ET.str.dflt)) := by
  by_cases hm : d.mayRot s i k m = true
  · have e : dkRot d s i k m = d.rot s i k m := by unfold dkRot; rw [if_pos h, if_pos hm]
    rw [e]
    have hm0 := hm
    unfold Dk.mayRot at hm
    simp only [Bool.and_eq_true, decide_eq_true_eq] at hm
    obtain ⟨⟨⟨⟨q1, q2⟩, q3⟩, q4⟩, q5⟩ := hm
    rw [(Dk.rot_at hm0 j).1, (Dk.rot_at hm0 j).2]
    constructor
    · by_cases hc : s = 0 ∧ i = j
      · rw [if_pos hc]
        intro _
        obtain ⟨rfl, rfl⟩ := hc
        unfold sec at q3; rw [if_pos rfl, Int.toNat_natCast] at q3
        exact ⟨hm0, rfl, rfl, rotB_sum _ k m q2 q3 q4 q5⟩
      · rw [if_neg hc]; exact fun hh => absurd rfl hh
    · by_cases hc : s = 1 ∧ i = j ∧ j < d.b.length
      · rw [if_pos hc]
        intro _
        obtain ⟨rfl, rfl, -⟩ := hc
        unfold sec at q3; rw [if_neg (by decide), Int.toNat_natCast] at q3
        exact ⟨hm0, rfl, rfl, rotB_sum _ k m q2 q3 q4 q5⟩
      · rw [if_neg hc]; exact fun hh => absurd rfl hh
  · have e : dkRot d s i k m = d := by unfold dkRot; rw [if_pos h, if_neg hm]
    rw [e]
    exact ⟨fun hh => absurd rfl hh, fun hh => absurd rfl hh⟩
end Go.Proofs.YtjedcphhajlnoaaDoor
/- Functions: writes and flushes, the program's. -/
namespace Go.Proofs.YtjedcphhajlnoaaDoor
open Go.RowKit

/-- A disk behind a pointer, its slices own: objects n, n + 1, n + 2. -/
@[go_sem] def Dk.cs (d : Dk) (n : Nat) : List TC := [.osl .str n 0 d.a.length, .osl .str (n + 1) 0 d.b.length, .osl .late (n + 2) 0 d.l.length]
theorem may_eq (d : Dk) (s k : Int) (t : ByteArray) : d.may s k t = (sector d.a.length s k && !(long t) && decide (d.l.length < 600)) := by
  unfold Dk.may fits sector long
  rw [Bool.eq_iff_iff]
  simp only [Bool.and_eq_true, decide_eq_true_eq, Bool.not_eq_true', decide_eq_false_iff_not]
  omega
/-- (*Disk).write: the disk's slices are the call's; its late writes become a new object, if it can be written. -/
@[go_sem] def ctWrite : Ct := ⟨true, [], fun args os => match args, os with
  | [.one (.ptr 0 0), .one (.val (.int .i64 s)), .one (.val (.int .i64 k)), .one (.val (.string t))], [.cells [.osl .str 1 0 na, .osl .str 2 0 nb, .osl .late 3 0 nl], .arr .str a, .arr .str b, .arr .late l] =>
    if (Dk.mk a b l).may s k t then ⟨(Dk.mk a b l).small ∧ na = a.length ∧ nb = b.length ∧ nl = l.length, vb true, [(0, some (.cells [.osl .str 1 0 na, .osl .str 2 0 nb, .osl .late 4 0 (nl + 1)])), (3, none)], [.arr .late (l ++ [⟨s, k, t⟩])]⟩
    else ⟨(Dk.mk a b l).small ∧ na = a.length ∧ nb = b.length ∧ nl = l.length, vb false, [], []⟩
  | _, _ => no⟩
@[go_sem] def ctFlush : Ct := ⟨true, [], fun args os => match args, os with
  | [.one (.ptr 0 0)], [.cells [.osl .str 1 0 na, .osl .str 2 0 nb, .osl .late 3 0 nl], .arr .str a, .arr .str b, .arr .late l] =>
    ⟨(Dk.mk a b l).ok = true ∧ na = a.length ∧ nb = b.length ∧ nl = l.length, .tup [], [(0, some (.cells [.osl .str 1 0 na, .osl .str 2 0 nb, .val (.slice none 0 0)])), (1, some (.arr .str (Dk.mk a b l).flushed.a)), (2, some (.arr .str (Dk.mk a b l).flushed.b))], []⟩
  | _, _ => no⟩
@[go_sem] def sgFl (l : List Late) (x : List ByteArray × List ByteArray) (i : Nat) : Sg := ⟨[(0, .one (.ptr 0 0)), (7, .one (.osl .late 3 0 l.length)), (8, vi l.length), (9, vi i)],
  [some (.cells [.osl .str 1 0 x.1.length, .osl .str 2 0 x.2.length, .osl .late 3 0 l.length]), some (.arr .str x.1), some (.arr .str x.2), some (.arr .late l)], [0, 1, 2]⟩
end Go.Proofs.YtjedcphhajlnoaaDoor
/- Functions: blocks. -/
namespace Go.Proofs.YtjedcphhajlnoaaDoor
open Go.RowKit

def ptr0 : Ptr := ⟨0, 0, 0⟩
def blkTo (a : Int) (t : ByteArray) (b : Int) : Ptr := if realB ⟨a, (sumOf t : Nat), b⟩ then ⟨a, (sumOf t : Nat), b⟩ else ptr0
@[go_sem] def Ptr.tv (p : Ptr) : TV := .agg [.val (.int .i64 p.at_), .val (.int .i64 p.sum), .val (.int .i64 p.birth)]
@[go_sem] def ctBlkTo : Ct := ⟨false, [], fun args os => match args, os with
  | [.one (.val (.int .i64 a)), .one (.val (.string t)), .one (.val (.int .i64 b))], [] => ifp (t.size ≤ 1000000000) (blkTo a t b).tv
  | _, _ => no⟩
def blkSide (d : Dk) (p : Ptr) (s : Int) : Bool := d.ok && realB p && d.has p s
@[go_sem] def ctBlkSide : Ct := ⟨false, [[some .str, some .str, some .late]], fun args os => match args, os with
  | [.agg [.isl .str a, .isl .str b, .isl .late l], .agg [.val (.int .i64 pa), .val (.int .i64 ps), .val (.int .i64 pb)], .one (.val (.int .i64 s))], [] => ifp (Dk.mk a b l).small (vb (blkSide ⟨a, b, l⟩ ⟨pa, ps, pb⟩ s))
  | _, _ => no⟩
/-- A block, and what it is found to be. -/
def blkRead (d : Dk) (p : Ptr) : ByteArray × Int :=
  if p.at_ = 0 ∧ p.sum = 0 ∧ p.birth = 0 then (⟨#[]⟩, 1) else if d.ok && realB p then (if d.has p 0 then (d.text 0 p.at_, 0) else if d.has p 1 then (d.text 1 p.at_, 0) else (⟨#[]⟩, 2)) else (⟨#[]⟩, 2)
@[go_sem] def ctBlkRead : Ct := ⟨false, [[some .str, some .str, some .late]], fun args os => match args, os with
  | [.agg [.isl .str a, .isl .str b, .isl .late l], .agg [.val (.int .i64 pa), .val (.int .i64 ps), .val (.int .i64 pb)]], [] => ifp (Dk.mk a b l).small (.tup [vs (blkRead ⟨a, b, l⟩ ⟨pa, ps, pb⟩).1, vi (blkRead ⟨a, b, l⟩ ⟨pa, ps, pb⟩).2])
  | _, _ => no⟩
@[go_sem] def sgBr (a b : List ByteArray) (l : List Late) (pa ps pb : Int) (s : Nat) : Sg := ⟨[(2, .one (.ptr 0 0)), (3, .one (.ptr 1 0)), (16, vi s)], [some (.cells [.isl .str a, .isl .str b, .isl .late l]), some (.cells [.val (.int .i64 pa), .val (.int .i64 ps), .val (.int .i64 pb)])], []⟩
theorem same_ptr0 (pa ps pb : Int) : same (Ptr.mk pa ps pb) (Ptr.mk 0 0 0) = decide (pa = 0 ∧ ps = 0 ∧ pb = 0) := by
  rw [Bool.eq_iff_iff, same_true, decide_eq_true_eq, Ptr.mk.injEq]
/-- (*Disk).writeBoth: both sides, or none. -/
def Dk.may2 (d : Dk) (k : Int) (t : ByteArray) : Bool := decide (d.l.length ≤ 598) && d.may 0 k t
@[go_sem] def ctWriteBoth : Ct := ⟨true, [], fun args os => match args, os with
  | [.one (.ptr 0 0), .one (.val (.int .i64 k)), .one (.val (.string t))], [.cells [.osl .str 1 0 na, .osl .str 2 0 nb, .osl .late 3 0 nl], .arr .str a, .arr .str b, .arr .late l] =>
    if (Dk.mk a b l).may2 k t then ⟨(Dk.mk a b l).small ∧ na = a.length ∧ nb = b.length ∧ nl = l.length, vb true, [(0, some (.cells [.osl .str 1 0 na, .osl .str 2 0 nb, .osl .late 4 0 (nl + 2)])), (3, none)], [.arr .late (l ++ [⟨0, k, t⟩] ++ [⟨1, k, t⟩])]⟩
    else ⟨(Dk.mk a b l).small ∧ na = a.length ∧ nb = b.length ∧ nl = l.length, vb false, [], []⟩
  | _, _ => no⟩
end Go.Proofs.YtjedcphhajlnoaaDoor
/- Functions: blocks, written to both sides. -/
namespace Go.Proofs.YtjedcphhajlnoaaDoor
open Go.RowKit

def Dk.add2 (d : Dk) (k : Int) (t : ByteArray) : Dk := ⟨d.a, d.b, d.l ++ [⟨0, k, t⟩] ++ [⟨1, k, t⟩]⟩
def blkWrite (d : Dk) (k : Int) (t : ByteArray) : Dk := if d.ok then if d.may2 k t then d.add2 k t else d else .nil
def blkWrites (d : Dk) (k : Int) (t : ByteArray) : Bool := d.ok && d.may2 k t
@[go_sem] def ctBlkWrite : Ct := ⟨false, [[some .str, some .str, some .late]], fun args os => match args, os with
  | [.agg [.isl .str a, .isl .str b, .isl .late l], .one (.val (.int .i64 k)), .one (.val (.string t))], [] => ⟨(Dk.mk a b l).small, .tup [(blkWrite ⟨a, b, l⟩ k t).v 0, vb (blkWrites ⟨a, b, l⟩ k t)], [], (blkWrite ⟨a, b, l⟩ k t).objs⟩
  | _, _ => no⟩
theorem write_small (d : Dk) (s k : Int) (t : ByteArray) : (dkWrite d s k t).a.length ≤ d.a.length ∧ (dkWrite d s k t).b.length ≤ d.b.length ∧ (dkWrite d s k t).l.length ≤ d.l.length + 1 := by
  unfold dkWrite
  split
  · split
    · refine ⟨Nat.le_refl _, Nat.le_refl _, ?_⟩
      show (d.l ++ [_]).length ≤ _
      simp
    · exact ⟨Nat.le_refl _, Nat.le_refl _, by omega⟩
  · exact ⟨Nat.zero_le _, Nat.zero_le _, Nat.zero_le _⟩
theorem may2_one {d : Dk} (k : Int) (t : ByteArray) (h : d.may 0 k t = true) (hl : d.l.length ≤ 598) : (d.add 0 k t).may 1 k t = true := by
  rw [may_iff] at h ⊢
  have : (d.add 0 k t).l.length = d.l.length + 1 := by show (d.l ++ [_]).length = _; simp
  have h2 : (d.add 0 k t).a.length = d.a.length := rfl
  omega
theorem blkWrite_two {d : Dk} (h : d.ok = true) (k : Int) (t : ByteArray) (hl : d.l.length ≤ 598) :
    (dkWrites d 0 k t = true → dkWrite (dkWrite d 0 k t) 1 k t = blkWrite d k t ∧ dkWrites (dkWrite d 0 k t) 1 k t = true ∧ blkWrites d k t = true) ∧
    (dkWrites d 0 k t = false → dkWrite d 0 k t = blkWrite d k t ∧ blkWrites d k t = false) := by
  have e1 : dkWrites d 0 k t = d.may 0 k t := by unfold dkWrites; rw [h]; rfl
  have e2 : d.may2 k t = d.may 0 k t := by unfold Dk.may2; rw [decide_eq_true hl, Bool.true_and]
  have e3 : blkWrites d k t = d.may 0 k t := by unfold blkWrites; rw [h, e2]; rfl
  rw [e1, e3]
  constructor
  · intro hm
    have hx : dkWrite d 0 k t = d.add 0 k t := by unfold dkWrite; rw [if_pos h, if_pos hm]
    have hxo := Dk.add_ok h hm
    have hm1 := may2_one k t hm hl
    rw [hx]
    refine ⟨?_, by unfold dkWrites; rw [hxo, hm1]; rfl, hm⟩
    unfold dkWrite blkWrite
    rw [if_pos hxo, if_pos hm1, if_pos h, if_pos (e2.trans hm)]
    rfl
  · intro hm
    refine ⟨?_, hm⟩
    unfold dkWrite blkWrite
    rw [if_pos h, if_pos h, if_neg (by rw [hm]; simp), if_neg (by rw [e2, hm]; simp)]
end Go.Proofs.YtjedcphhajlnoaaDoor
/- Functions: a block healed. -/
namespace Go.Proofs.YtjedcphhajlnoaaDoor
open Go.RowKit

def badSide (d : Dk) (p : Ptr) : Int := if d.has p 0 then 1 else 0
def blkHeal (d : Dk) (p : Ptr) : Dk × Int :=
  if d.ok then
    if (blkRead d p).2 ≠ 0 ∨ d.has p 0 = d.has p 1 then (d, (blkRead d p).2)
    else if d.may (badSide d p) p.at_ (blkRead d p).1 then (d.add (badSide d p) p.at_ (blkRead d p).1, (blkRead d p).2) else (d, 2)
  else (.nil, 2)
@[go_sem] def ctBlkHeal : Ct := ⟨false, [[some .str, some .str, some .late]], fun args os => match args, os with
  | [.agg [.isl .str a, .isl .str b, .isl .late l], .agg [.val (.int .i64 pa), .val (.int .i64 ps), .val (.int .i64 pb)]], [] => ⟨(Dk.mk a b l).small, .tup [(blkHeal ⟨a, b, l⟩ ⟨pa, ps, pb⟩).1.v 0, vi (blkHeal ⟨a, b, l⟩ ⟨pa, ps, pb⟩).2], [], (blkHeal ⟨a, b, l⟩ ⟨pa, ps, pb⟩).1.objs⟩
  | _, _ => no⟩
end Go.Proofs.YtjedcphhajlnoaaDoor
/- Plain facts: blocks. -/
namespace Go.Proofs.YtjedcphhajlnoaaDoor
open Go.RowKit

theorem sumOf_lt (t : ByteArray) : sumOf t < 65521 := sumAt_lt t t.size
theorem Dk.add2_text (d : Dk) (k : Int) (t : ByteArray) (s' k' : Int) : (d.add2 k t).text s' k' = if (s' = 0 ∨ s' = 1) ∧ k = k' then t else d.text s' k' := by
  show ((d.add 0 k t).add 1 k t).text s' k' = _
  rw [Dk.add_text, Dk.add_text]
  by_cases h1 : 1 = s' ∧ k = k'
  · rw [if_pos h1, if_pos ⟨.inr h1.1.symm, h1.2⟩]
  · rw [if_neg h1]
    by_cases h2 : 0 = s' ∧ k = k'
    · rw [if_pos h2, if_pos ⟨.inl h2.1.symm, h2.2⟩]
    · rw [if_neg h2, if_neg]
      rintro ⟨h3 | h3, h4⟩
      · exact h2 ⟨h3.symm, h4⟩
      · exact h1 ⟨h3.symm, h4⟩
theorem may2_iff (d : Dk) (k : Int) (t : ByteArray) : d.may2 k t = true ↔ 0 ≤ k ∧ k < d.a.length ∧ t.size ≤ 420 ∧ d.l.length ≤ 598 := by
  unfold Dk.may2
  rw [Bool.and_eq_true, decide_eq_true_eq, may_iff]
  omega
theorem Dk.add2_ok {d : Dk} (h : d.ok = true) {k : Int} {t : ByteArray} (hm : d.may2 k t = true) : (d.add2 k t).ok = true := by
  obtain ⟨m1, m2, m3, m4⟩ := (may2_iff d k t).1 hm
  have h0 : d.may 0 k t = true := (may_iff _ _ _ _).2 ⟨.inl rfl, m1, m2, m3, by omega⟩
  exact Dk.add_ok (Dk.add_ok h h0) (may2_one k t h0 m4)
theorem blkWrites_pos {d : Dk} {k : Int} {t : ByteArray} (h : blkWrites d k t = true) :
    d.ok = true ∧ d.may2 k t = true ∧ blkWrite d k t = d.add2 k t ∧ (blkWrite d k t).ok = true ∧ (blkWrite d k t).a.length = d.a.length ∧
    ∀ s' k', (blkWrite d k t).text s' k' = if (s' = 0 ∨ s' = 1) ∧ k = k' then t else d.text s' k' := by
  unfold blkWrites at h
  rw [Bool.and_eq_true] at h
  have e : blkWrite d k t = d.add2 k t := by unfold blkWrite; rw [if_pos h.1, if_pos h.2]
  rw [e]
  exact ⟨h.1, h.2, rfl, Dk.add2_ok h.1 h.2, rfl, d.add2_text k t⟩
theorem blk_same {d x : Dk} {p : Ptr} (h1 : x.ok = d.ok) (h2 : x.a.length = d.a.length) (h3 : ∀ s, x.text s p.at_ = d.text s p.at_) : blkRead x p = blkRead d p := by
  unfold blkRead Dk.has; rw [h1, h2, h3 0, h3 1]
theorem blkTo_real {k : Int} {t : ByteArray} {b : Int} (h1 : 1 ≤ k) (h2 : k ≤ 119) (h3 : 0 ≤ b) (h4 : b ≤ 1000000) : blkTo k t b = ⟨k, (sumOf t : Nat), b⟩ ∧ realB ⟨k, (sumOf t : Nat), b⟩ = true := by
  have hs := sumOf_lt t
  have e : realB ⟨k, (sumOf t : Nat), b⟩ = true := by
    unfold realB ptrOkB
    simp only [Bool.and_eq_true, Bool.or_eq_true, decide_eq_true_eq, Bool.not_eq_true', beq_eq_false_iff_ne, ne_eq]
    omega
  exact ⟨by unfold blkTo; rw [if_pos e], e⟩
theorem real_at {p : Ptr} (h : realB p = true) : 1 ≤ p.at_ ∧ p.at_ ≤ 119 := by
  unfold realB ptrOkB at h
  simp only [Bool.and_eq_true, Bool.or_eq_true, decide_eq_true_eq, Bool.not_eq_true', beq_eq_false_iff_ne, ne_eq] at h
  omega
theorem blk_fine {d : Dk} {p : Ptr} (h : d.ok = true) (hp : realB p = true) {t : ByteArray} (h0 : (d.has p 0 = true ∧ d.text 0 p.at_ = t) ∨ (d.has p 0 = false ∧ d.has p 1 = true ∧ d.text 1 p.at_ = t)) : blkRead d p = (t, 0) := by
  have := real_at hp
  unfold blkRead
  rw [if_neg (by omega), h, hp, Bool.and_self, if_pos rfl]
  rcases h0 with ⟨h1, h2⟩ | ⟨h1, h2, h3⟩
  · rw [if_pos h1, h2]
  · rw [h1, if_neg (by decide), if_pos h2, h3]
theorem has_iff (d : Dk) (p : Ptr) (s : Int) : d.has p s = true ↔ sector d.a.length s p.at_ = true ∧ (sumOf (d.text s p.at_) : Int) = p.sum := by
  unfold Dk.has; rw [Bool.and_eq_true, decide_eq_true_eq]
theorem flush_ok {x : Dk} (h : x.ok = true) : (dkFlush x).ok = true ∧ (dkFlush x).a.length = x.a.length ∧ (dkFlush x).l = [] ∧ ∀ s k, sector x.a.length s k = true → (dkFlush x).text s k = x.text s k := by
  have hl := (dkFall_len h (List.replicate x.l.length 1)).1
  have hl2 := (dkFall_small x (List.replicate x.l.length 1)).2.2
  rw [dkFall_all] at hl hl2
  refine ⟨dkFlush_ok h, hl, hl2, fun s k hs => ?_⟩
  have h1 := fall_read h x.l.length (Nat.le_refl _) s k hs
  rw [dkFall_all] at h1
  have h2 : dkReads (dkFlush x) s k = true := by unfold dkReads; rw [dkFlush_ok h, hl, hs]; rfl
  have h3 : dkRead (dkFlush x) s k = (dkFlush x).text s k := by unfold dkRead; rw [if_pos h2]
  rw [← h3, h1]; rfl
theorem flush_small (d : Dk) : (dkFlush d).a.length ≤ d.a.length ∧ (dkFlush d).b.length ≤ d.b.length ∧ (dkFlush d).l.length = 0 := by
  unfold dkFlush
  split
  · have := d.done_len d.l.length
    exact ⟨by show (d.done _).1.length ≤ _; omega, by show (d.done _).2.length ≤ _; omega, rfl⟩
  · exact ⟨Nat.zero_le _, Nat.zero_le _, rfl⟩
theorem same_refl {α : Type} (x : α) : same x x = true := by simp [same]
theorem fallen_flush (x : Dk) (fate : List Int) : dkFall (dkFlush x) fate = dkFlush x := by
  by_cases h : x.ok = true
  · have hok := dkFlush_ok h
    have e : dkFlush x = x.flushed := by unfold dkFlush; rw [if_pos h]
    unfold dkFall
    rw [if_pos hok, e]
    unfold Dk.fallen
    have : min x.flushed.l.length fate.length = 0 := Nat.min_eq_left (Nat.zero_le _)
    rw [this]; rfl
  · have e : dkFlush x = .nil := by unfold dkFlush; rw [if_neg h]
    rw [e]; unfold dkFall; rw [show Dk.nil.ok = false by decide]; rfl
/-- One block written: no other one is disturbed. -/
theorem one_all {d : Dk} {k : Int} {t : ByteArray} (h : blkWrites d k t = true) :
    (∀ (i : Int) (b : Int), 1 ≤ i → i < d.a.length → 0 ≤ b → b ≤ 9 → i ≠ k → blkRead (blkWrite d k t) (blkTo i (dkRead d 0 i) b) = blkRead d (blkTo i (dkRead d 0 i) b)) ∧
    (1 ≤ k → blkRead (dkFlush (blkWrite d k t)) (blkTo k t 1) = (t, 0)) := by
  obtain ⟨h1, h2, h3, h4, h5, h6⟩ := blkWrites_pos h
  obtain ⟨a1, a2, -⟩ := (Dk.ok_iff _).1 h1
  obtain ⟨m1, m2, m3, m4⟩ := (may2_iff _ _ _).1 h2
  constructor
  · intro i b hi1 hi2 hb1 hb2 hik
    obtain ⟨p1, p2⟩ := blkTo_real (t := dkRead d 0 i) hi1 (show i ≤ 119 by omega) hb1 (show b ≤ 1000000 by omega)
    rw [p1]
    refine blk_same (by rw [h4, h1]) h5 fun s => ?_
    rw [h6, if_neg]
    rintro ⟨-, h⟩
    exact hik h.symm
  · intro hk
    obtain ⟨p1, p2⟩ := blkTo_real (t := t) hk (show k ≤ 119 by omega) (show (0:Int) ≤ 1 by decide) (by decide)
    rw [p1]
    obtain ⟨f1, f2, -, f3⟩ := flush_ok h4
    have hs : sector (blkWrite d k t).a.length 0 k = true := (sector_iff _ _ _).2 ⟨.inl rfl, m1, by omega⟩
    have ht : (dkFlush (blkWrite d k t)).text 0 k = t := by rw [f3 _ _ hs, h6, if_pos ⟨.inl rfl, rfl⟩]
    refine blk_fine f1 p2 (.inl ⟨(has_iff _ _ _).2 ⟨by rw [f2]; exact hs, ?_⟩, ht⟩)
    rw [ht]
/-- A decayed copy is noticed, and repaired. -/
theorem heal_all {d : Dk} {k : Int} {t : ByteArray} (h : blkWrites d k t = true) (hk : 1 ≤ k) (side j m : Int) (hside : side = 0 ∨ side = 1) :
    blkRead (blkWrite d k t) (blkTo k t 1) = (t, 0) ∧ blkRead (dkRot (dkFlush (blkWrite d k t)) side k j m) (blkTo k t 1) = (t, 0) ∧
    (blkHeal (dkRot (dkFlush (blkWrite d k t)) side k j m) (blkTo k t 1)).2 = 0 ∧
    blkSide (blkHeal (dkRot (dkFlush (blkWrite d k t)) side k j m) (blkTo k t 1)).1 (blkTo k t 1) 0 = true ∧
    blkSide (blkHeal (dkRot (dkFlush (blkWrite d k t)) side k j m) (blkTo k t 1)).1 (blkTo k t 1) 1 = true ∧
    blkTo k t 1 = ⟨k, (sumOf t : Nat), 1⟩ ∧ ∀ s : Int, s ≠ (sumOf t : Nat) → (blkRead (dkFlush (blkWrite d k t)) ⟨k, s, 1⟩).2 = 2 := by
  obtain ⟨h1, h2, h3, h4, h5, h6⟩ := blkWrites_pos h
  obtain ⟨a1, a2, -⟩ := (Dk.ok_iff _).1 h1
  obtain ⟨m1, m2, m3, m4⟩ := (may2_iff _ _ _).1 h2
  obtain ⟨p1, p2⟩ := blkTo_real (t := t) hk (show k ≤ 119 by omega) (show (0:Int) ≤ 1 by decide) (by decide)
  obtain ⟨f1, f2, fl, f3⟩ := flush_ok h4
  rw [p1]
  have hs0 : sector (blkWrite d k t).a.length 0 k = true := (sector_iff _ _ _).2 ⟨.inl rfl, m1, by omega⟩
  have hs1 : sector (blkWrite d k t).a.length 1 k = true := (sector_iff _ _ _).2 ⟨.inr rfl, m1, by omega⟩
  have x0 : (blkWrite d k t).text 0 k = t := by rw [h6, if_pos ⟨.inl rfl, rfl⟩]
  have x1 : (blkWrite d k t).text 1 k = t := by rw [h6, if_pos ⟨.inr rfl, rfl⟩]
  have y0 : (dkFlush (blkWrite d k t)).text 0 k = t := by rw [f3 _ _ hs0, x0]
  have y1 : (dkFlush (blkWrite d k t)).text 1 k = t := by rw [f3 _ _ hs1, x1]
  obtain ⟨y, hy⟩ : ∃ y, dkFlush (blkWrite d k t) = y := ⟨_, rfl⟩
  rw [hy] at f1 f2 fl f3 y0 y1 ⊢
  have ya : y.a.length = d.a.length := by rw [f2, h5]
  obtain ⟨r1, r2, r3⟩ := And.intro (dkRot_ok f1 side k j m) (dkRot_len f1 side k j m)
  have hrot := dkRot_at f1 side k j m k.toNat (by omega)
  obtain ⟨z, hz⟩ : ∃ z, dkRot y side k j m = z := ⟨_, rfl⟩
  rw [hz] at r1 r2 r3 hrot ⊢
  have hnum : ∀ (u : Dk) (s : Int), u.l = [] → u.text s k = (if s = 0 then u.a.getD k.toNat ET.str.dflt else u.b.getD k.toNat ET.str.dflt) := by
    intro u s hu
    unfold Dk.text
    rw [hu]
    show lateText [] s k (sec (u.a, u.b) s k) 0 = _
    unfold sec; rfl
  have zl : z.l = [] := by rw [r3.2, fl]
  have ny0 := hnum y 0 fl
  have ny1 := hnum y 1 fl
  have nz0 := hnum z 0 zl
  have nz1 := hnum z 1 zl
  rw [if_pos rfl] at ny0 nz0
  rw [if_neg (by decide)] at ny1 nz1
  rw [← ny0, ← ny1, ← nz0, ← nz1, y0, y1] at hrot
  obtain ⟨q0, q1⟩ := hrot
  have zs0 : sector z.a.length 0 k = true := (sector_iff _ _ _).2 ⟨.inl rfl, m1, by omega⟩
  have zs1 : sector z.a.length 1 k = true := (sector_iff _ _ _).2 ⟨.inr rfl, m1, by omega⟩
  have hb : ∀ (u : Dk) (s : Int), sector u.a.length s k = true → u.text s k = t → u.has ⟨k, (sumOf t : Nat), 1⟩ s = true := by
    intro u s hs ht
    exact (has_iff _ _ _).2 ⟨hs, by rw [ht]⟩
  have w0 : z.has ⟨k, (sumOf t : Nat), 1⟩ 0 = true ∧ z.text 0 k = t ∨ z.has ⟨k, (sumOf t : Nat), 1⟩ 0 = false ∧ side = 0 := by
    by_cases hc : z.text 0 k = t
    · exact .inl ⟨hb z 0 zs0 hc, hc⟩
    · obtain ⟨-, c1, -, c2⟩ := q0 hc
      refine .inr ⟨?_, c1⟩
      rw [← Bool.not_eq_true]
      intro hh
      have := ((has_iff _ _ _).1 hh).2
      exact c2 (by simp only at this; omega)
  have w1 : z.has ⟨k, (sumOf t : Nat), 1⟩ 1 = true ∧ z.text 1 k = t ∨ z.has ⟨k, (sumOf t : Nat), 1⟩ 1 = false ∧ side = 1 := by
    by_cases hc : z.text 1 k = t
    · exact .inl ⟨hb z 1 zs1 hc, hc⟩
    · obtain ⟨-, c1, -, c2⟩ := q1 hc
      refine .inr ⟨?_, c1⟩
      rw [← Bool.not_eq_true]
      intro hh
      have := ((has_iff _ _ _).1 hh).2
      exact c2 (by simp only at this; omega)
  have hread : blkRead z ⟨k, (sumOf t : Nat), 1⟩ = (t, 0) := by
    refine blk_fine r1 p2 ?_
    rcases w0 with w0 | ⟨w0, rfl⟩
    · exact .inl w0
    · rcases w1 with w1 | ⟨_, w1⟩
      · exact .inr ⟨w0, w1⟩
      · exact absurd w1 (by decide)
  have zl0 : z.l.length = 0 := by rw [zl]; rfl
  have hside2 : ∀ (u : Dk) (s : Int), u.ok = true → u.has ⟨k, (sumOf t : Nat), 1⟩ s = true → blkSide u ⟨k, (sumOf t : Nat), 1⟩ s = true := by
    intro u s h1 h2; unfold blkSide; rw [h1, h2, p2]; rfl
  have hheal : (blkHeal z ⟨k, (sumOf t : Nat), 1⟩).2 = 0 ∧ blkSide (blkHeal z ⟨k, (sumOf t : Nat), 1⟩).1 ⟨k, (sumOf t : Nat), 1⟩ 0 = true ∧ blkSide (blkHeal z ⟨k, (sumOf t : Nat), 1⟩).1 ⟨k, (sumOf t : Nat), 1⟩ 1 = true := by
    unfold blkHeal
    rw [if_pos r1, hread]
    by_cases hc : z.has ⟨k, (sumOf t : Nat), 1⟩ 0 = z.has ⟨k, (sumOf t : Nat), 1⟩ 1
    · rw [if_pos (.inr hc)]
      rcases w0 with w0 | ⟨w0, rfl⟩
      · exact ⟨rfl, hside2 z 0 r1 w0.1, hside2 z 1 r1 (hc ▸ w0.1)⟩
      · rcases w1 with w1 | ⟨_, w1⟩
        · rw [w0, w1.1] at hc; cases hc
        · exact absurd w1 (by decide)
    · rw [if_neg (by rintro (hh | hh); exact hh rfl; exact hc hh)]
      have hbs : badSide z ⟨k, (sumOf t : Nat), 1⟩ = 0 ∨ badSide z ⟨k, (sumOf t : Nat), 1⟩ = 1 := by unfold badSide; split <;> simp
      have hmay : z.may (badSide z ⟨k, (sumOf t : Nat), 1⟩) k t = true := (may_iff _ _ _ _).2 ⟨hbs, m1, by omega, m3, by omega⟩
      simp only [hmay, if_true]
      refine ⟨trivial, ?_, ?_⟩
      · refine hside2 _ 0 (Dk.add_ok r1 hmay) (hb _ 0 zs0 ?_)
        rw [Dk.add_text]
        unfold badSide
        rcases w0 with w0 | ⟨w0, _⟩
        · simp [w0.1, w0.2]
        · simp [w0]
      · refine hside2 _ 1 (Dk.add_ok r1 hmay) (hb _ 1 zs1 ?_)
        rw [Dk.add_text]
        unfold badSide
        rcases w0 with w0 | ⟨w0, rfl⟩
        · simp [w0.1]
        · rcases w1 with w1 | ⟨_, w1⟩
          · simp [w0, w1.2]
          · exact absurd w1 (by decide)
  refine ⟨blk_fine h4 p2 (.inl ⟨hb _ 0 hs0 x0, x0⟩), hread, hheal.1, hheal.2.1, hheal.2.2, rfl, fun s hs => ?_⟩
  unfold blkRead
  rw [if_neg (by simp only; omega)]
  have n0 : ∀ u, y.text u k = t → y.has ⟨k, s, 1⟩ u = false := by
    intro u hu
    rw [← Bool.not_eq_true]
    intro hh
    have := ((has_iff _ _ _).1 hh).2
    simp only [hu] at this
    exact hs this.symm
  rw [n0 0 y0, n0 1 y1]
  split <;> rfl
end Go.Proofs.YtjedcphhajlnoaaDoor
/- Plain facts: how large the disks are that come out. -/
namespace Go.Proofs.YtjedcphhajlnoaaDoor
open Go.RowKit

/-- No larger than a million and a bit. -/
structure Dk.mid (d : Dk) : Prop where
  a : d.a.length ≤ 1100000
  b : d.b.length ≤ 1100000
  l : d.l.length ≤ 1100000
theorem mid_rot {d : Dk} (s i k m : Int) : (dkRot d s i k m).mid := by
  by_cases hok : d.ok = true
  · have := Dk.ok_small (dkRot_ok hok s i k m)
    exact ⟨by omega, by omega, by omega⟩
  · unfold dkRot; rw [if_neg hok]; exact ⟨Nat.zero_le _, Nat.zero_le _, Nat.zero_le _⟩
theorem mid_flush {d : Dk} (h : d.a.length ≤ 1048576 ∧ d.b.length ≤ 1048576 ∧ d.l.length ≤ 1048576) : (dkFlush d).mid := by
  obtain ⟨h1, h2, h3⟩ := flush_small d
  exact ⟨by omega, by omega, by omega⟩
theorem mid_write {d : Dk} (h : d.a.length ≤ 1048576 ∧ d.b.length ≤ 1048576 ∧ d.l.length ≤ 1048576) (s k : Int) (t : ByteArray) : (dkWrite d s k t).mid := by
  obtain ⟨h1, h2, h3⟩ := write_small d s k t
  exact ⟨by omega, by omega, by omega⟩
theorem mid_blk {d : Dk} (h : d.a.length ≤ 1048576 ∧ d.b.length ≤ 1048576 ∧ d.l.length ≤ 1048576) (k : Int) (t : ByteArray) : (blkWrite d k t).mid := by
  unfold blkWrite
  split
  · split
    · refine ⟨show d.a.length ≤ _ by omega, show d.b.length ≤ _ by omega, ?_⟩
      show (d.l ++ [_] ++ [_]).length ≤ _
      simp; omega
    · exact ⟨by omega, by omega, by omega⟩
  · exact ⟨Nat.zero_le _, Nat.zero_le _, Nat.zero_le _⟩
theorem mid_heal {d : Dk} (h : d.a.length ≤ 1048576 ∧ d.b.length ≤ 1048576 ∧ d.l.length ≤ 1048576) (p : Ptr) : (blkHeal d p).1.mid := by
  unfold blkHeal
  repeat' split
  all_goals first | exact ⟨show d.a.length ≤ _ by omega, show d.b.length ≤ _ by omega, show d.l.length ≤ _ by omega⟩ | exact ⟨Nat.zero_le _, Nat.zero_le _, Nat.zero_le _⟩ | (refine ⟨show d.a.length ≤ _ by omega, show d.b.length ≤ _ by omega, ?_⟩; show (d.l ++ [_]).length ≤ _; simp; omega)
theorem mid_fall {d : Dk} (h : d.a.length ≤ 1048576 ∧ d.b.length ≤ 1048576 ∧ d.l.length ≤ 1048576) (f : List Int) : (dkFall d f).mid := by
  obtain ⟨h1, h2, h3⟩ := dkFall_small d f
  exact ⟨by omega, by omega, by rw [h3]; simp⟩
end Go.Proofs.YtjedcphhajlnoaaDoor
/- Functions: the reference's blocks, read and healed. -/
namespace Go.Proofs.YtjedcphhajlnoaaDoor
open Go.RowKit

theorem sum_step2 (s : ByteArray) (i : Nat) (hi : i < s.size) : (IntKind.i64.wrap (IntKind.i64.wrap (IntKind.i64.wrap ((sumAt s i : Int) * 257) + IntKind.i64.wrap ((s.data.getD i 0).toNat : Int)) + 1)).tmod 65521 = (sumAt s (i + 1) : Nat) := by
  rw [Int.mul_comm]
  exact sum_step s i hi
@[go_sem] def sgSum2 (s : ByteArray) (i : Nat) : Sg := ⟨[(0, .one (.val (.string s))), (3, vi (sumAt s i)), (4, vi i)], [], []⟩
theorem s_specSum_e : EnterOk Tryd.prog 56 := ⟨_, Tryd.func56, rfl, by decide⟩
@[go_sem] def s_specSum_lv : List (List Nat) := [[0], [0, 3], [0, 3, 4], [0, 3, 4, 12], [0, 3, 4], [0, 3, 4], [2]]
@[go_sem] noncomputable def s_specSum_K : Known := Known.nil
set_option maxHeartbeats 8000000 in
theorem s_specSum : Sound Tryd.prog 56 ctSumOf := by
  have ke := s_specSum_K.env []
  have kl : Lives s_specSum_lv := trivial
  refine sound_intro (E := ⟨ti, s_specSum_K.Γ, []⟩) ke Tryd.func56 Tryd.ntmps56 rfl (rs := [.tmp 2]) rfl ?_
  intro args os hp
  unfold ctSumOf at hp ⊢
  dsimp only at hp ⊢
  split at hp
  · rename_i s
    refine ⟨by simp, fun φ0 w0 => ?_⟩
    have hlen : s.size ≤ 1000000000 := hp
    clear hp
    have hf := sum_first s hlen
    refine goh hf ?_
    refine W_le (σ' := sgSum2 s 0) [] (by
      simp only [go_sem, hf, inj_r, ↓reduceIte, reduceCtorEq, Nat.reduceAdd, Nat.reduceLT, Nat.reduceLeDiff, Nat.reduceEqDiff, Int.reduceEq]
      all_goals (repeat' refine And.intro ?_ ?_) <;> try exact shut7
      ) ?_
    refine W_loop (fun n σ => ∃ i : Nat, i ≤ s.size ∧ n = s.size - i ∧ σ = sgSum2 s i) s.size ⟨0, by omega, by omega, rfl⟩ ?_
    rintro n σ ⟨i, hi, rfl, rfl⟩
    unfold sgSum2
    refine goh trivial ?_
    refine W_cnd ?_ ?_ <;> (try simp only [cnd_r]) <;> intro hlt
    · have hs := sum_step2 s i (by omega)
      refine goh hs ?_
      refine ⟨s.size - (i + 1), [], sgSum2 s (i + 1), by omega, ?_, i + 1, by omega, rfl, rfl⟩
      exact leh hs
    · obtain rfl : i = s.size := by omega
      refine goh trivial ?_
      refine ⟨by (simp only [go_sem, sumOf, ↓reduceIte, reduceCtorEq, Nat.reduceAdd, Nat.reduceLT, Nat.reduceLeDiff, Nat.reduceEqDiff]) <;> trivial, [], ?_⟩
      all_goals try simp only [go_sem, sumOf, inj_r, ↓reduceIte, reduceCtorEq, Nat.reduceAdd, Nat.reduceLT, Nat.reduceLeDiff, Nat.reduceEqDiff, Int.reduceEq]
      all_goals (repeat' refine And.intro ?_ ?_) <;> try exact shut7
  · simp [no, ifp] at hp
theorem ptrOk_zero {a s b : Int} (h : a = 0) : ptrOkB ⟨a, s, b⟩ = (decide (a = 0) && decide (s = 0) && decide (b = 0)) := by
  subst h; unfold ptrOkB; simp
theorem dkRead_size (d : Dk) (s k : Int) : (dkRead d s k).size ≤ 420 := by
  unfold dkRead
  split
  · rename_i h
    unfold dkReads at h
    rw [Bool.and_eq_true] at h
    exact Dk.text_size h.1 s k
  · exact Nat.zero_le _
theorem side_eq (d : Dk) (a s b i : Int) : blkSide d ⟨a, s, b⟩ i = (dkReads d i a && ptrOkB ⟨a, s, b⟩ && decide (a > 0) && decide ((sumOf (dkRead d i a) : Int) = s)) := by
  unfold blkSide realB Dk.has
  by_cases h : dkReads d i a = true
  · have h2 : dkRead d i a = d.text i a := by unfold dkRead; rw [if_pos h]
    have h3 := h
    unfold dkReads at h3
    rw [Bool.and_eq_true] at h3
    rw [h, h2, h3.1]
    simp only [h3.2, Bool.true_and]
    by_cases hp : ptrOkB ⟨a, s, b⟩ = true
    · have e : (!(a == 0)) = decide (a > 0) := by
        rw [Bool.eq_iff_iff]
        unfold ptrOkB at hp
        simp only [Bool.and_eq_true, Bool.or_eq_true, decide_eq_true_eq, Bool.not_eq_true', beq_eq_false_iff_ne, ne_eq] at hp ⊢
        omega
      rw [hp, e]
    · rw [show ptrOkB ⟨a, s, b⟩ = false by simpa using hp]; simp
  · rw [show dkReads d i a = false by simpa using h]
    have h3 : (d.ok && sector d.a.length i a) = false := by unfold dkReads at h; simpa using h
    simp only [Bool.false_and]
    rw [Bool.and_eq_false_iff] at h3
    rcases h3 with h3 | h3 <;> simp [h3]
theorem ptrOk_at {a s b : Int} : (ptrOkB ⟨a, s, b⟩ = true ∧ a = 0) ↔ (a = 0 ∧ s = 0 ∧ b = 0) := by
  constructor
  · rintro ⟨h, rfl⟩
    rw [ptrOk_zero rfl] at h
    simpa using h
  · rintro ⟨rfl, rfl, rfl⟩; exact ⟨by decide, rfl⟩
theorem read_side (d : Dk) (a s b : Int) (h : ¬ (a = 0 ∧ s = 0 ∧ b = 0)) : blkRead d ⟨a, s, b⟩ = if blkSide d ⟨a, s, b⟩ 0 = true then (d.text 0 a, 0) else if blkSide d ⟨a, s, b⟩ 1 = true then (d.text 1 a, 0) else (⟨#[]⟩, 2) := by
  unfold blkRead blkSide
  rw [if_neg h]
  cases d.ok <;> cases realB ⟨a, s, b⟩ <;> simp
theorem side_sector {d : Dk} {a s b i : Int} (h : blkSide d ⟨a, s, b⟩ i = true) : d.ok = true ∧ sector d.a.length i a = true := by
  unfold blkSide Dk.has at h
  simp only [Bool.and_eq_true] at h
  exact ⟨h.1.1, h.2.1⟩
theorem side_has {d : Dk} {p : Ptr} (h : (blkRead d p).2 = 0) (i : Int) : blkSide d p i = d.has p i := by
  unfold blkRead at h
  split at h
  · simp at h
  · split at h
    · rename_i h2
      unfold blkSide; rw [h2, Bool.true_and]
    · simp at h
@[go_sem] def sgSr (a b : List ByteArray) (l : List Late) (pa ps pb i : Int) : Sg := ⟨[(2, .one (.ptr 0 0)), (3, .one (.ptr 1 0)), (6, vi i)], [some (.cells [.isl .str a, .isl .str b, .isl .late l]), some (.cells [.val (.int .i64 pa), .val (.int .i64 ps), .val (.int .i64 pb)])], []⟩
end Go.Proofs.YtjedcphhajlnoaaDoor
