import Derived.Test.YtmnbgppmfbnamaaGreatDoorM8
import Derived.Test.YtmnbgppmfbnamaaGreatDoorM11
import Derived.Test.YtmnbgppmfbnamaaGreatDoorM14
set_option linter.unusedSimpArgs false
set_option linter.unusedVariables false
set_option linter.unusedSectionVars false
/- The library's words: Split, Cut, Join, Atoi. -/
namespace Go.Proofs.YtmnbgppmfbnamaaGreatDoor
open Go.RowKit

/-- What is returned is plain, whatever the world; what was there is as it was. -/
theorem post_plain {φ : Phi} {w w' : World} {s : St} {r : Value} (hrel : Rel φ (tabOf []) w) (hu : s.upd = []) (hn : s.news = []) (hv : ∀ φ T w, VR φ T w s.v r) (hb : Below w.heap.size w w') : Post φ (tabOf []) w 0 s (.returned r) w' := by
  have hT : newT (tabOf []) 0 s = tabOf [] := newT_pure _ _ _ hu hn
  have no : ∀ b, ¬ Own φ (tabOf []) b := fun b ⟨k, base, h1, _⟩ => by simp [tabOf] at h1
  have old : ∀ b, b < w.heap.size → w'.heap[b]? = w.heap[b]? := fun b hb' => hb.block b hb'
  refine ⟨r, φ, rfl, hv _ _ _, ?_, ?_, fun k hk => .inl hk, fun b hb' _ => old b hb'⟩
  · rw [hT]
    exact ⟨fun k o h => by simp [tabOf] at h, fun k _ _ _ _ h _ _ _ => by simp [tabOf] at h, fun b h => ⟨Nat.lt_of_lt_of_le (hrel.frd b h).1 hb.size, no b⟩, fun q hq => by
      obtain ⟨-, c, e, f, h2, h3⟩ := hrel.glo q hq
      exact ⟨no _, c, e, f, (old _ (Array.getElem?_eq_some_iff.1 h2).1).trans h2, h3⟩⟩
  · rw [hT]
    exact ⟨hb.os, hb.tape, hb.output, hb.size, fun _ _ h => h, fun b hb' _ => old b hb', fun b _ h => h, fun b hb' => by unfold sizeAt; rw [old b hb'], fun _ => Iff.rfl⟩
theorem glo0 {φ : Phi} {T : Tab} {w : World} (h : Rel φ T w) : GloOk0 w := fun q hq => (h.glo q hq).2
theorem flat_str : ∀ xs : List ByteArray, xs.flatMap ET.str.cells = xs.map Value.string
  | [] => rfl
  | x :: xs => by rw [List.flatMap_cons, flat_str xs]; rfl
/-- Texts in a new array. -/
theorem post_texts {φ : Phi} {w : World} {s : St} {xs : List ByteArray} {t : TypeId} (hrel : Rel φ (tabOf []) w) (hφ : ∀ k, φ k = none) (hs : s.upd = [] ∧ s.news = [.arr .str xs] ∧ s.v = .one (.osl .str 0 0 xs.length)) :
    Post φ (tabOf []) w 0 s (.returned (.slice (some ⟨w.heap.size, 0, none⟩) xs.length xs.length)) (w.alloc (.cells (xs.map Value.string).toArray t)) := by
  obtain ⟨h1, h2, h3⟩ := hs
  have hT : newT (tabOf []) 0 s = fun k => if k = 0 then some (Obj.arr .str xs) else none := by
    funext k
    unfold newT
    rw [h1, h2]
    cases k with
    | zero => simp [addT, updT, tabOf]
    | succ k => simp [addT, updT, tabOf]
  have hheap : (w.alloc (.cells (xs.map Value.string).toArray t)).heap = w.heap.push (.cells (xs.map Value.string).toArray t) := rfl
  have old : ∀ b, b < w.heap.size → (w.alloc (.cells (xs.map Value.string).toArray t)).heap[b]? = w.heap[b]? := fun b hb => by
    rw [hheap, Array.getElem?_push, if_neg (by omega)]
  have new : (w.alloc (.cells (xs.map Value.string).toArray t)).heap[w.heap.size]? = some (.cells (xs.map Value.string).toArray t) := by
    rw [hheap, Array.getElem?_push, if_pos rfl]
  have hfl := flat_str xs
  let φ' : Phi := ⟨fun k => if k = 0 then some (w.heap.size, 0) else none, φ.fr⟩
  have own : ∀ b, Own φ' (newT (tabOf []) 0 s) b → b = w.heap.size := by
    rintro b ⟨k, base, -, h⟩
    have h : (if k = 0 then some (w.heap.size, 0) else none) = some (b, base) := h
    split at h
    · cases h; rfl
    · cases h
  refine ⟨_, φ', rfl, ?_, ?_, ?_, ?_, fun b hb _ => old b hb⟩
  · rw [h3]
    simp only [VR, CR]
    refine ⟨some ⟨w.heap.size, 0, none⟩, xs.length, rfl, Nat.le_refl _, ?_, ?_, fun _ => ⟨w.heap.size, 0, rfl, ?_, ?_⟩⟩
    · intro h; cases h
    · intro ad h; cases h; rfl
    · simp
    · unfold sizeAt
      rw [new]
      simp [ET.sz]
  · refine ⟨fun k o h => ?_, fun k k' b base base' hk hk' _ _ => ?_, fun b hb => ⟨?_, fun ho => ?_⟩, fun q hq => ?_⟩
    · rw [hT] at h
      simp only at h
      split at h
      · rename_i hk
        cases h
        subst hk
        refine .inr ⟨w.heap.size, 0, _, rfl, ⟨_, _, new, fun j _ => by simp⟩, fun i v hi => ?_⟩
        rw [hfl] at hi
        simpa using hi
      · cases h
    · rw [hT] at hk hk'
      by_cases e1 : k = 0
      · by_cases e2 : k' = 0
        · rw [e1, e2]
        · simp [e2] at hk'
      · simp [e1] at hk
    · have := (hrel.frd b hb).1
      rw [hheap, Array.size_push]; omega
    · have h4 := own b ho
      have := (hrel.frd b hb).1
      omega
    · obtain ⟨-, c, e, f, h5, h6⟩ := hrel.glo q hq
      have h7 := (Array.getElem?_eq_some_iff.1 h5).1
      exact ⟨fun ho => by have := own _ ho; omega, c, e, f, (old _ h7).trans h5, h6⟩
  · exact ⟨rfl, rfl, rfl, by rw [hheap, Array.size_push]; omega, fun k p h => (by rw [hφ k] at h; cases h), fun b hb _ => old b hb, fun b hb ho => (by have := own b ho; omega), fun b hb => (by unfold sizeAt; rw [old b hb]), fun _ => Iff.rfl⟩
  · intro k hk
    right
    by_cases e : k = 0
    · subst e
      exact ⟨Nat.le_refl _, by rw [h2]; exact Nat.zero_lt_one⟩
    · exact absurd (show (if k = 0 then some (w.heap.size, 0) else none) = none from if_neg e) hk
/-- The longest text that is looked for at once. -/
theorem glo_max {w : World} (h : GloOk0 w) : ∃ m, w.cell? ⟨0, 0, none⟩ = some (.int .i64 m) := by
  obtain ⟨c, e, f, h1, m, h2⟩ := h (0, fun c => ∃ m, c[0]? = some (.int .i64 m)) (by simp [gloL])
  exact ⟨m, by unfold World.cell?; simp only [h1]; exact h2⟩
theorem size_one {s : ByteArray} (h : s.size = 1) : s = ⟨#[s.data.getD 0 0]⟩ := by
  apply ByteArray.ext
  apply Array.ext
  · simpa using h
  · intro i h1 h2
    have : i = 0 := by simp at h2; omega
    subst this
    simp [Array.getD, h1]
    intro he
    rw [he] at h
    cases h
@[go_sem] def ctSplit : Ct := ⟨false, [], fun args os => match args, os with
  | [.one (.val (.string s)), .one (.val (.string sep))], [] => ⟨s.size < 4294967281 ∧ sep.size = 1, .one (.osl .str 0 0 (splitV (sep.data.getD 0 0) s).length), [], [.arr .str (splitV (sep.data.getD 0 0) s)]⟩
  | _, _ => no⟩
theorem s_split_e : EnterOk Tryz.prog 55 := ⟨_, Tryz.func55, rfl, by decide⟩
theorem s_split : Sound Tryz.prog 55 ctSplit := by
  intro args os hp φ w rargs hrel hv hn
  unfold ctSplit at hp ⊢
  dsimp only at hp ⊢
  split at hp
  · rename_i s sep
    obtain ⟨hs, h1⟩ : s.size < 4294967281 ∧ sep.size = 1 := hp
    obtain rfl := plainV_R (vals := [.string s, .string sep]) hv
    obtain ⟨m, hm⟩ := glo_max (glo0 hrel)
    refine (Any.strings_Split { Tryz.lays146 with } Tryz.lays146.i9 s sep m w hs hm (by omega)).mono ?_
    rintro e w' ⟨rfl, rfl⟩
    have hsep := size_one h1
    generalize sep.data.getD 0 0 = c at hsep ⊢
    subst hsep
    have e1 := split_lib c s
    have e2 := Lib.splitB_all ⟨#[c]⟩ (by show 1 ≤ 1; omega) 0 _ s rfl
    rw [e1] at e2
    rw [← e2, e1]
    exact post_texts hrel (fun k => hn k (Nat.zero_le _)) ⟨rfl, rfl, rfl⟩
  · exact hp.elim
@[go_sem] def ctCut : Ct := ⟨false, [], fun args os => match args, os with
  | [.one (.val (.string s)), .one (.val (.string sep))], [] => ifp (s.size < 4294967281 ∧ sep.size = 1) (.tup [vs (cutV (sep.data.getD 0 0) s).1, vs (cutV (sep.data.getD 0 0) s).2.1, vb (cutV (sep.data.getD 0 0) s).2.2])
  | _, _ => no⟩
theorem s_cut_e : EnterOk Tryz.prog 56 := ⟨_, Tryz.func56, rfl, by decide⟩
theorem s_cut : Sound Tryz.prog 56 ctCut := by
  intro args os hp φ w rargs hrel hv hn
  unfold ctCut at hp ⊢
  dsimp only at hp ⊢
  split at hp
  · rename_i s sep
    obtain ⟨hs, h1⟩ : s.size < 4294967281 ∧ sep.size = 1 := hp
    obtain rfl := plainV_R (vals := [.string s, .string sep]) hv
    obtain ⟨m, hm⟩ := glo_max (glo0 hrel)
    refine (Any.strings_Cut { Tryz.lays145 with } s sep m w hs hm).mono ?_
    rintro e w' ⟨rfl, n, rfl⟩
    have hsep := size_one h1
    generalize sep.data.getD 0 0 = c at hsep ⊢
    subst hsep
    exact post_plain hrel rfl rfl (fun φ T w => by simp only [ifp, VR, VRs, CR, vs, vb]; exact ⟨_, rfl, rfl, rfl, rfl, trivial⟩) ⟨rfl, rfl, rfl, Nat.le_refl _, fun _ _ => rfl⟩
  · exact hp.elim
@[go_sem] def ctJoin : Ct := ⟨false, [[some .str], []], fun args os => match args, os with
  | [.one (.isl .str xs), .one (.val (.string sep))], [] => ifp (xs.length ≤ 140737488355328 ∧ (joinV sep xs).size ≤ 140737488355328) (vs (joinV sep xs))
  | _, _ => no⟩
theorem s_join_e : EnterOk Tryz.prog 52 := ⟨_, Tryz.func52, rfl, by decide⟩
theorem join_extra : Builder.Extra Tryz.prog Tryz.lays156_ren where
  sizeBuilder := by kernel_rfl
  liesBuilder := by kernel_rfl
  t5 := Tryz.lays146.t5
  a5 := Tryz.lays146.a5
  z5 := Tryz.lays146.z5
  v5 := Tryz.lays146.v5
  infoByte := by kernel_rfl
  cellsByte := by kernel_rfl
  sizeByte := by kernel_rfl
  neB5 := by decide
theorem s_join : Sound Tryz.prog 52 ctJoin := by
  intro args os hp φ w rargs hrel hv hn
  unfold ctJoin at hp ⊢
  dsimp only at hp ⊢
  split at hp
  · rename_i xs sep
    obtain ⟨h1, h2⟩ : xs.length ≤ 140737488355328 ∧ (joinV sep xs).size ≤ 140737488355328 := hp
    obtain ⟨v0, v1, rfl⟩ : ∃ v0 v1, rargs = [v0, v1] := by
      match rargs, hv with
      | [v0, v1], _ => exact ⟨v0, v1, rfl⟩
      | [], hv => simp [VRs] at hv
      | [_], hv => simp [VRs] at hv
      | _ :: _ :: _ :: _, hv => simp [VRs] at hv
    simp only [VRs, VR, CR] at hv
    obtain ⟨⟨a, cap, rfl, hcap, hnone, hspot, hcells⟩, rfl, -⟩ := hv
    have hlen : (Lib.join (xs.map (·.data.toList)) sep.data.toList).length ≤ 140737488355328 := h2
    have fin : ∀ (e : Ending) (w' : World), e = .returned (.string ⟨(Lib.join (xs.map (·.data.toList)) sep.data.toList).toArray⟩) ∧ Below w.heap.size w w' → Post φ (tabOf []) w 0 (ifp (xs.length ≤ 140737488355328 ∧ (joinV sep xs).size ≤ 140737488355328) (vs (joinV sep xs))) e w' := by
      rintro e w' ⟨rfl, hb⟩
      exact post_plain hrel rfl rfl (fun φ T w => by simp only [ifp, VR, CR, vs]; rfl) hb
    match xs, hcells, fin, h1, hcap, hlen with
    | [], _, fin, _, _, _ =>
      refine (Any.strings_Join_none Tryz.lays156 join_extra a cap sep w).mono fun e w' h => fin _ _ ⟨h.1, ?_⟩
      rw [h.2]; exact Below.refl _ _
    | x :: xs, hcells, fin, h1, hcap, hlen =>
      obtain ⟨b, o, rfl, himm, hat⟩ := hcells (by simp)
      exact (Any.strings_Join Tryz.lays156 join_extra b o cap (x :: xs) sep w (fun j y hy => by
        have hfl := flat_str (x :: xs)
        refine hat j (.string y) ?_
        rw [hfl, List.getElem?_map, hy]; rfl) himm.1 h1 hcap hlen).mono fun e w' h => fin _ _ h
  · exact hp.elim
/-- A number that is read, or none. -/
def atoiV (s : ByteArray) : Option Int := match Lib.atoiAll s.data.toList with
  | .ok v => some v
  | _ => none
def atoiN (s : ByteArray) : Int := match Lib.atoiAll s.data.toList with
  | .ok v => v
  | .range => Lib.atoiSat s.data.toList
  | _ => 0
@[go_sem] def ctAtoi : Ct := ⟨false, [], fun args os => match args, os with
  | [.one (.val (.string s))], [] => ifp (s.size ≤ 281474976710656) (.tup [vi (atoiN s), match atoiV s with | some _ => .one (.val .nilIface) | none => .one .ifc])
  | _, _ => no⟩
theorem s_atoi_e : EnterOk Tryz.prog 57 := ⟨_, Tryz.func57, rfl, by decide⟩
theorem s_atoi : Sound Tryz.prog 57 ctAtoi := by
  intro args os hp φ w rargs hrel hv hn
  unfold ctAtoi at hp ⊢
  dsimp only at hp ⊢
  split at hp
  · rename_i s
    have hs : s.size ≤ 281474976710656 := hp
    obtain rfl := plainV_R (vals := [.string s]) hv
    have hg := glo0 hrel
    have err : ∀ n, n ∈ gloL → True := fun _ _ => trivial
    have var : ∀ (nm : String) (g : Nat), Tryz.prog.globalNamed nm = some g → (∃ c e f, w.heap[g]? = some (.cells c e f) ∧ ∃ t p, c = #[.iface t p]) → ∃ t p, w.var? Tryz.prog nm = some #[.iface t p] := by
      rintro nm g h1 ⟨c, e, f, h2, t, p, rfl⟩
      refine ⟨t, p, ?_⟩
      unfold World.var?
      rw [h1]
      simp only [Option.bind_some, h2]
    have fin : ∀ (e : Ending) (w' : World) (r : Value), e = .returned r → (∀ φ T w, VR φ T w (ifp (s.size ≤ 281474976710656) (.tup [vi (atoiN s), match atoiV s with | some _ => .one (.val .nilIface) | none => .one .ifc])).v r) → Below w.heap.size w w' → Post φ (tabOf []) w 0 (ifp (s.size ≤ 281474976710656) (.tup [vi (atoiN s), match atoiV s with | some _ => .one (.val .nilIface) | none => .one .ifc])) e w' := by
      rintro e w' r rfl h2 h3
      exact post_plain hrel rfl rfl h2 h3
    cases ha : Lib.atoiAll s.data.toList
    · rename_i v
      have e1 : atoiV s = some v := by unfold atoiV; rw [ha]
      have e2 : atoiN s = v := by unfold atoiN; rw [ha]
      refine (Any.strconv_Atoi_ok Tryz.lays172 s (by omega) v ha w).mono ?_
      rintro e w' ⟨he, hw⟩
      refine fin _ _ _ he (fun φ T w => ?_) ?_
      · simp only [ifp, e1, e2, VR, VRs, CR, vi]
        exact ⟨_, rfl, rfl, rfl, trivial⟩
      · rcases hw with rfl | ⟨t, rfl⟩
        · exact Below.refl _ _
        · exact Lib.bytesWorld_below _ _ _
    · have e1 : atoiV s = none := by unfold atoiV; rw [ha]
      have e2 : atoiN s = 0 := by unfold atoiN; rw [ha]
      obtain ⟨t, p, hvar⟩ := var "strconv.ErrSyntax" _ (by kernel_rfl) (hg (1, fun c => ∃ t p, c = #[.iface t p]) (by simp [gloL]))
      refine (Any.strconv_Atoi_syntax_var Tryz.lays172 s hs ha t p w hvar).mono ?_
      rintro e w' ⟨N, he, -, -, hb⟩
      refine fin _ _ _ he (fun φ T w => ?_) hb
      simp only [ifp, e1, e2, VR, VRs, CR, vi]
      exact ⟨_, rfl, rfl, ⟨_, _, rfl⟩, trivial⟩
    · have e1 : atoiV s = none := by unfold atoiV; rw [ha]
      have e2 : atoiN s = Lib.atoiSat s.data.toList := by unfold atoiN; rw [ha]
      obtain ⟨t, p, hvar⟩ := var "strconv.ErrRange" _ (by kernel_rfl) (hg (2, fun c => ∃ t p, c = #[.iface t p]) (by simp [gloL]))
      refine (Any.strconv_Atoi_range_var Tryz.lays172 s hs ha t p w hvar).mono ?_
      rintro e w' ⟨N, he, -, -, hb⟩
      refine fin _ _ _ he (fun φ T w => ?_) hb
      simp only [ifp, e1, e2, VR, VRs, CR, vi]
      exact ⟨_, rfl, rfl, ⟨_, _, rfl⟩, trivial⟩
  · exact hp.elim
end Go.Proofs.YtmnbgppmfbnamaaGreatDoor
/- Plain facts: texts of numbers and of pointers. -/
namespace Go.Proofs.YtmnbgppmfbnamaaGreatDoor
open Go.RowKit

theorem decS_list (n : Int) : (decS n).data.toList = Lib.itoa n := by simp [decS]
theorem itoa_not {c : UInt8} (h1 : c.toNat ≠ 45) (h2 : c.toNat < 48 ∨ 57 < c.toNat) (n : Int) : c ∉ (decS n).data.toList := by
  rw [decS_list]
  have h3 : ∀ u, c ∉ Lib.decDigits u := fun u hm => by
    have := decD_dig u c hm
    unfold isDig at this; omega
  unfold Lib.itoa
  split
  · rw [List.mem_cons, not_or]
    exact ⟨fun e => by subst e; exact h1 rfl, h3 _⟩
  · exact h3 _
theorem no_dot (n : Int) : (46 : UInt8) ∉ (decS n).data.toList := itoa_not (by decide) (by decide) n
theorem no_blank (n : Int) : (32 : UInt8) ∉ (decS n).data.toList := itoa_not (by decide) (by decide) n
theorem no_colon (n : Int) : (58 : UInt8) ∉ (decS n).data.toList := itoa_not (by decide) (by decide) n
theorem decS_inj {n m : Int} (h : decS n = decS m) : n = m := by
  have h := congrArg (fun s : ByteArray => s.data.toList) h
  simp only [decS_list] at h
  have hd : ∀ u v, (45 : UInt8) :: Lib.decDigits u ≠ Lib.decDigits v := fun u v e => by
    have := decD_dig v 45 (by rw [← e]; simp)
    revert this; decide
  unfold Lib.itoa at h
  split at h <;> split at h
  · injection h with _ h; have := decD_inj h; omega
  · exact absurd h (hd _ _)
  · exact absurd h.symm (hd _ _)
  · have := decD_inj h; omega
theorem decS_ne (n : Int) : decS n ≠ ⟨#[]⟩ := fun h => by
  have h := congrArg (fun s : ByteArray => s.data.toList) h
  simp only [decS_list] at h
  unfold Lib.itoa at h
  split at h
  · cases h
  · exact decD_ne _ h
theorem atoi_dig {u : Nat} (h : u < 10 ^ 17) : Lib.atoiAll (Lib.decDigits u) = .ok (u : Int) := by
  have hl := decD_len 16 u h
  have h1 : Lib.parseMag (Lib.decDigits u) = .ok u := by
    rw [Lib.parseMag_short _ (by omega)]
    unfold Lib.decNat
    rw [if_neg (by simpa using decD_ne u), decFrom_decD]; rfl
  cases hd : Lib.decDigits u with
  | nil => exact absurd hd (decD_ne u)
  | cons c r =>
    have hc := decD_dig u c (by rw [hd]; simp)
    unfold isDig at hc
    unfold Lib.atoiAll
    simp only
    rw [if_neg (by omega), ← hd, h1]
    simp only
    rw [if_neg (by omega), if_neg (by omega), if_neg (by omega)]
theorem atoi_dec {n : Int} (h0 : 0 ≤ n) (h1 : n < 10 ^ 17) : atoiV (decS n) = some n ∧ atoiN (decS n) = n := by
  obtain ⟨u, rfl⟩ := Int.eq_ofNat_of_zero_le h0
  have h := atoi_dig (u := u) (by omega)
  have e : Lib.itoa (u : Int) = Lib.decDigits u := by
    unfold Lib.itoa
    rw [if_neg (by omega), Int.toNat_natCast]
  unfold atoiV atoiN
  rw [decS_list, e, h]
  exact ⟨rfl, rfl⟩
theorem atoiV_in {s : ByteArray} {n : Int} (h : atoiV s = some n) : atoiN s = n ∧ -9223372036854775808 ≤ n ∧ n ≤ 9223372036854775807 := by
  unfold atoiV at h
  unfold atoiN
  cases ha : Lib.atoiAll s.data.toList
  · rw [ha] at h
    cases h
    have := Lib.atoiAll_bounds ha
    exact ⟨rfl, this.1, this.2⟩
  · rw [ha] at h; cases h
  · rw [ha] at h; cases h
/-- Numbers with points between them. -/
def pointsV (zs : List Int) : ByteArray := joinV ⟨#[46]⟩ (zs.map decS)
theorem joinL_len (s : Bs) (k : Nat) : ∀ xs : List Bs, (∀ x ∈ xs, x.length ≤ k) → (joinL s xs).length ≤ xs.length * (k + s.length)
  | [], _ => by simp [joinL]
  | [x], h => by
    have := h x (by simp)
    show x.length ≤ _
    simp; omega
  | x :: y :: r, h => by
    have h1 := h x (by simp)
    have h2 := joinL_len s k (y :: r) fun z hz => h z (List.mem_cons_of_mem _ hz)
    show (x ++ s ++ joinL s (y :: r)).length ≤ _
    rw [List.length_append, List.length_append, List.length_cons (a := x), Nat.succ_mul]
    omega
theorem joinV_size {sep : ByteArray} {k : Nat} {xs : List ByteArray} (h : ∀ x ∈ xs, x.size ≤ k) : (joinV sep xs).size ≤ xs.length * (k + sep.size) := by
  have h1 := joinL_len sep.data.toList k (xs.map (·.data.toList)) fun x hx => by
    obtain ⟨y, hy, rfl⟩ := List.mem_map.1 hx
    exact h y hy
  rw [List.length_map] at h1
  show (Lib.join _ _).toArray.size ≤ _
  rw [List.size_toArray, lib_join]
  exact h1
theorem pointsV_size {zs : List Int} (h : ∀ z ∈ zs, -9223372036854775808 ≤ z ∧ z ≤ 9223372036854775807) : (pointsV zs).size ≤ zs.length * 21 := by
  have := joinV_size (sep := ⟨#[46]⟩) (k := 20) (xs := zs.map decS) fun x hx => by
    obtain ⟨z, hz, rfl⟩ := List.mem_map.1 hx
    exact decS_size (h z hz).1 (h z hz).2
  rwa [List.length_map] at this
theorem pointsV_split {zs : List Int} (h : zs ≠ []) : splitV 46 (pointsV zs) = zs.map decS :=
  splitV_join (by simpa using h) fun w hw => by
    obtain ⟨z, -, rfl⟩ := List.mem_map.1 hw
    exact no_dot z
theorem pointsV_three (a b c : Int) : pointsV [a, b, c] = decS a ++ ⟨#[46]⟩ ++ decS b ++ ⟨#[46]⟩ ++ decS c := joinV_three 46 _ _ _
/-- A pointer's text. -/
def ptrT (p : Ptr) : ByteArray := if ptrOkB p = true then (if p.at_ = 0 then ⟨#[45]⟩ else pointsV [p.at_, p.sum, p.birth]) else ⟨#[]⟩
theorem ptrOk_cases {p : Ptr} (h : ptrOkB p = true) : p = ⟨0, 0, 0⟩ ∨ (1 ≤ p.at_ ∧ p.at_ ≤ 119 ∧ 0 ≤ p.sum ∧ p.sum ≤ 65520 ∧ 0 ≤ p.birth ∧ p.birth ≤ 1000000) := by
  unfold ptrOkB at h
  simp only [Bool.or_eq_true, Bool.and_eq_true, decide_eq_true_eq] at h
  rcases h with h | h
  · left; cases p; simp only at h; simp [h]
  · right; omega
theorem ptrOk_real {p : Ptr} (h : realB p = true) : ptrOkB p = true ∧ p.at_ ≠ 0 ∧ ptrT p = pointsV [p.at_, p.sum, p.birth] := by
  unfold realB at h
  rw [Bool.and_eq_true] at h
  have h2 : p.at_ ≠ 0 := by simpa using h.2
  exact ⟨h.1, h2, by unfold ptrT; rw [if_pos h.1, if_neg h2]⟩
theorem ptrT_size (p : Ptr) : (ptrT p).size ≤ 63 := by
  unfold ptrT
  split
  · rename_i h
    split
    · show 1 ≤ 63; omega
    · have hc := ptrOk_cases h
      have := pointsV_size (zs := [p.at_, p.sum, p.birth]) fun z hz => by
        simp only [List.mem_cons, List.not_mem_nil, or_false] at hz
        rcases hc with rfl | hc
        · simp only at hz; omega
        · omega
      simpa using this
  · exact Nat.zero_le _
theorem ptrT_inj {p q : Ptr} (hp : ptrOkB p = true) (hq : ptrOkB q = true) (h : ptrT p = ptrT q) : p = q := by
  have hs : ∀ r : Ptr, ptrOkB r = true → r.at_ ≠ 0 → splitV 46 (ptrT r) = [decS r.at_, decS r.sum, decS r.birth] := fun r h1 h2 => by
    unfold ptrT
    rw [if_pos h1, if_neg h2, pointsV_split (by simp)]; rfl
  have hz : ∀ r : Ptr, ptrOkB r = true → r.at_ = 0 → r = ⟨0, 0, 0⟩ ∧ splitV 46 (ptrT r) = [⟨#[45]⟩] := fun r h1 h2 => by
    rcases ptrOk_cases h1 with rfl | h3
    · exact ⟨rfl, by unfold ptrT; rw [if_pos h1, if_pos rfl]; decide⟩
    · omega
  by_cases h1 : p.at_ = 0 <;> by_cases h2 : q.at_ = 0
  · rw [(hz p hp h1).1, (hz q hq h2).1]
  · have h3 := (hz p hp h1).2
    rw [h, hs q hq h2] at h3
    simp at h3
  · have h3 := (hz q hq h2).2
    rw [← h, hs p hp h1] at h3
    simp at h3
  · have h3 := hs p hp h1
    rw [h, hs q hq h2] at h3
    simp only [List.cons.injEq, and_true] at h3
    obtain ⟨e1, e2, e3⟩ := h3
    cases p; cases q
    simp only at e1 e2 e3
    rw [decS_inj e1, decS_inj e2, decS_inj e3]
/-- The pointer with a text. -/
noncomputable def ptrReadV (t : ByteArray) : Option Ptr := open Classical in if h : ∃ p, ptrOkB p = true ∧ ptrT p = t then some (Classical.choose h) else none
theorem ptrRead_some {t : ByteArray} {p : Ptr} : ptrReadV t = some p ↔ ptrOkB p = true ∧ ptrT p = t := by
  unfold ptrReadV
  constructor
  · intro h
    split at h
    · rename_i hx
      cases h
      exact Classical.choose_spec hx
    · cases h
  · rintro ⟨h1, h2⟩
    have hx : ∃ p, ptrOkB p = true ∧ ptrT p = t := ⟨p, h1, h2⟩
    rw [dif_pos hx]
    have h3 := Classical.choose_spec hx
    rw [ptrT_inj h3.1 h1 (h3.2.trans h2.symm)]
theorem ptrRead_none {t : ByteArray} (h : ∀ p, ptrOkB p = true → ptrT p = t → False) : ptrReadV t = none := by
  unfold ptrReadV
  rw [dif_neg fun ⟨p, h1, h2⟩ => h p h1 h2]
theorem ptrRead_dash : ptrReadV ⟨#[45]⟩ = some ⟨0, 0, 0⟩ := ptrRead_some.2 ⟨by decide, by unfold ptrT; rw [if_pos (by decide), if_pos rfl]⟩
/-- Three numbers, read. -/
def thr (t : ByteArray) : Option (Int × Int × Int) := match splitV 46 t with
  | [x, y, z] => (match atoiV x, atoiV y, atoiV z with
    | some a, some b, some c => some (a, b, c)
    | _, _, _ => none)
  | _ => none
/-- The three ways of a text that is no dash. -/
theorem thr_read {t : ByteArray} (h : t ≠ ⟨#[45]⟩) : ptrReadV t = (match thr t with
  | some (a, b, c) => if pointsV [a, b, c] = t ∧ realB ⟨a, b, c⟩ = true then some ⟨a, b, c⟩ else none
  | none => none) := by
  have hk : ∀ p, ptrOkB p = true → ptrT p = t → thr t = some (p.at_, p.sum, p.birth) ∧ pointsV [p.at_, p.sum, p.birth] = t ∧ realB p = true := by
    intro p h1 h2
    have h3 : p.at_ ≠ 0 := fun h3 => h (by rw [← h2]; unfold ptrT; rw [if_pos h1, if_pos h3])
    have h4 : pointsV [p.at_, p.sum, p.birth] = t := by rw [← h2]; unfold ptrT; rw [if_pos h1, if_neg h3]
    refine ⟨?_, h4, by unfold realB; rw [h1]; simpa using h3⟩
    rcases ptrOk_cases h1 with rfl | hc
    · exact absurd rfl h3
    · unfold thr
      rw [← h4, pointsV_split (by simp)]
      simp only [List.map_cons, List.map_nil]
      rw [(atoi_dec (n := p.at_) (by omega) (by omega)).1, (atoi_dec (n := p.sum) (by omega) (by omega)).1, (atoi_dec (n := p.birth) (by omega) (by omega)).1]
  cases hr : ptrReadV t with
  | some p =>
    obtain ⟨h1, h2⟩ := ptrRead_some.1 hr
    obtain ⟨h3, h4, h5⟩ := hk p h1 h2
    rw [h3]
    simp only
    rw [if_pos ⟨h4, h5⟩]
  | none =>
    cases ht : thr t with
    | none => rfl
    | some x =>
      obtain ⟨a, b, c⟩ := x
      simp only
      rw [if_neg]
      rintro ⟨h1, h2⟩
      obtain ⟨h3, h4, h5⟩ := ptrOk_real h2
      have := ptrRead_some.2 ⟨h3, h5.trans h1⟩
      rw [hr] at this
      cases this
end Go.Proofs.YtmnbgppmfbnamaaGreatDoor
/- Functions: texts of pointers. -/
namespace Go.Proofs.YtmnbgppmfbnamaaGreatDoor
open Go.RowKit

@[go_sem] def ctPoints : Ct := ⟨false, [[some .int]], fun args os => match args, os with
  | [.one (.isl .int zs)], [] => ifp (zs.length ≤ 1000 ∧ ∀ i : Nat, -9223372036854775808 ≤ zs.getD i ET.int.dflt ∧ zs.getD i ET.int.dflt ≤ 9223372036854775807) (vs (pointsV zs))
  | _, _ => no⟩
theorem s_points_e : EnterOk Tryz.prog 49 := ⟨_, Tryz.func49, rfl, by decide⟩
@[go_sem] def s_points_lv : List (List Nat) := [[0], [0, 3], [3, 6, 7, 8], [3, 6, 7, 8, 9], [3, 5, 6, 7, 8], [3, 6, 7, 8], [3, 6, 7, 8], [2]]
@[go_sem] noncomputable def s_points_K : Known := ((Known.nil).cons 53 ctItoa s_itoa s_itoa_e).cons 52 ctJoin s_join s_join_e
set_option maxHeartbeats 8000000 in
theorem s_points : Sound Tryz.prog 49 ctPoints := by
  have ke := s_points_K.env []
  have kl : Lives s_points_lv := trivial
  refine sound_intro (E := ⟨ti, s_points_K.Γ, []⟩) ke Tryz.func49 Tryz.ntmps49 rfl (rs := [.tmp 2]) rfl ?_
  intro args os hp
  unfold ctPoints at hp ⊢
  dsimp only at hp ⊢
  split at hp
  · rename_i zs
    obtain ⟨hlen, hin⟩ : zs.length ≤ 1000 ∧ ∀ i : Nat, -9223372036854775808 ≤ zs.getD i ET.int.dflt ∧ zs.getD i ET.int.dflt ≤ 9223372036854775807 := hp
    refine ⟨by simp, fun φ0 w0 => ?_⟩
    refine goh trivial ?_
    refine W_for zs.length (fun i => True) (fun i => ⟨[(3, .one (.osl .str 0 0 i)), (6, .one (.isl .int zs)), (7, vi zs.length), (8, vi i)], [some (.arr .str ((zs.take i).map decS))], []⟩) [none] (leh trivial) trivial fun i hi _ => ?_
    have hl : ((zs.take i).map decS).length = i := by rw [List.length_map, List.length_take]; omega
    refine goh trivial ?_
    refine W_cnd ?_ ?_ <;> (try simp only [cnd_r]) <;> intro hlt
    · have hin2 := hin i
      have hs : (zs.take (i + 1)).map decS = (zs.take i).map decS ++ [decS (zs.getD i ET.int.dflt)] := by
        have e : zs.getD i ET.int.dflt = zs[i] := by simp [show i < zs.length by omega]
        rw [e, List.take_add_one, List.getElem?_eq_getElem (by omega), List.map_append]; rfl
      have ht3 : ((zs.take i).map decS).take i = (zs.take i).map decS := List.take_of_length_le (by omega)
      refine goh (And.intro hl (And.intro hin2 ht3)) ?_
      exact ⟨[some 2], by omega, leh (And.intro hs hl), trivial⟩
    · obtain rfl : i = zs.length := by omega
      have ht : zs.take zs.length = zs := List.take_length
      rw [ht] at hl ⊢
      have e : pointsV zs = joinV ⟨#[46]⟩ (zs.map decS) := rfl
      have hz := pointsV_size (zs := zs) fun z hz => by
        obtain ⟨j, hj, rfl⟩ := List.getElem_of_mem hz
        have := hin j
        rwa [show zs.getD j ET.int.dflt = zs[j] by simp [hj]] at this
      rw [e] at hz
      have hj : (zs.map decS).length ≤ 140737488355328 ∧ (joinV ⟨#[46]⟩ (zs.map decS)).size ≤ 140737488355328 := ⟨by omega, by omega⟩
      have ht2 : (zs.map decS).take zs.length = zs.map decS := List.take_of_length_le (by omega)
      refine goh (And.intro hl (And.intro hj ht2)) ?_
      exact finh [] e
  · simp [no, ifp] at hp
@[go_sem] def ctPtrText : Ct := ⟨false, [], fun args os => match args, os with
  | [.agg [.val (.int .i64 a), .val (.int .i64 s), .val (.int .i64 b)]], [] => is (vs (ptrT ⟨a, s, b⟩))
  | _, _ => no⟩
theorem three_in {a s b : Int} (h : ptrOkB ⟨a, s, b⟩ = true) (i : Nat) : -9223372036854775808 ≤ [a, s, b].getD i ET.int.dflt ∧ [a, s, b].getD i ET.int.dflt ≤ 9223372036854775807 := by
  have hd : ET.int.dflt = (0 : Int) := rfl
  rcases ptrOk_cases h with h | h
  · cases h
    match i with
    | 0 => simp
    | 1 => simp
    | 2 => simp
    | i + 3 => simp [hd]
  · simp only at h
    match i with
    | 0 => simp; omega
    | 1 => simp; omega
    | 2 => simp; omega
    | i + 3 => simp [hd]
theorem s_ptrText_e : EnterOk Tryz.prog 280 := ⟨_, Tryz.func280, rfl, by decide⟩
@[go_sem] def s_ptrText_lv : List (List Nat) := [[1], [1, 3], [2], [1, 7], [2], [2]]
@[go_sem] noncomputable def s_ptrText_K : Known := ((Known.nil).cons 223 ctPtrOk s_ptrOk s_ptrOk_e).cons 49 ctPoints s_points s_points_e
set_option maxHeartbeats 8000000 in
theorem s_ptrText : Sound Tryz.prog 280 ctPtrText := by
  have ke := s_ptrText_K.env []
  have kl : Lives s_ptrText_lv := trivial
  refine sound_intro (E := ⟨ti, s_ptrText_K.Γ, []⟩) ke Tryz.func280 Tryz.ntmps280 rfl (rs := [.tmp 2]) rfl ?_
  intro args os hp
  unfold ctPtrText at hp ⊢
  dsimp only at hp ⊢
  split at hp
  · rename_i a s b
    refine ⟨by simp, fun φ0 w0 => ?_⟩
    clear hp
    have nt : (!true) = false := rfl
    have nf : (!false) = true := rfl
    cases hk : ptrOkB ⟨a, s, b⟩ with
    | false =>
      have e : ptrT ⟨a, s, b⟩ = ⟨#[]⟩ := by unfold ptrT; rw [if_neg (by rw [hk]; decide)]
      refine goh (And.intro hk nf) ?_
      refine W_cnd ?_ ?_ <;> intro hlit <;> try (cases hlit; done)
      refine goh trivial ?_
      exact finh [] e
    | true =>
      refine goh (And.intro hk nt) ?_
      refine W_cnd ?_ ?_ <;> intro hlit <;> try (cases hlit; done)
      refine goh trivial ?_
      refine W_cnd ?_ ?_ <;> (try simp only [cnd_r]) <;> intro h0
      · have e : ptrT ⟨a, s, b⟩ = ⟨#[45]⟩ := by unfold ptrT; rw [if_pos hk, if_pos h0]
        refine goh trivial ?_
        exact finh [] e
      · simp only [beq_eq_false_iff_ne, ne_eq] at h0
        have e : ptrT ⟨a, s, b⟩ = pointsV [a, s, b] := by unfold ptrT; rw [if_pos hk, if_neg h0]
        have hin := three_in hk
        refine goh hin ?_
        exact finh [] e
  · exact hp.elim
theorem s_specPtrText_e : EnterOk Tryz.prog 298 := ⟨_, Tryz.func298, rfl, by decide⟩
@[go_sem] def s_specPtrText_lv : List (List Nat) := [[1], [1, 5], [2], [1, 8], [2], [2]]
@[go_sem] noncomputable def s_specPtrText_K : Known := ((Known.nil).cons 158 ctPtrOk s_specPtrOk s_specPtrOk_e).cons 61 ctDecV s_dec2 s_dec2_e
set_option maxHeartbeats 8000000 in
theorem s_specPtrText : Sound Tryz.prog 298 ctPtrText := by
  have ke := s_specPtrText_K.env []
  have kl : Lives s_specPtrText_lv := trivial
  refine sound_intro (E := ⟨ti, s_specPtrText_K.Γ, []⟩) ke Tryz.func298 Tryz.ntmps298 rfl (rs := [.tmp 2]) rfl ?_
  intro args os hp
  unfold ctPtrText at hp ⊢
  dsimp only at hp ⊢
  split at hp
  · rename_i a s b
    refine ⟨by simp, fun φ0 w0 => ?_⟩
    clear hp
    have nt : (!true) = false := rfl
    have nf : (!false) = true := rfl
    cases hk : ptrOkB ⟨a, s, b⟩ with
    | false =>
      have e : ptrT ⟨a, s, b⟩ = ⟨#[]⟩ := by unfold ptrT; rw [if_neg (by rw [hk]; decide)]
      refine goh (And.intro hk nf) ?_
      refine W_cnd ?_ ?_ <;> intro hlit <;> try (cases hlit; done)
      refine goh trivial ?_
      exact finh [] e
    | true =>
      refine goh (And.intro hk nt) ?_
      refine W_cnd ?_ ?_ <;> intro hlit <;> try (cases hlit; done)
      refine goh trivial ?_
      refine W_cnd ?_ ?_ <;> (try simp only [cnd_r]) <;> intro h0
      · have e : ptrT ⟨a, s, b⟩ = ⟨#[45]⟩ := by unfold ptrT; rw [if_pos hk, if_pos h0]
        refine goh trivial ?_
        exact finh [] e
      · simp only [beq_eq_false_iff_ne, ne_eq] at h0
        have e : ptrT ⟨a, s, b⟩ = decS a ++ ⟨#[46]⟩ ++ decS s ++ ⟨#[46]⟩ ++ decS b := by unfold ptrT; rw [if_pos hk, if_neg h0, pointsV_three]
        have hin := three_in hk
        have i0 := hin 0
        have i1 := hin 1
        have i2 := hin 2
        simp only [List.getD_cons_zero, List.getD_cons_succ] at i0 i1 i2
        have z0 := decS_size i0.1 i0.2
        have z1 := decS_size i1.1 i1.2
        have z2 := decS_size i2.1 i2.2
        have hc1 : (⟨#[46]⟩ : ByteArray).size = 1 := rfl
        refine goh trivial ?_
        exact finh [] e
  · exact hp.elim
end Go.Proofs.YtmnbgppmfbnamaaGreatDoor
/- Functions: the digits of bytes, sealed texts. -/
namespace Go.Proofs.YtmnbgppmfbnamaaGreatDoor
open Go.RowKit

def hexs : ByteArray := ⟨#[48, 49, 50, 51, 52, 53, 54, 55, 56, 57, 97, 98, 99, 100, 101, 102]⟩
def hexd (k : Nat) : UInt8 := hexs.data.getD k 0
def hexN (s : ByteArray) : Nat → List UInt8
  | 0 => []
  | i + 1 => hexN s i ++ [hexd ((s.data.getD i 0).toNat / 16), hexd ((s.data.getD i 0).toNat % 16)]
theorem hexN_len (s : ByteArray) : ∀ i, (hexN s i).length = 2 * i
  | 0 => rfl
  | i + 1 => by unfold hexN; rw [List.length_append, hexN_len s i]; simp only [List.length_cons, List.length_nil]; omega
def hexV (s : ByteArray) : ByteArray := ⟨(hexN s s.size).toArray⟩
theorem nib_hi (b : UInt8) : ((b.toNat : Int)).fdiv (2 ^ min 4 8) = ((b.toNat / 16 : Nat) : Int) := by
  rw [Int.fdiv_eq_ediv_of_nonneg _ (by decide)]
  show (b.toNat : Int) / 16 = _
  omega
theorem nib_lo (b : UInt8) : IntKind.u8.wrap (andZ .u8 b.toNat 15) = ((b.toNat % 16 : Nat) : Int) := by
  have h : ∀ k : Fin 256, IntKind.u8.wrap (andZ .u8 ((k.val : Nat) : Int) 15) = ((k.val % 16 : Nat) : Int) := by decide +kernel
  exact h ⟨b.toNat, b.toNat_lt⟩
theorem hexd_at (k : Nat) : (#[48, 49, 50, 51, 52, 53, 54, 55, 56, 57, 97, 98, 99, 100, 101, 102] : Array UInt8).getD k 0 = hexd k := rfl
@[go_sem] def ctHex : Ct := ⟨false, [], fun args os => match args, os with
  | [.one (.val (.string s))], [] => ifp (s.size ≤ 1000000000) (vs (hexV s))
  | _, _ => no⟩
theorem s_hex_e : EnterOk Tryz.prog 50 := ⟨_, Tryz.func50, rfl, by decide⟩
@[go_sem] def s_hex_lv : List (List Nat) := [[0], [0, 3], [0, 3, 6, 7], [0, 3, 6, 7, 8], [0, 3, 4, 6, 7], [0, 3, 6, 7], [0, 3, 6, 7], [2]]
@[go_sem] noncomputable def s_hex_K : Known := Known.nil
set_option maxHeartbeats 8000000 in
theorem s_hex : Sound Tryz.prog 50 ctHex := by
  have ke := s_hex_K.env []
  have kl : Lives s_hex_lv := trivial
  refine sound_intro (E := ⟨ti, s_hex_K.Γ, []⟩) ke Tryz.func50 Tryz.ntmps50 rfl (rs := [.tmp 2]) rfl ?_
  intro args os hp
  unfold ctHex at hp ⊢
  dsimp only at hp ⊢
  split at hp
  · rename_i s
    have hlen : s.size ≤ 1000000000 := hp
    refine ⟨by simp, fun φ0 w0 => ?_⟩
    refine goh trivial ?_
    refine W_for s.size (fun i => True) (fun i => ⟨[(0, vs s), (3, .one (.osl .byte 0 0 (hexN s i).length)), (6, vi s.size), (7, vi i)], [some (.arr .byte (hexN s i))], []⟩) [none] (leh trivial) trivial fun i hi _ => ?_
    have hl := hexN_len s i
    refine goh trivial ?_
    refine W_cnd ?_ ?_ <;> (try simp only [cnd_r]) <;> intro hlt
    · have h1 := nib_hi (s.data.getD i 0)
      have h2 := nib_lo (s.data.getD i 0)
      have hb := (s.data.getD i 0).toNat_lt
      have hs : hexN s (i + 1) = hexN s i ++ [hexd ((s.data.getD i 0).toNat / 16), hexd ((s.data.getD i 0).toNat % 16)] := rfl
      have hda : ∀ k : Nat, (#[48, 49, 50, 51, 52, 53, 54, 55, 56, 57, 97, 98, 99, 100, 101, 102] : Array UInt8).getD k 0 = hexd k := hexd_at
      have hof : ∀ x : UInt8, UInt8.ofNat x.toNat = x := fun x => UInt8.ofNat_toNat
      refine goh (And.intro h1 (And.intro h2 (And.intro hda hof))) ?_
      exact ⟨[some 2], by omega, leh hs, trivial⟩
    · obtain rfl : i = s.size := by omega
      have e : hexV s = ⟨(hexN s s.size).toArray⟩ := rfl
      refine goh trivial ?_
      exact finh [] e
  · simp [no, ifp] at hp
@[go_sem] def ctDigit : Ct := ⟨false, [], fun args os => match args, os with
  | [.one (.val (.int .i64 n))], [] => ifp (0 ≤ n ∧ n < 16) (.one (.val (.int .u8 (hexd n.toNat).toNat)))
  | _, _ => no⟩
theorem s_digit_e : EnterOk Tryz.prog 134 := ⟨_, Tryz.func134, rfl, by decide⟩
@[go_sem] def s_digit_lv : List (List Nat) := [[0], [2]]
@[go_sem] noncomputable def s_digit_K : Known := Known.nil
set_option maxHeartbeats 8000000 in
theorem s_digit : Sound Tryz.prog 134 ctDigit := by
  have ke := s_digit_K.env []
  have kl : Lives s_digit_lv := trivial
  refine sound_intro (E := ⟨ti, s_digit_K.Γ, []⟩) ke Tryz.func134 Tryz.ntmps134 rfl (rs := [.tmp 2]) rfl ?_
  intro args os hp
  unfold ctDigit at hp ⊢
  dsimp only at hp ⊢
  split at hp
  · rename_i n
    obtain ⟨h1, h2⟩ : 0 ≤ n ∧ n < 16 := hp
    refine ⟨by simp, fun φ0 w0 => ?_⟩
    have hda : ∀ k : Nat, (#[48, 49, 50, 51, 52, 53, 54, 55, 56, 57, 97, 98, 99, 100, 101, 102] : Array UInt8).getD k 0 = hexd k := hexd_at
    refine goh hda ?_
    exact finh [] trivial
  · simp [no, ifp] at hp
theorem s_specHex_e : EnterOk Tryz.prog 60 := ⟨_, Tryz.func60, rfl, by decide⟩
@[go_sem] def s_specHex_lv : List (List Nat) := [[0], [0, 3], [0, 3, 4], [0, 3, 4, 9], [0, 3, 4], [0, 3, 4], [2]]
@[go_sem] noncomputable def s_specHex_K : Known := (Known.nil).cons 134 ctDigit s_digit s_digit_e
set_option maxHeartbeats 8000000 in
theorem s_specHex : Sound Tryz.prog 60 ctHex := by
  have ke := s_specHex_K.env []
  have kl : Lives s_specHex_lv := trivial
  refine sound_intro (E := ⟨ti, s_specHex_K.Γ, []⟩) ke Tryz.func60 Tryz.ntmps60 rfl (rs := [.tmp 2]) rfl ?_
  intro args os hp
  unfold ctHex at hp ⊢
  dsimp only at hp ⊢
  split at hp
  · rename_i s
    have hlen : s.size ≤ 1000000000 := hp
    refine ⟨by simp, fun φ0 w0 => ?_⟩
    refine goh trivial ?_
    refine W_for s.size (fun i => True) (fun i => ⟨[(0, vs s), (3, .one (.osl .byte 0 0 (hexN s i).length)), (4, vi i)], [some (.arr .byte (hexN s i))], []⟩) [some 0] (leh trivial) trivial fun i hi _ => ?_
    have hl := hexN_len s i
    refine goh trivial ?_
    refine W_cnd ?_ ?_ <;> (try simp only [cnd_r]) <;> intro hlt
    · have h1 : ((s.data.getD i 0).toNat : Int).tdiv 16 = (((s.data.getD i 0).toNat / 16 : Nat) : Int) := (Int.ofNat_tdiv _ 16).symm
      have h2 : ((s.data.getD i 0).toNat : Int).tmod 16 = (((s.data.getD i 0).toNat % 16 : Nat) : Int) := (Int.ofNat_tmod _ 16).symm
      have hb := (s.data.getD i 0).toNat_lt
      have w2 : IntKind.i64.wrap ((s.data.getD i 0).toNat : Int) = ((s.data.getD i 0).toNat : Int) := wrap_id _ (by omega) (by omega)
      have w1 : IntKind.i64.wrap (((s.data.getD i 0).toNat / 16 : Nat) : Int) = (((s.data.getD i 0).toNat / 16 : Nat) : Int) := wrap_id _ (by omega) (by omega)
      have hs : hexN s (i + 1) = hexN s i ++ [hexd ((s.data.getD i 0).toNat / 16), hexd ((s.data.getD i 0).toNat % 16)] := rfl
      have hof : ∀ x : UInt8, UInt8.ofNat x.toNat = x := fun x => UInt8.ofNat_toNat
      refine goh (And.intro w2 (And.intro h1 (And.intro h2 (And.intro w1 hof)))) ?_
      exact ⟨[some 2], by omega, leh hs, trivial⟩
    · obtain rfl : i = s.size := by omega
      have e : hexV s = ⟨(hexN s s.size).toArray⟩ := rfl
      refine goh trivial ?_
      exact finh [] e
  · simp [no, ifp] at hp
theorem hexV_size (s : ByteArray) : (hexV s).size = 2 * s.size := by
  show (hexN s s.size).toArray.size = _
  rw [List.size_toArray, hexN_len]
noncomputable def sealV (s : ByteArray) : ByteArray := if 400 < s.size then ⟨#[]⟩ else decS (sumOf s) ++ ⟨#[58]⟩ ++ s
@[go_sem] noncomputable def ctSeal : Ct := ⟨false, [], fun args os => match args, os with
  | [.one (.val (.string s))], [] => is (vs (sealV s))
  | _, _ => no⟩
theorem s_seal_e : EnterOk Tryz.prog 51 := ⟨_, Tryz.func51, rfl, by decide⟩
@[go_sem] def s_seal_lv : List (List Nat) := [[0], [0, 5], [2], [2]]
@[go_sem] noncomputable def s_seal_K : Known := ((Known.nil).cons 124 ctSumOf s_sumOf s_sumOf_e).cons 53 ctItoa s_itoa s_itoa_e
set_option maxHeartbeats 8000000 in
theorem s_seal : Sound Tryz.prog 51 ctSeal := by
  have ke := s_seal_K.env []
  have kl : Lives s_seal_lv := trivial
  refine sound_intro (E := ⟨ti, s_seal_K.Γ, []⟩) ke Tryz.func51 Tryz.ntmps51 rfl (rs := [.tmp 2]) rfl ?_
  intro args os hp
  unfold ctSeal at hp ⊢
  dsimp only at hp ⊢
  split at hp
  · rename_i s
    refine ⟨by simp, fun φ0 w0 => ?_⟩
    refine goh trivial ?_
    refine W_cnd ?_ ?_ <;> (try simp only [cnd_r]) <;> intro hc
    · have e : sealV s = ⟨#[]⟩ := by unfold sealV; rw [if_pos (by omega)]
      refine goh trivial ?_
      exact finh [] e
    · have e : sealV s = decS (sumOf s) ++ ⟨#[58]⟩ ++ s := by unfold sealV; rw [if_neg (by omega)]
      have h1 := sumAt_lt s s.size
      have h2 : sumAt s s.size = sumOf s := rfl
      have h3 := decS_size (n := sumOf s) (by omega) (by omega)
      have h4 : (⟨#[58]⟩ : ByteArray).size = 1 := rfl
      refine goh trivial ?_
      exact finh [] e
  · simp [no, is, ifp] at hp
theorem s_specSeal_e : EnterOk Tryz.prog 62 := ⟨_, Tryz.func62, rfl, by decide⟩
@[go_sem] def s_specSeal_lv : List (List Nat) := [[0], [0, 5], [2], [2]]
@[go_sem] noncomputable def s_specSeal_K : Known := ((Known.nil).cons 135 ctSumOf s_specSum s_specSum_e).cons 61 ctDecV s_dec2 s_dec2_e
set_option maxHeartbeats 8000000 in
theorem s_specSeal : Sound Tryz.prog 62 ctSeal := by
  have ke := s_specSeal_K.env []
  have kl : Lives s_specSeal_lv := trivial
  refine sound_intro (E := ⟨ti, s_specSeal_K.Γ, []⟩) ke Tryz.func62 Tryz.ntmps62 rfl (rs := [.tmp 2]) rfl ?_
  intro args os hp
  unfold ctSeal at hp ⊢
  dsimp only at hp ⊢
  split at hp
  · rename_i s
    refine ⟨by simp, fun φ0 w0 => ?_⟩
    refine goh trivial ?_
    refine W_cnd ?_ ?_ <;> (try simp only [cnd_r]) <;> intro hc
    · have e : sealV s = ⟨#[]⟩ := by unfold sealV; rw [if_pos (by omega)]
      refine goh trivial ?_
      exact finh [] e
    · have e : sealV s = decS (sumOf s) ++ ⟨#[58]⟩ ++ s := by unfold sealV; rw [if_neg (by omega)]
      have h1 := sumAt_lt s s.size
      have h2 : sumAt s s.size = sumOf s := rfl
      have h3 := decS_size (n := sumOf s) (by omega) (by omega)
      have h4 : (⟨#[58]⟩ : ByteArray).size = 1 := rfl
      refine goh trivial ?_
      exact finh [] e
  · simp [no, is, ifp] at hp
end Go.Proofs.YtmnbgppmfbnamaaGreatDoor
/- Functions: pointers are read. -/
namespace Go.Proofs.YtmnbgppmfbnamaaGreatDoor
open Go.RowKit

theorem cut_size (c : UInt8) : ∀ (l : Bs), ∀ w ∈ cutL c l, w.length ≤ l.length
  | [], w, hw => by simp [cutL] at hw; subst hw; exact Nat.le_refl _
  | b :: r, w, hw => by
    have ih := cut_size c r
    unfold cutL at hw
    split at hw
    · rcases List.mem_cons.1 hw with rfl | hw
      · exact Nat.zero_le _
      · exact Nat.le_trans (ih w hw) (by simp)
    · cases hc : cutL c r with
      | nil => exact absurd hc (cutL_ne c r)
      | cons v vs =>
        rw [hc] at hw ih
        rcases List.mem_cons.1 hw with rfl | hw
        · have := ih v (by simp); simp; omega
        · exact Nat.le_trans (ih w (by simp [hw])) (by simp)
theorem splitV_size {c : UInt8} {s w : ByteArray} (h : w ∈ splitV c s) : w.size ≤ s.size := by
  unfold splitV at h
  obtain ⟨l, hl, rfl⟩ := List.mem_map.1 h
  exact cut_size c _ l hl
@[go_sem] noncomputable def ctThree : Ct := ⟨false, [], fun args os => match args, os with
  | [.one (.val (.string t))], [] => ifp (t.size ≤ 1000000) (match thr t with | some (a, b, c) => .tup [vi a, vi b, vi c, vb (same (pointsV [a, b, c]) t)] | none => .tup [vi 0, vi 0, vi 0, vb false])
  | _, _ => no⟩
@[go_sem] noncomputable def ctPtrRead : Ct := ⟨false, [], fun args os => match args, os with
  | [.one (.val (.string t))], [] => ifp (t.size ≤ 1000000) (match ptrReadV t with | some p => .tup [.agg [.val (.int .i64 p.at_), .val (.int .i64 p.sum), .val (.int .i64 p.birth)], vb true] | none => .tup [.agg [.val (.int .i64 0), .val (.int .i64 0), .val (.int .i64 0)], vb false])
  | _, _ => no⟩
/-- A sealed text, opened. -/
noncomputable def openV (s : ByteArray) : ByteArray × Bool := if (cutV 58 s).2.2 = true ∧ same (sealV (cutV 58 s).2.1) s = true then ((cutV 58 s).2.1, true) else (⟨#[]⟩, false)
@[go_sem] noncomputable def ctSumOpen : Ct := ⟨false, [], fun args os => match args, os with
  | [.one (.val (.string s))], [] => ifp (s.size ≤ 1000000) (.tup [vs (openV s).1, vb (openV s).2])
  | _, _ => no⟩
theorem s_sumOpen_e : EnterOk Tryz.prog 54 := ⟨_, Tryz.func54, rfl, by decide⟩
@[go_sem] def s_sumOpen_lv : List (List Nat) := [[0], [0, 5, 6], [5, 20], [2, 3], [2, 3]]
@[go_sem] noncomputable def s_sumOpen_K : Known := ((Known.nil).cons 56 ctCut s_cut s_cut_e).cons 51 ctSeal s_seal s_seal_e
set_option maxHeartbeats 8000000 in
theorem s_sumOpen : Sound Tryz.prog 54 ctSumOpen := by
  have ke := s_sumOpen_K.env []
  have kl : Lives s_sumOpen_lv := trivial
  refine sound_intro (E := ⟨ti, s_sumOpen_K.Γ, []⟩) ke Tryz.func54 Tryz.ntmps54 rfl (rs := [.tmp 2, .tmp 3]) rfl ?_
  intro args os hp
  unfold ctSumOpen at hp ⊢
  dsimp only at hp ⊢
  split at hp
  · rename_i s
    refine ⟨by simp, fun φ0 w0 => ?_⟩
    have hlen : s.size ≤ 1000000 := hp
    have nt : (!true) = false := rfl
    have nf : (!false) = true := rfl
    have hsp : (⟨#[58]⟩ : ByteArray).data.getD 0 0 = 58 := rfl
    have hsz : (⟨#[58]⟩ : ByteArray).size = 1 := rfl
    obtain ⟨⟨b, t, ok⟩, hx⟩ : ∃ x, cutV 58 s = x := ⟨_, rfl⟩
    have e : openV s = if ok = true ∧ same (sealV t) s = true then (t, true) else (⟨#[]⟩, false) := by unfold openV; rw [hx]
    cases ok with
    | false =>
      rw [if_neg (fun h => by cases h.1)] at e
      refine goh (And.intro hsp (And.intro hsz (And.intro hx nf))) ?_
      refine W_cnd ?_ ?_ <;> intro hlit <;> try (cases hlit; done)
      refine goh trivial ?_
      exact finh [] e
    | true =>
      cases hs : same (sealV t) s with
      | false =>
        rw [if_neg (fun h => by rw [hs] at h; cases h.2)] at e
        refine goh (And.intro hsp (And.intro hsz (And.intro hx (And.intro hs (And.intro nf nt))))) ?_
        refine W_cnd ?_ ?_ <;> intro hlit <;> try (cases hlit; done)
        refine goh trivial ?_
        exact finh [] e
      | true =>
        rw [if_pos ⟨rfl, hs⟩] at e
        refine goh (And.intro hsp (And.intro hsz (And.intro hx (And.intro hs (And.intro nf nt))))) ?_
        refine W_cnd ?_ ?_ <;> intro hlit <;> try (cases hlit; done)
        refine goh trivial ?_
        exact finh [] e
  · simp [no, ifp] at hp
end Go.Proofs.YtmnbgppmfbnamaaGreatDoor
/- Plain facts: a block that is healed. -/
namespace Go.Proofs.YtmnbgppmfbnamaaGreatDoor
open Go.RowKit

theorem heal_stays {d : Dk} (p : Ptr) (h : d.ok = true) : blkRead (blkHeal d p).1 p = blkRead d p ∧ (blkHeal (blkHeal d p).1 p).1 = (blkHeal d p).1 ∧ (∀ s k, k ≠ p.at_ → dkRead (blkHeal d p).1 s k = dkRead d s k) ∧ (blkHeal d p).1.a.length = d.a.length := by
  have same_ : (blkHeal d p).1 = d → blkRead (blkHeal d p).1 p = blkRead d p ∧ (blkHeal (blkHeal d p).1 p).1 = (blkHeal d p).1 ∧ (∀ s k, k ≠ p.at_ → dkRead (blkHeal d p).1 s k = dkRead d s k) ∧ (blkHeal d p).1.a.length = d.a.length := fun e => by
    rw [e]; exact ⟨rfl, e, fun _ _ _ => rfl, rfl⟩
  by_cases c1 : (blkRead d p).2 ≠ 0 ∨ d.has p 0 = d.has p 1
  · exact same_ (by unfold blkHeal; rw [if_pos h, if_pos c1])
  · by_cases c2 : d.may (badSide d p) p.at_ (blkRead d p).1 = true
    · have e : (blkHeal d p).1 = d.add (badSide d p) p.at_ (blkRead d p).1 := by unfold blkHeal; rw [if_pos h, if_neg c1, if_pos c2]
      have hx := Dk.add_ok h c2
      obtain ⟨m1, m2, m3, m4, m5⟩ := (may_iff _ _ _ _).1 c2
      have z0 : (blkRead d p).2 = 0 := by
        by_cases z : (blkRead d p).2 = 0
        · exact z
        · exact absurd (.inl z) c1
      have hne : ¬ d.has p 0 = d.has p 1 := fun z => c1 (.inr z)
      have hr : realB p = true := by
        unfold blkRead at z0
        split at z0
        · simp at z0
        · split at z0
          · rename_i hh; rw [Bool.and_eq_true] at hh; exact hh.2
          · simp at z0
      have s0 : ∀ s, s = 0 ∨ s = 1 → sector d.a.length s p.at_ = true := fun s hs => (sector_iff _ _ _).2 ⟨hs, m2, m3⟩
      obtain ⟨t, b, et, eb, ex, hb1, hsum⟩ : ∃ t b, (blkRead d p).1 = t ∧ badSide d p = b ∧ blkRead d p = (t, 0) ∧ ((b = 1 ∧ d.text 0 p.at_ = t) ∨ (b = 0)) ∧ (sumOf t : Int) = p.sum := by
        cases h0 : d.has p 0 with
        | true =>
          have hf := blk_fine h hr (t := d.text 0 p.at_) (.inl ⟨h0, rfl⟩)
          exact ⟨d.text 0 p.at_, 1, by rw [hf], by unfold badSide; rw [h0]; rfl, hf, .inl ⟨rfl, rfl⟩, ((has_iff _ _ _).1 h0).2⟩
        | false =>
          have h1 : d.has p 1 = true := by
            cases h1 : d.has p 1 with
            | true => rfl
            | false => exact absurd (h0.trans h1.symm) hne
          have hf := blk_fine h hr (t := d.text 1 p.at_) (.inr ⟨h0, h1, rfl⟩)
          exact ⟨d.text 1 p.at_, 0, by rw [hf], by unfold badSide; rw [h0]; rfl, hf, .inr rfl, ((has_iff _ _ _).1 h1).2⟩
      rw [et, eb] at e hx
      have hlen : (d.add b p.at_ t).a.length = d.a.length := rfl
      have htext : ∀ s, s = 0 ∨ s = 1 → (s = 0 ∨ b = s) → (d.add b p.at_ t).text s p.at_ = t := by
        intro s hs hbs
        rw [Dk.add_text]
        rcases hb1 with ⟨rfl, h2⟩ | rfl
        · rcases hbs with rfl | rfl
          · rw [if_neg (fun h => absurd h.1 (by decide)), h2]
          · rw [if_pos ⟨rfl, rfl⟩]
        · rcases hbs with rfl | rfl <;> rw [if_pos ⟨rfl, rfl⟩]
      have t0 := htext 0 (.inl rfl) (.inl rfl)
      have x0 : (d.add b p.at_ t).has p 0 = true := (has_iff _ _ _).2 ⟨by rw [hlen]; exact s0 0 (.inl rfl), by rw [t0]; exact hsum⟩
      have x1 : (d.add b p.at_ t).has p 1 = true := by
        rcases hb1 with ⟨rfl, h2⟩ | rfl
        · have t1 := htext 1 (.inr rfl) (.inr rfl)
          exact (has_iff _ _ _).2 ⟨by rw [hlen]; exact s0 1 (.inr rfl), by rw [t1]; exact hsum⟩
        · have h0 : d.has p 0 = false := by
            unfold badSide at eb
            cases h0 : d.has p 0 with
            | false => rfl
            | true => rw [h0] at eb; simp at eb
          have h1 : d.has p 1 = true := by
            cases h1 : d.has p 1 with
            | true => rfl
            | false => exact absurd (h0.trans h1.symm) hne
          have := (has_iff _ _ _).1 h1
          refine (has_iff _ _ _).2 ⟨by rw [hlen]; exact s0 1 (.inr rfl), ?_⟩
          rw [Dk.add_text, if_neg (fun h => absurd h.1 (by decide))]
          exact this.2
      have rd : blkRead (d.add b p.at_ t) p = (t, 0) := blk_fine hx hr (.inl ⟨x0, t0⟩)
      rw [e]
      refine ⟨rd.trans ex.symm, ?_, fun s k hk => ?_, rfl⟩
      · have : blkHeal (d.add b p.at_ t) p = (d.add b p.at_ t, (blkRead (d.add b p.at_ t) p).2) := by
          conv => lhs; unfold blkHeal
          rw [if_pos hx, if_pos (.inr (x0.trans x1.symm))]
        rw [this]
      · have e1 : (d.add b p.at_ t).text s k = d.text s k := by rw [Dk.add_text, if_neg (fun hh => hk hh.2.symm)]
        unfold dkRead dkReads
        rw [hx, h, hlen, e1]
    · exact same_ (by unfold blkHeal; rw [if_pos h, if_neg c1, if_neg c2])
theorem heal_bad {d : Dk} (p : Ptr) (h : d.ok = false) : blkHeal d p = (.nil, 2) := by unfold blkHeal; rw [h]; rfl
theorem ptr_back (p : Ptr) : ptrReadV (ptrT p) = if ptrOkB p = true then some p else none := by
  by_cases h : ptrOkB p = true
  · rw [if_pos h]; exact ptrRead_some.2 ⟨h, rfl⟩
  · rw [if_neg h]
    refine ptrRead_none fun q h1 h2 => ?_
    have e : ptrT p = ⟨#[]⟩ := by unfold ptrT; rw [if_neg h]
    rw [e] at h2
    unfold ptrT at h2
    rw [if_pos h1] at h2
    split at h2
    · exact absurd h2 (by decide)
    · have h3 := pointsV_split (zs := [q.at_, q.sum, q.birth]) (by simp)
      rw [h2] at h3
      have h4 : splitV 46 ⟨#[]⟩ = [⟨#[]⟩] := by decide
      rw [h4] at h3
      simp at h3
end Go.Proofs.YtmnbgppmfbnamaaGreatDoor
/- Plain facts: texts of commits, and torn ones. -/
namespace Go.Proofs.YtmnbgppmfbnamaaGreatDoor
open Go.RowKit

theorem cut_append (c : UInt8) : ∀ (u v : Bs), ∃ us x y vs, cutL c u = us ++ [x] ∧ cutL c v = y :: vs ∧ cutL c (u ++ v) = us ++ (x ++ y) :: vs
  | [], v => by
    cases h : cutL c v with
    | nil => exact absurd h (cutL_ne c v)
    | cons y vs => exact ⟨[], [], y, vs, rfl, rfl, h⟩
  | b :: u, v => by
    obtain ⟨us, x, y, vs, h1, h2, h3⟩ := cut_append c u v
    by_cases hb : b = c
    · subst hb
      refine ⟨[] :: us, x, y, vs, ?_, h2, ?_⟩
      · rw [cut_hit, h1]; rfl
      · show cutL b (b :: (u ++ v)) = _
        rw [cut_hit, h3]; rfl
    · cases us with
      | nil => exact ⟨[], b :: x, y, vs, cut_miss hb h1, h2, cut_miss hb h3⟩
      | cons w us => exact ⟨(b :: w) :: us, x, y, vs, cut_miss hb h1, h2, cut_miss hb h3⟩
def uberOk (k : Int) (r : Ptr) : Prop := 1 ≤ k ∧ k ≤ 1000000 ∧ realB r = true
instance (k : Int) (r : Ptr) : Decidable (uberOk k r) := inferInstanceAs (Decidable (_ ∧ _ ∧ _))
def uberI (k : Int) (r : Ptr) : ByteArray := decS k ++ ⟨#[32]⟩ ++ ptrT r ++ ⟨#[32]⟩ ++ decS k
/-- A commit's text. -/
noncomputable def uberT (k : Int) (r : Ptr) : ByteArray := if uberOk k r then sealV (uberI k r) else ⟨#[]⟩
theorem ptr_plain {c : UInt8} (h0 : c ≠ 46) (h1 : c.toNat ≠ 45) (h2 : c.toNat < 48 ∨ 57 < c.toNat) (r : Ptr) : c ∉ (ptrT r).data.toList := by
  unfold ptrT
  split
  · split
    · intro h
      have : c = 45 := by simpa using h
      subst this; exact h1 rfl
    · rw [pointsV_three]
      simp only [ByteArray.data_append, Array.toList_append, List.mem_append, not_or]
      have h46 : ¬ c ∈ (⟨#[46]⟩ : ByteArray).data.toList := by simpa using h0
      exact ⟨⟨⟨⟨itoa_not h1 h2 _, h46⟩, itoa_not h1 h2 _⟩, h46⟩, itoa_not h1 h2 _⟩
  · simp
theorem uberI_size {k : Int} {r : Ptr} (h : uberOk k r) : (uberI k r).size ≤ 105 := by
  have h1 := decS_size (n := k) (by have := h.1; omega) (by have := h.2.1; omega)
  have h2 := ptrT_size r
  have h3 : (⟨#[32]⟩ : ByteArray).size = 1 := rfl
  unfold uberI
  simp only [ByteArray.size_append]
  omega
theorem uber_seal {k : Int} {r : Ptr} (h : uberOk k r) : uberT k r = decS (sumOf (uberI k r)) ++ ⟨#[58]⟩ ++ uberI k r := by
  have := uberI_size h
  unfold uberT sealV
  rw [if_pos h, if_neg (by omega)]
theorem uberT_size (k : Int) (r : Ptr) : (uberT k r).size ≤ 126 := by
  by_cases h : uberOk k r
  · rw [uber_seal h]
    have h1 := uberI_size h
    have h2 := sumAt_lt (uberI k r) (uberI k r).size
    have h4 : sumAt (uberI k r) (uberI k r).size = sumOf (uberI k r) := rfl
    have h3 := decS_size (n := sumOf (uberI k r)) (by omega) (by omega)
    have h5 : (⟨#[58]⟩ : ByteArray).size = 1 := rfl
    simp only [ByteArray.size_append]
    omega
  · unfold uberT; rw [if_neg h]; exact Nat.zero_le _
/-- The first word of a commit's text. -/
def uberF (k : Int) (r : Ptr) : Bs := (decS (sumOf (uberI k r))).data.toList ++ 58 :: (decS k).data.toList
theorem uberI_words (k : Int) (r : Ptr) : cutL 32 (uberI k r).data.toList = [(decS k).data.toList, (ptrT r).data.toList, (decS k).data.toList] := by
  have e : (uberI k r).data.toList = (decS k).data.toList ++ 32 :: ((ptrT r).data.toList ++ 32 :: (decS k).data.toList) := by
    unfold uberI
    simp [ByteArray.data_append]
  rw [e, cut_app _ _ _ (no_blank k), cut_app _ _ _ (ptr_plain (by decide) (by decide) (by decide) r), cut_none _ _ (no_blank k)]
theorem uber_words {k : Int} {r : Ptr} (h : uberOk k r) : cutL 32 (uberT k r).data.toList = [uberF k r, (ptrT r).data.toList, (decS k).data.toList] := by
  have e : (uberT k r).data.toList = uberF k r ++ 32 :: ((ptrT r).data.toList ++ 32 :: (decS k).data.toList) := by
    rw [uber_seal h]
    unfold uberF uberI
    simp [ByteArray.data_append]
  have hF : (32 : UInt8) ∉ uberF k r := by
    unfold uberF
    rw [List.mem_append, List.mem_cons]
    rintro (h | h | h)
    · exact no_blank _ h
    · exact absurd h (by decide)
    · exact no_blank _ h
  rw [e, cut_app _ _ _ hF, cut_app _ _ _ (ptr_plain (by decide) (by decide) (by decide) r), cut_none _ _ (no_blank k)]
theorem data_inj {a b : ByteArray} (h : a.data.toList = b.data.toList) : a = b := by
  rw [← bytesL_data a, h, bytesL_data]
theorem uberF_inj {k n : Int} {r p : Ptr} (h : uberF k r = uberF n p) : k = n := by
  have e : ∀ (k : Int) (r : Ptr), cutL 58 (uberF k r) = [(decS (sumOf (uberI k r))).data.toList, (decS k).data.toList] := fun k r => by
    unfold uberF
    rw [cut_app _ _ _ (no_colon _), cut_none _ _ (no_colon k)]
  have h1 := e k r
  rw [h, e n p] at h1
  simp only [List.cons.injEq, and_true] at h1
  exact (decS_inj (data_inj h1.2)).symm
/-- A torn text of a commit is never mistaken: what is read is one of the two. -/
theorem torn_uber {k n m : Int} {r p q : Ptr} (hk : uberOk k r) (hn : uberOk n p) (hm : uberOk m q ∨ uberT m q = ⟨#[]⟩) (hnm : n ≠ m) (i : Nat) {z : Bs} (hz : z = (uberT m q).data.toList.drop i ∨ z = [])
    (h : (uberT k r).data.toList = (uberT n p).data.toList.take i ++ z) : (k = n ∧ r = p) ∨ (k = m ∧ r = q) := by
  have hr : ∀ {r p : Ptr} (k n : Int), uberOk k r → uberOk n p → (ptrT r).data.toList = (ptrT p).data.toList → r = p := fun k n h1 h2 h3 =>
    ptrT_inj (ptrOk_real h1.2.2).1 (ptrOk_real h2.2.2).1 (data_inj h3)
  have w1 := uber_words hk
  have w2 := uber_words hn
  obtain ⟨us, x, y, vs, a1, a2, a3⟩ := cut_append 32 ((uberT n p).data.toList.take i) z
  obtain ⟨us', x', y', vs', b1, b2, b3⟩ := cut_append 32 ((uberT n p).data.toList.take i) ((uberT n p).data.toList.drop i)
  rw [List.take_append_drop] at b3
  rw [h, a3] at w1
  rw [b3] at w2
  obtain ⟨rfl, hxx⟩ := List.append_inj' (a1.symm.trans b1) rfl
  have hxx : x = x' := by simpa using hxx
  subst hxx
  -- what stands behind: words of the old text's end
  have hv : (vs = [] ∨ vs = [(decS m).data.toList] ∧ uberOk m q) ∨ (vs = [(ptrT q).data.toList, (decS m).data.toList] ∧ uberOk m q) := by
    rcases hz with hz | hz
    · rcases hm with hm | hm
      · have w3 := uber_words hm
        obtain ⟨us3, x3, y3, vs3, c1, c2, c3⟩ := cut_append 32 ((uberT m q).data.toList.take i) ((uberT m q).data.toList.drop i)
        rw [List.take_append_drop, w3] at c3
        rw [← hz, a2] at c2
        obtain ⟨rfl, rfl⟩ := List.cons.inj c2
        match us3, c3 with
        | [], c3 => simp at c3; exact .inr ⟨c3.2.symm, hm⟩
        | [_], c3 => simp at c3; exact .inl (.inr ⟨c3.2.2.symm, hm⟩)
        | [_, _], c3 => simp at c3; exact .inl (.inl c3.2.2.2)
        | _ :: _ :: _ :: _, c3 => simp at c3
      · rw [hm] at hz
        have : z = [] := by rw [hz]; simp
        rw [this] at a2
        simp [cutL] at a2
        exact .inl (.inl a2.2)
    · rw [hz] at a2
      simp [cutL] at a2
      exact .inl (.inl a2.2)
  match us, w1, w2 with
  | [], w1, w2 =>
    simp only [List.nil_append, List.cons.injEq] at w1
    rcases hv with (hv | ⟨hv, hq⟩) | ⟨hv, hq⟩
    · rw [hv] at w1; simp at w1
    · rw [hv] at w1; simp at w1
    · rw [hv] at w1
      simp only [List.cons.injEq, and_true] at w1
      right
      have hkm := decS_inj (data_inj w1.2.2)
      exact ⟨hkm.symm, (hr m k hq hk w1.2.1).symm⟩
  | [F], w1, w2 =>
    simp only [List.cons_append, List.nil_append, List.cons.injEq] at w1 w2
    have hkn := uberF_inj (w1.1.symm.trans w2.1)
    rcases hv with (hv | ⟨hv, hq⟩) | ⟨hv, hq⟩
    · rw [hv] at w1; simp at w1
    · rw [hv] at w1
      simp only [List.cons.injEq, and_true] at w1
      have hkm := decS_inj (data_inj w1.2.2)
      exact absurd (hkn.symm.trans hkm.symm) hnm
    · rw [hv] at w1; simp at w1
  | [F, P], w1, w2 =>
    simp only [List.cons_append, List.nil_append, List.cons.injEq] at w1 w2
    left
    exact ⟨uberF_inj (w1.1.symm.trans w2.1), hr k n hk hn (w1.2.1.symm.trans w2.2.1)⟩
  | _ :: _ :: _ :: _, w1, w2 => simp at w1
/-- A commit that is read. -/
noncomputable def uberP (t : ByteArray) : Option (Int × Ptr) := match splitV 32 (openV t).1 with
  | [x, y, z] => (match atoiV x, ptrReadV y with
    | some k, some r => if uberT k r = t then some (k, r) else none
    | _, _ => none)
  | _ => none
theorem open_uber {k : Int} {r : Ptr} (h : uberOk k r) : openV (uberT k r) = (uberI k r, true) := by
  have e : (uberT k r).data.toList = (decS (sumOf (uberI k r))).data.toList ++ 58 :: (uberI k r).data.toList := by
    rw [uber_seal h]; simp [ByteArray.data_append]
  have hc := cutV_at e (no_colon _)
  have hs : sealV (uberI k r) = uberT k r := by unfold uberT; rw [if_pos h]
  unfold openV
  rw [hc]
  simp only [bytesL_data]
  rw [hs, if_pos ⟨trivial, same_true.2 rfl⟩]
theorem splitV_nil (c : UInt8) : splitV c ⟨#[]⟩ = [⟨#[]⟩] := rfl
theorem open_nil : openV ⟨#[]⟩ = (⟨#[]⟩, false) := by
  unfold openV
  rw [cutV_not (by simp), if_neg (by rintro ⟨h, -⟩; cases h)]
theorem uberP_iff {t : ByteArray} {k : Int} {r : Ptr} : uberP t = some (k, r) ↔ uberOk k r ∧ uberT k r = t := by
  constructor
  · intro h
    unfold uberP at h
    split at h
    · rename_i x y z hw
      split at h
      · rename_i k' r' hk hr
        split at h
        · rename_i ht
          cases h
          refine ⟨?_, ht⟩
          by_cases hok : uberOk k r
          · exact hok
          · exfalso
            have : t = ⟨#[]⟩ := by rw [← ht]; unfold uberT; rw [if_neg hok]
            rw [this, open_nil, splitV_nil] at hw
            simp at hw
        · cases h
      · cases h
    · cases h
  · rintro ⟨h, rfl⟩
    unfold uberP
    rw [open_uber h]
    have hw : splitV 32 (uberI k r) = [decS k, ptrT r, decS k] := by
      unfold splitV
      rw [uberI_words]
      simp only [List.map_cons, List.map_nil, bytesL_data]
    rw [hw]
    simp only
    rw [(atoi_dec (n := k) (by have := h.1; omega) (by have := h.2.1; omega)).1, ptr_back, if_pos (ptrOk_real h.2.2).1]
    simp only
    rw [if_pos trivial]
end Go.Proofs.YtmnbgppmfbnamaaGreatDoor
