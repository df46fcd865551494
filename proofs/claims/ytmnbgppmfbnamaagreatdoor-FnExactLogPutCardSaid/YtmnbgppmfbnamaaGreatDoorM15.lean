import Derived.Test.YtmnbgppmfbnamaaGreatDoorM5
import Derived.Test.YtmnbgppmfbnamaaGreatDoorM8
import Derived.Test.YtmnbgppmfbnamaaGreatDoorM11
import Derived.Test.YtmnbgppmfbnamaaGreatDoorM14
set_option linter.unusedSimpArgs false
set_option linter.unusedVariables false
set_option linter.unusedSectionVars false
/- Plain facts: texts of numbers and of pointers. -/
namespace Go.Proofs.YtmnbgppmfbnamaaGreatDoor
open Go.RowKit

theorem decS_list (n : Int) : (decS n).data.toList = Lib.itoa n := by simp [decS]
theorem itoa_not {c : UInt8} (h1 : c.toNat ≠ 45) (h2 : c.toNat < 48 ∨ 57 < c.toNat) (n : Int) : c ∉ (decS n).data.toList := by
  rw [decS_list]
  have h3 : ∀ u, c ∉ Lib.decDigits u := fun u hm => by
    have := decD_dig u c hm
    unfold isDig at this; omega
  unfold Lib.itoa
  split
  · rw [List.mem_cons, not_or]
    exact ⟨fun e => by subst e; exact h1 rfl, h3 _⟩
  · exact h3 _
theorem no_dot (n : Int) : (46 : UInt8) ∉ (decS n).data.toList := itoa_not (by decide) (by decide) n
theorem no_blank (n : Int) : (32 : UInt8) ∉ (decS n).data.toList := itoa_not (by decide) (by decide) n
theorem no_colon (n : Int) : (58 : UInt8) ∉ (decS n).data.toList := itoa_not (by decide) (by decide) n
theorem decS_inj {n m : Int} (h : decS n = decS m) : n = m := by
  have h := congrArg (fun s : ByteArray => s.data.toList) h
  simp only [decS_list] at h
  have hd : ∀ u v, (45 : UInt8) :: Lib.decDigits u ≠ Lib.decDigits v := fun u v e => by
    have := decD_dig v 45 (by rw [← e]; simp)
    revert this; decide
  unfold Lib.itoa at h
  split at h <;> split at h
  · injection h with _ h; have := decD_inj h; omega
  · exact absurd h (hd _ _)
  · exact absurd h.symm (hd _ _)
  · have := decD_inj h; omega
theorem decS_ne (n : Int) : decS n ≠ ⟨#[]⟩ := fun h => by
  have h := congrArg (fun s : ByteArray => s.data.toList) h
  simp only [decS_list] at h
  unfold Lib.itoa at h
  split at h
  · cases h
  · exact decD_ne _ h
theorem atoi_dig {u : Nat} (h : u < 10 ^ 17) : Lib.atoiAll (Lib.decDigits u) = .ok (u : Int) := by
  have hl := decD_len 16 u h
  have h1 : Lib.parseMag (Lib.decDigits u) = .ok u := by
    rw [Lib.parseMag_short _ (by omega)]
    unfold Lib.decNat
    rw [if_neg (by simpa using decD_ne u), decFrom_decD]; rfl
  cases hd : Lib.decDigits u with
  | nil => exact absurd hd (decD_ne u)
  | cons c r =>
    have hc := decD_dig u c (by rw [hd]; simp)
    unfold isDig at hc
    unfold Lib.atoiAll
    simp only
    rw [if_neg (by omega), ← hd, h1]
    simp only
    rw [if_neg (by omega), if_neg (by omega), if_neg (by omega)]
theorem atoi_dec {n : Int} (h0 : 0 ≤ n) (h1 : n < 10 ^ 17) : atoiV (decS n) = some n ∧ atoiN (decS n) = n := by
  obtain ⟨u, rfl⟩ := Int.eq_ofNat_of_zero_le h0
  have h := atoi_dig (u := u) (by omega)
  have e : Lib.itoa (u : Int) = Lib.decDigits u := by
    unfold Lib.itoa
    rw [if_neg (by omega), Int.toNat_natCast]
  unfold atoiV atoiN
  rw [decS_list, e, h]
  exact ⟨rfl, rfl⟩
theorem atoiV_in {s : ByteArray} {n : Int} (h : atoiV s = some n) : atoiN s = n ∧ -9223372036854775808 ≤ n ∧ n ≤ 9223372036854775807 := by
  unfold atoiV at h
  unfold atoiN
  cases ha : Lib.atoiAll s.data.toList
  · rw [ha] at h
    cases h
    have := Lib.atoiAll_bounds ha
    exact ⟨rfl, this.1, this.2⟩
  · rw [ha] at h; cases h
  · rw [ha] at h; cases h
/-- Numbers with points between them. -/
def pointsV (zs : List Int) : ByteArray := joinV ⟨#[46]⟩ (zs.map decS)
theorem joinL_len (s : Bs) (k : Nat) : ∀ xs : List Bs, (∀ x ∈ xs, x.length ≤ k) → (joinL s xs).length ≤ xs.length * (k + s.length)
  | [], _ => by simp [joinL]
  | [x], h => by
    have := h x (by simp)
    show x.length ≤ _
    simp; omega
  | x :: y :: r, h => by
    have h1 := h x (by simp)
    have h2 := joinL_len s k (y :: r) fun z hz => h z (List.mem_cons_of_mem _ hz)
    show (x ++ s ++ joinL s (y :: r)).length ≤ _
    rw [List.length_append, List.length_append, List.length_cons (a := x), Nat.succ_mul]
    omega
theorem joinV_size {sep : ByteArray} {k : Nat} {xs : List ByteArray} (h : ∀ x ∈ xs, x.size ≤ k) : (joinV sep xs).size ≤ xs.length * (k + sep.size) := by
  have h1 := joinL_len sep.data.toList k (xs.map (·.data.toList)) fun x hx => by
    obtain ⟨y, hy, rfl⟩ := List.mem_map.1 hx
    exact h y hy
  rw [List.length_map] at h1
  show (Lib.join _ _).toArray.size ≤ _
  rw [List.size_toArray, lib_join]
  exact h1
theorem pointsV_size {zs : List Int} (h : ∀ z ∈ zs, -9223372036854775808 ≤ z ∧ z ≤ 9223372036854775807) : (pointsV zs).size ≤ zs.length * 21 := by
  have := joinV_size (sep := ⟨#[46]⟩) (k := 20) (xs := zs.map decS) fun x hx => by
    obtain ⟨z, hz, rfl⟩ := List.mem_map.1 hx
    exact decS_size (h z hz).1 (h z hz).2
  rwa [List.length_map] at this
theorem pointsV_split {zs : List Int} (h : zs ≠ []) : splitV 46 (pointsV zs) = zs.map decS :=
  splitV_join (by simpa using h) fun w hw => by
    obtain ⟨z, -, rfl⟩ := List.mem_map.1 hw
    exact no_dot z
theorem pointsV_three (a b c : Int) : pointsV [a, b, c] = decS a ++ ⟨#[46]⟩ ++ decS b ++ ⟨#[46]⟩ ++ decS c := joinV_three 46 _ _ _
/-- A pointer's text. -/
def ptrT (p : Ptr) : ByteArray := if ptrOkB p = true then (if p.at_ = 0 then ⟨#[45]⟩ else pointsV [p.at_, p.sum, p.birth]) else ⟨#[]⟩
theorem ptrOk_cases {p : Ptr} (h : ptrOkB p = true) : p = ⟨0, 0, 0⟩ ∨ (1 ≤ p.at_ ∧ p.at_ ≤ 119 ∧ 0 ≤ p.sum ∧ p.sum ≤ 65520 ∧ 0 ≤ p.birth ∧ p.birth ≤ 1000000) := by
  unfold ptrOkB at h
  simp only [Bool.or_eq_true, Bool.and_eq_true, decide_eq_true_eq] at h
  rcases h with h | h
  · left; cases p; simp only at h; simp [h]
  · right; omega
theorem ptrOk_real {p : Ptr} (h : realB p = true) : ptrOkB p = true ∧ p.at_ ≠ 0 ∧ ptrT p = pointsV [p.at_, p.sum, p.birth] := by
  unfold realB at h
  rw [Bool.and_eq_true] at h
  have h2 : p.at_ ≠ 0 := by simpa using h.2
  exact ⟨h.1, h2, by unfold ptrT; rw [if_pos h.1, if_neg h2]⟩
theorem ptrT_size (p : Ptr) : (ptrT p).size ≤ 63 := by
  unfold ptrT
  split
  · rename_i h
    split
    · show 1 ≤ 63; omega
    · have hc := ptrOk_cases h
      have := pointsV_size (zs := [p.at_, p.sum, p.birth]) fun z hz => by
        simp only [List.mem_cons, List.not_mem_nil, or_false] at hz
        rcases hc with rfl | hc
        · simp only at hz; omega
        · omega
      simpa using this
  · exact Nat.zero_le _
theorem ptrT_inj {p q : Ptr} (hp : ptrOkB p = true) (hq : ptrOkB q = true) (h : ptrT p = ptrT q) : p = q := by
  have hs : ∀ r : Ptr, ptrOkB r = true → r.at_ ≠ 0 → splitV 46 (ptrT r) = [decS r.at_, decS r.sum, decS r.birth] := fun r h1 h2 => by
    unfold ptrT
    rw [if_pos h1, if_neg h2, pointsV_split (by simp)]; rfl
  have hz : ∀ r : Ptr, ptrOkB r = true → r.at_ = 0 → r = ⟨0, 0, 0⟩ ∧ splitV 46 (ptrT r) = [⟨#[45]⟩] := fun r h1 h2 => by
    rcases ptrOk_cases h1 with rfl | h3
    · exact ⟨rfl, by unfold ptrT; rw [if_pos h1, if_pos rfl]; decide⟩
    · omega
  by_cases h1 : p.at_ = 0 <;> by_cases h2 : q.at_ = 0
  · rw [(hz p hp h1).1, (hz q hq h2).1]
  · have h3 := (hz p hp h1).2
    rw [h, hs q hq h2] at h3
    simp at h3
  · have h3 := (hz q hq h2).2
    rw [← h, hs p hp h1] at h3
    simp at h3
  · have h3 := hs p hp h1
    rw [h, hs q hq h2] at h3
    simp only [List.cons.injEq, and_true] at h3
    obtain ⟨e1, e2, e3⟩ := h3
    cases p; cases q
    simp only at e1 e2 e3
    rw [decS_inj e1, decS_inj e2, decS_inj e3]
/-- The pointer with a text. -/
noncomputable def ptrReadV (t : ByteArray) : Option Ptr := open Classical in if h : ∃ p, ptrOkB p = true ∧ ptrT p = t then some (Classical.choose h) else none
theorem ptrRead_some {t : ByteArray} {p : Ptr} : ptrReadV t = some p ↔ ptrOkB p = true ∧ ptrT p = t := by
  unfold ptrReadV
  constructor
  · intro h
    split at h
    · rename_i hx
      cases h
      exact Classical.choose_spec hx
    · cases h
  · rintro ⟨h1, h2⟩
    have hx : ∃ p, ptrOkB p = true ∧ ptrT p = t := ⟨p, h1, h2⟩
    rw [dif_pos hx]
    have h3 := Classical.choose_spec hx
    rw [ptrT_inj h3.1 h1 (h3.2.trans h2.symm)]
theorem ptrRead_none {t : ByteArray} (h : ∀ p, ptrOkB p = true → ptrT p = t → False) : ptrReadV t = none := by
  unfold ptrReadV
  rw [dif_neg fun ⟨p, h1, h2⟩ => h p h1 h2]
theorem ptrRead_dash : ptrReadV ⟨#[45]⟩ = some ⟨0, 0, 0⟩ := ptrRead_some.2 ⟨by decide, by unfold ptrT; rw [if_pos (by decide), if_pos rfl]⟩
/-- Three numbers, read. -/
def thr (t : ByteArray) : Option (Int × Int × Int) := match splitV 46 t with
  | [x, y, z] => (match atoiV x, atoiV y, atoiV z with
    | some a, some b, some c => some (a, b, c)
    | _, _, _ => none)
  | _ => none
/-- The three ways of a text that is no dash. -/
theorem thr_read {t : ByteArray} (h : t ≠ ⟨#[45]⟩) : ptrReadV t = (match thr t with
  | some (a, b, c) => if pointsV [a, b, c] = t ∧ realB ⟨a, b, c⟩ = true then some ⟨a, b, c⟩ else none
  | none => none) := by
  have hk : ∀ p, ptrOkB p = true → ptrT p = t → thr t = some (p.at_, p.sum, p.birth) ∧ pointsV [p.at_, p.sum, p.birth] = t ∧ realB p = true := by
    intro p h1 h2
    have h3 : p.at_ ≠ 0 := fun h3 => h (by rw [← h2]; unfold ptrT; rw [if_pos h1, if_pos h3])
    have h4 : pointsV [p.at_, p.sum, p.birth] = t := by rw [← h2]; unfold ptrT; rw [if_pos h1, if_neg h3]
    refine ⟨?_, h4, by unfold realB; rw [h1]; simpa using h3⟩
    rcases ptrOk_cases h1 with rfl | hc
    · exact absurd rfl h3
    · unfold thr
      rw [← h4, pointsV_split (by simp)]
      simp only [List.map_cons, List.map_nil]
      rw [(atoi_dec (n := p.at_) (by omega) (by omega)).1, (atoi_dec (n := p.sum) (by omega) (by omega)).1, (atoi_dec (n := p.birth) (by omega) (by omega)).1]
  cases hr : ptrReadV t with
  | some p =>
    obtain ⟨h1, h2⟩ := ptrRead_some.1 hr
    obtain ⟨h3, h4, h5⟩ := hk p h1 h2
    rw [h3]
    simp only
    rw [if_pos ⟨h4, h5⟩]
  | none =>
    cases ht : thr t with
    | none => rfl
    | some x =>
      obtain ⟨a, b, c⟩ := x
      simp only
      rw [if_neg]
      rintro ⟨h1, h2⟩
      obtain ⟨h3, h4, h5⟩ := ptrOk_real h2
      have := ptrRead_some.2 ⟨h3, h5.trans h1⟩
      rw [hr] at this
      cases this
end Go.Proofs.YtmnbgppmfbnamaaGreatDoor
/- Functions: texts of pointers. -/
namespace Go.Proofs.YtmnbgppmfbnamaaGreatDoor
open Go.RowKit

@[go_sem] def ctPoints : Ct := ⟨false, [[some .int]], fun args os => match args, os with
  | [.one (.isl .int zs)], [] => ifp (zs.length ≤ 1000 ∧ ∀ i : Nat, -9223372036854775808 ≤ zs.getD i ET.int.dflt ∧ zs.getD i ET.int.dflt ≤ 9223372036854775807) (vs (pointsV zs))
  | _, _ => no⟩
theorem s_points_e : EnterOk Tryz.prog 49 := ⟨_, Tryz.func49, rfl, by decide⟩
@[go_sem] def s_points_lv : List (List Nat) := [[0], [0, 3], [3, 6, 7, 8], [3, 6, 7, 8, 9], [3, 5, 6, 7, 8], [3, 6, 7, 8], [3, 6, 7, 8], [2]]
@[go_sem] noncomputable def s_points_K : Known := ((Known.nil).cons 53 ctItoa s_itoa s_itoa_e).cons 52 ctJoin s_join s_join_e
set_option maxHeartbeats 8000000 in
theorem s_points : Sound Tryz.prog 49 ctPoints := by
  have ke := s_points_K.env []
  have kl : Lives s_points_lv := trivial
  refine sound_intro (E := ⟨ti, s_points_K.Γ, []⟩) ke Tryz.func49 Tryz.ntmps49 rfl (rs := [.tmp 2]) rfl ?_
  intro args os hp
  unfold ctPoints at hp ⊢
  dsimp only at hp ⊢
  split at hp
  · rename_i zs
    obtain ⟨hlen, hin⟩ : zs.length ≤ 1000 ∧ ∀ i : Nat, -9223372036854775808 ≤ zs.getD i ET.int.dflt ∧ zs.getD i ET.int.dflt ≤ 9223372036854775807 := hp
    refine ⟨by simp, fun φ0 w0 => ?_⟩
    refine goh trivial ?_
    refine W_for zs.length (fun i => True) (fun i => ⟨[(3, .one (.osl .str 0 0 i)), (6, .one (.isl .int zs)), (7, vi zs.length), (8, vi i)], [some (.arr .str ((zs.take i).map decS))], []⟩) [none] (leh trivial) trivial fun i hi _ => ?_
    have hl : ((zs.take i).map decS).length = i := by rw [List.length_map, List.length_take]; omega
    refine goh trivial ?_
    refine W_cnd ?_ ?_ <;> (try simp only [cnd_r]) <;> intro hlt
    · have hin2 := hin i
      have hs : (zs.take (i + 1)).map decS = (zs.take i).map decS ++ [decS (zs.getD i ET.int.dflt)] := by
        have e : zs.getD i ET.int.dflt = zs[i] := by simp [show i < zs.length by omega]
        rw [e, List.take_add_one, List.getElem?_eq_getElem (by omega), List.map_append]; rfl
      have ht3 : ((zs.take i).map decS).take i = (zs.take i).map decS := List.take_of_length_le (by omega)
      refine goh (And.intro hl (And.intro hin2 ht3)) ?_
      exact ⟨[some 2], by omega, leh (And.intro hs hl), trivial⟩
    · obtain rfl : i = zs.length := by omega
      have ht : zs.take zs.length = zs := List.take_length
      rw [ht] at hl ⊢
      have e : pointsV zs = joinV ⟨#[46]⟩ (zs.map decS) := rfl
      have hz := pointsV_size (zs := zs) fun z hz => by
        obtain ⟨j, hj, rfl⟩ := List.getElem_of_mem hz
        have := hin j
        rwa [show zs.getD j ET.int.dflt = zs[j] by simp [hj]] at this
      rw [e] at hz
      have hj : (zs.map decS).length ≤ 140737488355328 ∧ (joinV ⟨#[46]⟩ (zs.map decS)).size ≤ 140737488355328 := ⟨by omega, by omega⟩
      have ht2 : (zs.map decS).take zs.length = zs.map decS := List.take_of_length_le (by omega)
      refine goh (And.intro hl (And.intro hj ht2)) ?_
      exact finh [] e
  · simp [no, ifp] at hp
@[go_sem] def ctPtrText : Ct := ⟨false, [], fun args os => match args, os with
  | [.agg [.val (.int .i64 a), .val (.int .i64 s), .val (.int .i64 b)]], [] => is (vs (ptrT ⟨a, s, b⟩))
  | _, _ => no⟩
theorem three_in {a s b : Int} (h : ptrOkB ⟨a, s, b⟩ = true) (i : Nat) : -9223372036854775808 ≤ [a, s, b].getD i ET.int.dflt ∧ [a, s, b].getD i ET.int.dflt ≤ 9223372036854775807 := by
  have hd : ET.int.dflt = (0 : Int) := rfl
  rcases ptrOk_cases h with h | h
  · cases h
    match i with
    | 0 => simp
    | 1 => simp
    | 2 => simp
    | i + 3 => simp [hd]
  · simp only at h
    match i with
    | 0 => simp; omega
    | 1 => simp; omega
    | 2 => simp; omega
    | i + 3 => simp [hd]
theorem s_ptrText_e : EnterOk Tryz.prog 280 := ⟨_, Tryz.func280, rfl, by decide⟩
@[go_sem] def s_ptrText_lv : List (List Nat) := [[1], [1, 3], [2], [1, 7], [2], [2]]
@[go_sem] noncomputable def s_ptrText_K : Known := ((Known.nil).cons 223 ctPtrOk s_ptrOk s_ptrOk_e).cons 49 ctPoints s_points s_points_e
set_option maxHeartbeats 8000000 in
theorem s_ptrText : Sound Tryz.prog 280 ctPtrText := by
  have ke := s_ptrText_K.env []
  have kl : Lives s_ptrText_lv := trivial
  refine sound_intro (E := ⟨ti, s_ptrText_K.Γ, []⟩) ke Tryz.func280 Tryz.ntmps280 rfl (rs := [.tmp 2]) rfl ?_
  intro args os hp
  unfold ctPtrText at hp ⊢
  dsimp only at hp ⊢
  split at hp
  · rename_i a s b
    refine ⟨by simp, fun φ0 w0 => ?_⟩
    clear hp
    have nt : (!true) = false := rfl
    have nf : (!false) = true := rfl
    cases hk : ptrOkB ⟨a, s, b⟩ with
    | false =>
      have e : ptrT ⟨a, s, b⟩ = ⟨#[]⟩ := by unfold ptrT; rw [if_neg (by rw [hk]; decide)]
      refine goh (And.intro hk nf) ?_
      refine W_cnd ?_ ?_ <;> intro hlit <;> try (cases hlit; done)
      refine goh trivial ?_
      exact finh [] e
    | true =>
      refine goh (And.intro hk nt) ?_
      refine W_cnd ?_ ?_ <;> intro hlit <;> try (cases hlit; done)
      refine goh trivial ?_
      refine W_cnd ?_ ?_ <;> (try simp only [cnd_r]) <;> intro h0
      · have e : ptrT ⟨a, s, b⟩ = ⟨#[45]⟩ := by unfold ptrT; rw [if_pos hk, if_pos h0]
        refine goh trivial ?_
        exact finh [] e
      · simp only [beq_eq_false_iff_ne, ne_eq] at h0
        have e : ptrT ⟨a, s, b⟩ = pointsV [a, s, b] := by unfold ptrT; rw [if_pos hk, if_neg h0]
        have hin := three_in hk
        refine goh hin ?_
        exact finh [] e
  · exact hp.elim
theorem s_specPtrText_e : EnterOk Tryz.prog 298 := ⟨_, Tryz.func298, rfl, by decide⟩
@[go_sem] def s_specPtrText_lv : List (List Nat) := [[1], [1, 5], [2], [1, 8], [2], [2]]
@[go_sem] noncomputable def s_specPtrText_K : Known := ((Known.nil).cons 158 ctPtrOk s_specPtrOk s_specPtrOk_e).cons 61 ctDecV s_dec2 s_dec2_e
set_option maxHeartbeats 8000000 in
theorem s_specPtrText : Sound Tryz.prog 298 ctPtrText := by
  have ke := s_specPtrText_K.env []
  have kl : Lives s_specPtrText_lv := trivial
  refine sound_intro (E := ⟨ti, s_specPtrText_K.Γ, []⟩) ke Tryz.func298 Tryz.ntmps298 rfl (rs := [.tmp 2]) rfl ?_
  intro args os hp
  unfold ctPtrText at hp ⊢
  dsimp only at hp ⊢
  split at hp
  · rename_i a s b
    refine ⟨by simp, fun φ0 w0 => ?_⟩
    clear hp
    have nt : (!true) = false := rfl
    have nf : (!false) = true := rfl
    cases hk : ptrOkB ⟨a, s, b⟩ with
    | false =>
      have e : ptrT ⟨a, s, b⟩ = ⟨#[]⟩ := by unfold ptrT; rw [if_neg (by rw [hk]; decide)]
      refine goh (And.intro hk nf) ?_
      refine W_cnd ?_ ?_ <;> intro hlit <;> try (cases hlit; done)
      refine goh trivial ?_
      exact finh [] e
    | true =>
      refine goh (And.intro hk nt) ?_
      refine W_cnd ?_ ?_ <;> intro hlit <;> try (cases hlit; done)
      refine goh trivial ?_
      refine W_cnd ?_ ?_ <;> (try simp only [cnd_r]) <;> intro h0
      · have e : ptrT ⟨a, s, b⟩ = ⟨#[45]⟩ := by unfold ptrT; rw [if_pos hk, if_pos h0]
        refine goh trivial ?_
        exact finh [] e
      · simp only [beq_eq_false_iff_ne, ne_eq] at h0
        have e : ptrT ⟨a, s, b⟩ = decS a ++ ⟨#[46]⟩ ++ decS s ++ ⟨#[46]⟩ ++ decS b := by unfold ptrT; rw [if_pos hk, if_neg h0, pointsV_three]
        have hin := three_in hk
        have i0 := hin 0
        have i1 := hin 1
        have i2 := hin 2
        simp only [List.getD_cons_zero, List.getD_cons_succ] at i0 i1 i2
        have z0 := decS_size i0.1 i0.2
        have z1 := decS_size i1.1 i1.2
        have z2 := decS_size i2.1 i2.2
        have hc1 : (⟨#[46]⟩ : ByteArray).size = 1 := rfl
        refine goh trivial ?_
        exact finh [] e
  · exact hp.elim
end Go.Proofs.YtmnbgppmfbnamaaGreatDoor
/- Functions: the digits of bytes, sealed texts. -/
namespace Go.Proofs.YtmnbgppmfbnamaaGreatDoor
open Go.RowKit

def hexs : ByteArray := ⟨#[48, 49, 50, 51, 52, 53, 54, 55, 56, 57, 97, 98, 99, 100, 101, 102]⟩
def hexd (k : Nat) : UInt8 := hexs.data.getD k 0
def hexN (s : ByteArray) : Nat → List UInt8
  | 0 => []
  | i + 1 => hexN s i ++ [hexd ((s.data.getD i 0).toNat / 16), hexd ((s.data.getD i 0).toNat % 16)]
theorem hexN_len (s : ByteArray) : ∀ i, (hexN s i).length = 2 * i
  | 0 => rfl
  | i + 1 => by unfold hexN; rw [List.length_append, hexN_len s i]; simp only [List.length_cons, List.length_nil]; omega
def hexV (s : ByteArray) : ByteArray := ⟨(hexN s s.size).toArray⟩
theorem nib_hi (b : UInt8) : ((b.toNat : Int)).fdiv (2 ^ min 4 8) = ((b.toNat / 16 : Nat) : Int) := by
  rw [Int.fdiv_eq_ediv_of_nonneg _ (by decide)]
  show (b.toNat : Int) / 16 = _
  omega
theorem nib_lo (b : UInt8) : IntKind.u8.wrap (andZ .u8 b.toNat 15) = ((b.toNat % 16 : Nat) : Int) := by
  have h : ∀ k : Fin 256, IntKind.u8.wrap (andZ .u8 ((k.val : Nat) : Int) 15) = ((k.val % 16 : Nat) : Int) := by decide +kernel
  exact h ⟨b.toNat, b.toNat_lt⟩
theorem hexd_at (k : Nat) : (#[48, 49, 50, 51, 52, 53, 54, 55, 56, 57, 97, 98, 99, 100, 101, 102] : Array UInt8).getD k 0 = hexd k := rfl
@[go_sem] def ctHex : Ct := ⟨false, [], fun args os => match args, os with
  | [.one (.val (.string s))], [] => ifp (s.size ≤ 1000000000) (vs (hexV s))
  | _, _ => no⟩
theorem s_hex_e : EnterOk Tryz.prog 50 := ⟨_, Tryz.func50, rfl, by decide⟩
@[go_sem] def s_hex_lv : List (List Nat) := [[0], [0, 3], [0, 3, 6, 7], [0, 3, 6, 7, 8], [0, 3, 4, 6, 7], [0, 3, 6, 7], [0, 3, 6, 7], [2]]
@[go_sem] noncomputable def s_hex_K : Known := Known.nil
set_option maxHeartbeats 8000000 in
theorem s_hex : Sound Tryz.prog 50 ctHex := by
  have ke := s_hex_K.env []
  have kl : Lives s_hex_lv := trivial
  refine sound_intro (E := ⟨ti, s_hex_K.Γ, []⟩) ke Tryz.func50 Tryz.ntmps50 rfl (rs := [.tmp 2]) rfl ?_
  intro args os hp
  unfold ctHex at hp ⊢
  dsimp only at hp ⊢
  split at hp
  · rename_i s
    have hlen : s.size ≤ 1000000000 := hp
    refine ⟨by simp, fun φ0 w0 => ?_⟩
    refine goh trivial ?_
    refine W_for s.size (fun i => True) (fun i => ⟨[(0, vs s), (3, .one (.osl .byte 0 0 (hexN s i).length)), (6, vi s.size), (7, vi i)], [some (.arr .byte (hexN s i))], []⟩) [none] (leh trivial) trivial fun i hi _ => ?_
    have hl := hexN_len s i
    refine goh trivial ?_
    refine W_cnd ?_ ?_ <;> (try simp only [cnd_r]) <;> intro hlt
    · have h1 := nib_hi (s.data.getD i 0)
      have h2 := nib_lo (s.data.getD i 0)
      have hb := (s.data.getD i 0).toNat_lt
      have hs : hexN s (i + 1) = hexN s i ++ [hexd ((s.data.getD i 0).toNat / 16), hexd ((s.data.getD i 0).toNat % 16)] := rfl
      have hda : ∀ k : Nat, (#[48, 49, 50, 51, 52, 53, 54, 55, 56, 57, 97, 98, 99, 100, 101, 102] : Array UInt8).getD k 0 = hexd k := hexd_at
      have hof : ∀ x : UInt8, UInt8.ofNat x.toNat = x := fun x => UInt8.ofNat_toNat
      refine goh (And.intro h1 (And.intro h2 (And.intro hda hof))) ?_
      exact ⟨[some 2], by omega, leh hs, trivial⟩
    · obtain rfl : i = s.size := by omega
      have e : hexV s = ⟨(hexN s s.size).toArray⟩ := rfl
      refine goh trivial ?_
      exact finh [] e
  · simp [no, ifp] at hp
@[go_sem] def ctDigit : Ct := ⟨false, [], fun args os => match args, os with
  | [.one (.val (.int .i64 n))], [] => ifp (0 ≤ n ∧ n < 16) (.one (.val (.int .u8 (hexd n.toNat).toNat)))
  | _, _ => no⟩
theorem s_digit_e : EnterOk Tryz.prog 134 := ⟨_, Tryz.func134, rfl, by decide⟩
@[go_sem] def s_digit_lv : List (List Nat) := [[0], [2]]
@[go_sem] noncomputable def s_digit_K : Known := Known.nil
set_option maxHeartbeats 8000000 in
theorem s_digit : Sound Tryz.prog 134 ctDigit := by
  have ke := s_digit_K.env []
  have kl : Lives s_digit_lv := trivial
  refine sound_intro (E := ⟨ti, s_digit_K.Γ, []⟩) ke Tryz.func134 Tryz.ntmps134 rfl (rs := [.tmp 2]) rfl ?_
  intro args os hp
  unfold ctDigit at hp ⊢
  dsimp only at hp ⊢
  split at hp
  · rename_i n
    obtain ⟨h1, h2⟩ : 0 ≤ n ∧ n < 16 := hp
    refine ⟨by simp, fun φ0 w0 => ?_⟩
    have hda : ∀ k : Nat, (#[48, 49, 50, 51, 52, 53, 54, 55, 56, 57, 97, 98, 99, 100, 101, 102] : Array UInt8).getD k 0 = hexd k := hexd_at
    refine goh hda ?_
    exact finh [] trivial
  · simp [no, ifp] at hp
theorem s_specHex_e : EnterOk Tryz.prog 60 := ⟨_, Tryz.func60, rfl, by decide⟩
@[go_sem] def s_specHex_lv : List (List Nat) := [[0], [0, 3], [0, 3, 4], [0, 3, 4, 9], [0, 3, 4], [0, 3, 4], [2]]
@[go_sem] noncomputable def s_specHex_K : Known := (Known.nil).cons 134 ctDigit s_digit s_digit_e
set_option maxHeartbeats 8000000 in
theorem s_specHex : Sound Tryz.prog 60 ctHex := by
  have ke := s_specHex_K.env []
  have kl : Lives s_specHex_lv := trivial
  refine sound_intro (E := ⟨ti, s_specHex_K.Γ, []⟩) ke Tryz.func60 Tryz.ntmps60 rfl (rs := [.tmp 2]) rfl ?_
  intro args os hp
  unfold ctHex at hp ⊢
  dsimp only at hp ⊢
  split at hp
  · rename_i s
    have hlen : s.size ≤ 1000000000 := hp
    refine ⟨by simp, fun φ0 w0 => ?_⟩
    refine goh trivial ?_
    refine W_for s.size (fun i => True) (fun i => ⟨[(0, vs s), (3, .one (.osl .byte 0 0 (hexN s i).length)), (4, vi i)], [some (.arr .byte (hexN s i))], []⟩) [some 0] (leh trivial) trivial fun i hi _ => ?_
    have hl := hexN_len s i
    refine goh trivial ?_
    refine W_cnd ?_ ?_ <;> (try simp only [cnd_r]) <;> intro hlt
    · have h1 : ((s.data.getD i 0).toNat : Int).tdiv 16 = (((s.data.getD i 0).toNat / 16 : Nat) : Int) := (Int.ofNat_tdiv _ 16).symm
      have h2 : ((s.data.getD i 0).toNat : Int).tmod 16 = (((s.data.getD i 0).toNat % 16 : Nat) : Int) := (Int.ofNat_tmod _ 16).symm
      have hb := (s.data.getD i 0).toNat_lt
      have w2 : IntKind.i64.wrap ((s.data.getD i 0).toNat : Int) = ((s.data.getD i 0).toNat : Int) := wrap_id _ (by omega) (by omega)
      have w1 : IntKind.i64.wrap (((s.data.getD i 0).toNat / 16 : Nat) : Int) = (((s.data.getD i 0).toNat / 16 : Nat) : Int) := wrap_id _ (by omega) (by omega)
      have hs : hexN s (i + 1) = hexN s i ++ [hexd ((s.data.getD i 0).toNat / 16), hexd ((s.data.getD i 0).toNat % 16)] := rfl
      have hof : ∀ x : UInt8, UInt8.ofNat x.toNat = x := fun x => UInt8.ofNat_toNat
      refine goh (And.intro w2 (And.intro h1 (And.intro h2 (And.intro w1 hof)))) ?_
      exact ⟨[some 2], by omega, leh hs, trivial⟩
    · obtain rfl : i = s.size := by omega
      have e : hexV s = ⟨(hexN s s.size).toArray⟩ := rfl
      refine goh trivial ?_
      exact finh [] e
  · simp [no, ifp] at hp
theorem hexV_size (s : ByteArray) : (hexV s).size = 2 * s.size := by
  show (hexN s s.size).toArray.size = _
  rw [List.size_toArray, hexN_len]
noncomputable def sealV (s : ByteArray) : ByteArray := if 400 < s.size then ⟨#[]⟩ else decS (sumOf s) ++ ⟨#[58]⟩ ++ s
@[go_sem] noncomputable def ctSeal : Ct := ⟨false, [], fun args os => match args, os with
  | [.one (.val (.string s))], [] => is (vs (sealV s))
  | _, _ => no⟩
theorem s_seal_e : EnterOk Tryz.prog 51 := ⟨_, Tryz.func51, rfl, by decide⟩
@[go_sem] def s_seal_lv : List (List Nat) := [[0], [0, 5], [2], [2]]
@[go_sem] noncomputable def s_seal_K : Known := ((Known.nil).cons 124 ctSumOf s_sumOf s_sumOf_e).cons 53 ctItoa s_itoa s_itoa_e
set_option maxHeartbeats 8000000 in
theorem s_seal : Sound Tryz.prog 51 ctSeal := by
  have ke := s_seal_K.env []
  have kl : Lives s_seal_lv := trivial
  refine sound_intro (E := ⟨ti, s_seal_K.Γ, []⟩) ke Tryz.func51 Tryz.ntmps51 rfl (rs := [.tmp 2]) rfl ?_
  intro args os hp
  unfold ctSeal at hp ⊢
  dsimp only at hp ⊢
  split at hp
  · rename_i s
    refine ⟨by simp, fun φ0 w0 => ?_⟩
    refine goh trivial ?_
    refine W_cnd ?_ ?_ <;> (try simp only [cnd_r]) <;> intro hc
    · have e : sealV s = ⟨#[]⟩ := by unfold sealV; rw [if_pos (by omega)]
      refine goh trivial ?_
      exact finh [] e
    · have e : sealV s = decS (sumOf s) ++ ⟨#[58]⟩ ++ s := by unfold sealV; rw [if_neg (by omega)]
      have h1 := sumAt_lt s s.size
      have h2 : sumAt s s.size = sumOf s := rfl
      have h3 := decS_size (n := sumOf s) (by omega) (by omega)
      have h4 : (⟨#[58]⟩ : ByteArray).size = 1 := rfl
      refine goh trivial ?_
      exact finh [] e
  · simp [no, is, ifp] at hp
theorem s_specSeal_e : EnterOk Tryz.prog 62 := ⟨_, Tryz.func62, rfl, by decide⟩
@[go_sem] def s_specSeal_lv : List (List Nat) := [[0], [0, 5], [2], [2]]
@[go_sem] noncomputable def s_specSeal_K : Known := ((Known.nil).cons 135 ctSumOf s_specSum s_specSum_e).cons 61 ctDecV s_dec2 s_dec2_e
set_option maxHeartbeats 8000000 in
theorem s_specSeal : Sound Tryz.prog 62 ctSeal := by
  have ke := s_specSeal_K.env []
  have kl : Lives s_specSeal_lv := trivial
  refine sound_intro (E := ⟨ti, s_specSeal_K.Γ, []⟩) ke Tryz.func62 Tryz.ntmps62 rfl (rs := [.tmp 2]) rfl ?_
  intro args os hp
  unfold ctSeal at hp ⊢
  dsimp only at hp ⊢
  split at hp
  · rename_i s
    refine ⟨by simp, fun φ0 w0 => ?_⟩
    refine goh trivial ?_
    refine W_cnd ?_ ?_ <;> (try simp only [cnd_r]) <;> intro hc
    · have e : sealV s = ⟨#[]⟩ := by unfold sealV; rw [if_pos (by omega)]
      refine goh trivial ?_
      exact finh [] e
    · have e : sealV s = decS (sumOf s) ++ ⟨#[58]⟩ ++ s := by unfold sealV; rw [if_neg (by omega)]
      have h1 := sumAt_lt s s.size
      have h2 : sumAt s s.size = sumOf s := rfl
      have h3 := decS_size (n := sumOf s) (by omega) (by omega)
      have h4 : (⟨#[58]⟩ : ByteArray).size = 1 := rfl
      refine goh trivial ?_
      exact finh [] e
  · simp [no, is, ifp] at hp
end Go.Proofs.YtmnbgppmfbnamaaGreatDoor
/- Functions: pointers are read. -/
namespace Go.Proofs.YtmnbgppmfbnamaaGreatDoor
open Go.RowKit

theorem cut_size (c : UInt8) : ∀ (l : Bs), ∀ w ∈ cutL c l, w.length ≤ l.length
  | [], w, hw => by simp [cutL] at hw; subst hw; exact Nat.le_refl _
  | b :: r, w, hw => by
    have ih := cut_size c r
    unfold cutL at hw
    split at hw
    · rcases List.mem_cons.1 hw with rfl | hw
      · exact Nat.zero_le _
      · exact Nat.le_trans (ih w hw) (by simp)
    · cases hc : cutL c r with
      | nil => exact absurd hc (cutL_ne c r)
      | cons v vs =>
        rw [hc] at hw ih
        rcases List.mem_cons.1 hw with rfl | hw
        · have := ih v (by simp); simp; omega
        · exact Nat.le_trans (ih w (by simp [hw])) (by simp)
theorem splitV_size {c : UInt8} {s w : ByteArray} (h : w ∈ splitV c s) : w.size ≤ s.size := by
  unfold splitV at h
  obtain ⟨l, hl, rfl⟩ := List.mem_map.1 h
  exact cut_size c _ l hl
@[go_sem] noncomputable def ctThree : Ct := ⟨false, [], fun args os => match args, os with
  | [.one (.val (.string t))], [] => ifp (t.size ≤ 1000000) (match thr t with | some (a, b, c) => .tup [vi a, vi b, vi c, vb (same (pointsV [a, b, c]) t)] | none => .tup [vi 0, vi 0, vi 0, vb false])
  | _, _ => no⟩
@[go_sem] noncomputable def ctPtrRead : Ct := ⟨false, [], fun args os => match args, os with
  | [.one (.val (.string t))], [] => ifp (t.size ≤ 1000000) (match ptrReadV t with | some p => .tup [.agg [.val (.int .i64 p.at_), .val (.int .i64 p.sum), .val (.int .i64 p.birth)], vb true] | none => .tup [.agg [.val (.int .i64 0), .val (.int .i64 0), .val (.int .i64 0)], vb false])
  | _, _ => no⟩
/-- A sealed text, opened. -/
noncomputable def openV (s : ByteArray) : ByteArray × Bool := if (cutV 58 s).2.2 = true ∧ same (sealV (cutV 58 s).2.1) s = true then ((cutV 58 s).2.1, true) else (⟨#[]⟩, false)
@[go_sem] noncomputable def ctSumOpen : Ct := ⟨false, [], fun args os => match args, os with
  | [.one (.val (.string s))], [] => ifp (s.size ≤ 1000000) (.tup [vs (openV s).1, vb (openV s).2])
  | _, _ => no⟩
end Go.Proofs.YtmnbgppmfbnamaaGreatDoor
/- Plain facts: a block that is healed. -/
namespace Go.Proofs.YtmnbgppmfbnamaaGreatDoor
open Go.RowKit

theorem heal_stays {d : Dk} (p : Ptr) (h : d.ok = true) : blkRead (blkHeal d p).1 p = blkRead d p ∧ (blkHeal (blkHeal d p).1 p).1 = (blkHeal d p).1 ∧ (∀ s k, k ≠ p.at_ → dkRead (blkHeal d p).1 s k = dkRead d s k) ∧ (blkHeal d p).1.a.length = d.a.length := by
  have same_ : (blkHeal d p).1 = d → blkRead (blkHeal d p).1 p = blkRead d p ∧ (blkHeal (blkHeal d p).1 p).1 = (blkHeal d p).1 ∧ (∀ s k, k ≠ p.at_ → dkRead (blkHeal d p).1 s k = dkRead d s k) ∧ (blkHeal d p).1.a.length = d.a.length := fun e => by
    rw [e]; exact ⟨rfl, e, fun _ _ _ => rfl, rfl⟩
  by_cases c1 : (blkRead d p).2 ≠ 0 ∨ d.has p 0 = d.has p 1
  · exact same_ (by unfold blkHeal; rw [if_pos h, if_pos c1])
  · by_cases c2 : d.may (badSide d p) p.at_ (blkRead d p).1 = true
    · have e : (blkHeal d p).1 = d.add (badSide d p) p.at_ (blkRead d p).1 := by unfold blkHeal; rw [if_pos h, if_neg c1, if_pos c2]
      have hx := Dk.add_ok h c2
      obtain ⟨m1, m2, m3, m4, m5⟩ := (may_iff _ _ _ _).1 c2
      have z0 : (blkRead d p).2 = 0 := by
        by_cases z : (blkRead d p).2 = 0
        · exact z
        · exact absurd (.inl z) c1
      have hne : ¬ d.has p 0 = d.has p 1 := fun z => c1 (.inr z)
      have hr : realB p = true := by
        unfold blkRead at z0
        split at z0
        · simp at z0
        · split at z0
          · rename_i hh; rw [Bool.and_eq_true] at hh; exact hh.2
          · simp at z0
      have s0 : ∀ s, s = 0 ∨ s = 1 → sector d.a.length s p.at_ = true := fun s hs => (sector_iff _ _ _).2 ⟨hs, m2, m3⟩
      obtain ⟨t, b, et, eb, ex, hb1, hsum⟩ : ∃ t b, (blkRead d p).1 = t ∧ badSide d p = b ∧ blkRead d p = (t, 0) ∧ ((b = 1 ∧ d.text 0 p.at_ = t) ∨ (b = 0)) ∧ (sumOf t : Int) = p.sum := by
        cases h0 : d.has p 0 with
        | true =>
          have hf := blk_fine h hr (t := d.text 0 p.at_) (.inl ⟨h0, rfl⟩)
          exact ⟨d.text 0 p.at_, 1, by rw [hf], by unfold badSide; rw [h0]; rfl, hf, .inl ⟨rfl, rfl⟩, ((has_iff _ _ _).1 h0).2⟩
        | false =>
          have h1 : d.has p 1 = true := by
            cases h1 : d.has p 1 with
            | true => rfl
            | false => exact absurd (h0.trans h1.symm) hne
          have hf := blk_fine h hr (t := d.text 1 p.at_) (.inr ⟨h0, h1, rfl⟩)
          exact ⟨d.text 1 p.at_, 0, by rw [hf], by unfold badSide; rw [h0]; rfl, hf, .inr rfl, ((has_iff _ _ _).1 h1).2⟩
      rw [et, eb] at e hx
      have hlen : (d.add b p.at_ t).a.length = d.a.length := rfl
      have htext : ∀ s, s = 0 ∨ s = 1 → (s = 0 ∨ b = s) → (d.add b p.at_ t).text s p.at_ = t := by
        intro s hs hbs
        rw [Dk.add_text]
        rcases hb1 with ⟨rfl, h2⟩ | rfl
        · rcases hbs with rfl | rfl
          · rw [if_neg (fun h => absurd h.1 (by decide)), h2]
          · rw [if_pos ⟨rfl, rfl⟩]
        · rcases hbs with rfl | rfl <;> rw [if_pos ⟨rfl, rfl⟩]
      have t0 := htext 0 (.inl rfl) (.inl rfl)
      have x0 : (d.add b p.at_ t).has p 0 = true := (has_iff _ _ _).2 ⟨by rw [hlen]; exact s0 0 (.inl rfl), by rw [t0]; exact hsum⟩
      have x1 : (d.add b p.at_ t).has p 1 = true := by
        rcases hb1 with ⟨rfl, h2⟩ | rfl
        · have t1 := htext 1 (.inr rfl) (.inr rfl)
          exact (has_iff _ _ _).2 ⟨by rw [hlen]; exact s0 1 (.inr rfl), by rw [t1]; exact hsum⟩
        · have h0 : d.has p 0 = false := by
            unfold badSide at eb
            cases h0 : d.has p 0 with
            | false => rfl
            | true => rw [h0] at eb; simp at eb
          have h1 : d.has p 1 = true := by
            cases h1 : d.has p 1 with
            | true => rfl
            | false => exact absurd (h0.trans h1.symm) hne
          have := (has_iff _ _ _).1 h1
          refine (has_iff _ _ _).2 ⟨by rw [hlen]; exact s0 1 (.inr rfl), ?_⟩
          rw [Dk.add_text, if_neg (fun h => absurd h.1 (by decide))]
          exact this.2
      have rd : blkRead (d.add b p.at_ t) p = (t, 0) := blk_fine hx hr (.inl ⟨x0, t0⟩)
      rw [e]
      refine ⟨rd.trans ex.symm, ?_, fun s k hk => ?_, rfl⟩
      · have : blkHeal (d.add b p.at_ t) p = (d.add b p.at_ t, (blkRead (d.add b p.at_ t) p).2) := by
          conv => lhs; unfold blkHeal
          rw [if_pos hx, if_pos (.inr (x0.trans x1.symm))]
        rw [this]
      · have e1 : (d.add b p.at_ t).text s k = d.text s k := by rw [Dk.add_text, if_neg (fun hh => hk hh.2.symm)]
        unfold dkRead dkReads
        rw [hx, h, hlen, e1]
    · exact same_ (by unfold blkHeal; rw [if_pos h, if_neg c1, if_neg c2])
theorem heal_bad {d : Dk} (p : Ptr) (h : d.ok = false) : blkHeal d p = (.nil, 2) := by unfold blkHeal; rw [h]; rfl
theorem ptr_back (p : Ptr) : ptrReadV (ptrT p) = if ptrOkB p = true then some p else none := by
  by_cases h : ptrOkB p = true
  · rw [if_pos h]; exact ptrRead_some.2 ⟨h, rfl⟩
  · rw [if_neg h]
    refine ptrRead_none fun q h1 h2 => ?_
    have e : ptrT p = ⟨#[]⟩ := by unfold ptrT; rw [if_neg h]
    rw [e] at h2
    unfold ptrT at h2
    rw [if_pos h1] at h2
    split at h2
    · exact absurd h2 (by decide)
    · have h3 := pointsV_split (zs := [q.at_, q.sum, q.birth]) (by simp)
      rw [h2] at h3
      have h4 : splitV 46 ⟨#[]⟩ = [⟨#[]⟩] := by decide
      rw [h4] at h3
      simp at h3
end Go.Proofs.YtmnbgppmfbnamaaGreatDoor
/- Plain facts: texts of commits, and torn ones. -/
namespace Go.Proofs.YtmnbgppmfbnamaaGreatDoor
open Go.RowKit

theorem cut_append (c : UInt8) : ∀ (u v : Bs), ∃ us x y vs, cutL c u = us ++ [x] ∧ cutL c v = y :: vs ∧ cutL c (u ++ v) = us ++ (x ++ y) :: vs
  | [], v => by
    cases h : cutL c v with
    | nil => exact absurd h (cutL_ne c v)
    | cons y vs => exact ⟨[], [], y, vs, rfl, rfl, h⟩
  | b :: u, v => by
    obtain ⟨us, x, y, vs, h1, h2, h3⟩ := cut_append c u v
    by_cases hb : b = c
    · subst hb
      refine ⟨[] :: us, x, y, vs, ?_, h2, ?_⟩
      · rw [cut_hit, h1]; rfl
      · show cutL b (b :: (u ++ v)) = _
        rw [cut_hit, h3]; rfl
    · cases us with
      | nil => exact ⟨[], b :: x, y, vs, cut_miss hb h1, h2, cut_miss hb h3⟩
      | cons w us => exact ⟨(b :: w) :: us, x, y, vs, cut_miss hb h1, h2, cut_miss hb h3⟩
def uberOk (k : Int) (r : Ptr) : Prop := 1 ≤ k ∧ k ≤ 1000000 ∧ realB r = true
instance (k : Int) (r : Ptr) : Decidable (uberOk k r) := inferInstanceAs (Decidable (_ ∧ _ ∧ _))
def uberI (k : Int) (r : Ptr) : ByteArray := decS k ++ ⟨#[32]⟩ ++ ptrT r ++ ⟨#[32]⟩ ++ decS k
/-- A commit's text. -/
noncomputable def uberT (k : Int) (r : Ptr) : ByteArray := if uberOk k r then sealV (uberI k r) else ⟨#[]⟩
theorem ptr_plain {c : UInt8} (h0 : c ≠ 46) (h1 : c.toNat ≠ 45) (h2 : c.toNat < 48 ∨ 57 < c.toNat) (r : Ptr) : c ∉ (ptrT r).data.toList := by
  unfold ptrT
  split
  · split
    · intro h
      have : c = 45 := by simpa using h
      subst this; exact h1 rfl
    · rw [pointsV_three]
      simp only [ByteArray.data_append, Array.toList_append, List.mem_append, not_or]
      have h46 : ¬ c ∈ (⟨#[46]⟩ : ByteArray).data.toList := by simpa using h0
      exact ⟨⟨⟨⟨itoa_not h1 h2 _, h46⟩, itoa_not h1 h2 _⟩, h46⟩, itoa_not h1 h2 _⟩
  · simp
theorem uberI_size {k : Int} {r : Ptr} (h : uberOk k r) : (uberI k r).size ≤ 105 := by
  have h1 := decS_size (n := k) (by have := h.1; omega) (by have := h.2.1; omega)
  have h2 := ptrT_size r
  have h3 : (⟨#[32]⟩ : ByteArray).size = 1 := rfl
  unfold uberI
  simp only [ByteArray.size_append]
  omega
theorem uber_seal {k : Int} {r : Ptr} (h : uberOk k r) : uberT k r = decS (sumOf (uberI k r)) ++ ⟨#[58]⟩ ++ uberI k r := by
  have := uberI_size h
  unfold uberT sealV
  rw [if_pos h, if_neg (by omega)]
theorem uberT_size (k : Int) (r : Ptr) : (uberT k r).size ≤ 126 := by
  by_cases h : uberOk k r
  · rw [uber_seal h]
    have h1 := uberI_size h
    have h2 := sumAt_lt (uberI k r) (uberI k r).size
    have h4 : sumAt (uberI k r) (uberI k r).size = sumOf (uberI k r) := rfl
    have h3 := decS_size (n := sumOf (uberI k r)) (by omega) (by omega)
    have h5 : (⟨#[58]⟩ : ByteArray).size = 1 := rfl
    simp only [ByteArray.size_append]
    omega
  · unfold uberT; rw [if_neg h]; exact Nat.zero_le _
/-- The first word of a commit's text. -/
def uberF (k : Int) (r : Ptr) : Bs := (decS (sumOf (uberI k r))).data.toList ++ 58 :: (decS k).data.toList
theorem uberI_words (k : Int) (r : Ptr) : cutL 32 (uberI k r).data.toList = [(decS k).data.toList, (ptrT r).data.toList, (decS k).data.toList] := by
  have e : (uberI k r).data.toList = (decS k).data.toList ++ 32 :: ((ptrT r).data.toList ++ 32 :: (decS k).data.toList) := by
    unfold uberI
    simp [ByteArray.data_append]
  rw [e, cut_app _ _ _ (no_blank k), cut_app _ _ _ (ptr_plain (by decide) (by decide) (by decide) r), cut_none _ _ (no_blank k)]
theorem uber_words {k : Int} {r : Ptr} (h : uberOk k r) : cutL 32 (uberT k r).data.toList = [uberF k r, (ptrT r).data.toList, (decS k).data.toList] := by
  have e : (uberT k r).data.toList = uberF k r ++ 32 :: ((ptrT r).data.toList ++ 32 :: (decS k).data.toList) := by
    rw [uber_seal h]
    unfold uberF uberI
    simp [ByteArray.data_append]
  have hF : (32 : UInt8) ∉ uberF k r := by
    unfold uberF
    rw [List.mem_append, List.mem_cons]
    rintro (h | h | h)
    · exact no_blank _ h
    · exact absurd h (by decide)
    · exact no_blank _ h
  rw [e, cut_app _ _ _ hF, cut_app _ _ _ (ptr_plain (by decide) (by decide) (by decide) r), cut_none _ _ (no_blank k)]
theorem data_inj {a b : ByteArray} (h : a.data.toList = b.data.toList) : a = b := by
  rw [← bytesL_data a, h, bytesL_data]
theorem uberF_inj {k n : Int} {r p : Ptr} (h : uberF k r = uberF n p) : k = n := by
  have e : ∀ (k : Int) (r : Ptr), cutL 58 (uberF k r) = [(decS (sumOf (uberI k r))).data.toList, (decS k).data.toList] := fun k r => by
    unfold uberF
    rw [cut_app _ _ _ (no_colon _), cut_none _ _ (no_colon k)]
  have h1 := e k r
  rw [h, e n p] at h1
  simp only [List.cons.injEq, and_true] at h1
  exact (decS_inj (data_inj h1.2)).symm
/-- A torn text of a commit is never mistaken: what is read is one of the two. -/
theorem torn_uber {k n m : Int} {r p q : Ptr} (hk : uberOk k r) (hn : uberOk n p) (hm : uberOk m q ∨ uberT m q = ⟨#[]⟩) (hnm : n ≠ m) (i : Nat) {z : Bs} (hz : z = (uberT m q).data.toList.drop i ∨ z = [])
    (h : (uberT k r).data.toList = (uberT n p).data.toList.take i ++ z) : (k = n ∧ r = p) ∨ (k = m ∧ r = q) := by
  have hr : ∀ {r p : Ptr} (k n : Int), uberOk k r → uberOk n p → (ptrT r).data.toList = (ptrT p).data.toList → r = p := fun k n h1 h2 h3 =>
    ptrT_inj (ptrOk_real h1.2.2).1 (ptrOk_real h2.2.2).1 (data_inj h3)
  have w1 := uber_words hk
  have w2 := uber_words hn
  obtain ⟨us, x, y, vs, a1, a2, a3⟩ := cut_append 32 ((uberT n p).data.toList.take i) z
  obtain ⟨us', x', y', vs', b1, b2, b3⟩ := cut_append 32 ((uberT n p).data.toList.take i) ((uberT n p).data.toList.drop i)
  rw [List.take_append_drop] at b3
  rw [h, a3] at w1
  rw [b3] at w2
  obtain ⟨rfl, hxx⟩ := List.append_inj' (a1.symm.trans b1) rfl
  have hxx : x = x' := by simpa using hxx
  subst hxx
  -- what stands behind: words of the old text's end
  have hv : (vs = [] ∨ vs = [(decS m).data.toList] ∧ uberOk m q) ∨ (vs = [(ptrT q).data.toList, (decS m).data.toList] ∧ uberOk m q) := by
    rcases hz with hz | hz
    · rcases hm with hm | hm
      · have w3 := uber_words hm
        obtain ⟨us3, x3, y3, vs3, c1, c2, c3⟩ := cut_append 32 ((uberT m q).data.toList.take i) ((uberT m q).data.toList.drop i)
        rw [List.take_append_drop, w3] at c3
        rw [← hz, a2] at c2
        obtain ⟨rfl, rfl⟩ := List.cons.inj c2
        match us3, c3 with
        | [], c3 => simp at c3; exact .inr ⟨c3.2.symm, hm⟩
        | [_], c3 => simp at c3; exact .inl (.inr ⟨c3.2.2.symm, hm⟩)
        | [_, _], c3 => simp at c3; exact .inl (.inl c3.2.2.2)
        | _ :: _ :: _ :: _, c3 => simp at c3
      · rw [hm] at hz
        have : z = [] := by rw [hz]; simp
        rw [this] at a2
        simp [cutL] at a2
        exact .inl (.inl a2.2)
    · rw [hz] at a2
      simp [cutL] at a2
      exact .inl (.inl a2.2)
  match us, w1, w2 with
  | [], w1, w2 =>
    simp only [List.nil_append, List.cons.injEq] at w1
    rcases hv with (hv | ⟨hv, hq⟩) | ⟨hv, hq⟩
    · rw [hv] at w1; simp at w1
    · rw [hv] at w1; simp at w1
    · rw [hv] at w1
      simp only [List.cons.injEq, and_true] at w1
      right
      have hkm := decS_inj (data_inj w1.2.2)
      exact ⟨hkm.symm, (hr m k hq hk w1.2.1).symm⟩
  | [F], w1, w2 =>
    simp only [List.cons_append, List.nil_append, List.cons.injEq] at w1 w2
    have hkn := uberF_inj (w1.1.symm.trans w2.1)
    rcases hv with (hv | ⟨hv, hq⟩) | ⟨hv, hq⟩
    · rw [hv] at w1; simp at w1
    · rw [hv] at w1
      simp only [List.cons.injEq, and_true] at w1
      have hkm := decS_inj (data_inj w1.2.2)
      exact absurd (hkn.symm.trans hkm.symm) hnm
    · rw [hv] at w1; simp at w1
  | [F, P], w1, w2 =>
    simp only [List.cons_append, List.nil_append, List.cons.injEq] at w1 w2
    left
    exact ⟨uberF_inj (w1.1.symm.trans w2.1), hr k n hk hn (w1.2.1.symm.trans w2.2.1)⟩
  | _ :: _ :: _ :: _, w1, w2 => simp at w1
/-- A commit that is read. -/
noncomputable def uberP (t : ByteArray) : Option (Int × Ptr) := match splitV 32 (openV t).1 with
  | [x, y, z] => (match atoiV x, ptrReadV y with
    | some k, some r => if uberT k r = t then some (k, r) else none
    | _, _ => none)
  | _ => none
theorem open_uber {k : Int} {r : Ptr} (h : uberOk k r) : openV (uberT k r) = (uberI k r, true) := by
  have e : (uberT k r).data.toList = (decS (sumOf (uberI k r))).data.toList ++ 58 :: (uberI k r).data.toList := by
    rw [uber_seal h]; simp [ByteArray.data_append]
  have hc := cutV_at e (no_colon _)
  have hs : sealV (uberI k r) = uberT k r := by unfold uberT; rw [if_pos h]
  unfold openV
  rw [hc]
  simp only [bytesL_data]
  rw [hs, if_pos ⟨trivial, same_true.2 rfl⟩]
theorem splitV_nil (c : UInt8) : splitV c ⟨#[]⟩ = [⟨#[]⟩] := rfl
theorem open_nil : openV ⟨#[]⟩ = (⟨#[]⟩, false) := by
  unfold openV
  rw [cutV_not (by simp), if_neg (by rintro ⟨h, -⟩; cases h)]
theorem uberP_iff {t : ByteArray} {k : Int} {r : Ptr} : uberP t = some (k, r) ↔ uberOk k r ∧ uberT k r = t := by
  constructor
  · intro h
    unfold uberP at h
    split at h
    · rename_i x y z hw
      split at h
      · rename_i k' r' hk hr
        split at h
        · rename_i ht
          cases h
          refine ⟨?_, ht⟩
          by_cases hok : uberOk k r
          · exact hok
          · exfalso
            have : t = ⟨#[]⟩ := by rw [← ht]; unfold uberT; rw [if_neg hok]
            rw [this, open_nil, splitV_nil] at hw
            simp at hw
        · cases h
      · cases h
    · cases h
  · rintro ⟨h, rfl⟩
    unfold uberP
    rw [open_uber h]
    have hw : splitV 32 (uberI k r) = [decS k, ptrT r, decS k] := by
      unfold splitV
      rw [uberI_words]
      simp only [List.map_cons, List.map_nil, bytesL_data]
    rw [hw]
    simp only
    rw [(atoi_dec (n := k) (by have := h.1; omega) (by have := h.2.1; omega)).1, ptr_back, if_pos (ptrOk_real h.2.2).1]
    simp only
    rw [if_pos trivial]
end Go.Proofs.YtmnbgppmfbnamaaGreatDoor
/- Plain facts: the reference's words and numbers. -/
namespace Go.Proofs.YtmnbgppmfbnamaaGreatDoor
open Go.RowKit

theorem drop_at {l : Bs} {f i : Nat} (hi : i < l.length) (hf : f ≤ i) : l.drop f = (l.drop f).take (i - f) ++ l[i] :: l.drop (i + 1) := by
  have h1 := List.take_append_drop (i - f) (l.drop f)
  rw [List.drop_drop, show f + (i - f) = i by omega, List.drop_eq_getElem_cons hi] at h1
  exact h1.symm
theorem take_at {l : Bs} {f i : Nat} (hi : i < l.length) (hf : f ≤ i) : (l.drop f).take (i + 1 - f) = (l.drop f).take (i - f) ++ [l[i]] := by
  have h1 : (l.drop f).take (i - f + 1) = (l.drop f).take (i - f) ++ [(l.drop f)[i - f]'(by rw [List.length_drop]; omega)] := List.take_succ_eq_append_getElem (by rw [List.length_drop]; omega)
  rw [show i + 1 - f = i - f + 1 by omega, h1]
  congr 2
  rw [List.getElem_drop]
  congr 1; omega
theorem extract_list (s : ByteArray) (f i : Nat) : s.extract f i = bytesL ((s.data.toList.drop f).take (i - f)) := by
  apply ByteArray.ext
  apply Array.ext'
  rw [ByteArray.data_extract, Array.toList_extract, bytesL_list]
theorem getD_list (s : ByteArray) {i : Nat} (hi : i < s.data.toList.length) : s.data.getD i 0 = s.data.toList[i] := by
  simp only [Array.getD]
  rw [dif_pos (by simpa using hi)]
  simp
/-- Where the first c stands, or -1. -/
def findV (c : UInt8) (s : ByteArray) : Int := if (cutV c s).2.2 = true then ((cutV c s).1.size : Int) else -1
theorem find_not {c : UInt8} {s : ByteArray} (h : c ∉ s.data.toList) : findV c s = -1 := by
  unfold findV; rw [cutV_not h]; rfl
theorem find_at {c : UInt8} {s : ByteArray} {i : Nat} (hi : i < s.data.toList.length) (h : c ∉ s.data.toList.take i) (hc : s.data.toList[i] = c) : findV c s = i ∧ (cutV c s).2.1 = s.extract (i + 1) s.size ∧ (cutV c s).2.2 = true := by
  have e : s.data.toList = s.data.toList.take i ++ c :: s.data.toList.drop (i + 1) := by
    have := drop_at (f := 0) hi (Nat.zero_le _)
    rw [hc] at this
    simpa using this
  have h2 := cutV_at e h
  refine ⟨?_, ?_, by rw [h2]⟩
  · unfold findV
    rw [h2]
    simp only [if_true]
    show ((s.data.toList.take i).toArray.size : Int) = i
    rw [List.size_toArray, List.length_take]
    omega
  · rw [h2, extract_list]
    simp only
    rw [List.take_of_length_le]
    rw [List.length_drop]
    show _ ≤ s.size - (i + 1)
    rw [Array.length_toList]; exact Nat.le_refl _
/-- A number as it is written, of at most 17 digits. -/
def numT (s : ByteArray) : ByteArray := if s.data.getD 0 0 = 45 ∧ 0 < s.size then s.extract 1 s.size else s
def numBad (s : ByteArray) : Bool := decide ((numT s).size = 0) || decide (17 < (numT s).size) || (decide ((numT s).data.getD 0 0 = 48) && (decide (1 < (numT s).size) || decide (s.data.getD 0 0 = 45 ∧ 0 < s.size)))
def numV (s : ByteArray) : Option Int := if numBad s = true then none else (Lib.decFrom 0 (numT s).data.toList).map fun (u : Nat) => if s.data.getD 0 0 = 45 ∧ 0 < s.size then -(u : Int) else (u : Int)
theorem num_dec {n : Int} (h0 : 0 ≤ n) (h1 : n < 10 ^ 17) : numV (decS n) = some n := by
  obtain ⟨u, rfl⟩ := Int.eq_ofNat_of_zero_le h0
  have hl : (decS u).data.toList = Lib.decDigits u := by rw [decS_list]; unfold Lib.itoa; rw [if_neg (by omega), Int.toNat_natCast]
  have hlen := decD_len 16 u (by omega)
  have hsz : (decS u).size = (Lib.decDigits u).length := by rw [← hl]; rfl
  have hne := decD_ne u
  have hpos : 0 < (Lib.decDigits u).length := List.length_pos_iff.2 hne
  have hhead : (decS u).data.getD 0 0 = (Lib.decDigits u)[0] := by
    rw [getD_list _ (by rw [hl]; exact hpos)]
    simp only [hl]
  have hdig := decD_dig u (Lib.decDigits u)[0] (List.getElem_mem hpos)
  have hn45 : ¬ ((decS u).data.getD 0 0 = 45 ∧ 0 < (decS u).size) := by
    rintro ⟨h, -⟩
    rw [hhead] at h
    rw [h] at hdig
    exact absurd hdig (by decide)
  have ht : numT (decS u) = decS u := by unfold numT; rw [if_neg hn45]
  have hb : numBad (decS u) = false := by
    unfold numBad
    rw [ht]
    have a1 : decide ((decS u).size = 0) = false := by rw [decide_eq_false_iff_not]; omega
    have a2 : decide (17 < (decS u).size) = false := by rw [decide_eq_false_iff_not]; omega
    have a3 : decide ((decS u).data.getD 0 0 = 45 ∧ 0 < (decS u).size) = false := by rw [decide_eq_false_iff_not]; exact hn45
    rw [a1, a2, a3]
    by_cases h48 : (decS u).data.getD 0 0 = 48
    · have a4 : decide (1 < (decS u).size) = false := by
        rw [decide_eq_false_iff_not, hsz]
        intro h1
        rcases Nat.eq_zero_or_pos u with rfl | hu
        · rw [decD_small (by omega)] at h1; simp at h1
        · obtain ⟨b, r, hb, hb2⟩ := decD_head u hu
          rw [hhead] at h48
          have : (Lib.decDigits u)[0] = b := by simp [hb]
          rw [this] at h48
          rw [h48] at hb2
          exact hb2 rfl
      rw [a4]; simp
    · have a5 : decide ((decS u).data.getD 0 0 = 48) = false := decide_eq_false h48
      rw [a5, Bool.false_and]; rfl
  unfold numV
  rw [hb, if_neg (by decide), ht, hl, decFrom_decD]
  simp only [Option.map_some, if_neg hn45]
theorem ptrT_small {p : Ptr} : (ptrT p).size ≤ 30 := by
  unfold ptrT
  split
  · rename_i h
    split
    · show 1 ≤ 30; omega
    · rename_i h0
      rcases ptrOk_cases h with rfl | hc
      · exact absurd rfl h0
      · rw [pointsV_three]
        have sz : ∀ (n : Int) (k : Nat), 0 ≤ n → n < 10 ^ (k + 1) → (decS n).size ≤ k + 1 := fun n k h1 h2 => by
          obtain ⟨u, rfl⟩ := Int.eq_ofNat_of_zero_le h1
          rw [decS_nat]
          exact decB_size k u (by exact_mod_cast h2)
        have s1 := sz p.at_ 2 (by omega) (by have := hc.2.1; show p.at_ < 1000; omega)
        have s2 := sz p.sum 4 (by omega) (by have := hc.2.2.2.1; show p.sum < 100000; omega)
        have s3 := sz p.birth 6 (by omega) (by have := hc.2.2.2.2.2; show p.birth < 10000000; omega)
        have h46 : (⟨#[46]⟩ : ByteArray).size = 1 := rfl
        simp only [ByteArray.size_append]
        omega
  · exact Nat.zero_le _
/-- The reference reads three numbers so. -/
theorem num_read {t x y z : ByteArray} (h : t ≠ ⟨#[45]⟩) (hw : splitV 46 t = [x, y, z]) : ptrReadV t = (match numV x, numV y, numV z with
    | some a, some b, some c => if ptrT ⟨a, b, c⟩ = t then some ⟨a, b, c⟩ else none
    | _, _, _ => none) := by
  have hk : ∀ p, ptrOkB p = true → ptrT p = t → numV x = some p.at_ ∧ numV y = some p.sum ∧ numV z = some p.birth := by
    intro p h1 h2
    have h3 : p.at_ ≠ 0 := fun h3 => h (by rw [← h2]; unfold ptrT; rw [if_pos h1, if_pos h3])
    have h4 : pointsV [p.at_, p.sum, p.birth] = t := by rw [← h2]; unfold ptrT; rw [if_pos h1, if_neg h3]
    rw [← h4, pointsV_split (by simp)] at hw
    simp only [List.map_cons, List.map_nil, List.cons.injEq, and_true] at hw
    obtain ⟨rfl, rfl, rfl⟩ := hw
    rcases ptrOk_cases h1 with rfl | hc
    · exact absurd rfl h3
    · exact ⟨num_dec (by omega) (by omega), num_dec (by omega) (by omega), num_dec (by omega) (by omega)⟩
  cases hr : ptrReadV t with
  | some p =>
    obtain ⟨h1, h2⟩ := ptrRead_some.1 hr
    obtain ⟨e1, e2, e3⟩ := hk p h1 h2
    rw [e1, e2, e3]
    simp only
    rw [if_pos h2]
  | none =>
    split
    · rename_i a b c e1 e2 e3
      rw [if_neg]
      intro h2
      by_cases h1 : ptrOkB ⟨a, b, c⟩ = true
      · rw [ptrRead_some.2 ⟨h1, h2⟩] at hr; cases hr
      · have : t = ⟨#[]⟩ := by rw [← h2]; unfold ptrT; rw [if_neg h1]
        rw [this, splitV_nil] at hw
        simp at hw
    · rfl
theorem read_long {t : ByteArray} (h : 30 < t.size) : ptrReadV t = none := ptrRead_none fun p _ h2 => by
  have := @ptrT_small p
  rw [h2] at this; omega
theorem read_words {t : ByteArray} (h : t ≠ ⟨#[45]⟩) (hw : (splitV 46 t).length ≠ 3) : ptrReadV t = none := ptrRead_none fun p h1 h2 => by
  have h3 : p.at_ ≠ 0 := fun h3 => h (by rw [← h2]; unfold ptrT; rw [if_pos h1, if_pos h3])
  have h4 : pointsV [p.at_, p.sum, p.birth] = t := by rw [← h2]; unfold ptrT; rw [if_pos h1, if_neg h3]
  rw [← h4, pointsV_split (by simp)] at hw
  exact hw rfl
/-- The reference reads a commit so. -/
theorem uber_spec {t x y z : ByteArray} (ho : (openV t).2 = true) (hw : splitV 32 (openV t).1 = [x, y, z]) : uberP t =
    if uberT ((numV x).getD 0) ((ptrReadV y).getD ⟨0, 0, 0⟩) = t then some ((numV x).getD 0, (ptrReadV y).getD ⟨0, 0, 0⟩) else none := by
  cases hu : uberP t with
  | some kr =>
    obtain ⟨k, r⟩ := kr
    obtain ⟨h1, rfl⟩ := uberP_iff.1 hu
    rw [open_uber h1] at hw
    have hw2 : splitV 32 (uberI k r) = [decS k, ptrT r, decS k] := by
      unfold splitV
      rw [uberI_words]
      simp only [List.map_cons, List.map_nil, bytesL_data]
    rw [hw2] at hw
    simp only [List.cons.injEq, and_true] at hw
    obtain ⟨rfl, rfl, rfl⟩ := hw
    rw [num_dec (by have := h1.1; omega) (by have := h1.2.1; omega), ptr_back, if_pos (ptrOk_real h1.2.2).1]
    simp only [Option.getD_some]
    rw [if_pos trivial]
  | none =>
    rw [if_neg]
    intro h
    by_cases hok : uberOk ((numV x).getD 0) ((ptrReadV y).getD ⟨0, 0, 0⟩)
    · rw [uberP_iff.2 ⟨hok, h⟩] at hu; cases hu
    · have : t = ⟨#[]⟩ := by rw [← h]; unfold uberT; rw [if_neg hok]
      rw [this, open_nil] at ho
      cases ho
theorem uber_closed {t : ByteArray} (ho : (openV t).2 = false) : uberP t = none := by
  cases hu : uberP t with
  | none => rfl
  | some kr =>
    obtain ⟨k, r⟩ := kr
    obtain ⟨h1, rfl⟩ := uberP_iff.1 hu
    rw [open_uber h1] at ho
    cases ho
theorem uber_words3 {t : ByteArray} (hw : (splitV 32 (openV t).1).length ≠ 3) : uberP t = none := by
  unfold uberP
  split
  · rename_i h; rw [h] at hw; exact absurd rfl hw
  · rfl
end Go.Proofs.YtmnbgppmfbnamaaGreatDoor
/- Functions: what the reader of codes draws. -/
namespace Go.Proofs.YtmnbgppmfbnamaaGreatDoor
open Go.RowKit

/-- The reader's object: bytes, place. -/
@[go_sem] def rdO (bs : List UInt8) (p : Int) : Obj := .cells [.isl .byte bs, .val (.int .i64 p)]
@[go_sem] def ctOpen : Ct := ⟨true, [[some .byte]], fun args os => match args, os with
  | [.one (.isl .byte bs)], [] => ⟨bs.length ≤ 1048576, .one (.ptr 0 0), [], [rdO (bs.take 2000) 0]⟩
  | _, _ => no⟩
theorem s_open_e : EnterOk Tryz.prog 45 := ⟨_, Tryz.func45, rfl, by decide⟩
@[go_sem] def s_open_lv : List (List Nat) := [[0], [0, 5], [0], [2]]
@[go_sem] noncomputable def s_open_K : Known := Known.nil
set_option maxHeartbeats 8000000 in
theorem s_open : Sound Tryz.prog 45 ctOpen := by
  have ke := s_open_K.env []
  have kl : Lives s_open_lv := trivial
  refine sound_intro (E := ⟨ti, s_open_K.Γ, []⟩) ke Tryz.func45 Tryz.ntmps45 rfl (rs := [.tmp 2]) rfl ?_
  intro args os hp
  unfold ctOpen at hp ⊢
  dsimp only at hp ⊢
  split at hp
  · rename_i bs
    refine ⟨by simp, fun φ0 w0 => ?_⟩
    have hlen : bs.length ≤ 1048576 := hp
    clear hp
    refine goh trivial ?_
    refine W_cnd ?_ ?_ <;> (try simp only [cnd_r]) <;> intro hc
    · refine goh trivial ?_
      exact finh [some 0] trivial
    · refine goh trivial ?_
      have ht : bs.take 2000 = bs := List.take_of_length_le (by omega)
      rw [ht]
      exact finh [some 0] trivial
  · simp [no] at hp

def byteAt (bs : List UInt8) (i : Int) : Int := ((bs.getD i.toNat 0).toNat : Int)
def byteW (bs : List UInt8) (i : Int) : Int := IntKind.i64.wrap ((UInt8.toNat (bs.getD i.toNat ET.byte.dflt) : Nat) : Int)
/-- What is drawn behind the code's end. -/
def mixS (bs : List UInt8) (k : Int) : Int := IntKind.i64.wrap (IntKind.i64.wrap (IntKind.i64.wrap (IntKind.i64.wrap (byteW bs (k.tmod bs.length) * 131) + IntKind.i64.wrap (byteW bs ((IntKind.i64.wrap (IntKind.i64.wrap (k * 7) + 3)).tmod bs.length) * 1117)) + IntKind.i64.wrap (k * 29)) + IntKind.i64.wrap (IntKind.i64.wrap (k.tdiv bs.length) * 53))
def mixV (bs : List UInt8) (k : Int) : Int := IntKind.i64.wrap (((BitVec.ofInt 64 (mixS bs k) ^^^ BitVec.ofInt 64 (IntKind.i64.wrap ((mixS bs k).tdiv 64))).toNat : Nat) : Int)
theorem byteW_eq (bs : List UInt8) (i : Int) : byteW bs i = byteAt bs i ∧ 0 ≤ byteAt bs i ∧ byteAt bs i < 256 := by
  have hb : (UInt8.toNat (bs.getD i.toNat (0 : UInt8))) < 256 := UInt8.toNat_lt _
  have e : byteW bs i = IntKind.i64.wrap (byteAt bs i) := rfl
  unfold byteAt at e ⊢
  rw [e, wrap_id _ (by omega) (by omega)]
  omega
theorem tmod_in (k : Int) (n : Nat) (hk : 0 ≤ k) (hn : n ≠ 0) : 0 ≤ k.tmod n ∧ k.tmod n < n := ⟨Int.tmod_nonneg _ hk, Int.tmod_lt_of_pos _ (show (0 : Int) < n by omega)⟩
theorem tdiv_in (k : Int) (n : Int) (hk : 0 ≤ k) (hn : 0 < n) : 0 ≤ k.tdiv n ∧ k.tdiv n ≤ k := ⟨Int.tdiv_nonneg hk (by omega), by
  rw [Int.tdiv_eq_ediv_of_nonneg hk]; exact Int.ediv_le_self n hk⟩
theorem mixS_in (bs : List UInt8) (k : Int) (h1 : 0 ≤ k) (h2 : k ≤ 1000000) (hb : bs.length ≠ 0) : 0 ≤ mixS bs k ∧ mixS bs k ≤ 1000000000 := by
  obtain ⟨a1, a2, a3⟩ := byteW_eq bs (k.tmod bs.length)
  obtain ⟨b1, b2, b3⟩ := byteW_eq bs ((IntKind.i64.wrap (IntKind.i64.wrap (k * 7) + 3)).tmod bs.length)
  obtain ⟨c1, c2⟩ := tdiv_in k bs.length h1 (by omega)
  unfold mixS
  rw [a1, b1]
  generalize byteAt bs (k.tmod bs.length) = x at *
  generalize byteAt bs ((IntKind.i64.wrap (IntKind.i64.wrap (k * 7) + 3)).tmod bs.length) = y at *
  generalize k.tdiv bs.length = z at *
  rw [wrap_id (x * 131) (by omega) (by omega), wrap_id (y * 1117) (by omega) (by omega), wrap_id (k * 29) (by omega) (by omega), wrap_id z (by omega) (by omega), wrap_id (z * 53) (by omega) (by omega),
    wrap_id (x * 131 + y * 1117) (by omega) (by omega), wrap_id (x * 131 + y * 1117 + k * 29) (by omega) (by omega), wrap_id (x * 131 + y * 1117 + k * 29 + z * 53) (by omega) (by omega)]
  omega
theorem xor_in (a b : Int) (ha : 0 ≤ a) (hb : 0 ≤ b) (ha' : a < 4611686018427387904) (hb' : b < 4611686018427387904) : 0 ≤ IntKind.i64.wrap (((BitVec.ofInt 64 a ^^^ BitVec.ofInt 64 b).toNat : Nat) : Int) := by
  obtain ⟨a, rfl⟩ := Int.eq_ofNat_of_zero_le ha
  obtain ⟨b, rfl⟩ := Int.eq_ofNat_of_zero_le hb
  have h : (BitVec.ofInt 64 (a : Int) ^^^ BitVec.ofInt 64 (b : Int)).toNat < 2 ^ 62 := by
    rw [BitVec.toNat_xor, BitVec.toNat_ofInt, BitVec.toNat_ofInt]
    refine Nat.xor_lt_two_pow ?_ ?_ <;> omega
  generalize (BitVec.ofInt 64 (a : Int) ^^^ BitVec.ofInt 64 (b : Int)).toNat = x at *
  rw [wrap_id _ (by omega) (by omega)]
  omega
theorem mixV_in (bs : List UInt8) (k : Int) (h1 : 0 ≤ k) (h2 : k ≤ 1000000) (hb : bs.length ≠ 0) : 0 ≤ mixV bs k := by
  obtain ⟨a, b⟩ := mixS_in bs k h1 h2 hb
  obtain ⟨c, d⟩ := tdiv_in (mixS bs k) 64 a (by omega)
  unfold mixV
  refine xor_in _ _ a ?_ (by omega) ?_ <;> rw [wrap_id _ (by omega) (by omega)] <;> omega
/-- The number that is picked. -/
def pickV (bs : List UInt8) (p n : Int) : Int := if n < 1 ∨ bs.length = 0 then 0 else if p < bs.length then (byteAt bs p).tmod n else (mixV bs p).tmod n
@[go_sem] def ctPick : Ct := ⟨true, [], fun args os => match args, os with
  | [.one (.ptr 0 0), .one (.val (.int .i64 n))], [.cells [.isl .byte bs, .val (.int .i64 p)]] => ⟨0 ≤ p ∧ p ≤ 1000000 ∧ bs.length ≤ 2000, vi (pickV bs p n), [(0, some (rdO bs (p + 1)))], []⟩
  | _, _ => no⟩
theorem s_pick_e : EnterOk Tryz.prog 117 := ⟨_, Tryz.func117, rfl, by decide⟩
@[go_sem] def s_pick_lv : List (List Nat) := [[0, 1], [0, 1], [0, 1, 24], [4], [0, 1, 5], [0, 1, 5, 36], [4], [1, 6], [1, 6], [4]]
@[go_sem] noncomputable def s_pick_K : Known := Known.nil
set_option maxHeartbeats 8000000 in
theorem s_pick : Sound Tryz.prog 117 ctPick := by
  have ke := s_pick_K.env []
  have kl : Lives s_pick_lv := trivial
  refine sound_intro (E := ⟨ti, s_pick_K.Γ, []⟩) ke Tryz.func117 Tryz.ntmps117 rfl (rs := [.tmp 4]) rfl ?_
  intro args os hp
  unfold ctPick at hp ⊢
  dsimp only at hp ⊢
  split at hp
  · rename_i n bs p
    refine ⟨by simp, fun φ0 w0 => ?_⟩
    obtain ⟨h1, h2, h3⟩ : 0 ≤ p ∧ p ≤ 1000000 ∧ bs.length ≤ 2000 := hp
    have hw1 : IntKind.i64.wrap (p + 1) = p + 1 := wrap_id _ (by omega) (by omega)
    have hw2 : IntKind.i64.wrap (p + 1 - 1) = p := by rw [wrap_id _ (by omega) (by omega)]; omega
    refine goh (And.intro hw1 hw2) ?_
    refine W_cond _ (by exact rfl) (by exact trivial) ?_ ?_ <;> intro hc
    · have hc' : n < 1 ∨ bs.length = 0 := by
        by_cases hn : n < 1
        · exact .inl hn
        · rw [if_neg hn] at hc; simp at hc; exact .inr (by simp [hc])
      refine goh trivial ?_
      refine ⟨by (simp only [go_sem, ↓reduceIte, reduceCtorEq, Nat.reduceAdd, Nat.reduceLT, Nat.reduceLeDiff, Nat.reduceEqDiff]) <;> trivial, [some 0], ?_⟩
      all_goals try simp only [go_sem, inj_r, ↓reduceIte, reduceCtorEq, Nat.reduceAdd, Nat.reduceLT, Nat.reduceLeDiff, Nat.reduceEqDiff, Int.reduceEq]
      all_goals (repeat' refine And.intro ?_ ?_) <;> try exact shut7
      unfold pickV
      rw [if_pos hc']
    · have hn : ¬ n < 1 := by intro hn; rw [if_pos hn] at hc; cases hc
      have hl : bs.length ≠ 0 := by rw [if_neg hn] at hc; simp at hc; intro h; exact hc (List.length_eq_zero_iff.1 h)
      have hpv : pickV bs p n = if p < bs.length then (byteAt bs p).tmod n else (mixV bs p).tmod n := by
        unfold pickV
        rw [if_neg (by rintro (h | h); exact hn h; exact hl h)]
      clear hc
      refine goh hw2 ?_
      refine W_cnd ?_ ?_ <;> (try simp only [cnd_r]) <;> intro hlt
      · refine goh trivial ?_
        refine ⟨by (simp only [go_sem, ↓reduceIte, reduceCtorEq, Nat.reduceAdd, Nat.reduceLT, Nat.reduceLeDiff, Nat.reduceEqDiff]) <;> trivial, [some 0], ?_⟩
        all_goals try simp only [go_sem, inj_r, ↓reduceIte, reduceCtorEq, Nat.reduceAdd, Nat.reduceLT, Nat.reduceLeDiff, Nat.reduceEqDiff, Int.reduceEq]
        all_goals (repeat' refine And.intro ?_ ?_) <;> try exact shut7
        rw [hpv, if_pos hlt, ← (byteW_eq bs p).1]
        rfl
      · have h7 : IntKind.i64.wrap (IntKind.i64.wrap (p * 7) + 3) = p * 7 + 3 := by rw [wrap_id (p * 7) (by omega) (by omega), wrap_id _ (by omega) (by omega)]
        have t1 := tmod_in p bs.length h1 hl
        have t2 := tmod_in (p * 7 + 3) bs.length (by omega) hl
        refine goh h7 ?_
        refine ⟨by (simp only [go_sem, ↓reduceIte, reduceCtorEq, Nat.reduceAdd, Nat.reduceLT, Nat.reduceLeDiff, Nat.reduceEqDiff]) <;> trivial, [some 0], ?_⟩
        all_goals try simp only [go_sem, inj_r, ↓reduceIte, reduceCtorEq, Nat.reduceAdd, Nat.reduceLT, Nat.reduceLeDiff, Nat.reduceEqDiff, Int.reduceEq]
        all_goals (repeat' refine And.intro ?_ ?_) <;> try exact shut7
        rw [hpv, if_neg hlt, mixV, mixS, h7]
        rfl
  · simp [no] at hp
theorem pickV_in (bs : List UInt8) (p n : Int) (h1 : 0 ≤ p) (h2 : p ≤ 1000000) (hn : 1 ≤ n) : 0 ≤ pickV bs p n ∧ pickV bs p n < n := by
  unfold pickV
  split
  · omega
  · rename_i h
    have hb : bs.length ≠ 0 := fun e => h (.inr e)
    split
    · exact ⟨Int.tmod_nonneg _ (byteW_eq bs p).2.1, Int.tmod_lt_of_pos _ (by omega)⟩
    · exact ⟨Int.tmod_nonneg _ (mixV_in bs p h1 h2 hb), Int.tmod_lt_of_pos _ (by omega)⟩
end Go.Proofs.YtmnbgppmfbnamaaGreatDoor
