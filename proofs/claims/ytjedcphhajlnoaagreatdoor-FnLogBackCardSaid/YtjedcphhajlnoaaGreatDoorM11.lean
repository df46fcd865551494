import Derived.Test.YtjedcphhajlnoaaGreatDoorM5
import Derived.Test.YtjedcphhajlnoaaGreatDoorM8
import Derived.Test.YtjedcphhajlnoaaGreatDoorM10
set_option linter.unusedSimpArgs false
set_option linter.unusedVariables false
set_option linter.unusedSectionVars false
/- Functions: pointers are read. -/
namespace Go.Proofs.YtjedcphhajlnoaaGreatDoor
open Go.RowKit

theorem cut_size (c : UInt8) : ∀ (l : Bs), ∀ w ∈ cutL c l, w.length ≤ l.length
  | [], w, hw => by simp [cutL] at hw; subst hw; exact Nat.le_refl _
  | b :: r, w, hw => by
    have ih := cut_size c r
    unfold cutL at hw
    split at hw
    · rcases List.mem_cons.1 hw with rfl | hw
      · exact Nat.zero_le _
      · exact Nat.le_trans (ih w hw) (by simp)
    · cases hc : cutL c r with
      | nil => exact absurd hc (cutL_ne c r)
      | cons v vs =>
        rw [hc] at hw ih
        rcases List.mem_cons.1 hw with rfl | hw
        · have := ih v (by simp); simp; omega
        · exact Nat.le_trans (ih w (by simp [hw])) (by simp)
theorem splitV_size {c : UInt8} {s w : ByteArray} (h : w ∈ splitV c s) : w.size ≤ s.size := by
  unfold splitV at h
  obtain ⟨l, hl, rfl⟩ := List.mem_map.1 h
  exact cut_size c _ l hl
@[go_sem] noncomputable def ctThree : Ct := ⟨false, [], fun args os => match args, os with
  | [.one (.val (.string t))], [] => ifp (t.size ≤ 1000000) (match thr t with | some (a, b, c) => .tup [vi a, vi b, vi c, vb (same (pointsV [a, b, c]) t)] | none => .tup [vi 0, vi 0, vi 0, vb false])
  | _, _ => no⟩
theorem s_three_e : EnterOk Tryz.prog 90 := ⟨_, Tryz.func90, rfl, by decide⟩
@[go_sem] def s_three_lv : List (List Nat) := [[0], [0, 6], [0, 6, 16], [2, 3, 4, 5], [0, 6, 7], [0, 7, 17, 18, 19], [0, 7, 17, 18, 19, 20], [0, 7, 8, 9, 17, 18, 19], [0, 7, 8, 10, 11, 17, 18, 19], [0, 7, 8, 10, 17, 18, 19, 30], [2, 3, 4, 5], [0, 7, 17, 18, 19], [0, 7, 17, 18, 19], [2, 3, 4, 5]]
@[go_sem] noncomputable def s_three_K : Known := (((Known.nil).cons 107 ctSplit s_split s_split_e).cons 108 ctAtoi s_atoi s_atoi_e).cons 92 ctPoints s_points s_points_e
set_option maxHeartbeats 8000000 in
theorem s_three : Sound Tryz.prog 90 ctThree := by
  have ke := s_three_K.env []
  have kl : Lives s_three_lv := trivial
  refine sound_intro (E := ⟨ti, s_three_K.Γ, []⟩) ke Tryz.func90 Tryz.ntmps90 rfl (rs := [.tmp 2, .tmp 3, .tmp 4, .tmp 5]) rfl ?_
  intro args os hp
  unfold ctThree at hp ⊢
  dsimp only at hp ⊢
  split at hp
  · rename_i t
    refine ⟨by simp, fun φ0 w0 => ?_⟩
    have hlen : t.size ≤ 1000000 := hp
    have hsp : (⟨#[46]⟩ : ByteArray).data.getD 0 0 = 46 := rfl
    have hsz : (⟨#[46]⟩ : ByteArray).size = 1 := rfl
    have hwl := splitV_len 46 t
    have hms : ∀ w ∈ splitV 46 t, w.size ≤ 281474976710656 := fun w hw => Nat.le_trans (splitV_size hw) (by omega)
    obtain ⟨ws, hws⟩ : ∃ ws, splitV 46 t = ws := ⟨_, rfl⟩
    rw [hws] at hms hwl
    refine goh (And.intro hsp (And.intro hsz hws)) ?_
    refine W_cnd ?_ ?_ <;> (try simp only [cnd_r]) <;> intro h3
    · have h3' : ws.length ≠ 3 := by intro e; rw [e] at h3; exact absurd h3 (by decide)
      have e : thr t = none := by
        unfold thr
        rw [hws]
        split
        · exact absurd rfl h3'
        · rfl
      refine goh trivial ?_
      exact finh [] e
    · have h3' : ws.length = 3 := by omega
      match ws, h3' with
      | [x, y, z], _ =>
      have m0 := hms x (by simp)
      have m1 := hms y (by simp)
      have m2 := hms z (by simp)
      have thrE : thr t = (match atoiV x, atoiV y, atoiV z with
        | some a, some b, some c => some (a, b, c)
        | _, _, _ => none) := by unfold thr; rw [hws]; try rfl
      refine goh trivial ?_
      refine W_for 3 (fun i => (0 < i → atoiV x = some (atoiN x)) ∧ (1 < i → atoiV y = some (atoiN y)) ∧ (2 < i → atoiV z = some (atoiN z))) (fun i => ⟨[(0, vs t), (7, .one (.ptr 1 0)), (17, .one (.osl .str 0 0 3)), (18, vi 3), (19, vi i)], [some (.arr .str [x, y, z]), some (.cells [.val (.int .i64 (if 0 < i then atoiN x else 0)), .val (.int .i64 (if 1 < i then atoiN y else 0)), .val (.int .i64 (if 2 < i then atoiN z else 0))])], []⟩) [some 0, some 1] (leh trivial) ⟨by omega, by omega, by omega⟩ fun i hi hI => ?_
      obtain ⟨hI0, hI1, hI2⟩ := hI
      rcases (show i = 0 ∨ i = 1 ∨ i = 2 ∨ i = 3 by omega) with rfl | rfl | rfl | rfl
      · cases ha : atoiV x with
        | none =>
          have e : thr t = none := by rw [thrE, ha]
          refine goh (And.intro ha m0) ?_
          refine W_cnd ?_ ?_ <;> intro hlit <;> try (cases hlit; done)
          refine goh (And.intro ha m0) ?_
          refine W_cnd ?_ ?_ <;> intro hlit <;> try (cases hlit; done)
          refine goh trivial ?_
          exact finh [] e
        | some a =>
          have hn := (atoiV_in ha).1
          refine goh (And.intro ha m0) ?_
          refine W_cnd ?_ ?_ <;> intro hlit <;> try (cases hlit; done)
          refine goh (And.intro ha m0) ?_
          refine W_cnd ?_ ?_ <;> intro hlit <;> try (cases hlit; done)
          refine goh trivial ?_
          exact ⟨[some 0, some 1], by omega, leh trivial, ⟨fun _ => by rw [hn], by omega, by omega⟩⟩
      · cases ha : atoiV y with
        | none =>
          have e : thr t = none := by rw [thrE, ha]; cases atoiV x <;> rfl
          refine goh (And.intro ha m1) ?_
          refine W_cnd ?_ ?_ <;> intro hlit <;> try (cases hlit; done)
          refine goh (And.intro ha m1) ?_
          refine W_cnd ?_ ?_ <;> intro hlit <;> try (cases hlit; done)
          refine goh trivial ?_
          exact finh [] e
        | some a =>
          have hn := (atoiV_in ha).1
          refine goh (And.intro ha m1) ?_
          refine W_cnd ?_ ?_ <;> intro hlit <;> try (cases hlit; done)
          refine goh (And.intro ha m1) ?_
          refine W_cnd ?_ ?_ <;> intro hlit <;> try (cases hlit; done)
          refine goh trivial ?_
          exact ⟨[some 0, some 1], by omega, leh trivial, ⟨fun _ => hI0 (by omega), fun _ => by rw [hn], by omega⟩⟩
      · cases ha : atoiV z with
        | none =>
          have e : thr t = none := by rw [thrE, ha]; cases atoiV x <;> cases atoiV y <;> rfl
          refine goh (And.intro ha m2) ?_
          refine W_cnd ?_ ?_ <;> intro hlit <;> try (cases hlit; done)
          refine goh (And.intro ha m2) ?_
          refine W_cnd ?_ ?_ <;> intro hlit <;> try (cases hlit; done)
          refine goh trivial ?_
          exact finh [] e
        | some a =>
          have hn := (atoiV_in ha).1
          refine goh (And.intro ha m2) ?_
          refine W_cnd ?_ ?_ <;> intro hlit <;> try (cases hlit; done)
          refine goh (And.intro ha m2) ?_
          refine W_cnd ?_ ?_ <;> intro hlit <;> try (cases hlit; done)
          refine goh trivial ?_
          exact ⟨[some 0, some 1], by omega, leh trivial, ⟨fun _ => hI0 (by omega), fun _ => hI1 (by omega), fun _ => by rw [hn]⟩⟩
      · have e : thr t = some (atoiN x, atoiN y, atoiN z) := by rw [thrE, hI0 (by omega), hI1 (by omega), hI2 (by omega)]
        have b0 := (atoiV_in (hI0 (by omega))).2
        have b1 := (atoiV_in (hI1 (by omega))).2
        have b2 := (atoiV_in (hI2 (by omega))).2
        have hin : ∀ i : Nat, -9223372036854775808 ≤ [atoiN x, atoiN y, atoiN z].getD i ET.int.dflt ∧ [atoiN x, atoiN y, atoiN z].getD i ET.int.dflt ≤ 9223372036854775807 := fun i => by
          have hd : ET.int.dflt = (0 : Int) := rfl
          match i with
          | 0 => exact b0
          | 1 => exact b1
          | 2 => exact b2
          | i + 3 => simp [hd]
        refine goh trivial ?_
        refine W_cnd ?_ ?_ <;> intro hlit <;> try (cases hlit; done)
        refine goh hin ?_
        exact finh [] e
  · simp [no, ifp] at hp
@[go_sem] noncomputable def ctPtrRead : Ct := ⟨false, [], fun args os => match args, os with
  | [.one (.val (.string t))], [] => ifp (t.size ≤ 1000000) (match ptrReadV t with | some p => .tup [.agg [.val (.int .i64 p.at_), .val (.int .i64 p.sum), .val (.int .i64 p.birth)], vb true] | none => .tup [.agg [.val (.int .i64 0), .val (.int .i64 0), .val (.int .i64 0)], vb false])
  | _, _ => no⟩
theorem s_ptrRead_e : EnterOk Tryz.prog 26 := ⟨_, Tryz.func26, rfl, by decide⟩
@[go_sem] def s_ptrRead_lv : List (List Nat) := [[0, 2], [0, 2, 10], [2, 3], [2, 4, 5, 6, 7], [2, 7, 8], [2, 8, 29], [2, 3], [2, 3]]
@[go_sem] noncomputable def s_ptrRead_K : Known := ((Known.nil).cons 90 ctThree s_three s_three_e).cons 91 ctReal s_isReal s_isReal_e
set_option maxHeartbeats 8000000 in
theorem s_ptrRead : Sound Tryz.prog 26 ctPtrRead := by
  have ke := s_ptrRead_K.env []
  have kl : Lives s_ptrRead_lv := trivial
  refine sound_intro (E := ⟨ti, s_ptrRead_K.Γ, []⟩) ke Tryz.func26 Tryz.ntmps26 rfl (rs := [.cell 2 55, .tmp 3]) rfl ?_
  intro args os hp
  unfold ctPtrRead at hp ⊢
  dsimp only at hp ⊢
  split at hp
  · rename_i t
    refine ⟨by simp, fun φ0 w0 => ?_⟩
    have hlen : t.size ≤ 1000000 := hp
    have nt : (!true) = false := rfl
    have nf : (!false) = true := rfl
    refine goh trivial ?_
    refine W_cond _ (by exact rfl) (by exact trivial) ?_ ?_ <;> intro hc
    · obtain rfl := same_true.1 hc
      have e := ptrRead_dash
      refine goh trivial ?_
      exact finh [] e
    · have e := thr_read (same_false.1 hc)
      cases ht : thr t with
      | none =>
        rw [ht] at e
        simp only at e
        refine goh (And.intro ht nf) ?_
        refine W_cnd ?_ ?_ <;> intro hlit <;> try (cases hlit; done)
        refine goh trivial ?_
        exact finh [] e
      | some x =>
        obtain ⟨a, b, c⟩ := x
        rw [ht] at e
        simp only at e
        cases hs : same (pointsV [a, b, c]) t with
        | false =>
          rw [if_neg (fun h => by rw [same_true.2 h.1] at hs; cases hs)] at e
          refine goh (And.intro ht (And.intro hs nf)) ?_
          refine W_cnd ?_ ?_ <;> intro hlit <;> try (cases hlit; done)
          refine goh trivial ?_
          exact finh [] e
        | true =>
          cases hr : realB ⟨a, b, c⟩ with
          | false =>
            rw [if_neg (fun h => by rw [hr] at h; cases h.2)] at e
            refine goh (And.intro ht (And.intro hs (And.intro hr (And.intro nf nt)))) ?_
            refine W_cnd ?_ ?_ <;> intro hlit <;> try (cases hlit; done)
            refine goh trivial ?_
            exact finh [] e
          | true =>
            rw [if_pos ⟨same_true.1 hs, hr⟩] at e
            refine goh (And.intro ht (And.intro hs (And.intro hr (And.intro nf nt)))) ?_
            refine W_cnd ?_ ?_ <;> intro hlit <;> try (cases hlit; done)
            refine goh trivial ?_
            exact finh [] e
  · simp [no, ifp] at hp
/-- A sealed text, opened. -/
noncomputable def openV (s : ByteArray) : ByteArray × Bool := if (cutV 58 s).2.2 = true ∧ same (sealV (cutV 58 s).2.1) s = true then ((cutV 58 s).2.1, true) else (⟨#[]⟩, false)
@[go_sem] noncomputable def ctSumOpen : Ct := ⟨false, [], fun args os => match args, os with
  | [.one (.val (.string s))], [] => ifp (s.size ≤ 1000000) (.tup [vs (openV s).1, vb (openV s).2])
  | _, _ => no⟩
theorem s_sumOpen_e : EnterOk Tryz.prog 106 := ⟨_, Tryz.func106, rfl, by decide⟩
@[go_sem] def s_sumOpen_lv : List (List Nat) := [[0], [0, 5, 6], [5, 20], [2, 3], [2, 3]]
@[go_sem] noncomputable def s_sumOpen_K : Known := ((Known.nil).cons 130 ctCut s_cut s_cut_e).cons 101 ctSeal s_seal s_seal_e
set_option maxHeartbeats 8000000 in
theorem s_sumOpen : Sound Tryz.prog 106 ctSumOpen := by
  have ke := s_sumOpen_K.env []
  have kl : Lives s_sumOpen_lv := trivial
  refine sound_intro (E := ⟨ti, s_sumOpen_K.Γ, []⟩) ke Tryz.func106 Tryz.ntmps106 rfl (rs := [.tmp 2, .tmp 3]) rfl ?_
  intro args os hp
  unfold ctSumOpen at hp ⊢
  dsimp only at hp ⊢
  split at hp
  · rename_i s
    refine ⟨by simp, fun φ0 w0 => ?_⟩
    have hlen : s.size ≤ 1000000 := hp
    have nt : (!true) = false := rfl
    have nf : (!false) = true := rfl
    have hsp : (⟨#[58]⟩ : ByteArray).data.getD 0 0 = 58 := rfl
    have hsz : (⟨#[58]⟩ : ByteArray).size = 1 := rfl
    obtain ⟨⟨b, t, ok⟩, hx⟩ : ∃ x, cutV 58 s = x := ⟨_, rfl⟩
    have e : openV s = if ok = true ∧ same (sealV t) s = true then (t, true) else (⟨#[]⟩, false) := by unfold openV; rw [hx]
    cases ok with
    | false =>
      rw [if_neg (fun h => by cases h.1)] at e
      refine goh (And.intro hsp (And.intro hsz (And.intro hx nf))) ?_
      refine W_cnd ?_ ?_ <;> intro hlit <;> try (cases hlit; done)
      refine goh trivial ?_
      exact finh [] e
    | true =>
      cases hs : same (sealV t) s with
      | false =>
        rw [if_neg (fun h => by rw [hs] at h; cases h.2)] at e
        refine goh (And.intro hsp (And.intro hsz (And.intro hx (And.intro hs (And.intro nf nt))))) ?_
        refine W_cnd ?_ ?_ <;> intro hlit <;> try (cases hlit; done)
        refine goh trivial ?_
        exact finh [] e
      | true =>
        rw [if_pos ⟨rfl, hs⟩] at e
        refine goh (And.intro hsp (And.intro hsz (And.intro hx (And.intro hs (And.intro nf nt))))) ?_
        refine W_cnd ?_ ?_ <;> intro hlit <;> try (cases hlit; done)
        refine goh trivial ?_
        exact finh [] e
  · simp [no, ifp] at hp
end Go.Proofs.YtjedcphhajlnoaaGreatDoor
/- Plain facts: a block that is healed. -/
namespace Go.Proofs.YtjedcphhajlnoaaGreatDoor
open Go.RowKit

theorem heal_stays {d : Dk} (p : Ptr) (h : d.ok = true) : blkRead (blkHeal d p).1 p = blkRead d p ∧ (blkHeal (blkHeal d p).1 p).1 = (blkHeal d p).1 ∧ (∀ s k, k ≠ p.at_ → dkRead (blkHeal d p).1 s k = dkRead d s k) ∧ (blkHeal d p).1.a.length = d.a.length := by
  have same_ : (blkHeal d p).1 = d → blkRead (blkHeal d p).1 p = blkRead d p ∧ (blkHeal (blkHeal d p).1 p).1 = (blkHeal d p).1 ∧ (∀ s k, k ≠ p.at_ → dkRead (blkHeal d p).1 s k = dkRead d s k) ∧ (blkHeal d p).1.a.length = d.a.length := fun e => by
    rw [e]; exact ⟨rfl, e, fun _ _ _ => rfl, rfl⟩
  by_cases c1 : (blkRead d p).2 ≠ 0 ∨ d.has p 0 = d.has p 1
  · exact same_ (by unfold blkHeal; rw [if_pos h, if_pos c1])
  · by_cases c2 : d.may (badSide d p) p.at_ (blkRead d p).1 = true
    · have e : (blkHeal d p).1 = d.add (badSide d p) p.at_ (blkRead d p).1 := by unfold blkHeal; rw [if_pos h, if_neg c1, if_pos c2]
      have hx := Dk.add_ok h c2
      obtain ⟨m1, m2, m3, m4, m5⟩ := (may_iff _ _ _ _).1 c2
      have z0 : (blkRead d p).2 = 0 := by
        by_cases z : (blkRead d p).2 = 0
        · exact z
        · exact absurd (.inl z) c1
      have hne : ¬ d.has p 0 = d.has p 1 := fun z => c1 (.inr z)
      have hr : realB p = true := by
        unfold blkRead at z0
        split at z0
        · simp at z0
        · split at z0
          · rename_i hh; rw [Bool.and_eq_true] at hh; exact hh.2
          · simp at z0
      have s0 : ∀ s, s = 0 ∨ s = 1 → sector d.a.length s p.at_ = true := fun s hs => (sector_iff _ _ _).2 ⟨hs, m2, m3⟩
      obtain ⟨t, b, et, eb, ex, hb1, hsum⟩ : ∃ t b, (blkRead d p).1 = t ∧ badSide d p = b ∧ blkRead d p = (t, 0) ∧ ((b = 1 ∧ d.text 0 p.at_ = t) ∨ (b = 0)) ∧ (sumOf t : Int) = p.sum := by
        cases h0 : d.has p 0 with
        | true =>
          have hf := blk_fine h hr (t := d.text 0 p.at_) (.inl ⟨h0, rfl⟩)
          exact ⟨d.text 0 p.at_, 1, by rw [hf], by unfold badSide; rw [h0]; rfl, hf, .inl ⟨rfl, rfl⟩, ((has_iff _ _ _).1 h0).2⟩
        | false =>
          have h1 : d.has p 1 = true := by
            cases h1 : d.has p 1 with
            | true => rfl
            | false => exact absurd (h0.trans h1.symm) hne
          have hf := blk_fine h hr (t := d.text 1 p.at_) (.inr ⟨h0, h1, rfl⟩)
          exact ⟨d.text 1 p.at_, 0, by rw [hf], by unfold badSide; rw [h0]; rfl, hf, .inr rfl, ((has_iff _ _ _).1 h1).2⟩
      rw [et, eb] at e hx
      have hlen : (d.add b p.at_ t).a.length = d.a.length := rfl
      have htext : ∀ s, s = 0 ∨ s = 1 → (s = 0 ∨ b = s) → (d.add b p.at_ t).text s p.at_ = t := by
        intro s hs hbs
        rw [Dk.add_text]
        rcases hb1 with ⟨rfl, h2⟩ | rfl
        · rcases hbs with rfl | rfl
          · rw [if_neg (fun h => absurd h.1 (by decide)), h2]
          · rw [if_pos ⟨rfl, rfl⟩]
        · rcases hbs with rfl | rfl <;> rw [if_pos ⟨rfl, rfl⟩]
      have t0 := htext 0 (.inl rfl) (.inl rfl)
      have x0 : (d.add b p.at_ t).has p 0 = true := (has_iff _ _ _).2 ⟨by rw [hlen]; exact s0 0 (.inl rfl), by rw [t0]; exact hsum⟩
      have x1 : (d.add b p.at_ t).has p 1 = true := by
        rcases hb1 with ⟨rfl, h2⟩ | rfl
        · have t1 := htext 1 (.inr rfl) (.inr rfl)
          exact (has_iff _ _ _).2 ⟨by rw [hlen]; exact s0 1 (.inr rfl), by rw [t1]; exact hsum⟩
        · have h0 : d.has p 0 = false := by
            unfold badSide at eb
            cases h0 : d.has p 0 with
            | false => rfl
            | true => rw [h0] at eb; simp at eb
          have h1 : d.has p 1 = true := by
            cases h1 : d.has p 1 with
            | true => rfl
            | false => exact absurd (h0.trans h1.symm) hne
          have := (has_iff _ _ _).1 h1
          refine (has_iff _ _ _).2 ⟨by rw [hlen]; exact s0 1 (.inr rfl), ?_⟩
          rw [Dk.add_text, if_neg (fun h => absurd h.1 (by decide))]
          exact this.2
      have rd : blkRead (d.add b p.at_ t) p = (t, 0) := blk_fine hx hr (.inl ⟨x0, t0⟩)
      rw [e]
      refine ⟨rd.trans ex.symm, ?_, fun s k hk => ?_, rfl⟩
      · have : blkHeal (d.add b p.at_ t) p = (d.add b p.at_ t, (blkRead (d.add b p.at_ t) p).2) := by
          conv => lhs; unfold blkHeal
          rw [if_pos hx, if_pos (.inr (x0.trans x1.symm))]
        rw [this]
      · have e1 : (d.add b p.at_ t).text s k = d.text s k := by rw [Dk.add_text, if_neg (fun hh => hk hh.2.symm)]
        unfold dkRead dkReads
        rw [hx, h, hlen, e1]
    · exact same_ (by unfold blkHeal; rw [if_pos h, if_neg c1, if_neg c2])
theorem heal_bad {d : Dk} (p : Ptr) (h : d.ok = false) : blkHeal d p = (.nil, 2) := by unfold blkHeal; rw [h]; rfl
theorem ptr_back (p : Ptr) : ptrReadV (ptrT p) = if ptrOkB p = true then some p else none := by
  by_cases h : ptrOkB p = true
  · rw [if_pos h]; exact ptrRead_some.2 ⟨h, rfl⟩
  · rw [if_neg h]
    refine ptrRead_none fun q h1 h2 => ?_
    have e : ptrT p = ⟨#[]⟩ := by unfold ptrT; rw [if_neg h]
    rw [e] at h2
    unfold ptrT at h2
    rw [if_pos h1] at h2
    split at h2
    · exact absurd h2 (by decide)
    · have h3 := pointsV_split (zs := [q.at_, q.sum, q.birth]) (by simp)
      rw [h2] at h3
      have h4 : splitV 46 ⟨#[]⟩ = [⟨#[]⟩] := by decide
      rw [h4] at h3
      simp at h3
end Go.Proofs.YtjedcphhajlnoaaGreatDoor
/- Plain facts: texts of commits, and torn ones. -/
namespace Go.Proofs.YtjedcphhajlnoaaGreatDoor
open Go.RowKit

theorem cut_append (c : UInt8) : ∀ (u v : Bs), ∃ us x y vs, cutL c u = us ++ [x] ∧ cutL c v = y :: vs ∧ cutL c (u ++ v) = us ++ (x ++ y) :: vs
  | [], v => by
    cases h : cutL c v with
    | nil => exact absurd h (cutL_ne c v)
    | cons y vs => exact ⟨[], [], y, vs, rfl, rfl, h⟩
  | b :: u, v => by
    obtain ⟨us, x, y, vs, h1, h2, h3⟩ := cut_append c u v
    by_cases hb : b = c
    · subst hb
      refine ⟨[] :: us, x, y, vs, ?_, h2, ?_⟩
      · rw [cut_hit, h1]; rfl
      · show cutL b (b :: (u ++ v)) = _
        rw [cut_hit, h3]; rfl
    · cases us with
      | nil => exact ⟨[], b :: x, y, vs, cut_miss hb h1, h2, cut_miss hb h3⟩
      | cons w us => exact ⟨(b :: w) :: us, x, y, vs, cut_miss hb h1, h2, cut_miss hb h3⟩
def uberOk (k : Int) (r : Ptr) : Prop := 1 ≤ k ∧ k ≤ 1000000 ∧ realB r = true
instance (k : Int) (r : Ptr) : Decidable (uberOk k r) := inferInstanceAs (Decidable (_ ∧ _ ∧ _))
def uberI (k : Int) (r : Ptr) : ByteArray := decS k ++ ⟨#[32]⟩ ++ ptrT r ++ ⟨#[32]⟩ ++ decS k
/-- A commit's text. -/
noncomputable def uberT (k : Int) (r : Ptr) : ByteArray := if uberOk k r then sealV (uberI k r) else ⟨#[]⟩
theorem ptr_plain {c : UInt8} (h0 : c ≠ 46) (h1 : c.toNat ≠ 45) (h2 : c.toNat < 48 ∨ 57 < c.toNat) (r : Ptr) : c ∉ (ptrT r).data.toList := by
  unfold ptrT
  split
  · split
    · intro h
      have : c = 45 := by simpa using h
      subst this; exact h1 rfl
    · rw [pointsV_three]
      simp only [ByteArray.data_append, Array.toList_append, List.mem_append, not_or]
      have h46 : ¬ c ∈ (⟨#[46]⟩ : ByteArray).data.toList := by simpa using h0
      exact ⟨⟨⟨⟨itoa_not h1 h2 _, h46⟩, itoa_not h1 h2 _⟩, h46⟩, itoa_not h1 h2 _⟩
  · simp
theorem uberI_size {k : Int} {r : Ptr} (h : uberOk k r) : (uberI k r).size ≤ 105 := by
  have h1 := decS_size (n := k) (by have := h.1; omega) (by have := h.2.1; omega)
  have h2 := ptrT_size r
  have h3 : (⟨#[32]⟩ : ByteArray).size = 1 := rfl
  unfold uberI
  simp only [ByteArray.size_append]
  omega
theorem uber_seal {k : Int} {r : Ptr} (h : uberOk k r) : uberT k r = decS (sumOf (uberI k r)) ++ ⟨#[58]⟩ ++ uberI k r := by
  have := uberI_size h
  unfold uberT sealV
  rw [if_pos h, if_neg (by omega)]
theorem uberT_size (k : Int) (r : Ptr) : (uberT k r).size ≤ 126 := by
  by_cases h : uberOk k r
  · rw [uber_seal h]
    have h1 := uberI_size h
    have h2 := sumAt_lt (uberI k r) (uberI k r).size
    have h4 : sumAt (uberI k r) (uberI k r).size = sumOf (uberI k r) := rfl
    have h3 := decS_size (n := sumOf (uberI k r)) (by omega) (by omega)
    have h5 : (⟨#[58]⟩ : ByteArray).size = 1 := rfl
    simp only [ByteArray.size_append]
    omega
  · unfold uberT; rw [if_neg h]; exact Nat.zero_le _
/-- The first word of a commit's text. -/
def uberF (k : Int) (r : Ptr) : Bs := (decS (sumOf (uberI k r))).data.toList ++ 58 :: (decS k).data.toList
theorem uberI_words (k : Int) (r : Ptr) : cutL 32 (uberI k r).data.toList = [(decS k).data.toList, (ptrT r).data.toList, (decS k).data.toList] := by
  have e : (uberI k r).data.toList = (decS k).data.toList ++ 32 :: ((ptrT r).data.toList ++ 32 :: (decS k).data.toList) := by
    unfold uberI
    simp [ByteArray.data_append]
  rw [e, cut_app _ _ _ (no_blank k), cut_app _ _ _ (ptr_plain (by decide) (by decide) (by decide) r), cut_none _ _ (no_blank k)]
theorem uber_words {k : Int} {r : Ptr} (h : uberOk k r) : cutL 32 (uberT k r).data.toList = [uberF k r, (ptrT r).data.toList, (decS k).data.toList] := by
  have e : (uberT k r).data.toList = uberF k r ++ 32 :: ((ptrT r).data.toList ++ 32 :: (decS k).data.toList) := by
    rw [uber_seal h]
    unfold uberF uberI
    simp [ByteArray.data_append]
  have hF : (32 : UInt8) ∉ uberF k r := by
    unfold uberF
    rw [List.mem_append, List.mem_cons]
    rintro (h | h | h)
    · exact no_blank _ h
    · exact absurd h (by decide)
    · exact no_blank _ h
  rw [e, cut_app _ _ _ hF, cut_app _ _ _ (ptr_plain (by decide) (by decide) (by decide) r), cut_none _ _ (no_blank k)]
theorem data_inj {a b : ByteArray} (h : a.data.toList = b.data.toList) : a = b := by
  rw [← bytesL_data a, h, bytesL_data]
theorem uberF_inj {k n : Int} {r p : Ptr} (h : uberF k r = uberF n p) : k = n := by
  have e : ∀ (k : Int) (r : Ptr), cutL 58 (uberF k r) = [(decS (sumOf (uberI k r))).data.toList, (decS k).data.toList] := fun k r => by
    unfold uberF
    rw [cut_app _ _ _ (no_colon _), cut_none _ _ (no_colon k)]
  have h1 := e k r
  rw [h, e n p] at h1
  simp only [List.cons.injEq, and_true] at h1
  exact (decS_inj (data_inj h1.2)).symm
/-- A torn text of a commit is never mistaken: what is read is one of the two. -/
theorem torn_uber {k n m : Int} {r p q : Ptr} (hk : uberOk k r) (hn : uberOk n p) (hm : uberOk m q ∨ uberT m q = ⟨#[]⟩) (hnm : n ≠ m) (i : Nat) {z : Bs} (hz : z = (uberT m q).data.toList.drop i ∨ z = [])
    (h : (uberT k r).data.toList = (uberT n p).data.toList.take i ++ z) : (k = n ∧ r = p) ∨ (k = m ∧ r = q) := by
  have hr : ∀ {r p : Ptr} (k n : Int), uberOk k r → uberOk n p → (ptrT r).data.toList = (ptrT p).data.toList → r = p := fun k n h1 h2 h3 =>
    ptrT_inj (ptrOk_real h1.2.2).1 (ptrOk_real h2.2.2).1 (data_inj h3)
  have w1 := uber_words hk
  have w2 := uber_words hn
  obtain ⟨us, x, y, vs, a1, a2, a3⟩ := cut_append 32 ((uberT n p).data.toList.take i) z
  obtain ⟨us', x', y', vs', b1, b2, b3⟩ := cut_append 32 ((uberT n p).data.toList.take i) ((uberT n p).data.toList.drop i)
  rw [List.take_append_drop] at b3
  rw [h, a3] at w1
  rw [b3] at w2
  obtain ⟨rfl, hxx⟩ := List.append_inj' (a1.symm.trans b1) rfl
  have hxx : x = x' := by simpa using hxx
  subst hxx
  -- what stands behind: words of the old text's end
  have hv : (vs = [] ∨ vs = [(decS m).data.toList] ∧ uberOk m q) ∨ (vs = [(ptrT q).data.toList, (decS m).data.toList] ∧ uberOk m q) := by
    rcases hz with hz | hz
    · rcases hm with hm | hm
      · have w3 := uber_words hm
        obtain ⟨us3, x3, y3, vs3, c1, c2, c3⟩ := cut_append 32 ((uberT m q).data.toList.take i) ((uberT m q).data.toList.drop i)
        rw [List.take_append_drop, w3] at c3
        rw [← hz, a2] at c2
        obtain ⟨rfl, rfl⟩ := List.cons.inj c2
        match us3, c3 with
        | [], c3 => simp at c3; exact .inr ⟨c3.2.symm, hm⟩
        | [_], c3 => simp at c3; exact .inl (.inr ⟨c3.2.2.symm, hm⟩)
        | [_, _], c3 => simp at c3; exact .inl (.inl c3.2.2.2)
        | _ :: _ :: _ :: _, c3 => simp at c3
      · rw [hm] at hz
        have : z = [] := by rw [hz]; simp
        rw [this] at a2
        simp [cutL] at a2
        exact .inl (.inl a2.2)
    · rw [hz] at a2
      simp [cutL] at a2
      exact .inl (.inl a2.2)
  match us, w1, w2 with
  | [], w1, w2 =>
    simp only [List.nil_append, List.cons.injEq] at w1
    rcases hv with (hv | ⟨hv, hq⟩) | ⟨hv, hq⟩
    · rw [hv] at w1; simp at w1
    · rw [hv] at w1; simp at w1
    · rw [hv] at w1
      simp only [List.cons.injEq, and_true] at w1
      right
      have hkm := decS_inj (data_inj w1.2.2)
      exact ⟨hkm.symm, (hr m k hq hk w1.2.1).symm⟩
  | [F], w1, w2 =>
    simp only [List.cons_append, List.nil_append, List.cons.injEq] at w1 w2
    have hkn := uberF_inj (w1.1.symm.trans w2.1)
    rcases hv with (hv | ⟨hv, hq⟩) | ⟨hv, hq⟩
    · rw [hv] at w1; simp at w1
    · rw [hv] at w1
      simp only [List.cons.injEq, and_true] at w1
      have hkm := decS_inj (data_inj w1.2.2)
      exact absurd (hkn.symm.trans hkm.symm) hnm
    · rw [hv] at w1; simp at w1
  | [F, P], w1, w2 =>
    simp only [List.cons_append, List.nil_append, List.cons.injEq] at w1 w2
    left
    exact ⟨uberF_inj (w1.1.symm.trans w2.1), hr k n hk hn (w1.2.1.symm.trans w2.2.1)⟩
  | _ :: _ :: _ :: _, w1, w2 => simp at w1
/-- A commit that is read. -/
noncomputable def uberP (t : ByteArray) : Option (Int × Ptr) := match splitV 32 (openV t).1 with
  | [x, y, z] => (match atoiV x, ptrReadV y with
    | some k, some r => if uberT k r = t then some (k, r) else none
    | _, _ => none)
  | _ => none
theorem open_uber {k : Int} {r : Ptr} (h : uberOk k r) : openV (uberT k r) = (uberI k r, true) := by
  have e : (uberT k r).data.toList = (decS (sumOf (uberI k r))).data.toList ++ 58 :: (uberI k r).data.toList := by
    rw [uber_seal h]; simp [ByteArray.data_append]
  have hc := cutV_at e (no_colon _)
  have hs : sealV (uberI k r) = uberT k r := by unfold uberT; rw [if_pos h]
  unfold openV
  rw [hc]
  simp only [bytesL_data]
  rw [hs, if_pos ⟨trivial, same_true.2 rfl⟩]
theorem splitV_nil (c : UInt8) : splitV c ⟨#[]⟩ = [⟨#[]⟩] := rfl
theorem open_nil : openV ⟨#[]⟩ = (⟨#[]⟩, false) := by
  unfold openV
  rw [cutV_not (by simp), if_neg (by rintro ⟨h, -⟩; cases h)]
theorem uberP_iff {t : ByteArray} {k : Int} {r : Ptr} : uberP t = some (k, r) ↔ uberOk k r ∧ uberT k r = t := by
  constructor
  · intro h
    unfold uberP at h
    split at h
    · rename_i x y z hw
      split at h
      · rename_i k' r' hk hr
        split at h
        · rename_i ht
          cases h
          refine ⟨?_, ht⟩
          by_cases hok : uberOk k r
          · exact hok
          · exfalso
            have : t = ⟨#[]⟩ := by rw [← ht]; unfold uberT; rw [if_neg hok]
            rw [this, open_nil, splitV_nil] at hw
            simp at hw
        · cases h
      · cases h
    · cases h
  · rintro ⟨h, rfl⟩
    unfold uberP
    rw [open_uber h]
    have hw : splitV 32 (uberI k r) = [decS k, ptrT r, decS k] := by
      unfold splitV
      rw [uberI_words]
      simp only [List.map_cons, List.map_nil, bytesL_data]
    rw [hw]
    simp only
    rw [(atoi_dec (n := k) (by have := h.1; omega) (by have := h.2.1; omega)).1, ptr_back, if_pos (ptrOk_real h.2.2).1]
    simp only
    rw [if_pos trivial]
end Go.Proofs.YtjedcphhajlnoaaGreatDoor
/- Plain facts: the reference's words and numbers. -/
namespace Go.Proofs.YtjedcphhajlnoaaGreatDoor
open Go.RowKit

theorem drop_at {l : Bs} {f i : Nat} (hi : i < l.length) (hf : f ≤ i) : l.drop f = (l.drop f).take (i - f) ++ l[i] :: l.drop (i + 1) := by
  have h1 := List.take_append_drop (i - f) (l.drop f)
  rw [List.drop_drop, show f + (i - f) = i by omega, List.drop_eq_getElem_cons hi] at h1
  exact h1.symm
theorem take_at {l : Bs} {f i : Nat} (hi : i < l.length) (hf : f ≤ i) : (l.drop f).take (i + 1 - f) = (l.drop f).take (i - f) ++ [l[i]] := by
  have h1 : (l.drop f).take (i - f + 1) = (l.drop f).take (i - f) ++ [(l.drop f)[i - f]'(by rw [List.length_drop]; omega)] := List.take_succ_eq_append_getElem (by rw [List.length_drop]; omega)
  rw [show i + 1 - f = i - f + 1 by omega, h1]
  congr 2
  rw [List.getElem_drop]
  congr 1; omega
theorem extract_list (s : ByteArray) (f i : Nat) : s.extract f i = bytesL ((s.data.toList.drop f).take (i - f)) := by
  apply ByteArray.ext
  apply Array.ext'
  rw [ByteArray.data_extract, Array.toList_extract, bytesL_list]
theorem getD_list (s : ByteArray) {i : Nat} (hi : i < s.data.toList.length) : s.data.getD i 0 = s.data.toList[i] := by
  simp only [Array.getD]
  rw [dif_pos (by simpa using hi)]
  simp
/-- Where the first c stands, or -1. -/
def findV (c : UInt8) (s : ByteArray) : Int := if (cutV c s).2.2 = true then ((cutV c s).1.size : Int) else -1
theorem find_not {c : UInt8} {s : ByteArray} (h : c ∉ s.data.toList) : findV c s = -1 := by
  unfold findV; rw [cutV_not h]; rfl
theorem find_at {c : UInt8} {s : ByteArray} {i : Nat} (hi : i < s.data.toList.length) (h : c ∉ s.data.toList.take i) (hc : s.data.toList[i] = c) : findV c s = i ∧ (cutV c s).2.1 = s.extract (i + 1) s.size ∧ (cutV c s).2.2 = true := by
  have e : s.data.toList = s.data.toList.take i ++ c :: s.data.toList.drop (i + 1) := by
    have := drop_at (f := 0) hi (Nat.zero_le _)
    rw [hc] at this
    simpa using this
  have h2 := cutV_at e h
  refine ⟨?_, ?_, by rw [h2]⟩
  · unfold findV
    rw [h2]
    simp only [if_true]
    show ((s.data.toList.take i).toArray.size : Int) = i
    rw [List.size_toArray, List.length_take]
    omega
  · rw [h2, extract_list]
    simp only
    rw [List.take_of_length_le]
    rw [List.length_drop]
    show _ ≤ s.size - (i + 1)
    rw [Array.length_toList]; exact Nat.le_refl _
/-- A number as it is written, of at most 17 digits. -/
def numT (s : ByteArray) : ByteArray := if s.data.getD 0 0 = 45 ∧ 0 < s.size then s.extract 1 s.size else s
def numBad (s : ByteArray) : Bool := decide ((numT s).size = 0) || decide (17 < (numT s).size) || (decide ((numT s).data.getD 0 0 = 48) && (decide (1 < (numT s).size) || decide (s.data.getD 0 0 = 45 ∧ 0 < s.size)))
def numV (s : ByteArray) : Option Int := if numBad s = true then none else (Lib.decFrom 0 (numT s).data.toList).map fun (u : Nat) => if s.data.getD 0 0 = 45 ∧ 0 < s.size then -(u : Int) else (u : Int)
theorem num_dec {n : Int} (h0 : 0 ≤ n) (h1 : n < 10 ^ 17) : numV (decS n) = some n := by
  obtain ⟨u, rfl⟩ := Int.eq_ofNat_of_zero_le h0
  have hl : (decS u).data.toList = Lib.decDigits u := by rw [decS_list]; unfold Lib.itoa; rw [if_neg (by omega), Int.toNat_natCast]
  have hlen := decD_len 16 u (by omega)
  have hsz : (decS u).size = (Lib.decDigits u).length := by rw [← hl]; rfl
  have hne := decD_ne u
  have hpos : 0 < (Lib.decDigits u).length := List.length_pos_iff.2 hne
  have hhead : (decS u).data.getD 0 0 = (Lib.decDigits u)[0] := by
    rw [getD_list _ (by rw [hl]; exact hpos)]
    simp only [hl]
  have hdig := decD_dig u (Lib.decDigits u)[0] (List.getElem_mem hpos)
  have hn45 : ¬ ((decS u).data.getD 0 0 = 45 ∧ 0 < (decS u).size) := by
    rintro ⟨h, -⟩
    rw [hhead] at h
    rw [h] at hdig
    exact absurd hdig (by decide)
  have ht : numT (decS u) = decS u := by unfold numT; rw [if_neg hn45]
  have hb : numBad (decS u) = false := by
    unfold numBad
    rw [ht]
    have a1 : decide ((decS u).size = 0) = false := by rw [decide_eq_false_iff_not]; omega
    have a2 : decide (17 < (decS u).size) = false := by rw [decide_eq_false_iff_not]; omega
    have a3 : decide ((decS u).data.getD 0 0 = 45 ∧ 0 < (decS u).size) = false := by rw [decide_eq_false_iff_not]; exact hn45
    rw [a1, a2, a3]
    by_cases h48 : (decS u).data.getD 0 0 = 48
    · have a4 : decide (1 < (decS u).size) = false := by
        rw [decide_eq_false_iff_not, hsz]
        intro h1
        rcases Nat.eq_zero_or_pos u with rfl | hu
        · rw [decD_small (by omega)] at h1; simp at h1
        · obtain ⟨b, r, hb, hb2⟩ := decD_head u hu
          rw [hhead] at h48
          have : (Lib.decDigits u)[0] = b := by simp [hb]
          rw [this] at h48
          rw [h48] at hb2
          exact hb2 rfl
      rw [a4]; simp
    · have a5 : decide ((decS u).data.getD 0 0 = 48) = false := decide_eq_false h48
      rw [a5, Bool.false_and]; rfl
  unfold numV
  rw [hb, if_neg (by decide), ht, hl, decFrom_decD]
  simp only [Option.map_some, if_neg hn45]
theorem ptrT_small {p : Ptr} : (ptrT p).size ≤ 30 := by
  unfold ptrT
  split
  · rename_i h
    split
    · show 1 ≤ 30; omega
    · rename_i h0
      rcases ptrOk_cases h with rfl | hc
      · exact absurd rfl h0
      · rw [pointsV_three]
        have sz : ∀ (n : Int) (k : Nat), 0 ≤ n → n < 10 ^ (k + 1) → (decS n).size ≤ k + 1 := fun n k h1 h2 => by
          obtain ⟨u, rfl⟩ := Int.eq_ofNat_of_zero_le h1
          rw [decS_nat]
          exact decB_size k u (by exact_mod_cast h2)
        have s1 := sz p.at_ 2 (by omega) (by have := hc.2.1; show p.at_ < 1000; omega)
        have s2 := sz p.sum 4 (by omega) (by have := hc.2.2.2.1; show p.sum < 100000; omega)
        have s3 := sz p.birth 6 (by omega) (by have := hc.2.2.2.2.2; show p.birth < 10000000; omega)
        have h46 : (⟨#[46]⟩ : ByteArray).size = 1 := rfl
        simp only [ByteArray.size_append]
        omega
  · exact Nat.zero_le _
/-- The reference reads three numbers so. -/
theorem num_read {t x y z : ByteArray} (h : t ≠ ⟨#[45]⟩) (hw : splitV 46 t = [x, y, z]) : ptrReadV t = (match numV x, numV y, numV z with
    | some a, some b, some c => if ptrT ⟨a, b, c⟩ = t then some ⟨a, b, c⟩ else none
    | _, _, _ => none) := by
  have hk : ∀ p, ptrOkB p = true → ptrT p = t → numV x = some p.at_ ∧ numV y = some p.sum ∧ numV z = some p.birth := by
    intro p h1 h2
    have h3 : p.at_ ≠ 0 := fun h3 => h (by rw [← h2]; unfold ptrT; rw [if_pos h1, if_pos h3])
    have h4 : pointsV [p.at_, p.sum, p.birth] = t := by rw [← h2]; unfold ptrT; rw [if_pos h1, if_neg h3]
    rw [← h4, pointsV_split (by simp)] at hw
    simp only [List.map_cons, List.map_nil, List.cons.injEq, and_true] at hw
    obtain ⟨rfl, rfl, rfl⟩ := hw
    rcases ptrOk_cases h1 with rfl | hc
    · exact absurd rfl h3
    · exact ⟨num_dec (by omega) (by omega), num_dec (by omega) (by omega), num_dec (by omega) (by omega)⟩
  cases hr : ptrReadV t with
  | some p =>
    obtain ⟨h1, h2⟩ := ptrRead_some.1 hr
    obtain ⟨e1, e2, e3⟩ := hk p h1 h2
    rw [e1, e2, e3]
    simp only
    rw [if_pos h2]
  | none =>
    split
    · rename_i a b c e1 e2 e3
      rw [if_neg]
      intro h2
      by_cases h1 : ptrOkB ⟨a, b, c⟩ = true
      · rw [ptrRead_some.2 ⟨h1, h2⟩] at hr; cases hr
      · have : t = ⟨#[]⟩ := by rw [← h2]; unfold ptrT; rw [if_neg h1]
        rw [this, splitV_nil] at hw
        simp at hw
    · rfl
theorem read_long {t : ByteArray} (h : 30 < t.size) : ptrReadV t = none := ptrRead_none fun p _ h2 => by
  have := @ptrT_small p
  rw [h2] at this; omega
theorem read_words {t : ByteArray} (h : t ≠ ⟨#[45]⟩) (hw : (splitV 46 t).length ≠ 3) : ptrReadV t = none := ptrRead_none fun p h1 h2 => by
  have h3 : p.at_ ≠ 0 := fun h3 => h (by rw [← h2]; unfold ptrT; rw [if_pos h1, if_pos h3])
  have h4 : pointsV [p.at_, p.sum, p.birth] = t := by rw [← h2]; unfold ptrT; rw [if_pos h1, if_neg h3]
  rw [← h4, pointsV_split (by simp)] at hw
  exact hw rfl
/-- The reference reads a commit so. -/
theorem uber_spec {t x y z : ByteArray} (ho : (openV t).2 = true) (hw : splitV 32 (openV t).1 = [x, y, z]) : uberP t =
    if uberT ((numV x).getD 0) ((ptrReadV y).getD ⟨0, 0, 0⟩) = t then some ((numV x).getD 0, (ptrReadV y).getD ⟨0, 0, 0⟩) else none := by
  cases hu : uberP t with
  | some kr =>
    obtain ⟨k, r⟩ := kr
    obtain ⟨h1, rfl⟩ := uberP_iff.1 hu
    rw [open_uber h1] at hw
    have hw2 : splitV 32 (uberI k r) = [decS k, ptrT r, decS k] := by
      unfold splitV
      rw [uberI_words]
      simp only [List.map_cons, List.map_nil, bytesL_data]
    rw [hw2] at hw
    simp only [List.cons.injEq, and_true] at hw
    obtain ⟨rfl, rfl, rfl⟩ := hw
    rw [num_dec (by have := h1.1; omega) (by have := h1.2.1; omega), ptr_back, if_pos (ptrOk_real h1.2.2).1]
    simp only [Option.getD_some]
    rw [if_pos trivial]
  | none =>
    rw [if_neg]
    intro h
    by_cases hok : uberOk ((numV x).getD 0) ((ptrReadV y).getD ⟨0, 0, 0⟩)
    · rw [uberP_iff.2 ⟨hok, h⟩] at hu; cases hu
    · have : t = ⟨#[]⟩ := by rw [← h]; unfold uberT; rw [if_neg hok]
      rw [this, open_nil] at ho
      cases ho
theorem uber_closed {t : ByteArray} (ho : (openV t).2 = false) : uberP t = none := by
  cases hu : uberP t with
  | none => rfl
  | some kr =>
    obtain ⟨k, r⟩ := kr
    obtain ⟨h1, rfl⟩ := uberP_iff.1 hu
    rw [open_uber h1] at ho
    cases ho
theorem uber_words3 {t : ByteArray} (hw : (splitV 32 (openV t).1).length ≠ 3) : uberP t = none := by
  unfold uberP
  split
  · rename_i h; rw [h] at hw; exact absurd rfl hw
  · rfl
end Go.Proofs.YtjedcphhajlnoaaGreatDoor
/- Functions: what the reader of codes draws. -/
namespace Go.Proofs.YtjedcphhajlnoaaGreatDoor
open Go.RowKit

/-- The reader's object: bytes, place. -/
@[go_sem] def rdO (bs : List UInt8) (p : Int) : Obj := .cells [.isl .byte bs, .val (.int .i64 p)]
@[go_sem] def ctOpen : Ct := ⟨true, [[some .byte]], fun args os => match args, os with
  | [.one (.isl .byte bs)], [] => ⟨bs.length ≤ 1048576, .one (.ptr 0 0), [], [rdO (bs.take 2000) 0]⟩
  | _, _ => no⟩
theorem s_open_e : EnterOk Tryz.prog 96 := ⟨_, Tryz.func96, rfl, by decide⟩
@[go_sem] def s_open_lv : List (List Nat) := [[0], [0, 5], [0], [2]]
@[go_sem] noncomputable def s_open_K : Known := Known.nil
set_option maxHeartbeats 8000000 in
theorem s_open : Sound Tryz.prog 96 ctOpen := by
  have ke := s_open_K.env []
  have kl : Lives s_open_lv := trivial
  refine sound_intro (E := ⟨ti, s_open_K.Γ, []⟩) ke Tryz.func96 Tryz.ntmps96 rfl (rs := [.tmp 2]) rfl ?_
  intro args os hp
  unfold ctOpen at hp ⊢
  dsimp only at hp ⊢
  split at hp
  · rename_i bs
    refine ⟨by simp, fun φ0 w0 => ?_⟩
    have hlen : bs.length ≤ 1048576 := hp
    clear hp
    refine goh trivial ?_
    refine W_cnd ?_ ?_ <;> (try simp only [cnd_r]) <;> intro hc
    · refine goh trivial ?_
      exact finh [some 0] trivial
    · refine goh trivial ?_
      have ht : bs.take 2000 = bs := List.take_of_length_le (by omega)
      rw [ht]
      exact finh [some 0] trivial
  · simp [no] at hp

def byteAt (bs : List UInt8) (i : Int) : Int := ((bs.getD i.toNat 0).toNat : Int)
def byteW (bs : List UInt8) (i : Int) : Int := IntKind.i64.wrap ((UInt8.toNat (bs.getD i.toNat ET.byte.dflt) : Nat) : Int)
/-- What is drawn behind the code's end. -/
def mixS (bs : List UInt8) (k : Int) : Int := IntKind.i64.wrap (IntKind.i64.wrap (IntKind.i64.wrap (IntKind.i64.wrap (byteW bs (k.tmod bs.length) * 131) + IntKind.i64.wrap (byteW bs ((IntKind.i64.wrap (IntKind.i64.wrap (k * 7) + 3)).tmod bs.length) * 1117)) + IntKind.i64.wrap (k * 29)) + IntKind.i64.wrap (IntKind.i64.wrap (k.tdiv bs.length) * 53))
def mixV (bs : List UInt8) (k : Int) : Int := IntKind.i64.wrap (((BitVec.ofInt 64 (mixS bs k) ^^^ BitVec.ofInt 64 (IntKind.i64.wrap ((mixS bs k).tdiv 64))).toNat : Nat) : Int)
theorem byteW_eq (bs : List UInt8) (i : Int) : byteW bs i = byteAt bs i ∧ 0 ≤ byteAt bs i ∧ byteAt bs i < 256 := by
  have hb : (UInt8.toNat (bs.getD i.toNat (0 : UInt8))) < 256 := UInt8.toNat_lt _
  have e : byteW bs i = IntKind.i64.wrap (byteAt bs i) := rfl
  unfold byteAt at e ⊢
  rw [e, wrap_id _ (by omega) (by omega)]
  omega
theorem tmod_in (k : Int) (n : Nat) (hk : 0 ≤ k) (hn : n ≠ 0) : 0 ≤ k.tmod n ∧ k.tmod n < n := ⟨Int.tmod_nonneg _ hk, Int.tmod_lt_of_pos _ (show (0 : Int) < n by omega)⟩
theorem tdiv_in (k : Int) (n : Int) (hk : 0 ≤ k) (hn : 0 < n) : 0 ≤ k.tdiv n ∧ k.tdiv n ≤ k := ⟨Int.tdiv_nonneg hk (by omega), by
  rw [Int.tdiv_eq_ediv_of_nonneg hk]; exact Int.ediv_le_self n hk⟩
theorem mixS_in (bs : List UInt8) (k : Int) (h1 : 0 ≤ k) (h2 : k ≤ 1000000) (hb : bs.length ≠ 0) : 0 ≤ mixS bs k ∧ mixS bs k ≤ 1000000000 := by
  obtain ⟨a1, a2, a3⟩ := byteW_eq bs (k.tmod bs.length)
  obtain ⟨b1, b2, b3⟩ := byteW_eq bs ((IntKind.i64.wrap (IntKind.i64.wrap (k * 7) + 3)).tmod bs.length)
  obtain ⟨c1, c2⟩ := tdiv_in k bs.length h1 (by omega)
  unfold mixS
  rw [a1, b1]
  generalize byteAt bs (k.tmod bs.length) = x at *
  generalize byteAt bs ((IntKind.i64.wrap (IntKind.i64.wrap (k * 7) + 3)).tmod bs.length) = y at *
  generalize k.tdiv bs.length = z at *
  rw [wrap_id (x * 131) (by omega) (by omega), wrap_id (y * 1117) (by omega) (by omega), wrap_id (k * 29) (by omega) (by omega), wrap_id z (by omega) (by omega), wrap_id (z * 53) (by omega) (by omega),
    wrap_id (x * 131 + y * 1117) (by omega) (by omega), wrap_id (x * 131 + y * 1117 + k * 29) (by omega) (by omega), wrap_id (x * 131 + y * 1117 + k * 29 + z * 53) (by omega) (by omega)]
  omega
theorem xor_in (a b : Int) (ha : 0 ≤ a) (hb : 0 ≤ b) (ha' : a < 4611686018427387904) (hb' : b < 4611686018427387904) : 0 ≤ IntKind.i64.wrap (((BitVec.ofInt 64 a ^^^ BitVec.ofInt 64 b).toNat : Nat) : Int) := by
  obtain ⟨a, rfl⟩ := Int.eq_ofNat_of_zero_le ha
  obtain ⟨b, rfl⟩ := Int.eq_ofNat_of_zero_le hb
  have h : (BitVec.ofInt 64 (a : Int) ^^^ BitVec.ofInt 64 (b : Int)).toNat < 2 ^ 62 := by
    rw [BitVec.toNat_xor, BitVec.toNat_ofInt, BitVec.toNat_ofInt]
    refine Nat.xor_lt_two_pow ?_ ?_ <;> omega
  generalize (BitVec.ofInt 64 (a : Int) ^^^ BitVec.ofInt 64 (b : Int)).toNat = x at *
  rw [wrap_id _ (by omega) (by omega)]
  omega
theorem mixV_in (bs : List UInt8) (k : Int) (h1 : 0 ≤ k) (h2 : k ≤ 1000000) (hb : bs.length ≠ 0) : 0 ≤ mixV bs k := by
  obtain ⟨a, b⟩ := mixS_in bs k h1 h2 hb
  obtain ⟨c, d⟩ := tdiv_in (mixS bs k) 64 a (by omega)
  unfold mixV
  refine xor_in _ _ a ?_ (by omega) ?_ <;> rw [wrap_id _ (by omega) (by omega)] <;> omega
/-- The number that is picked. -/
def pickV (bs : List UInt8) (p n : Int) : Int := if n < 1 ∨ bs.length = 0 then 0 else if p < bs.length then (byteAt bs p).tmod n else (mixV bs p).tmod n
@[go_sem] def ctPick : Ct := ⟨true, [], fun args os => match args, os with
  | [.one (.ptr 0 0), .one (.val (.int .i64 n))], [.cells [.isl .byte bs, .val (.int .i64 p)]] => ⟨0 ≤ p ∧ p ≤ 1000000 ∧ bs.length ≤ 2000, vi (pickV bs p n), [(0, some (rdO bs (p + 1)))], []⟩
  | _, _ => no⟩
theorem s_pick_e : EnterOk Tryz.prog 170 := ⟨_, Tryz.func170, rfl, by decide⟩
@[go_sem] def s_pick_lv : List (List Nat) := [[0, 1], [0, 1], [0, 1, 24], [4], [0, 1, 5], [0, 1, 5, 36], [4], [1, 6], [1, 6], [4]]
@[go_sem] noncomputable def s_pick_K : Known := Known.nil
set_option maxHeartbeats 8000000 in
theorem s_pick : Sound Tryz.prog 170 ctPick := by
  have ke := s_pick_K.env []
  have kl : Lives s_pick_lv := trivial
  refine sound_intro (E := ⟨ti, s_pick_K.Γ, []⟩) ke Tryz.func170 Tryz.ntmps170 rfl (rs := [.tmp 4]) rfl ?_
  intro args os hp
  unfold ctPick at hp ⊢
  dsimp only at hp ⊢
  split at hp
  · rename_i n bs p
    refine ⟨by simp, fun φ0 w0 => ?_⟩
    obtain ⟨h1, h2, h3⟩ : 0 ≤ p ∧ p ≤ 1000000 ∧ bs.length ≤ 2000 := hp
    have hw1 : IntKind.i64.wrap (p + 1) = p + 1 := wrap_id _ (by omega) (by omega)
    have hw2 : IntKind.i64.wrap (p + 1 - 1) = p := by rw [wrap_id _ (by omega) (by omega)]; omega
    refine goh (And.intro hw1 hw2) ?_
    refine W_cond _ (by exact rfl) (by exact trivial) ?_ ?_ <;> intro hc
    · have hc' : n < 1 ∨ bs.length = 0 := by
        by_cases hn : n < 1
        · exact .inl hn
        · rw [if_neg hn] at hc; simp at hc; exact .inr (by simp [hc])
      refine goh trivial ?_
      refine ⟨by (simp only [go_sem, ↓reduceIte, reduceCtorEq, Nat.reduceAdd, Nat.reduceLT, Nat.reduceLeDiff, Nat.reduceEqDiff]) <;> trivial, [some 0], ?_⟩
      all_goals try simp only [go_sem, inj_r, ↓reduceIte, reduceCtorEq, Nat.reduceAdd, Nat.reduceLT, Nat.reduceLeDiff, Nat.reduceEqDiff, Int.reduceEq]
      all_goals (repeat' refine And.intro ?_ ?_) <;> try exact shut7
      unfold pickV
      rw [if_pos hc']
    · have hn : ¬ n < 1 := by intro hn; rw [if_pos hn] at hc; cases hc
      have hl : bs.length ≠ 0 := by rw [if_neg hn] at hc; simp at hc; intro h; exact hc (List.length_eq_zero_iff.1 h)
      have hpv : pickV bs p n = if p < bs.length then (byteAt bs p).tmod n else (mixV bs p).tmod n := by
        unfold pickV
        rw [if_neg (by rintro (h | h); exact hn h; exact hl h)]
      clear hc
      refine goh hw2 ?_
      refine W_cnd ?_ ?_ <;> (try simp only [cnd_r]) <;> intro hlt
      · refine goh trivial ?_
        refine ⟨by (simp only [go_sem, ↓reduceIte, reduceCtorEq, Nat.reduceAdd, Nat.reduceLT, Nat.reduceLeDiff, Nat.reduceEqDiff]) <;> trivial, [some 0], ?_⟩
        all_goals try simp only [go_sem, inj_r, ↓reduceIte, reduceCtorEq, Nat.reduceAdd, Nat.reduceLT, Nat.reduceLeDiff, Nat.reduceEqDiff, Int.reduceEq]
        all_goals (repeat' refine And.intro ?_ ?_) <;> try exact shut7
        rw [hpv, if_pos hlt, ← (byteW_eq bs p).1]
        rfl
      · have h7 : IntKind.i64.wrap (IntKind.i64.wrap (p * 7) + 3) = p * 7 + 3 := by rw [wrap_id (p * 7) (by omega) (by omega), wrap_id _ (by omega) (by omega)]
        have t1 := tmod_in p bs.length h1 hl
        have t2 := tmod_in (p * 7 + 3) bs.length (by omega) hl
        refine goh h7 ?_
        refine ⟨by (simp only [go_sem, ↓reduceIte, reduceCtorEq, Nat.reduceAdd, Nat.reduceLT, Nat.reduceLeDiff, Nat.reduceEqDiff]) <;> trivial, [some 0], ?_⟩
        all_goals try simp only [go_sem, inj_r, ↓reduceIte, reduceCtorEq, Nat.reduceAdd, Nat.reduceLT, Nat.reduceLeDiff, Nat.reduceEqDiff, Int.reduceEq]
        all_goals (repeat' refine And.intro ?_ ?_) <;> try exact shut7
        rw [hpv, if_neg hlt, mixV, mixS, h7]
        rfl
  · simp [no] at hp
theorem pickV_in (bs : List UInt8) (p n : Int) (h1 : 0 ≤ p) (h2 : p ≤ 1000000) (hn : 1 ≤ n) : 0 ≤ pickV bs p n ∧ pickV bs p n < n := by
  unfold pickV
  split
  · omega
  · rename_i h
    have hb : bs.length ≠ 0 := fun e => h (.inr e)
    split
    · exact ⟨Int.tmod_nonneg _ (byteW_eq bs p).2.1, Int.tmod_lt_of_pos _ (by omega)⟩
    · exact ⟨Int.tmod_nonneg _ (mixV_in bs p h1 h2 hb), Int.tmod_lt_of_pos _ (by omega)⟩
end Go.Proofs.YtjedcphhajlnoaaGreatDoor
/- Functions: one of a list; texts that are drawn. -/
namespace Go.Proofs.YtjedcphhajlnoaaGreatDoor
open Go.RowKit

/-- May the reader go on from here? -/
def rdOk (bs : List UInt8) (p : Int) : Prop := 0 ≤ p ∧ p ≤ 900000 ∧ bs.length ≤ 2000
@[go_sem] def ctNum : Ct := ⟨true, [], fun args os => match args, os with
  | [.one (.ptr 0 0), .one (.osl .int 1 0 n)], [.cells [.isl .byte bs, .val (.int .i64 p)], .arr .int xs] => ⟨(0 ≤ p ∧ p ≤ 1000000 ∧ bs.length ≤ 2000) ∧ n = xs.length ∧ 0 < n ∧ n ≤ 1000, vi (ET.int.at xs (pickV bs p n).toNat), [(0, some (rdO bs (p + 1)))], []⟩
  | _, _ => no⟩
theorem s_num_e : EnterOk Tryz.prog 97 := ⟨_, Tryz.func97, rfl, by decide⟩
@[go_sem] def s_num_lv : List (List Nat) := [[0, 1], [4]]
@[go_sem] noncomputable def s_num_K : Known := (Known.nil).cons 170 ctPick s_pick s_pick_e
set_option maxHeartbeats 8000000 in
theorem s_num : Sound Tryz.prog 97 ctNum := by
  have ke := s_num_K.env []
  have kl : Lives s_num_lv := trivial
  refine sound_intro (E := ⟨ti, s_num_K.Γ, []⟩) ke Tryz.func97 Tryz.ntmps97 rfl (rs := [.tmp 4]) rfl ?_
  intro args os hp
  unfold ctNum at hp ⊢
  dsimp only at hp ⊢
  split at hp
  · rename_i n bs p xs
    refine ⟨by simp, fun φ0 w0 => ?_⟩
    obtain ⟨⟨h1, h2, h3⟩, h4, h5, h6⟩ : (0 ≤ p ∧ p ≤ 1000000 ∧ bs.length ≤ 2000) ∧ n = xs.length ∧ 0 < n ∧ n ≤ 1000 := hp
    have h7 := pickV_in bs p n h1 h2 (by omega)
    refine goh trivial ?_
    exact finh [some 0, some 1] trivial
  · simp [no] at hp
@[go_sem] def ctOf : Ct := ⟨true, [], fun args os => match args, os with
  | [.one (.ptr 0 0), .one (.osl .str 1 0 n)], [.cells [.isl .byte bs, .val (.int .i64 p)], .arr .str xs] => ⟨(0 ≤ p ∧ p ≤ 1000000 ∧ bs.length ≤ 2000) ∧ n = xs.length ∧ 0 < n ∧ n ≤ 1000, vs (ET.str.at xs (pickV bs p n).toNat), [(0, some (rdO bs (p + 1)))], []⟩
  | _, _ => no⟩
theorem s_of_e : EnterOk Tryz.prog 174 := ⟨_, Tryz.func174, rfl, by decide⟩
@[go_sem] def s_of_lv : List (List Nat) := [[0, 1], [4]]
@[go_sem] noncomputable def s_of_K : Known := (Known.nil).cons 170 ctPick s_pick s_pick_e
set_option maxHeartbeats 8000000 in
theorem s_of : Sound Tryz.prog 174 ctOf := by
  have ke := s_of_K.env []
  have kl : Lives s_of_lv := trivial
  refine sound_intro (E := ⟨ti, s_of_K.Γ, []⟩) ke Tryz.func174 Tryz.ntmps174 rfl (rs := [.tmp 4]) rfl ?_
  intro args os hp
  unfold ctOf at hp ⊢
  dsimp only at hp ⊢
  split at hp
  · rename_i n bs p xs
    refine ⟨by simp, fun φ0 w0 => ?_⟩
    obtain ⟨⟨h1, h2, h3⟩, h4, h5, h6⟩ : (0 ≤ p ∧ p ≤ 1000000 ∧ bs.length ≤ 2000) ∧ n = xs.length ∧ 0 < n ∧ n ≤ 1000 := hp
    have h7 := pickV_in bs p n h1 h2 (by omega)
    refine goh trivial ?_
    exact finh [some 0, some 1] trivial
  · simp [no] at hp
def txts : List ByteArray := [⟨#[97]⟩, ⟨#[98]⟩, ⟨#[32]⟩, ⟨#[58]⟩, ⟨#[10]⟩, ⟨#[49, 50]⟩, ⟨#[255]⟩, ⟨#[0]⟩, ⟨#[120, 121, 122]⟩]
theorem at_size {xs : List ByteArray} {m : Nat} (h : ∀ s ∈ xs, s.size ≤ m) (i : Nat) : (ET.str.at xs i).size ≤ m := by
  unfold ET.at
  rcases Nat.lt_or_ge i xs.length with hi | hi
  · rw [List.getD_eq_getElem?_getD, List.getElem?_eq_getElem hi]; exact h _ (List.getElem_mem hi)
  · rw [List.getD_eq_getElem?_getD, List.getElem?_eq_none hi]; exact Nat.zero_le _
theorem txts_size (i : Nat) : (ET.str.at txts i).size ≤ 3 := at_size (by decide) i
def l1T (bs : List UInt8) : Nat → Int → ByteArray → ByteArray
  | 0, _, out => out
  | i + 1, p, out => l1T bs i (p + 1) (out ++ ET.str.at txts (pickV bs p 9).toNat)
theorem l1T_size (bs : List UInt8) : ∀ (i : Nat) (p : Int) (out : ByteArray), (l1T bs i p out).size ≤ out.size + 3 * i
  | 0, p, out => by simp [l1T]
  | i + 1, p, out => by
    have h1 := l1T_size bs i (p + 1) (out ++ ET.str.at txts (pickV bs p 9).toNat)
    have h2 := txts_size (pickV bs p 9).toNat
    rw [ByteArray.size_append] at h1
    unfold l1T; omega
/-- A text that is drawn, and where the reader goes on. -/
def textV (bs : List UInt8) (p : Int) : ByteArray := l1T bs (pickV bs p 7).toNat (p + 1) ⟨#[]⟩
def textP (bs : List UInt8) (p : Int) : Int := p + 1 + pickV bs p 7
theorem textV_size (bs : List UInt8) (p : Int) (h : rdOk bs p) : (textV bs p).size ≤ 18 := by
  have h1 := pickV_in bs p 7 h.1 (by have := h.2.1; omega) (by omega)
  have h2 := l1T_size bs (pickV bs p 7).toNat (p + 1) ⟨#[]⟩
  have h3 : (⟨#[]⟩ : ByteArray).size = 0 := rfl
  unfold textV; omega
theorem textP_in (bs : List UInt8) (p : Int) (h : rdOk bs p) : p + 1 ≤ textP bs p ∧ textP bs p ≤ p + 7 := by
  have h1 := pickV_in bs p 7 h.1 (by have := h.2.1; omega) (by omega)
  unfold textP; omega
@[go_sem] def ctText : Ct := ⟨true, [], fun args os => match args, os with
  | [.one (.ptr 0 0)], [.cells [.isl .byte bs, .val (.int .i64 p)]] => ⟨rdOk bs p, vs (textV bs p), [(0, some (rdO bs (textP bs p)))], []⟩
  | _, _ => no⟩
@[go_sem] def sgText (bs : List UInt8) (p : Int) (i : Nat) (out : ByteArray) : Sg := ⟨[(0, .one (.ptr 0 0)), (3, vs out), (4, vi i)], [some (rdO bs p)], [0]⟩
theorem s_text_e : EnterOk Tryz.prog 175 := ⟨_, Tryz.func175, rfl, by decide⟩
@[go_sem] def s_text_lv : List (List Nat) := [[0], [0, 3], [0, 3, 4], [0, 3, 4, 8], [0, 3, 4], [0, 3, 4], [2]]
@[go_sem] noncomputable def s_text_K : Known := ((Known.nil).cons 170 ctPick s_pick s_pick_e).cons 174 ctOf s_of s_of_e
set_option maxHeartbeats 8000000 in
theorem s_text : Sound Tryz.prog 175 ctText := by
  have ke := s_text_K.env []
  have kl : Lives s_text_lv := trivial
  refine sound_intro (E := ⟨ti, s_text_K.Γ, []⟩) ke Tryz.func175 Tryz.ntmps175 rfl (rs := [.tmp 2]) rfl ?_
  intro args os hp
  unfold ctText at hp ⊢
  dsimp only at hp ⊢
  split at hp
  · rename_i bs p
    refine ⟨by simp, fun φ0 w0 => ?_⟩
    have hr : rdOk bs p := hp
    obtain ⟨h1, h2, h3⟩ := hr
    have h7 := pickV_in bs p 7 h1 (by omega) (by omega)
    have hT : textP bs p = p + 1 + pickV bs p 7 := rfl
    have hV : textV bs p = l1T bs (pickV bs p 7).toNat (p + 1) ⟨#[]⟩ := rfl
    refine goh trivial ?_
    refine W_le (σ' := sgText bs (p + 1) (pickV bs p 7).toNat ⟨#[]⟩) [some 0] (by
      simp only [go_sem, inj_r, ↓reduceIte, reduceCtorEq, Nat.reduceAdd, Nat.reduceLT, Nat.reduceLeDiff, Nat.reduceEqDiff, Int.reduceEq]
      all_goals (repeat' refine And.intro ?_ ?_) <;> try exact shut7
      ) ?_
    refine W_loop (fun n σ => ∃ (i : Nat) (q : Int) (out : ByteArray), n = i ∧ i ≤ 6 ∧ out.size ≤ 3 * (6 - i) ∧ 0 ≤ q ∧ q + i = textP bs p ∧ l1T bs i q out = textV bs p ∧ σ = sgText bs q i out) (pickV bs p 7).toNat ⟨_, _, _, rfl, by omega, Nat.zero_le _, by omega, by omega, hV.symm, rfl⟩ ?_
    rintro n σ ⟨i, q, out, rfl, hi, ho, hq, hqi, hl, rfl⟩
    unfold sgText
    refine goh trivial ?_
    refine W_cnd ?_ ?_ <;> (try simp only [cnd_r]) <;> intro hlt
    · obtain ⟨j, rfl⟩ : ∃ j, n = j + 1 := ⟨n - 1, by omega⟩
      have h9 := pickV_in bs q 9 hq (by omega) (by omega)
      have ht := txts_size (pickV bs q 9).toNat
      simp only [ET.at, txts] at ht
      refine goh trivial ?_
      refine ⟨j, [some 0], sgText bs (q + 1) j (out ++ ET.str.at txts (pickV bs q 9).toNat), by omega, ?_, j, q + 1, _, rfl, by omega, ?_, by omega, by omega, hl, rfl⟩
      · exact leh trivial
      · simp only [ET.at, txts, ByteArray.size_append]; omega
    · refine goh trivial ?_
      refine ⟨by (simp only [go_sem, ↓reduceIte, reduceCtorEq, Nat.reduceAdd, Nat.reduceLT, Nat.reduceLeDiff, Nat.reduceEqDiff]) <;> trivial, [some 0], ?_⟩
      all_goals try simp only [go_sem, inj_r, ↓reduceIte, reduceCtorEq, Nat.reduceAdd, Nat.reduceLT, Nat.reduceLeDiff, Nat.reduceEqDiff, Int.reduceEq]
      all_goals (repeat' refine And.intro ?_ ?_) <;> try exact shut7
      · have : n = 0 := by omega
        subst this
        exact hl
  · simp [no] at hp
def fates : List Int := [0, 1, 1, 1, 2, 3]
def l2F (bs : List UInt8) : Nat → Int → List Int → List Int
  | 0, _, out => out
  | i + 1, p, out => l2F bs i (p + 1) (out ++ [ET.int.at fates (pickV bs p 6).toNat])
theorem l2F_len (bs : List UInt8) : ∀ (i : Nat) (p : Int) (out : List Int), (l2F bs i p out).length = out.length + i
  | 0, p, out => by simp [l2F]
  | i + 1, p, out => by
    have h1 := l2F_len bs i (p + 1) (out ++ [ET.int.at fates (pickV bs p 6).toNat])
    rw [List.length_append] at h1
    simp only [List.length_cons, List.length_nil] at h1
    unfold l2F; omega
/-- What becomes of writes, as it is drawn. -/
def fateV (bs : List UInt8) (p : Int) : List Int := l2F bs (pickV bs p 16).toNat (p + 1) []
def fateP (bs : List UInt8) (p : Int) : Int := p + 1 + pickV bs p 16
theorem fateV_len (bs : List UInt8) (p : Int) (h : rdOk bs p) : (fateV bs p).length ≤ 15 := by
  have h1 := pickV_in bs p 16 h.1 (by have := h.2.1; omega) (by omega)
  unfold fateV; rw [l2F_len]; simp only [List.length_nil]; omega
theorem fateP_in (bs : List UInt8) (p : Int) (h : rdOk bs p) : p + 1 ≤ fateP bs p ∧ fateP bs p ≤ p + 16 := by
  have h1 := pickV_in bs p 16 h.1 (by have := h.2.1; omega) (by omega)
  unfold fateP; omega
@[go_sem] def ctFate : Ct := ⟨true, [], fun args os => match args, os with
  | [.one (.ptr 0 0)], [.cells [.isl .byte bs, .val (.int .i64 p)]] => ⟨rdOk bs p, .one (.osl .int 1 0 (fateV bs p).length), [(0, some (rdO bs (fateP bs p)))], [.arr .int (fateV bs p)]⟩
  | _, _ => no⟩
@[go_sem] def sgFate (bs : List UInt8) (p : Int) (i : Nat) (out : List Int) : Sg := ⟨[(0, .one (.ptr 0 0)), (3, .one (.osl .int 1 0 out.length)), (4, vi i)], [some (rdO bs p), some (.arr .int out)], [0]⟩
/-- A text n times. -/
def manyL : Nat → ByteArray → Nat → ByteArray → ByteArray
  | 0, _, _, out => out
  | f + 1, s, n, out => if n = 0 then out else manyL f (s ++ s) (n / 2) (if n % 2 = 1 then out ++ s else out)
theorem manyL_size : ∀ (f : Nat) (s : ByteArray) (n : Nat) (out : ByteArray), n < 2 ^ f → (manyL f s n out).size = out.size + n * s.size
  | 0, s, n, out, h => by
    have : n = 0 := by simp at h; exact h
    subst this; simp [manyL]
  | f + 1, s, n, out, h => by
    unfold manyL
    split
    · rename_i h0; subst h0; simp
    · rw [manyL_size f _ _ _ (by rw [Nat.pow_succ] at h; omega), ByteArray.size_append]
      have e : n * s.size = (n / 2) * (s.size + s.size) + (n % 2) * s.size := by
        have : n = 2 * (n / 2) + n % 2 := by omega
        rw [Nat.mul_add, ← Nat.add_mul, ← Nat.add_mul]; congr 1; omega
      split
      · rename_i h1; rw [e, h1, ByteArray.size_append]; omega
      · rename_i h1
        have : n % 2 = 0 := by omega
        rw [e, this]; omega
theorem manyL_enough : ∀ (f : Nat) (s : ByteArray) (n : Nat) (out : ByteArray), n < 2 ^ f → manyL (f + 1) s n out = manyL f s n out
  | 0, s, n, out, h => by
    have : n = 0 := by simp at h; exact h
    subst this; simp [manyL]
  | f + 1, s, n, out, h => by
    have h2 : n / 2 < 2 ^ f := by rw [Nat.pow_succ] at h; omega
    conv => lhs; unfold manyL
    conv => rhs; unfold manyL
    rw [manyL_enough f _ _ _ h2]
def many (s : ByteArray) (n : Nat) : ByteArray := manyL 10 s n ⟨#[]⟩
theorem many_size (s : ByteArray) (n : Nat) (h : n ≤ 1000) : (many s n).size = n * s.size := by
  unfold many; rw [manyL_size _ _ _ _ (by omega)]; exact Nat.zero_add _
theorem manyL_step (s : ByteArray) (n : Nat) (out : ByteArray) (h : n ≤ 1000) (h0 : n ≠ 0) : manyL 10 s n out = manyL 10 (s ++ s) (n / 2) (if n % 2 = 1 then out ++ s else out) := by
  conv => lhs; unfold manyL
  rw [if_neg h0, ← manyL_enough 9 _ _ _ (by omega)]
@[go_sem] def ctMany : Ct := ⟨false, [], fun args os => match args, os with
  | [.one (.val (.string s)), .one (.val (.int .i64 n))], [] => ifp (0 ≤ n ∧ n ≤ 1000 ∧ s.size ≤ 100) (vs (many s n.toNat))
  | _, _ => no⟩
@[go_sem] def sgMany (s : ByteArray) (n : Nat) (out : ByteArray) : Sg := ⟨[(0, vs s), (1, vi n), (5, vs out)], [], []⟩
theorem s_many_e : EnterOk Tryz.prog 200 := ⟨_, Tryz.func200, rfl, by decide⟩
@[go_sem] def s_many_lv : List (List Nat) := [[0, 1], [0, 1, 5], [0, 1, 5, 7], [0, 1, 5, 10], [0, 1, 5], [0, 1, 5], [0, 1, 5], [4]]
@[go_sem] noncomputable def s_many_K : Known := Known.nil
set_option maxHeartbeats 8000000 in
theorem s_many : Sound Tryz.prog 200 ctMany := by
  have ke := s_many_K.env []
  have kl : Lives s_many_lv := trivial
  refine sound_intro (E := ⟨ti, s_many_K.Γ, []⟩) ke Tryz.func200 Tryz.ntmps200 rfl (rs := [.tmp 4]) rfl ?_
  intro args os hp
  unfold ctMany at hp ⊢
  dsimp only at hp ⊢
  split at hp
  · rename_i s0 n0
    refine ⟨by simp, fun φ0 w0 => ?_⟩
    obtain ⟨h1, h2, h3⟩ : 0 ≤ n0 ∧ n0 ≤ 1000 ∧ s0.size ≤ 100 := hp
    obtain ⟨n0, rfl⟩ := Int.eq_ofNat_of_zero_le h1
    have hb : n0 * s0.size ≤ 100000 := Nat.mul_le_mul (show n0 ≤ 1000 by omega) h3
    have hn0 : (n0 : Int).toNat = n0 := Int.toNat_natCast n0
    refine goh trivial ?_
    refine W_le (σ' := sgMany s0 n0 ⟨#[]⟩) [] (by
      simp only [go_sem, inj_r, ↓reduceIte, reduceCtorEq, Nat.reduceAdd, Nat.reduceLT, Nat.reduceLeDiff, Nat.reduceEqDiff, Int.reduceEq]
      all_goals (repeat' refine And.intro ?_ ?_) <;> try exact shut7
      ) ?_
    refine W_loop (fun n σ => ∃ (s : ByteArray) (i : Nat) (out : ByteArray), n = i ∧ i ≤ 1000 ∧ out.size + i * s.size ≤ 100000 ∧ s.size ≤ 200000 ∧ manyL 10 s i out = many s0 n0 ∧ σ = sgMany s i out) n0 ⟨_, _, _, rfl, by omega, by rw [show (⟨#[]⟩ : ByteArray).size = 0 from rfl]; omega, by omega, rfl, rfl⟩ ?_
    rintro n σ ⟨s, i, out, rfl, hi, ho, hs, hm, rfl⟩
    unfold sgMany
    refine goh trivial ?_
    refine W_cnd ?_ ?_ <;> (try simp only [cnd_r]) <;> intro hlt
    · have hr : ((n : Int)).tmod 2 = ((n % 2 : Nat) : Int) := (Int.ofNat_tmod _ _).symm
      have hq : IntKind.i64.wrap (((n : Int)).tdiv 2) = ((n / 2 : Nat) : Int) := by
        have : (n : Int).tdiv 2 = ((n / 2 : Nat) : Int) := (Int.ofNat_tdiv _ _).symm
        rw [this]; exact wrap_id _ (by omega) (by omega)
      have hst := manyL_step s n out (by omega) (by omega)
      have hs1 : s.size ≤ 100000 := by have := Nat.mul_le_mul_right s.size (show 1 ≤ n by omega); omega
      have e : n * s.size = (n / 2) * (s.size + s.size) + (n % 2) * s.size := by
        have : n = 2 * (n / 2) + n % 2 := by omega
        rw [Nat.mul_add, ← Nat.add_mul, ← Nat.add_mul]; congr 1; omega
      refine goh hr ?_
      refine W_cond _ (by exact rfl) (by exact trivial) ?_ ?_ <;> intro hc
      · have h1 : n % 2 = 1 := by simp only [beq_iff_eq] at hc; omega
        rw [if_pos h1] at hst
        rw [h1] at e
        refine goh hq ?_
        refine ⟨n / 2, [], sgMany (s ++ s) (n / 2) (out ++ s), by omega, ?_, _, _, _, rfl, by omega, ?_, ?_, hst ▸ hm, rfl⟩
        · exact leh trivial
        · rw [ByteArray.size_append, ByteArray.size_append]; omega
        · rw [ByteArray.size_append]; omega
      · have h1 : n % 2 = 0 := by
          have : ¬ (((n % 2 : Nat) : Int) = 1) := by simpa using hc
          omega
        rw [if_neg (by omega)] at hst
        rw [h1] at e
        refine goh hq ?_
        refine ⟨n / 2, [], sgMany (s ++ s) (n / 2) out, by omega, ?_, _, _, _, rfl, by omega, ?_, ?_, hst ▸ hm, rfl⟩
        · exact leh trivial
        · rw [ByteArray.size_append]; omega
        · rw [ByteArray.size_append]; omega
    · refine goh trivial ?_
      have : n = 0 := by omega
      subst this
      have hm : out = many s0 n0 := hm
      subst hm
      exact finh [] trivial
  · simp [no, ifp] at hp
end Go.Proofs.YtjedcphhajlnoaaGreatDoor
