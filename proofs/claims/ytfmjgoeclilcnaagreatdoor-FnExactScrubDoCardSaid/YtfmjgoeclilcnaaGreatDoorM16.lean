import Derived.Test.YtfmjgoeclilcnaaGreatDoorM7
import Derived.Test.YtfmjgoeclilcnaaGreatDoorM8
import Derived.Test.YtfmjgoeclilcnaaGreatDoorM10
import Derived.Test.YtfmjgoeclilcnaaGreatDoorM11
import Derived.Test.YtfmjgoeclilcnaaGreatDoorM12
import Derived.Test.YtfmjgoeclilcnaaGreatDoorM13
import Derived.Test.YtfmjgoeclilcnaaGreatDoorM14
import Derived.Test.YtfmjgoeclilcnaaGreatDoorM15
set_option linter.unusedSimpArgs false
set_option linter.unusedVariables false
set_option linter.unusedSectionVars false
namespace Go.Proofs.YtfmjgoeclilcnaaGreatDoor
open Go.RowKit
def hasI (zs : List Int) (a : Int) : Bool := decide (a ∈ zs)
@[go_sem] def ctHasI : Ct := ⟨false, [[some .int]], fun args os => match args, os with
  | [.one (.isl .int zs), .one (.val (.int .i64 a))], [] => ifp (zs.length ≤ 4000000) (vb (hasI zs a))
  | _, _ => no⟩
theorem getI {zs : List Int} {i : Nat} (h : i < zs.length) : zs.getD i ET.int.dflt = zs[i] := by simp [h]
theorem s_l7Has_e : EnterOk Tryz.prog 182 := ⟨_, Tryz.func182, rfl, by decide⟩
@[go_sem] def s_l7Has_lv : List (List Nat) := [[0, 1], [0, 1, 5], [0, 1, 5, 9], [0, 1, 5], [0, 1, 5, 17], [4], [4]]
@[go_sem] noncomputable def s_l7Has_K : Known := Known.nil
set_option maxHeartbeats 8000000 in
theorem s_l7Has : Sound Tryz.prog 182 ctHasI := by
 have ke := s_l7Has_K.env []
 have kl : Lives s_l7Has_lv := trivial
 refine sound_intro (E := ⟨ti, s_l7Has_K.Γ, []⟩) ke Tryz.func182 Tryz.ntmps182 rfl (rs := [.tmp 4]) rfl ?_
 intro args os hp
 unfold ctHasI at hp ⊢
 dsimp only at hp ⊢
 split at hp
 ·rename_i zs a
  refine ⟨by simp, fun φ0 w0 => ?_⟩
  have hlen : zs.length ≤ 4000000 := hp
  refine goh trivial ?_
  refine W_for zs.length (fun i => ∀ j, (h : j < i) → zs.getD j ET.int.dflt ≠ a) (fun i => ⟨[(0, .one (.isl .int zs)), (1, vi a), (5, vi i)], [], []⟩) [] (leh trivial) (by omega) fun i hi hb => ?_
  refine goh trivial ?_
  refine W_cnd ?_ ?_ <;> (try simp only [cnd_r]) <;> intro hlt
  ·have hi' : i < zs.length := by omega
   refine goh trivial ?_
   refine W_cnd ?_ ?_ <;> (try simp only [cnd_r]) <;> intro hc
   ·have e : hasI zs a = true := by
     unfold hasI
     have hc' : zs.getD i ET.int.dflt = a := hc
     rw [getI hi'] at hc'
     exact decide_eq_true (hc' ▸ List.getElem_mem hi')
    refine goh trivial ?_
    exact finh [] e
   ·simp only [beq_eq_false_iff_ne, ne_eq] at hc
    refine goh trivial ?_
    exact ⟨[], by omega, leh trivial, fun j hj => by
     rcases Nat.lt_succ_iff_lt_or_eq.1 hj with h2 | rfl
     ·exact hb j h2
     ·exact hc⟩
  ·obtain rfl : i = zs.length := by omega
   have e : hasI zs a = false := by
    unfold hasI
    refine decide_eq_false fun hm => ?_
    obtain ⟨j, hj, rfl⟩ := List.getElem_of_mem hm
    exact hb j hj (getI hj)
   refine goh trivial ?_
   exact finh [] e
 ·simp [no, ifp] at hp
def skipB (xs : List Int) (a : Int) : Bool := decide (a < 13) || hasI xs a
theorem addP_skip {xs : List Int} {a : Int} (h : skipB xs a = true) : addP xs a = xs := by
 unfold skipB hasI at h
 simp only [Bool.or_eq_true, decide_eq_true_eq] at h
 unfold addP; rw [if_pos h]
theorem addP_ins {xs : List Int} {a : Int} (h : skipB xs a = false) : addP xs a = insP xs a := by
 unfold skipB hasI at h
 simp only [Bool.or_eq_false_iff, decide_eq_false_iff_not] at h
 unfold addP; rw [if_neg (by rintro (h1 | h1); exact h.1 h1; exact h.2 h1)]
theorem insP_at : ∀ {xs : List Int} {a : Int} {k : Nat}, k ≤ xs.length → (∀ j, j < k → xs.getD j ET.int.dflt < a) → (k < xs.length → ¬ xs.getD k ET.int.dflt < a) → insP xs a = xs.take k ++ [a] ++ xs.drop k
 | [], a, k, hk, _, _ => by simp at hk; subst hk; simp [insP]
 | x :: xs, a, 0, _, _, h => by
   have := h (by simp)
   have hx : ¬ x < a := this
   simp [insP, hx]
 | x :: xs, a, k + 1, hk, h1, h2 => by
   have hx : x < a := h1 0 (by omega)
   have ih := insP_at (xs := xs) (a := a) (k := k) (by simpa using hk) (fun j hj => h1 (j + 1) (by omega)) (fun hj => h2 (by simpa using hj))
   have e : insP (x :: xs) a = x :: insP xs a := by unfold insP; simp [hx]
   rw [e, ih]; simp
@[go_sem] def ctL7Add : Ct := ⟨true, [], fun args os => match args, os with
  | [.one (.osl .int 0 0 n), .one (.val (.int .i64 a))], [.arr .int xs] =>
    if skipB xs a = true then ⟨n = xs.length ∧ n ≤ 4000000, .one (.osl .int 0 0 n), [], []⟩ else ⟨n = xs.length ∧ n ≤ 4000000, .one (.osl .int 1 0 (n + 1)), [(0, none)], [.arr .int (insP xs a)]⟩
  | _, _ => no⟩
theorem s_l7Add_e : EnterOk Tryz.prog 118 := ⟨_, Tryz.func118, rfl, by decide⟩
@[go_sem] def s_l7Add_lv : List (List Nat) := [[0, 1], [0, 1, 13], [4], [0, 1, 5], [0, 1, 5, 26], [0, 1, 5], [0, 1, 5, 6], [4]]
@[go_sem] noncomputable def s_l7Add_K : Known := (Known.nil).cons 182 ctHasI s_l7Has s_l7Has_e
set_option maxHeartbeats 8000000 in
theorem s_l7Add : Sound Tryz.prog 118 ctL7Add := by
 have ke := s_l7Add_K.env []
 have kl : Lives s_l7Add_lv := trivial
 refine sound_intro (E := ⟨ti, s_l7Add_K.Γ, []⟩) ke Tryz.func118 Tryz.ntmps118 rfl (rs := [.tmp 4]) rfl ?_
 intro args os hp
 unfold ctL7Add at hp ⊢
 dsimp only at hp ⊢
 split at hp
 ·rename_i n a xs
  refine ⟨by simp, fun φ0 w0 => ?_⟩
  have hp' : n = xs.length ∧ n ≤ 4000000 := by
   by_cases h : skipB xs a = true
   ·rw [if_pos h] at hp; exact hp
   ·rw [if_neg h] at hp; exact hp
  obtain ⟨rfl, hlen⟩ := hp'
  clear hp
  cases hs : skipB xs a with
  | true =>
    have hs' : (if a < 13 then true else hasI xs a) = true := by
     unfold skipB at hs
     by_cases h : a < 13
     ·rw [if_pos h]
     ·rw [if_neg h]; simpa [h] using hs
    by_cases h13 : a < 13
    ·have c1 : decide (a < 13) = true := decide_eq_true h13
     refine goh c1 ?_
     refine W_cnd ?_ ?_ <;> intro hlit <;> try (cases hlit; done)
     refine goh trivial ?_
     exact finh [some 0] hs
    ·have c1 : decide (a < 13) = false := decide_eq_false h13
     have c2 : hasI xs a = true := by rwa [if_neg h13] at hs'
     refine goh (And.intro c1 c2) ?_
     refine W_cnd ?_ ?_ <;> intro hlit <;> try (cases hlit; done)
     refine goh trivial ?_
     exact finh [some 0] hs
  | false =>
    have hs' := hs
    unfold skipB at hs'
    rw [Bool.or_eq_false_iff] at hs'
    obtain ⟨c1, c2⟩ := hs'
    refine goh (And.intro c1 c2) ?_
    refine W_cnd ?_ ?_ <;> intro hlit <;> try (cases hlit; done)
    refine goh trivial ?_
    refine W_for xs.length (fun k => ∀ j, j < k → xs.getD j ET.int.dflt < a) (fun k => ⟨[(0, .one (.osl .int 0 0 xs.length)), (1, vi a), (5, vi k)], [some (.arr .int xs)], []⟩) [some 0] (leh trivial) (by omega) fun k hk hb => ?_
    refine goh trivial ?_
    refine W_cnd ?_ ?_ <;> (try simp only [cnd_r]) <;> intro hc
    ·refine goh trivial ?_
     exact ⟨[some 0], by omega, leh trivial, fun j hj => by
      rcases Nat.lt_succ_iff_lt_or_eq.1 hj with h2 | rfl
      ·exact hb j h2
      ·exact hc.2⟩
    ·have e := insP_at (a := a) hk hb (fun hlt h => by
      have := hc
      omega)
     have d1 : (xs.drop k).take (xs.length - k) = xs.drop k := List.take_of_length_le (by rw [List.length_drop]; omega)
     have d2 : (xs.drop k).length = xs.length - k := List.length_drop ..
     have d3 : (xs.take k).length = k := by rw [List.length_take]; omega
     have d4 : k + (xs.length - k) = xs.length := by omega
     have d5 : k - 0 = k := Nat.sub_zero k
     have d6 : (xs.take k ++ [a]).take (k + 1) = xs.take k ++ [a] := List.take_of_length_le (by rw [List.length_append, d3]; exact Nat.le_refl _)
     refine goh (And.intro d1 (And.intro d2 (And.intro d3 (And.intro d4 (And.intro d5 (And.intro d6 hk)))))) ?_
     exact finh [some 0, some 5] (And.intro hs e)
 ·simp [no] at hp
end Go.Proofs.YtfmjgoeclilcnaaGreatDoor
namespace Go.Proofs.YtfmjgoeclilcnaaGreatDoor
open Go.RowKit
theorem W_mid {P : Program} {B : Beg} {σ : Sg} {Q : Exit → Sg → Prop} {x y : Code} (σ1 : Sg) (h1 : W P B x σ (thenG (fun σ' => ∃ π, leS B.m π σ' σ1) Q)) (h2 : W P B y σ1 Q) : W P B (.seq x y) σ Q :=
 W_seq (h1.mono fun e σ' hx => by
  cases e with
  | normal =>
    obtain ⟨π, hle⟩ := hx
    exact W_le π hle h2
  | _ => exact hx)
def accP {α : Type} (f : α → Int) (xs : List α) (o : List Int) (i : Nat) : List Int := ((xs.take i).map f).foldl addP o
theorem accP_succ {α : Type} (f : α → Int) {xs : List α} (o : List Int) {i : Nat} (d : α) (h : i < xs.length) : accP f xs o (i + 1) = addP (accP f xs o i) (f (xs.getD i d)) := by
 unfold accP
 rw [List.take_add_one, List.getElem?_eq_getElem h, show xs.getD i d = xs[i] by simp [h], List.map_append, List.foldl_append]
 rfl
theorem accP_all {α : Type} (f : α → Int) (xs : List α) (o : List Int) : accP f xs o xs.length = (xs.map f).foldl addP o := by unfold accP; rw [List.take_length]
theorem accP_len {α : Type} (f : α → Int) (xs : List α) (o : List Int) (i : Nat) : (accP f xs o i).length ≤ o.length + xs.length := by
 unfold accP
 have := foldP_len ((xs.take i).map f) o
 rw [List.length_map, List.length_take] at this
 omega
theorem skip_len {xs : List Int} {a : Int} (h : skipB xs a = false) : (insP xs a).length = xs.length + 1 := by
 unfold insP
 have := congrArg List.length (List.takeWhile_append_dropWhile (p := fun y => decide (y < a)) (l := xs))
 rw [List.length_append] at this
 simp only [List.length_append, List.length_cons]; omega
@[go_sem] def ctReach : Ct := ⟨false, [[none, some .cset, some .ent, some .ptr, none, some .int, none]], fun args os => match args, os with
  | [.agg [.val (.int .i64 x), .isl .cset cs, .isl .ent es, .isl .ptr ps, .val (.bool y), .isl .int zs, .val (.int .i64 u)], .one (.val (.int .i64 r))], [] => ⟨cs.length ≤ 1100000 ∧ es.length ≤ 1100000 ∧ ps.length ≤ 1100000, .one (.osl .int 0 0 (reachV ⟨x, cs, es, ps, y, zs, u⟩ r).length), [], [.arr .int (reachV ⟨x, cs, es, ps, y, zs, u⟩ r)]⟩
  | _, _ => no⟩
theorem reachV_acc (x : Int) (cs : List CSet) (es : List Ent) (ps : List Ptr) (y : Bool) (zs : List Int) (u r : Int) : reachV ⟨x, cs, es, ps, y, zs, u⟩ r = accP (·.at_) ps (accP (·.home.at_) cs (accP (·.at_) es (addP [] r) es.length) cs.length) ps.length := by
 rw [accP_all, accP_all, accP_all]
 unfold reachV reachL
 rw [List.foldl_cons, List.foldl_append, List.foldl_append]
theorem s_l7Reach_e : EnterOk Tryz.prog 52 := ⟨_, Tryz.func52, rfl, by decide⟩
@[go_sem] def s_l7Reach_lv : List (List Nat) := [[1, 2], [2, 5], [2, 5, 6], [2, 5, 6, 16], [2, 5, 6], [2, 5, 6], [2, 5, 7], [2, 5, 7, 31], [2, 5, 7], [2, 5, 7], [2, 5, 8], [2, 5, 8, 47], [2, 5, 8], [2, 5, 8], [4]]
@[go_sem] noncomputable def s_l7Reach_K : Known := (Known.nil).cons 118 ctL7Add s_l7Add s_l7Add_e
set_option maxHeartbeats 8000000 in
theorem s_l7Reach : Sound Tryz.prog 52 ctReach := by
 have ke := s_l7Reach_K.env []
 have kl : Lives s_l7Reach_lv := trivial
 refine sound_intro (E := ⟨ti, s_l7Reach_K.Γ, []⟩) ke Tryz.func52 Tryz.ntmps52 rfl (rs := [.tmp 4]) rfl ?_
 intro args os hp
 unfold ctReach at hp ⊢
 dsimp only at hp ⊢
 split at hp
 ·rename_i x cs es ps y zs u r
  refine ⟨by simp, fun φ0 w0 => ?_⟩
  obtain ⟨h1, h2, h3⟩ : cs.length ≤ 1100000 ∧ es.length ≤ 1100000 ∧ ps.length ≤ 1100000 := hp
  iterate 3 (all_goals try first
   | with_reducible refine red ?_
   | refine W_seq ?_
   | (refine W_reg (s_l7Reach_K.env []) s_l7Reach_lv fun K' hK' => ?_
      simp only [go_sem, ↓reduceIte, ↓reduceDIte, reduceCtorEq, Nat.reduceAdd, Nat.reduceMul, Nat.reduceSub, Nat.reduceDiv, Nat.reduceMod, Nat.reduceLT, Nat.reduceLeDiff, Nat.reduceEqDiff, Nat.reduceBEq, Int.reduceToNat, Int.reduceLE, Int.reduceLT, Int.reduceEq, Int.reduceNe, Int.reduceNeg]
      (repeat' refine And.intro ?_ ?_) <;> try first | with_reducible refine hK' ?_ | exact shut6)
   | with_reducible refine blockG_o (by decide) ?_)
  obtain ⟨o, ho⟩ : ∃ o, addP [] r = o := ⟨_, rfl⟩
  have lo : o.length ≤ 1 := by rw [← ho]; exact addP_len [] r
  refine W_mid ⟨[(2, .one (.ptr 0 0)), (5, .one (.osl .int 1 0 o.length))], [some (obCo x cs es ps y zs u), some (.arr .int o)], []⟩ ?_ ?_
  ·cases hs : skipB [] r with
   | true =>
     have e := addP_skip hs
     rw [ho] at e
     refine goh hs ?_
     exact ⟨[some 0, some 1], leh e⟩
   | false =>
     have e := addP_ins hs
     have el := skip_len hs
     rw [ho] at e
     rw [← e] at el
     refine goh hs ?_
     exact ⟨[some 0, some 2], leh (And.intro e el)⟩
  obtain ⟨A, hA⟩ : ∃ A, accP (·.at_) es o = A := ⟨_, rfl⟩
  have a0 : A 0 = o := by rw [← hA]; rfl
  refine goh trivial ?_
  refine W_for es.length (fun i => True) (fun i => ⟨[(2, .one (.ptr 0 0)), (5, .one (.osl .int 1 0 (A i).length)), (6, vi i)], [some (obCo x cs es ps y zs u), some (.arr .int (A i))], []⟩) [some 0, some 1] (leh a0) trivial fun i hi _ => ?_
  have la : (A i).length ≤ 1100001 := by rw [← hA]; have := accP_len (·.at_) es o i; omega
  refine goh trivial ?_
  refine W_cnd ?_ ?_ <;> (try simp only [cnd_r]) <;> intro hlt
  ·have hi' : i < es.length := by omega
   have e := accP_succ (·.at_) o ET.ent.dflt hi'
   rw [hA] at e
   cases hs : skipB (A i) (es.getD i ET.ent.dflt).at_ with
   | true =>
     rw [addP_skip hs] at e
     refine goh hs ?_
     exact ⟨[some 0, some 1], by omega, leh e, trivial⟩
   | false =>
     have el := skip_len hs
     rw [addP_ins hs] at e
     refine goh hs ?_
     exact ⟨[some 0, some 2], by omega, leh (And.intro e el.symm), trivial⟩
  obtain rfl : i = es.length := by omega
  obtain ⟨p, hp⟩ : ∃ p, A es.length = p := ⟨_, rfl⟩
  rw [hp] at la
  obtain ⟨C, hC⟩ : ∃ A, accP (·.home.at_) cs p = A := ⟨_, rfl⟩
  have c0 : C 0 = p := by rw [← hC]; rfl
  refine goh hp ?_
  refine W_for cs.length (fun i => True) (fun i => ⟨[(2, .one (.ptr 0 0)), (5, .one (.osl .int 1 0 (C i).length)), (7, vi i)], [some (obCo x cs es ps y zs u), some (.arr .int (C i))], []⟩) [some 0, some 1] (leh c0) trivial fun i hi _ => ?_
  have lc : (C i).length ≤ 2200001 := by rw [← hC]; have := accP_len (·.home.at_) cs p i; omega
  refine goh trivial ?_
  refine W_cnd ?_ ?_ <;> (try simp only [cnd_r]) <;> intro hlt2
  ·have hi' : i < cs.length := by omega
   have e := accP_succ (·.home.at_) p ET.cset.dflt hi'
   rw [hC] at e
   cases hs : skipB (C i) (cs.getD i ET.cset.dflt).home.at_ with
   | true =>
     rw [addP_skip hs] at e
     refine goh hs ?_
     exact ⟨[some 0, some 1], by omega, leh e, trivial⟩
   | false =>
     have el := skip_len hs
     rw [addP_ins hs] at e
     refine goh hs ?_
     exact ⟨[some 0, some 2], by omega, leh (And.intro e el.symm), trivial⟩
  obtain rfl : i = cs.length := by omega
  obtain ⟨q, hq⟩ : ∃ p, C cs.length = p := ⟨_, rfl⟩
  rw [hq] at lc
  obtain ⟨D, hD⟩ : ∃ A, accP (·.at_) ps q = A := ⟨_, rfl⟩
  have d0 : D 0 = q := by rw [← hD]; rfl
  refine goh hq ?_
  refine W_for ps.length (fun i => True) (fun i => ⟨[(2, .one (.ptr 0 0)), (5, .one (.osl .int 1 0 (D i).length)), (8, vi i)], [some (obCo x cs es ps y zs u), some (.arr .int (D i))], []⟩) [some 0, some 1] (leh d0) trivial fun i hi _ => ?_
  have ld : (D i).length ≤ 3300001 := by rw [← hD]; have := accP_len (·.at_) ps q i; omega
  refine goh trivial ?_
  refine W_cnd ?_ ?_ <;> (try simp only [cnd_r]) <;> intro hlt3
  ·have hi' : i < ps.length := by omega
   have e := accP_succ (·.at_) q ET.ptr.dflt hi'
   rw [hD] at e
   cases hs : skipB (D i) (ps.getD i ET.ptr.dflt).at_ with
   | true =>
     rw [addP_skip hs] at e
     refine goh hs ?_
     exact ⟨[some 0, some 1], by omega, leh e, trivial⟩
   | false =>
     have el := skip_len hs
     rw [addP_ins hs] at e
     refine goh hs ?_
     exact ⟨[some 0, some 2], by omega, leh (And.intro e el.symm), trivial⟩
  obtain rfl : i = ps.length := by omega
  have e : reachV ⟨x, cs, es, ps, y, zs, u⟩ r = D ps.length := by rw [reachV_acc, ho, hA, hp, hC, hq, hD]
  refine goh trivial ?_
  exact finh [some 1] e
 ·simp [no] at hp
end Go.Proofs.YtfmjgoeclilcnaaGreatDoor
namespace Go.Proofs.YtfmjgoeclilcnaaGreatDoor
open Go.RowKit
noncomputable def roomR (c : Co) (r : Int) : List Int := if c.ok = true then reachV c r else []
noncomputable def roomZ (c : Co) (r : Int) : Nat := if c.ok = true then (reachL c r).length - (reachV c r).length else 0
theorem core_few {c : Co} (h : c.ok = true) : c.sets.length ≤ 6 ∧ c.ddt.length ≤ 48 ∧ c.parts.length ≤ 8 := by
 have hp := Co.ok_true.1 h
 have := (bookB_true.1 hp.book).few
 rw [frame_len] at this
 exact ⟨this, hp.ddt.few, hp.parts.1⟩
@[go_sem] noncomputable def ctRoomI : Ct := ⟨false, [[none, some .cset, some .ent, some .ptr, none, some .int, none]], fun args os => match args, os with
  | [.agg [.val (.int .i64 x), .isl .cset cs, .isl .ent es, .isl .ptr ps, .val (.bool y), .isl .int zs, .val (.int .i64 u)], .one (.val (.int .i64 r))], [] => ⟨(Co.mk x cs es ps y zs u).fit, .one (.osl .int 0 0 (roomR ⟨x, cs, es, ps, y, zs, u⟩ r).length), [], [.arr .int (roomR ⟨x, cs, es, ps, y, zs, u⟩ r ++ zeros (roomZ ⟨x, cs, es, ps, y, zs, u⟩ r))]⟩
  | _, _ => no⟩
def lstP {α : Type} (f : α → Int) (xs : List α) (o : List Int) (i : Nat) : List Int := o ++ (xs.take i).map f
theorem lstP_zero {α : Type} (f : α → Int) (xs : List α) (o : List Int) : lstP f xs o 0 = o := by simp [lstP]
theorem lstP_succ {α : Type} (f : α → Int) {xs : List α} (o : List Int) {i : Nat} (d : α) (h : i < xs.length) : lstP f xs o (i + 1) = lstP f xs o i ++ [f (xs.getD i d)] := by
 unfold lstP
 rw [List.take_add_one, List.getElem?_eq_getElem h, show xs.getD i d = xs[i] by simp [h], List.map_append, ← List.append_assoc]
 rfl
theorem lstP_len {α : Type} (f : α → Int) {xs : List α} (o : List Int) {i : Nat} (h : i ≤ xs.length) : (lstP f xs o i).length = o.length + i := by
 unfold lstP
 rw [List.length_append, List.length_map, List.length_take, Nat.min_eq_left h]
theorem lstP_all {α : Type} (f : α → Int) (xs : List α) (o : List Int) : lstP f xs o xs.length = o ++ xs.map f := by unfold lstP; rw [List.take_length]
theorem zeros_app (a b : Nat) : zeros a ++ zeros b = zeros (a + b) := by unfold zeros; exact List.replicate_append_replicate
theorem reachL_len (c : Co) (r : Int) : (reachL c r).length = 1 + c.ddt.length + c.sets.length + c.parts.length := by
 unfold reachL; simp; omega
theorem s_room_e : EnterOk Tryz.prog 62 := ⟨_, Tryz.func62, rfl, by decide⟩
@[go_sem] def s_room_lv : List (List Nat) := [[1, 2], [1, 2, 14], [4], [2, 5], [2, 5, 18, 19, 20], [2, 5, 18, 19, 20, 21], [2, 5, 7, 18, 19, 20], [2, 5, 18, 19, 20], [2, 5, 18, 19, 20], [2, 5, 31, 32, 33], [2, 5, 31, 32, 33, 34], [2, 5, 9, 31, 32, 33], [2, 5, 31, 32, 33], [2, 5, 31, 32, 33], [5, 45, 46, 47], [5, 45, 46, 47, 48], [5, 11, 45, 46, 47], [5, 45, 46, 47], [5, 45, 46, 47], [5], [5], [4]]
@[go_sem] noncomputable def s_room_K : Known := ((((Known.nil).cons 61 ctCoreOk s_coreOk s_coreOk_e).cons 144 ctDeleteI s_deleteI s_deleteI_e).cons 146 ctSort s_sortI s_sortI_e).cons 147 ctCompactI s_compactI s_compactI_e
set_option maxHeartbeats 8000000 in
theorem s_room : Sound Tryz.prog 62 ctRoomI := by
 have ke := s_room_K.env []
 have kl : Lives s_room_lv := trivial
 refine sound_intro (E := ⟨ti, s_room_K.Γ, []⟩) ke Tryz.func62 Tryz.ntmps62 rfl (rs := [.tmp 4]) rfl ?_
 intro args os hp
 unfold ctRoomI at hp ⊢
 dsimp only at hp ⊢
 split at hp
 ·rename_i x cs es ps y zs u r
  refine ⟨by simp, fun φ0 w0 => ?_⟩
  have hf : (Co.mk x cs es ps y zs u).fit := hp
  have nt : (!true) = false := rfl
  have nf : (!false) = true := rfl
  cases hk : (Co.mk x cs es ps y zs u).ok with
  | false =>
    have e : roomR ⟨x, cs, es, ps, y, zs, u⟩ r = [] := by unfold roomR; rw [hk]; rfl
    have e2 : roomZ ⟨x, cs, es, ps, y, zs, u⟩ r = 0 := by unfold roomZ; rw [hk]; rfl
    have e3 : ([] : List Int) ++ zeros 0 = [] := rfl
    refine goh (And.intro hk nf) ?_
    refine W_cnd ?_ ?_ <;> intro hlit <;> try (cases hlit; done)
    refine goh trivial ?_
    exact finh [none] (And.intro e (And.intro e2 e3))
  | true =>
    obtain ⟨k1, k2, k3⟩ := core_few hk
    simp only at k1 k2 k3
    obtain ⟨A, hA⟩ : ∃ A, lstP (·.at_) es [r] = A := ⟨_, rfl⟩
    have a0 : A 0 = [r] := by rw [← hA]; exact lstP_zero _ _ _
    refine goh (And.intro hk nt) ?_
    refine W_cnd ?_ ?_ <;> intro hlit <;> try (cases hlit; done)
    refine goh trivial ?_
    refine W_for es.length (fun i => True) (fun i => ⟨[(2, .one (.ptr 0 0)), (5, .one (.osl .int 1 0 (1 + i))), (18, .one (.isl .ent es)), (19, vi es.length), (20, vi i)], [some (obCo x cs es ps y zs u), some (.arr .int (A i))], []⟩) [some 0, some 1] (leh a0) trivial fun i hi _ => ?_
    have la : (A i).length = 1 + i := by rw [← hA]; exact lstP_len _ _ hi
    have ta : (A i).take (1 + i) = A i := List.take_of_length_le (by omega)
    refine goh trivial ?_
    refine W_cnd ?_ ?_ <;> (try simp only [cnd_r]) <;> intro hlt
    ·have hi' : i < es.length := by omega
     have e := lstP_succ (·.at_) [r] ET.ent.dflt hi'
     rw [hA] at e
     have e5 : 1 + i + 1 = 1 + (i + 1) := by omega
     refine goh (And.intro la ta) ?_
     exact ⟨[some 0, some 4], by omega, leh (And.intro e e5), trivial⟩
    obtain rfl : i = es.length := by omega
    obtain ⟨p, hp⟩ : ∃ p, A es.length = p := ⟨_, rfl⟩
    rw [hp] at la
    obtain ⟨C, hC⟩ : ∃ A, lstP (·.home.at_) cs p = A := ⟨_, rfl⟩
    have c0 : C 0 = p := by rw [← hC]; exact lstP_zero _ _ _
    refine goh hp ?_
    refine W_for cs.length (fun i => True) (fun i => ⟨[(2, .one (.ptr 0 0)), (5, .one (.osl .int 1 0 (1 + es.length + i))), (31, .one (.isl .cset cs)), (32, vi cs.length), (33, vi i)], [some (obCo x cs es ps y zs u), some (.arr .int (C i))], []⟩) [some 0, some 1] (leh c0) trivial fun i hi _ => ?_
    have lc : (C i).length = 1 + es.length + i := by rw [← hC, ← la]; exact lstP_len _ _ hi
    have tc : (C i).take (1 + es.length + i) = C i := List.take_of_length_le (by omega)
    refine goh trivial ?_
    refine W_cnd ?_ ?_ <;> (try simp only [cnd_r]) <;> intro hlt2
    ·have hi' : i < cs.length := by omega
     have e := lstP_succ (·.home.at_) p ET.cset.dflt hi'
     rw [hC] at e
     have e5 : 1 + es.length + i + 1 = 1 + es.length + (i + 1) := by omega
     refine goh (And.intro lc tc) ?_
     exact ⟨[some 0, some 4], by omega, leh (And.intro e e5), trivial⟩
    obtain rfl : i = cs.length := by omega
    obtain ⟨q, hq⟩ : ∃ p, C cs.length = p := ⟨_, rfl⟩
    rw [hq] at lc
    obtain ⟨D, hD⟩ : ∃ A, lstP (·.at_) ps q = A := ⟨_, rfl⟩
    have d0 : D 0 = q := by rw [← hD]; exact lstP_zero _ _ _
    refine goh hq ?_
    refine W_for ps.length (fun i => True) (fun i => ⟨[(5, .one (.osl .int 0 0 (1 + es.length + cs.length + i))), (45, .one (.isl .ptr ps)), (46, vi ps.length), (47, vi i)], [some (.arr .int (D i))], []⟩) [some 1] (leh d0) trivial fun i hi _ => ?_
    have ld : (D i).length = 1 + es.length + cs.length + i := by rw [← hD, ← lc]; exact lstP_len _ _ hi
    have td : (D i).take (1 + es.length + cs.length + i) = D i := List.take_of_length_le (by omega)
    refine goh trivial ?_
    refine W_cnd ?_ ?_ <;> (try simp only [cnd_r]) <;> intro hlt3
    ·have hi' : i < ps.length := by omega
     have e := lstP_succ (·.at_) q ET.ptr.dflt hi'
     rw [hD] at e
     have e5 : 1 + es.length + cs.length + i + 1 = 1 + es.length + cs.length + (i + 1) := by omega
     refine goh (And.intro ld td) ?_
     exact ⟨[some 3], by omega, leh (And.intro e e5), trivial⟩
    obtain rfl : i = ps.length := by omega
    have hD2 : D ps.length = reachL ⟨x, cs, es, ps, y, zs, u⟩ r := by
     rw [← hD, lstP_all, ← hq, ← hC, lstP_all, ← hp, ← hA, lstP_all]
     unfold reachL; simp
    have hlen := reachL_len ⟨x, cs, es, ps, y, zs, u⟩ r
    simp only at hlen
    have heq := reachV_eq ⟨x, cs, es, ps, y, zs, u⟩ r
    obtain ⟨L, hL⟩ : ∃ L, reachL ⟨x, cs, es, ps, y, zs, u⟩ r = L := ⟨_, rfl⟩
    rw [hL] at hD2 hlen heq
    rw [hD2] at ld td
    have hh := high_len L
    have e1 : roomR ⟨x, cs, es, ps, y, zs, u⟩ r = Lib.compact (sortI (high L)) := by unfold roomR; rw [hk, if_pos rfl, heq]; rfl
    have e2 : roomZ ⟨x, cs, es, ps, y, zs, u⟩ r = L.length - (Lib.compact (sortI (high L))).length := by unfold roomZ; rw [hk, if_pos rfl, hL, heq]; rfl
    obtain ⟨H, hH⟩ : ∃ H, high L = H := ⟨_, rfl⟩
    rw [hH] at hh e1 e2
    have hs := sortI_len H
    obtain ⟨S, hS⟩ : ∃ S, sortI H = S := ⟨_, rfl⟩
    rw [hS] at hs e1 e2
    have hc := compact_len S
    have e3 : Lib.compact S ++ zeros (H.length - (Lib.compact S).length) ++ zeros (L.length - H.length) = Lib.compact S ++ zeros (L.length - (Lib.compact S).length) := by rw [List.append_assoc, zeros_app]; congr 2; omega
    have n1 : 1 + es.length + cs.length + ps.length = L.length := by omega
    have t1 : (H ++ zeros (L.length - H.length)).take H.length = H := List.take_left' rfl
    have t2 : (H ++ zeros (L.length - H.length)).drop H.length = zeros (L.length - H.length) := List.drop_left' rfl
    have t3 : (S ++ zeros (L.length - H.length)).take H.length = S := List.take_left' hs
    have t4 : (S ++ zeros (L.length - H.length)).drop H.length = zeros (L.length - H.length) := List.drop_left' hs
    have hz : (zeros (L.length - H.length)).length = L.length - H.length := by simp [zeros]
    have t0 : L.drop L.length = [] := List.drop_length ..
    have t6 : L.take L.length = L := List.take_length ..
    refine goh (And.intro hD2 (And.intro n1 (And.intro t6 (And.intro hH (And.intro t0 (And.intro t1 (And.intro t2 (And.intro hS (And.intro t3 (And.intro t4 (And.intro hs hz))))))))))) ?_
    exact finh [some 0] (And.intro e1 (And.intro e2 e3))
 ·simp [no] at hp
end Go.Proofs.YtfmjgoeclilcnaaGreatDoor
namespace Go.Proofs.YtfmjgoeclilcnaaGreatDoor
open Go.RowKit
noncomputable def riseV (d : Dk) : Co × Int := if d.ok = true then (if (bestR d 8).1 > 0 then riseT d (bestR d 8).1 (bestR d 8).2 else (.nil, 1)) else (.nil, 1)
theorem reachV_len (c : Co) (r : Int) : (reachV c r).length ≤ 1 + c.ddt.length + c.sets.length + c.parts.length := by
 unfold reachV
 have := foldP_len (reachL c r) []
 rw [reachL_len] at this
 simpa using this
theorem mid_riseW (d : Dk) (x : Int) (r : Ptr) (cs : List CSet) (ps : List Ptr) : (riseW d x r cs ps).1.mid := by
 unfold riseW
 split
 ·rename_i h
  rw [Bool.and_eq_true] at h
  obtain ⟨h1, h2, h3⟩ := core_few h.2
  have h4 := reachV_len (riseC d x cs ps) r.at_
  unfold riseC at h1 h2 h3 h4
  simp only at h1 h2 h3 h4
  refine ⟨?_, ?_, ?_, ?_⟩
  ·show (cs.map (mset d)).length ≤ _; omega
  ·show (ps.flatMap (entsP d)).length ≤ _; omega
  ·show ps.length ≤ _; omega
  ·show (reachV _ _).length ≤ _; unfold riseC; omega
 ·exact Co.mid_nil
theorem mid_rise (d : Dk) : (riseV d).1.mid := by
 unfold riseV
 split
 ·split
  ·unfold riseT
   split
   ·split
    ·exact mid_riseW ..
    ·exact Co.mid_nil
   ·exact Co.mid_nil
  ·exact Co.mid_nil
 ·exact Co.mid_nil
end Go.Proofs.YtfmjgoeclilcnaaGreatDoor
namespace Go.Proofs.YtfmjgoeclilcnaaGreatDoor
open Go.RowKit
theorem blkRead_size (d : Dk) (p : Ptr) : (blkRead d p).1.size ≤ 420 := by
 unfold blkRead
 split
 ·exact Nat.zero_le _
 ·split
  ·rename_i h
   rw [Bool.and_eq_true] at h
   split
   ·exact Dk.text_size h.1 _ _
   ·split
    ·exact Dk.text_size h.1 _ _
    ·exact Nat.zero_le _
  ·exact Nat.zero_le _
theorem all_more {α : Type} {f : α → Bool} {xs : List α} {i : Nat} (d : α) (hi : i < xs.length) (h : (xs.take i).all f = true) (h2 : f (xs.getD i d) = true) : (xs.take (i + 1)).all f = true := by
 rw [List.take_add_one, List.all_append, h, List.getElem?_eq_getElem hi]
 rw [show xs.getD i d = xs[i] by simp [hi]] at h2
 simp [h2]
theorem all_one {α : Type} {f : α → Bool} {xs : List α} {i : Nat} (d : α) (hi : i < xs.length) (h2 : f (xs.getD i d) = false) : xs.all f = false := by
 rw [show xs.getD i d = xs[i] by simp [hi]] at h2
 cases h : xs.all f with
 | false => rfl
 | true => rw [List.all_eq_true.1 h _ (List.getElem_mem hi)] at h2; cases h2
theorem all_end {α : Type} {f : α → Bool} {xs : List α} (h : (xs.take xs.length).all f = true) : xs.all f = true := by rwa [List.take_length] at h
theorem rise_bad1 {d : Dk} (h : d.ok = false) : riseV d = (.nil, 1) := by unfold riseV; rw [if_neg (by rw [h]; decide)]
theorem rise_bad2 {d : Dk} (h : ¬ (bestR d 8).1 > 0) : riseV d = (.nil, 1) := by
 unfold riseV
 rw [if_neg h]
 split <;> rfl
theorem rise_is {d : Dk} {x : Int} {r : Ptr} (h1 : d.ok = true) (h2 : bestR d 8 = (x, r)) (h3 : x > 0) : riseV d = riseT d x r := by
 unfold riseV
 rw [if_pos h1, h2, if_pos h3]
theorem riseT_bad1 {d : Dk} {x : Int} {r : Ptr} (h : (blkRead d r).2 ≠ 0) : riseT d x r = (.nil, 8) := by unfold riseT; rw [if_neg h]; rfl
theorem riseT_bad2 {d : Dk} {x : Int} {r : Ptr} (h : rootR (blkRead d r).1 = none) : riseT d x r = (.nil, 8) := by
 unfold riseT
 split
 ·rw [h]; rfl
 ·rfl
theorem riseT_is {d : Dk} {x : Int} {r : Ptr} {cs : List CSet} {ps : List Ptr} (h0 : (blkRead d r).2 = 0) (h : rootR (blkRead d r).1 = some (cs, ps)) : riseT d x r = riseW d x r cs ps := by
 unfold riseT
 rw [if_pos h0, h]
theorem riseW_bad1 {d : Dk} {x : Int} {r : Ptr} {cs : List CSet} {ps : List Ptr} (h : cs.all (okS d) = false) : riseW d x r cs ps = (.nil, 8) := by
 unfold riseW
 rw [if_neg (by rw [h]; simp)]; rfl
theorem riseW_bad2 {d : Dk} {x : Int} {r : Ptr} {cs : List CSet} {ps : List Ptr} (h : ps.all (okP d) = false) : riseW d x r cs ps = (.nil, 8) := by
 unfold riseW
 rw [if_neg (by rw [h]; simp)]; rfl
theorem riseW_bad3 {d : Dk} {x : Int} {r : Ptr} {cs : List CSet} {ps : List Ptr} (h : (riseC d x cs ps).ok = false) : riseW d x r cs ps = (.nil, 8) := by
 unfold riseW
 rw [if_neg (by rw [h]; simp)]; rfl
theorem riseW_is {d : Dk} {x : Int} {r : Ptr} {cs : List CSet} {ps : List Ptr} (h1 : cs.all (okS d) = true) (h2 : ps.all (okP d) = true) (h3 : (riseC d x cs ps).ok = true) :
  riseW d x r cs ps = (⟨x, cs.map (mset d), ps.flatMap (entsP d), ps, false, roomR (riseC d x cs ps) r.at_, 0⟩, 0) := by
 unfold riseW roomR
 rw [if_pos (by rw [h1, h2, h3]; rfl), if_pos h3]
theorem root_few {t : ByteArray} {cs : List CSet} {ps : List Ptr} (h : rootR t = some (cs, ps)) : cs.length ≤ 6 ∧ ps.length ≤ 8 := by
 have h1 := (rootR_some.1 h).1
 have h2 := (bookB_true.1 h1.book).few
 rw [frame_len] at h2
 exact ⟨h2, h1.few⟩
theorem rise_small {t : ByteArray} {cs : List CSet} {ps : List Ptr} (h : rootR t = some (cs, ps)) (d : Dk) (i : Nat) : ((cs.map (mset d)).getD i ET.cset.dflt).small := by
 have h1 := (rootR_some.1 h).1
 rcases Nat.lt_or_ge i cs.length with hi | hi
 ·have e : (cs.map (mset d)).getD i ET.cset.dflt = mset d cs[i] := by simp [hi]
  rw [e]
  obtain ⟨k1, k2, -⟩ := csetB_parts (h1.sets _ (List.getElem_mem hi)).1
  refine ⟨Nat.le_trans (nameB_size k1).2 (by omega), ?_⟩
  show (cs[i]).from_.size ≤ _
  rcases k2 with k2 | k2
  ·rw [k2]; exact Nat.zero_le _
  ·exact Nat.le_trans (nameB_size k2).2 (by omega)
 ·have e : (cs.map (mset d)).getD i ET.cset.dflt = ET.cset.dflt := by simp [List.getElem?_eq_none hi]
  rw [e]
  exact ⟨Nat.zero_le _, Nat.zero_le _⟩
theorem flat_few (d : Dk) (ps : List Ptr) : (ps.flatMap (entsP d)).length ≤ 48 * ps.length := by
 have := tabI_len d ps [] ps.length
 rw [tabI_all] at this
 simpa using this
theorem rise_fit {t : ByteArray} {cs : List CSet} {ps : List Ptr} (h : rootR t = some (cs, ps)) (d : Dk) (x : Int) : (riseC d x cs ps).fit := by
 obtain ⟨h1, h2⟩ := root_few h
 have h3 := flat_few d ps
 refine ⟨⟨?_, ?_, ?_, ?_⟩, rise_small h d⟩
 ·show (cs.map (mset d)).length ≤ _; rw [List.length_map]; omega
 ·show (ps.flatMap (entsP d)).length ≤ _; omega
 ·show ps.length ≤ _; omega
 ·show ([] : List Int).length ≤ _; simp
theorem okS_bad1 {d : Dk} {s : CSet} (h : (blkRead d s.home).2 ≠ 0) : okS d s = false := by unfold okS; rw [decide_eq_false h]; rfl
theorem okS_bad2 {d : Dk} {s : CSet} (h : mapP (blkRead d s.home).1 = none) : okS d s = false := by unfold okS; rw [h]; simp
theorem okS_is {d : Dk} {s : CSet} {m : Eight Ptr} (h0 : (blkRead d s.home).2 = 0) (h : mapP (blkRead d s.home).1 = some m) : okS d s = true ∧ mset d s = ⟨s.name, s.kind, s.from_, m, s.home, s.dirty⟩ := by
 unfold okS mset
 rw [h0, h]
 exact ⟨rfl, rfl⟩
theorem okP_bad1 {d : Dk} {p : Ptr} (h : (blkRead d p).2 ≠ 0) : okP d p = false := by unfold okP; rw [decide_eq_false h]; rfl
theorem okP_bad2 {d : Dk} {p : Ptr} (h : ddtR (blkRead d p).1 = none) : okP d p = false := by unfold okP; rw [h]; simp
theorem okP_is {d : Dk} {p : Ptr} {es : List Ent} (h0 : (blkRead d p).2 = 0) (h : ddtR (blkRead d p).1 = some es) : okP d p = true ∧ entsP d p = es := by
 unfold okP entsP
 rw [h0, h]
 exact ⟨rfl, rfl⟩
end Go.Proofs.YtfmjgoeclilcnaaGreatDoor
namespace Go.Proofs.YtfmjgoeclilcnaaGreatDoor
open Go.RowKit
theorem take_map_at {α β : Type} (f : α → β) {xs : List α} {i : Nat} (h : i < xs.length) (d : α) : (xs.take (i + 1)).map f = (xs.take i).map f ++ [f (xs.getD i d)] := by
 rw [List.take_add_one, List.map_append, List.getElem?_eq_getElem h, show xs.getD i d = xs[i] by simp [h]]; rfl
theorem take_map_len {α β : Type} (f : α → β) {xs : List α} {i : Nat} (h : i ≤ xs.length) : ((xs.take i).map f).length = i := by rw [List.length_map, List.length_take, Nat.min_eq_left h]
theorem take_map_take {α β : Type} (f : α → β) (xs : List α) (i : Nat) : ((xs.take i).map f).take i = (xs.take i).map f := List.take_of_length_le (by rw [List.length_map, List.length_take]; exact Nat.min_le_left ..)
theorem empty_app (s : ByteArray) : (⟨#[]⟩ : ByteArray) ++ s = s := by apply ByteArray.ext; simp
def jn {α : Type} (f : α → ByteArray) (xs : List α) (i : Nat) : ByteArray := joinV ⟨#[32]⟩ ((xs.take i).map f)
theorem jn_zero {α : Type} (f : α → ByteArray) (xs : List α) : jn f xs 0 = ⟨#[]⟩ := joinV_nil _
theorem jn_one {α : Type} (f : α → ByteArray) {xs : List α} (h : 0 < xs.length) (d : α) : jn f xs 1 = f (xs.getD 0 d) := by
 unfold jn
 rw [take_map_at f h d]
 exact joinV_one _ _
theorem jn_succ {α : Type} (f : α → ByteArray) {xs : List α} {i : Nat} (h0 : 0 < i) (h : i < xs.length) (d : α) : jn f xs (i + 1) = jn f xs i ++ ⟨#[32]⟩ ++ f (xs.getD i d) := by
 unfold jn
 rw [take_map_at f h d]
 exact joinV_snoc _ _ _ fun e => by
  have := take_map_len f (Nat.le_of_lt h)
  rw [e] at this; simp at this; omega
theorem jn_all {α : Type} (f : α → ByteArray) (xs : List α) : jn f xs xs.length = joinV ⟨#[32]⟩ (xs.map f) := by unfold jn; rw [List.take_length]
theorem jn_size {α : Type} {f : α → ByteArray} {xs : List α} {k : Nat} (h : ∀ x ∈ xs, (f x).size ≤ k) (i : Nat) : (jn f xs i).size ≤ xs.length * (k + 1) := by
 have := joinV_size (sep := ⟨#[32]⟩) (k := k) (xs := (xs.take i).map f) fun x hx => by
  obtain ⟨z, hz, rfl⟩ := List.mem_map.1 hx
  exact h z (List.mem_of_mem_take hz)
 have e2 : (⟨#[32]⟩ : ByteArray).size = 1 := rfl
 rw [e2] at this
 refine Nat.le_trans this (Nat.mul_le_mul_right _ ?_)
 rw [List.length_map, List.length_take]; omega
theorem s_specCoreMap_e : EnterOk Tryz.prog 177 := ⟨_, Tryz.func177, rfl, by decide⟩
@[go_sem] def s_specCoreMap_lv : List (List Nat) := [[1], [1, 3], [1, 3, 4], [1, 3, 4, 6], [1, 3, 4], [1, 3, 4, 13], [2], [1, 3, 4, 15], [1, 3, 4], [1, 3, 4], [2]]
@[go_sem] noncomputable def s_specCoreMap_K : Known := ((Known.nil).cons 87 ctPtrOk s_specPtrOk s_specPtrOk_e).cons 174 ctPtrText s_specPtrText s_specPtrText_e
set_option maxHeartbeats 8000000 in
theorem s_specCoreMap : Sound Tryz.prog 177 ctMapT := by
 have ke := s_specCoreMap_K.env []
 have kl : Lives s_specCoreMap_lv := trivial
 refine sound_intro (E := ⟨ti, s_specCoreMap_K.Γ, []⟩) ke Tryz.func177 Tryz.ntmps177 rfl (rs := [.tmp 2]) rfl ?_
 intro args os hp
 unfold ctMapT at hp ⊢
 dsimp only at hp ⊢
 split at hp
 ·rename_i cs
  split at hp
  ·rename_i m hm
   obtain rfl := p8Of_some hm
   clear hm hp
   obtain ⟨⟨a0, b0, c0⟩, ⟨a1, b1, c1⟩, ⟨a2, b2, c2⟩, ⟨a3, b3, c3⟩, ⟨a4, b4, c4⟩, ⟨a5, b5, c5⟩, ⟨a6, b6, c6⟩, ⟨a7, b7, c7⟩⟩ := m
   obtain ⟨m, hm⟩ : ∃ m : Eight Ptr, m = ⟨⟨a0, b0, c0⟩, ⟨a1, b1, c1⟩, ⟨a2, b2, c2⟩, ⟨a3, b3, c3⟩, ⟨a4, b4, c4⟩, ⟨a5, b5, c5⟩, ⟨a6, b6, c6⟩, ⟨a7, b7, c7⟩⟩ := ⟨_, rfl⟩
   have hml : m.list = [⟨a0, b0, c0⟩, ⟨a1, b1, c1⟩, ⟨a2, b2, c2⟩, ⟨a3, b3, c3⟩, ⟨a4, b4, c4⟩, ⟨a5, b5, c5⟩, ⟨a6, b6, c6⟩, ⟨a7, b7, c7⟩] := by rw [hm]; rfl
   refine ⟨by simp, fun φ0 w0 => ?_⟩
   have nt : (!true) = false := rfl
   have nf : (!false) = true := rfl
   obtain ⟨J, hJ⟩ : ∃ J : Nat → ByteArray, J = jn ptrT m.list := ⟨_, rfl⟩
   have j0 : J 0 = ⟨#[]⟩ := by rw [hJ]; exact jn_zero _ _
   have hjs : ∀ i, (J i).size ≤ 144 := fun i => by rw [hJ]; exact jn_size (fun p _ => ptrT_fine p) i
   refine goh trivial ?_
   refine W_for 8 (fun i => (m.list.take i).any badPtr = false) (fun i => ⟨[(1, .one (.ptr 0 0)), (3, vs (J i)), (4, vi i)], [some (.cells ((P8.cells ⟨⟨a0, b0, c0⟩, ⟨a1, b1, c1⟩, ⟨a2, b2, c2⟩, ⟨a3, b3, c3⟩, ⟨a4, b4, c4⟩, ⟨a5, b5, c5⟩, ⟨a6, b6, c6⟩, ⟨a7, b7, c7⟩⟩).map .val))], []⟩) [some 0] (leh j0) rfl fun i hi hb => ?_
   rcases (show i = 0 ∨ (0 < i ∧ i = 1) ∨ (0 < i ∧ i = 2) ∨ (0 < i ∧ i = 3) ∨ (0 < i ∧ i = 4) ∨ (0 < i ∧ i = 5) ∨ (0 < i ∧ i = 6) ∨ (0 < i ∧ i = 7) ∨ i = 8 by omega) with hc | ⟨h0, hc⟩ | ⟨h0, hc⟩ | ⟨h0, hc⟩ | ⟨h0, hc⟩ | ⟨h0, hc⟩ | ⟨h0, hc⟩ | ⟨h0, hc⟩ | hc
   ·have hl : i < m.list.length := by rw [hc, hml]; simp
    have hs3 : J 1 = ptrT ⟨a0, b0, c0⟩ := by rw [hJ, jn_one _ (by rw [← hc]; exact hl) ET.ptr.dflt, hml]; rfl
    have hz := ptrT_fine ⟨a0, b0, c0⟩
    have he' : (⟨#[]⟩ : ByteArray) ++ ptrT ⟨a0, b0, c0⟩ = J 1 := (empty_app _).trans hs3.symm
    have hbad := fun h => mapT_bad (any_at hl h)
    have hgood := any_take hl hb
    rw [hml] at hbad hgood
    subst hc
    simp only [List.getD_cons_succ, List.getD_cons_zero, Nat.reduceAdd, Nat.zero_add] at hbad hgood
    refine goh j0 ?_
    refine W_cnd ?_ ?_ <;> intro hlit <;> try (cases hlit; done)
    refine goh j0 ?_
    refine W_cnd ?_ ?_ <;> (try simp only [cnd_r]) <;> intro hd
    ·have e : mapT m = ⟨#[]⟩ := hbad (congrArg not hd)
     rw [hm] at e
     refine goh trivial ?_
     exact finh [] e
    ·refine goh trivial ?_
     refine W_cnd ?_ ?_ <;> intro hlit <;> try (cases hlit; done)
     refine goh (And.intro hz he') ?_
     exact ⟨[some 0], by omega, leh trivial, by rw [hml]; exact hgood (congrArg not hd)⟩
   all_goals try (
    have hl : i < m.list.length := by rw [hc, hml]; simp
    have hs3 := jn_succ ptrT h0 hl ET.ptr.dflt
    rw [← hJ] at hs3
    have hz := ptrT_fine (m.list.getD i ET.ptr.dflt)
    have hz2 := hjs i
    have hbad := fun h => mapT_bad (any_at hl h)
    have hgood := any_take hl hb
    rw [hml] at hs3 hz hbad hgood
    subst hc
    clear h0
    simp only [List.getD_cons_succ, List.getD_cons_zero, Nat.reduceAdd] at hs3 hz hbad hgood
    refine goh trivial ?_
    refine W_cnd ?_ ?_ <;> intro hlit <;> try (cases hlit; done)
    refine goh trivial ?_
    refine W_cnd ?_ ?_ <;> (try simp only [cnd_r]) <;> intro hd
    ·have e : mapT m = ⟨#[]⟩ := hbad (congrArg not hd)
     rw [hm] at e
     refine goh trivial ?_
     exact finh [] e
    ·refine goh trivial ?_
     refine W_cnd ?_ ?_ <;> intro hlit <;> try (cases hlit; done)
     refine goh hz2 ?_
     exact ⟨[some 0], by omega, leh hs3, by rw [hml]; exact hgood (congrArg not hd)⟩
    done)
   subst hc
   have e : mapT m = J 8 := by rw [mapT_good hb, hJ]; exact (jn_all _ _).symm
   rw [hm] at e
   refine goh trivial ?_
   refine W_cnd ?_ ?_ <;> intro hlit <;> try (cases hlit; done)
   refine goh trivial ?_
   exact finh [] e
  ·simp [no] at hp
 ·simp [no] at hp
@[go_sem] noncomputable def ctDdtT : Ct := ⟨false, [[some .ent]], fun args os => match args, os with
  | [.one (.isl .ent es)], [] => ifp (es.length ≤ 4000000) (vs (ddtT es))
  | _, _ => no⟩
theorem s_specDdtText_e : EnterOk Tryz.prog 178 := ⟨_, Tryz.func178, rfl, by decide⟩
@[go_sem] def s_specDdtText_lv : List (List Nat) := [[0], [0, 3], [0, 3, 4], [0, 3, 4, 12], [0, 3, 4], [0, 3, 4, 16], [0, 3, 4], [0, 3, 4], [2]]
@[go_sem] noncomputable def s_specDdtText_K : Known := ((Known.nil).cons 113 ctDdtOk s_specDdtOk s_specDdtOk_e).cons 172 ctDecV s_dec2 s_dec2_e
set_option maxHeartbeats 8000000 in
theorem s_specDdtText : Sound Tryz.prog 178 ctDdtT := by
 have ke := s_specDdtText_K.env []
 have kl : Lives s_specDdtText_lv := trivial
 refine sound_intro (E := ⟨ti, s_specDdtText_K.Γ, []⟩) ke Tryz.func178 Tryz.ntmps178 rfl (rs := [.tmp 2]) rfl ?_
 intro args os hp
 unfold ctDdtT at hp ⊢
 dsimp only at hp ⊢
 split at hp
 ·rename_i es
  refine ⟨by simp, fun φ0 w0 => ?_⟩
  have hlen : es.length ≤ 4000000 := hp
  have nt : (!true) = false := rfl
  have nf : (!false) = true := rfl
  obtain ⟨J, hJ⟩ : ∃ J : Nat → ByteArray, J = jn entT es := ⟨_, rfl⟩
  have j0 : J 0 = ⟨#[]⟩ := by rw [hJ]; exact jn_zero _ _
  refine goh trivial ?_
  refine W_for es.length (fun i => ddtB es = true ∨ i = 0) (fun i => ⟨[(0, .one (.isl .ent es)), (3, vs (J i)), (4, vi i)], [], []⟩) [] (leh j0) (.inr rfl) fun i hi hb => ?_
  cases hk : ddtB es with
  | false =>
    have e : ddtT es = ⟨#[]⟩ := by unfold ddtT; rw [hk]; rfl
    obtain rfl : i = 0 := hb.resolve_left (by rw [hk]; decide)
    refine goh hk ?_
    refine W_cnd ?_ ?_ <;> intro hlit <;> try (cases hlit; done)
    refine goh j0 ?_
    exact finh [] e
  | true =>
    have hfew := (ddtB_true.1 hk).few
    have hjs : ∀ i, (J i).size ≤ es.length * 15 := fun i => by rw [hJ]; exact jn_size (fun p hp => entT_size (ddtP_ent hk hp)) i
    have hz2 := hjs i
    refine goh hk ?_
    refine W_cnd ?_ ?_ <;> (try simp only [cnd_r]) <;> intro hlt
    ·have hi' : i < es.length := by omega
     have hen := ddtP_ent hk (show es.getD i ET.ent.dflt ∈ es by rw [show es.getD i ET.ent.dflt = es[i] by simp [hi']]; exact List.getElem_mem _)
     obtain ⟨⟨a1, a2⟩, ⟨a3, a4⟩, a5, a6⟩ := entB_true hen
     have b1 := decS_fine a1 4 (by omega)
     have b2 := decS_fine (n := (es.getD i ET.ent.dflt).at_) (by omega) 2 (by omega)
     have b3 := decS_fine (n := (es.getD i ET.ent.dflt).count) (by omega) 3 (by omega)
     have et : entT (es.getD i ET.ent.dflt) = decS (es.getD i ET.ent.dflt).sum ++ ⟨#[46]⟩ ++ decS (es.getD i ET.ent.dflt).at_ ++ ⟨#[46]⟩ ++ decS (es.getD i ET.ent.dflt).count := pointsV_three _ _ _
     have s1 : (⟨#[46]⟩ : ByteArray).size = 1 := rfl
     have s2 : (⟨#[32]⟩ : ByteArray).size = 1 := rfl
     refine goh trivial ?_
     refine W_cnd ?_ ?_ <;> (try simp only [cnd_r]) <;> intro h0
     ·have hs3 := jn_succ entT (show 0 < i by omega) hi' ET.ent.dflt
      rw [← hJ, et] at hs3
      simp only [← ByteArray.append_assoc] at hs3
      repeat' first
       | with_reducible refine red ?_
       | refine W_seq ?_
       | (refine W_reg (s_specDdtText_K.env []) s_specDdtText_lv fun K' hK' => ?_
          simp only [go_sem, hz2, ByteArray.size_append, s1, s2, ↓reduceIte, ↓reduceDIte, reduceCtorEq, Nat.reduceAdd, Nat.reduceMul, Nat.reduceSub, Nat.reduceDiv, Nat.reduceMod, Nat.reduceLT, Nat.reduceLeDiff, Nat.reduceEqDiff, Nat.reduceBEq, Int.reduceToNat, Int.reduceLE, Int.reduceLT, Int.reduceEq, Int.reduceNe, Int.reduceNeg]
          (repeat' refine And.intro ?_ ?_) <;> try first | with_reducible refine hK' ?_ | exact shut6)
       | with_reducible refine blockG_o (by decide) ?_
      exact ⟨[], by omega, leh hs3, .inl trivial⟩
     ·obtain rfl : i = 0 := by omega
      have hs3 := jn_one entT hi' ET.ent.dflt
      rw [← hJ, et] at hs3
      have he := fun s => empty_app s
      repeat' first
       | with_reducible refine red ?_
       | refine W_seq ?_
       | (refine W_reg (s_specDdtText_K.env []) s_specDdtText_lv fun K' hK' => ?_
          simp only [go_sem, j0, ByteArray.size_append, s1, s2, empty_app, ↓reduceIte, ↓reduceDIte, reduceCtorEq, Nat.reduceAdd, Nat.reduceMul, Nat.reduceSub, Nat.reduceDiv, Nat.reduceMod, Nat.reduceLT, Nat.reduceLeDiff, Nat.reduceEqDiff, Nat.reduceBEq, Int.reduceToNat, Int.reduceLE, Int.reduceLT, Int.reduceEq, Int.reduceNe, Int.reduceNeg]
          (repeat' refine And.intro ?_ ?_) <;> try first | with_reducible refine hK' ?_ | exact shut6)
       | with_reducible refine blockG_o (by decide) ?_
      exact ⟨[], by omega, leh hs3, .inl trivial⟩
    ·obtain rfl : i = es.length := by omega
     have e : ddtT es = J es.length := by unfold ddtT; rw [hk, if_pos rfl, hJ]; exact (jn_all _ _).symm
     refine goh trivial ?_
     exact finh [] e
 ·simp [no, ifp] at hp
end Go.Proofs.YtfmjgoeclilcnaaGreatDoor
namespace Go.Proofs.YtfmjgoeclilcnaaGreatDoor
open Go.RowKit
theorem list8 {α : Type} : ∀ {xs : List α}, xs.length = 8 → ∃ a b c d e f g h, xs = [a, b, c, d, e, f, g, h]
 | [a, b, c, d, e, f, g, h], _ => ⟨a, b, c, d, e, f, g, h, rfl⟩
 | [], h => by simp at h
 | [_], h => by simp at h
 | [_, _], h => by simp at h
 | [_, _, _], h => by simp at h
 | [_, _, _, _], h => by simp at h
 | [_, _, _, _, _], h => by simp at h
 | [_, _, _, _, _, _], h => by simp at h
 | [_, _, _, _, _, _, _], h => by simp at h
 | _ :: _ :: _ :: _ :: _ :: _ :: _ :: _ :: _ :: _, h => by simp at h
theorem upto_more {I : Nat → Prop} {n : Nat} (h : ∀ k, k < n → I k) (hn : I n) : ∀ k, k < n + 1 → I k := fun k hk => by
 rcases Nat.lt_or_ge k n with h1 | h1
 ·exact h k h1
 ·obtain rfl : k = n := by omega
  exact hn
theorem mapP_canon {t : ByteArray} {m : Eight Ptr} (h : mapP t = some m) : mapT m = t := (mapP_some.1 h).2
@[go_sem] noncomputable def ctMapR : Ct := ⟨false, [], fun args os => match args, os with
  | [.one (.val (.string t))], [] => ifp (t.size ≤ 1000000) (.tup [.agg ((P8.cells ((mapP t).getD (Eight.rep Ptr.zero))).map .val), vb (mapP t).isSome])
  | _, _ => no⟩
theorem s_mapRead_e : EnterOk Tryz.prog 59 := ⟨_, Tryz.func59, rfl, by decide⟩
@[go_sem] def s_mapRead_lv : List (List Nat) := [[0, 2], [0, 2, 4], [2, 4, 19], [2, 3], [2, 4, 5], [2, 5, 21, 22, 23], [2, 5, 21, 22, 23, 24], [2, 5, 6, 7, 21, 22, 23], [2, 5, 6, 8, 9, 21, 22, 23], [2, 5, 6, 8, 21, 22, 23, 34], [2, 3], [2, 5, 21, 22, 23], [2, 5, 21, 22, 23], [2, 3]]
@[go_sem] noncomputable def s_mapRead_K : Known := ((Known.nil).cons 130 ctSplit s_split s_split_e).cons 135 ctPtrRead s_ptrRead s_ptrRead_e
set_option maxHeartbeats 8000000 in
theorem s_mapRead : Sound Tryz.prog 59 ctMapR := by
 have ke := s_mapRead_K.env []
 have kl : Lives s_mapRead_lv := trivial
 refine sound_intro (E := ⟨ti, s_mapRead_K.Γ, []⟩) ke Tryz.func59 Tryz.ntmps59 rfl (rs := [.cell 2 91, .tmp 3]) rfl ?_
 intro args os hp
 unfold ctMapR at hp ⊢
 dsimp only at hp ⊢
 split at hp
 ·rename_i t
  refine ⟨by simp, fun φ0 w0 => ?_⟩
  have hlen : t.size ≤ 1000000 := hp
  have h32 : (⟨#[32]⟩ : ByteArray).data.getD 0 0 = 32 := rfl
  have hsz : (⟨#[32]⟩ : ByteArray).size = 1 := rfl
  have nt : (!true) = false := rfl
  have nf : (!false) = true := rfl
  have hwl := splitV_len 32 t
  by_cases hz : 400 < t.size
  ·have e := mapP_long hz
   have c1 : decide ((t.size : Int) > 400) = true := by simp; omega
   refine goh (And.intro c1 (And.intro h32 hsz)) ?_
   refine W_cnd ?_ ?_ <;> intro hlit <;> try (cases hlit; done)
   refine goh trivial ?_
   exact finh [] e
  have c1 : decide ((t.size : Int) > 400) = false := by simp; omega
  by_cases h8 : (splitV 32 t).length = 8
  rotate_left
  ·have e := mapP_len h8
   have c2 : (((splitV 32 t).length : Int) != 8) = true := by simp; omega
   refine goh (And.intro c1 (And.intro c2 (And.intro h32 hsz))) ?_
   refine W_cnd ?_ ?_ <;> intro hlit <;> try (cases hlit; done)
   refine goh trivial ?_
   exact finh [] e
  obtain ⟨v0, v1, v2, v3, v4, v5, v6, v7, hw⟩ := list8 h8
  clear h8 hz
  have hms : ∀ w ∈ splitV 32 t, w.size ≤ 1000000 := fun w h => Nat.le_trans (splitV_size h) hlen
  have hbad := fun w (h : w ∈ splitV 32 t) => mapP_bad (t := t) (w := w) h
  rw [hw] at hms hbad hwl
  have c2 : ((8 : Int) != 8) = false := rfl
  have m0 := hms v0 (by simp)
  obtain ⟨⟨pa0, pb0, pc0⟩, hp0⟩ : ∃ p, (ptrReadV v0).getD Ptr.zero = p := ⟨_, rfl⟩
  have m1 := hms v1 (by simp)
  obtain ⟨⟨pa1, pb1, pc1⟩, hp1⟩ : ∃ p, (ptrReadV v1).getD Ptr.zero = p := ⟨_, rfl⟩
  have m2 := hms v2 (by simp)
  obtain ⟨⟨pa2, pb2, pc2⟩, hp2⟩ : ∃ p, (ptrReadV v2).getD Ptr.zero = p := ⟨_, rfl⟩
  have m3 := hms v3 (by simp)
  obtain ⟨⟨pa3, pb3, pc3⟩, hp3⟩ : ∃ p, (ptrReadV v3).getD Ptr.zero = p := ⟨_, rfl⟩
  have m4 := hms v4 (by simp)
  obtain ⟨⟨pa4, pb4, pc4⟩, hp4⟩ : ∃ p, (ptrReadV v4).getD Ptr.zero = p := ⟨_, rfl⟩
  have m5 := hms v5 (by simp)
  obtain ⟨⟨pa5, pb5, pc5⟩, hp5⟩ : ∃ p, (ptrReadV v5).getD Ptr.zero = p := ⟨_, rfl⟩
  have m6 := hms v6 (by simp)
  obtain ⟨⟨pa6, pb6, pc6⟩, hp6⟩ : ∃ p, (ptrReadV v6).getD Ptr.zero = p := ⟨_, rfl⟩
  have m7 := hms v7 (by simp)
  obtain ⟨⟨pa7, pb7, pc7⟩, hp7⟩ : ∃ p, (ptrReadV v7).getD Ptr.zero = p := ⟨_, rfl⟩
  clear hms
  refine goh (And.intro c1 (And.intro c2 (And.intro h32 (And.intro hsz (And.intro hw hwl))))) ?_
  refine W_cnd ?_ ?_ <;> intro hlit <;> try (cases hlit; done)
  refine goh trivial ?_
  refine W_for 8 (fun i => ∀ k, k < i → ptrReadV ([v0, v1, v2, v3, v4, v5, v6, v7].getD k ⟨#[]⟩) = some ([(⟨pa0, pb0, pc0⟩ : Ptr), (⟨pa1, pb1, pc1⟩ : Ptr), (⟨pa2, pb2, pc2⟩ : Ptr), (⟨pa3, pb3, pc3⟩ : Ptr), (⟨pa4, pb4, pc4⟩ : Ptr), (⟨pa5, pb5, pc5⟩ : Ptr), (⟨pa6, pb6, pc6⟩ : Ptr), (⟨pa7, pb7, pc7⟩ : Ptr)].getD k Ptr.zero)) (fun i => ⟨[(2, .one (.ptr 0 0)), (5, .one (.ptr 2 0)), (21, .one (.osl .str 1 0 8)), (22, vi 8), (23, vi i)], [some (.cells ((P8.cells (Eight.rep Ptr.zero)).map .val)), some (.arr .str [v0, v1, v2, v3, v4, v5, v6, v7]), some (.cells (p8mix ⟨⟨pa0, pb0, pc0⟩, ⟨pa1, pb1, pc1⟩, ⟨pa2, pb2, pc2⟩, ⟨pa3, pb3, pc3⟩, ⟨pa4, pb4, pc4⟩, ⟨pa5, pb5, pc5⟩, ⟨pa6, pb6, pc6⟩, ⟨pa7, pb7, pc7⟩⟩ i))], []⟩) [some 0, some 1, some 2] (leh trivial) (fun k hk => absurd hk (Nat.not_lt_zero k)) fun i hi hI => ?_
  rcases (show i = 0 ∨ i = 1 ∨ i = 2 ∨ i = 3 ∨ i = 4 ∨ i = 5 ∨ i = 6 ∨ i = 7 ∨ i = 8 by omega) with rfl | rfl | rfl | rfl | rfl | rfl | rfl | rfl | rfl
  ·cases hr : ptrReadV v0 with
   | none =>
     have e := hbad v0 (by simp) hr
     refine goh trivial ?_
     refine W_cnd ?_ ?_ <;> intro hlit <;> try (cases hlit; done)
     refine goh (And.intro hr (And.intro m0 nf)) ?_
     refine W_cnd ?_ ?_ <;> intro hlit <;> try (cases hlit; done)
     refine goh trivial ?_
     exact finh [] e
   | some q =>
     rw [hr] at hp0
     obtain rfl : q = ⟨pa0, pb0, pc0⟩ := hp0
     refine goh trivial ?_
     refine W_cnd ?_ ?_ <;> intro hlit <;> try (cases hlit; done)
     refine goh (And.intro hr (And.intro m0 nt)) ?_
     refine W_cnd ?_ ?_ <;> intro hlit <;> try (cases hlit; done)
     refine goh trivial ?_
     exact ⟨[some 0, some 1, some 2], by omega, leh trivial, upto_more hI hr⟩
  ·cases hr : ptrReadV v1 with
   | none =>
     have e := hbad v1 (by simp) hr
     refine goh trivial ?_
     refine W_cnd ?_ ?_ <;> intro hlit <;> try (cases hlit; done)
     refine goh (And.intro hr (And.intro m1 nf)) ?_
     refine W_cnd ?_ ?_ <;> intro hlit <;> try (cases hlit; done)
     refine goh trivial ?_
     exact finh [] e
   | some q =>
     rw [hr] at hp1
     obtain rfl : q = ⟨pa1, pb1, pc1⟩ := hp1
     refine goh trivial ?_
     refine W_cnd ?_ ?_ <;> intro hlit <;> try (cases hlit; done)
     refine goh (And.intro hr (And.intro m1 nt)) ?_
     refine W_cnd ?_ ?_ <;> intro hlit <;> try (cases hlit; done)
     refine goh trivial ?_
     exact ⟨[some 0, some 1, some 2], by omega, leh trivial, upto_more hI hr⟩
  ·cases hr : ptrReadV v2 with
   | none =>
     have e := hbad v2 (by simp) hr
     refine goh trivial ?_
     refine W_cnd ?_ ?_ <;> intro hlit <;> try (cases hlit; done)
     refine goh (And.intro hr (And.intro m2 nf)) ?_
     refine W_cnd ?_ ?_ <;> intro hlit <;> try (cases hlit; done)
     refine goh trivial ?_
     exact finh [] e
   | some q =>
     rw [hr] at hp2
     obtain rfl : q = ⟨pa2, pb2, pc2⟩ := hp2
     refine goh trivial ?_
     refine W_cnd ?_ ?_ <;> intro hlit <;> try (cases hlit; done)
     refine goh (And.intro hr (And.intro m2 nt)) ?_
     refine W_cnd ?_ ?_ <;> intro hlit <;> try (cases hlit; done)
     refine goh trivial ?_
     exact ⟨[some 0, some 1, some 2], by omega, leh trivial, upto_more hI hr⟩
  ·cases hr : ptrReadV v3 with
   | none =>
     have e := hbad v3 (by simp) hr
     refine goh trivial ?_
     refine W_cnd ?_ ?_ <;> intro hlit <;> try (cases hlit; done)
     refine goh (And.intro hr (And.intro m3 nf)) ?_
     refine W_cnd ?_ ?_ <;> intro hlit <;> try (cases hlit; done)
     refine goh trivial ?_
     exact finh [] e
   | some q =>
     rw [hr] at hp3
     obtain rfl : q = ⟨pa3, pb3, pc3⟩ := hp3
     refine goh trivial ?_
     refine W_cnd ?_ ?_ <;> intro hlit <;> try (cases hlit; done)
     refine goh (And.intro hr (And.intro m3 nt)) ?_
     refine W_cnd ?_ ?_ <;> intro hlit <;> try (cases hlit; done)
     refine goh trivial ?_
     exact ⟨[some 0, some 1, some 2], by omega, leh trivial, upto_more hI hr⟩
  ·cases hr : ptrReadV v4 with
   | none =>
     have e := hbad v4 (by simp) hr
     refine goh trivial ?_
     refine W_cnd ?_ ?_ <;> intro hlit <;> try (cases hlit; done)
     refine goh (And.intro hr (And.intro m4 nf)) ?_
     refine W_cnd ?_ ?_ <;> intro hlit <;> try (cases hlit; done)
     refine goh trivial ?_
     exact finh [] e
   | some q =>
     rw [hr] at hp4
     obtain rfl : q = ⟨pa4, pb4, pc4⟩ := hp4
     refine goh trivial ?_
     refine W_cnd ?_ ?_ <;> intro hlit <;> try (cases hlit; done)
     refine goh (And.intro hr (And.intro m4 nt)) ?_
     refine W_cnd ?_ ?_ <;> intro hlit <;> try (cases hlit; done)
     refine goh trivial ?_
     exact ⟨[some 0, some 1, some 2], by omega, leh trivial, upto_more hI hr⟩
  ·cases hr : ptrReadV v5 with
   | none =>
     have e := hbad v5 (by simp) hr
     refine goh trivial ?_
     refine W_cnd ?_ ?_ <;> intro hlit <;> try (cases hlit; done)
     refine goh (And.intro hr (And.intro m5 nf)) ?_
     refine W_cnd ?_ ?_ <;> intro hlit <;> try (cases hlit; done)
     refine goh trivial ?_
     exact finh [] e
   | some q =>
     rw [hr] at hp5
     obtain rfl : q = ⟨pa5, pb5, pc5⟩ := hp5
     refine goh trivial ?_
     refine W_cnd ?_ ?_ <;> intro hlit <;> try (cases hlit; done)
     refine goh (And.intro hr (And.intro m5 nt)) ?_
     refine W_cnd ?_ ?_ <;> intro hlit <;> try (cases hlit; done)
     refine goh trivial ?_
     exact ⟨[some 0, some 1, some 2], by omega, leh trivial, upto_more hI hr⟩
  ·cases hr : ptrReadV v6 with
   | none =>
     have e := hbad v6 (by simp) hr
     refine goh trivial ?_
     refine W_cnd ?_ ?_ <;> intro hlit <;> try (cases hlit; done)
     refine goh (And.intro hr (And.intro m6 nf)) ?_
     refine W_cnd ?_ ?_ <;> intro hlit <;> try (cases hlit; done)
     refine goh trivial ?_
     exact finh [] e
   | some q =>
     rw [hr] at hp6
     obtain rfl : q = ⟨pa6, pb6, pc6⟩ := hp6
     refine goh trivial ?_
     refine W_cnd ?_ ?_ <;> intro hlit <;> try (cases hlit; done)
     refine goh (And.intro hr (And.intro m6 nt)) ?_
     refine W_cnd ?_ ?_ <;> intro hlit <;> try (cases hlit; done)
     refine goh trivial ?_
     exact ⟨[some 0, some 1, some 2], by omega, leh trivial, upto_more hI hr⟩
  ·cases hr : ptrReadV v7 with
   | none =>
     have e := hbad v7 (by simp) hr
     refine goh trivial ?_
     refine W_cnd ?_ ?_ <;> intro hlit <;> try (cases hlit; done)
     refine goh (And.intro hr (And.intro m7 nf)) ?_
     refine W_cnd ?_ ?_ <;> intro hlit <;> try (cases hlit; done)
     refine goh trivial ?_
     exact finh [] e
   | some q =>
     rw [hr] at hp7
     obtain rfl : q = ⟨pa7, pb7, pc7⟩ := hp7
     refine goh trivial ?_
     refine W_cnd ?_ ?_ <;> intro hlit <;> try (cases hlit; done)
     refine goh (And.intro hr (And.intro m7 nt)) ?_
     refine W_cnd ?_ ?_ <;> intro hlit <;> try (cases hlit; done)
     refine goh trivial ?_
     exact ⟨[some 0, some 1, some 2], by omega, leh trivial, upto_more hI hr⟩
  ·have e := mapP_words hw (hI 0 (by omega)) (hI 1 (by omega)) (hI 2 (by omega)) (hI 3 (by omega)) (hI 4 (by omega)) (hI 5 (by omega)) (hI 6 (by omega)) (hI 7 (by omega))
   refine goh trivial ?_
   refine W_cnd ?_ ?_ <;> intro hlit <;> try (cases hlit; done)
   refine goh trivial ?_
   exact finh [] e
 ·simp [no, ifp] at hp
end Go.Proofs.YtfmjgoeclilcnaaGreatDoor
namespace Go.Proofs.YtfmjgoeclilcnaaGreatDoor
open Go.RowKit
theorem upto_all {I : Nat → Prop} {n : Nat} (h : ∀ k, k < n → I k) (hn : I n) : ∀ k, k < n + 1 → I k := fun k hk => by
 rcases Nat.lt_or_ge k n with h1 | h1
 ·exact h k h1
 ·obtain rfl : k = n := by omega
  exact hn
def entI (w : ByteArray) : Ent := match thr w with
 | some (a, b, c) => ⟨a, b, c⟩
 | none => ⟨0, 0, 0⟩
theorem not_exact {w : ByteArray} (h : thr w = none) : ∀ e : Ent, ¬ exact3 w e := fun e he => by
 have := he.1
 rw [h] at this; cases this
theorem not_exact2 {w : ByteArray} {a b c : Int} (h : thr w = some (a, b, c)) (hs : same (pointsV [a, b, c]) w = false) : ∀ e : Ent, ¬ exact3 w e := fun e he => by
 obtain ⟨h1, h2⟩ := he
 rw [h] at h1
 simp only [Option.some.injEq, Prod.mk.injEq] at h1
 obtain ⟨rfl, rfl, rfl⟩ := h1
 rw [show pointsV [e.sum, e.at_, e.count] = w from h2, same_true.2 rfl] at hs
 cases hs
theorem entI_exact {w : ByteArray} {a b c : Int} (h : thr w = some (a, b, c)) (hs : same (pointsV [a, b, c]) w = true) : entI w = ⟨a, b, c⟩ ∧ entT (entI w) = w := by
 have e : entI w = ⟨a, b, c⟩ := by unfold entI; rw [h]
 rw [e]
 exact ⟨rfl, same_true.1 hs⟩
theorem getD_mem {ws : List ByteArray} {i : Nat} (h : i < ws.length) : ws.getD i ET.str.dflt ∈ ws := by
 rw [show ws.getD i ET.str.dflt = ws[i] by simp [h]]
 exact List.getElem_mem _
theorem all_back {ws : List ByteArray} (h : ∀ k, k < ws.length → entT (entI (ws.getD k ET.str.dflt)) = ws.getD k ET.str.dflt) : ws = (ws.map entI).map entT := by
 apply List.ext_getElem
 ·simp
 ·intro i h1 h2
  have := h i h1
  rw [show ws.getD i ET.str.dflt = ws[i] by simp [h1]] at this
  simp [this]
@[go_sem] noncomputable def ctDdtR : Ct := ⟨false, [], fun args os => match args, os with
  | [.one (.val (.string t))], [] => ⟨t.size ≤ 1000000, .tup [.one (.osl .ent 0 0 ((ddtR t).getD []).length), vb (ddtR t).isSome], [], [.arr .ent ((ddtR t).getD [])]⟩
  | _, _ => no⟩
theorem s_ddtRead_e : EnterOk Tryz.prog 60 := ⟨_, Tryz.func60, rfl, by decide⟩
@[go_sem] def s_ddtRead_lv : List (List Nat) := [[0], [0, 13], [2, 3], [0, 15], [2, 3], [0, 4], [4, 17, 18, 19], [4, 17, 18, 19, 20], [4, 6, 17, 18, 19], [4, 7, 8, 9, 10, 17, 18, 19], [4, 7, 8, 9, 17, 18, 19, 31], [2, 3], [4, 17, 18, 19], [4, 17, 18, 19], [4, 42], [2, 3], [2, 3]]
@[go_sem] noncomputable def s_ddtRead_K : Known := (((Known.nil).cons 130 ctSplit s_split s_split_e).cons 136 ctThree s_three s_three_e).cons 137 ctDdtOk s_ddtOk s_ddtOk_e
set_option maxHeartbeats 8000000 in
theorem s_ddtRead : Sound Tryz.prog 60 ctDdtR := by
 have ke := s_ddtRead_K.env []
 have kl : Lives s_ddtRead_lv := trivial
 refine sound_intro (E := ⟨ti, s_ddtRead_K.Γ, []⟩) ke Tryz.func60 Tryz.ntmps60 rfl (rs := [.tmp 2, .tmp 3]) rfl ?_
 intro args os hp
 unfold ctDdtR at hp ⊢
 dsimp only at hp ⊢
 split at hp
 ·rename_i t
  refine ⟨by simp, fun φ0 w0 => ?_⟩
  have hlen : t.size ≤ 1000000 := hp
  have h32 : (⟨#[32]⟩ : ByteArray).data.getD 0 0 = 32 := rfl
  have hsz : (⟨#[32]⟩ : ByteArray).size = 1 := rfl
  have nt : (!true) = false := rfl
  have nf : (!false) = true := rfl
  have hwl := splitV_len 32 t
  by_cases hz : 1000 < t.size
  ·have e := ddtR_long hz
   have c1 : decide ((t.size : Int) > 1000) = true := by simp; omega
   refine goh c1 ?_
   refine W_cnd ?_ ?_ <;> intro hlit <;> try (cases hlit; done)
   refine goh trivial ?_
   exact finh [none] e
  have c1 : decide ((t.size : Int) > 1000) = false := by simp; omega
  cases hc : same t ⟨#[]⟩ with
  | true =>
    obtain rfl := same_true.1 hc
    have e := ddtR_empty
    refine goh c1 ?_
    refine W_cnd ?_ ?_ <;> intro hlit <;> try (cases hlit; done)
    refine goh hc ?_
    refine W_cnd ?_ ?_ <;> intro hlit <;> try (cases hlit; done)
    refine goh trivial ?_
    exact finh [none] e
  | false =>
    have hn := same_false.1 hc
    have hms : ∀ w ∈ splitV 32 t, w.size ≤ 1000000 := fun w h => Nat.le_trans (splitV_size h) hlen
    have hbad := fun w (h : w ∈ splitV 32 t) => bad_word hn h
    have hfin : ∀ es : List Ent, splitV 32 t = es.map entT → ddtR t = (if ddtB es = true then some es else none) := fun es h => ddtR_words hn h
    obtain ⟨ws, hws⟩ : ∃ ws, splitV 32 t = ws := ⟨_, rfl⟩
    rw [hws] at hms hbad hwl hfin
    refine goh c1 ?_
    refine W_cnd ?_ ?_ <;> intro hlit <;> try (cases hlit; done)
    refine goh hc ?_
    refine W_cnd ?_ ?_ <;> intro hlit <;> try (cases hlit; done)
    refine goh (And.intro h32 (And.intro hsz hws)) ?_
    refine W_for ws.length (fun i => ∀ k, k < i → entT (entI (ws.getD k ET.str.dflt)) = ws.getD k ET.str.dflt) (fun i => ⟨[(4, .one (.osl .ent 1 0 i)), (17, .one (.osl .str 0 0 ws.length)), (18, vi ws.length), (19, vi i)], [some (.arr .str ws), some (.arr .ent ((ws.take i).map entI))], []⟩) [some 0, none] (leh trivial) (fun k hk => absurd hk (Nat.not_lt_zero k)) fun i hi hI => ?_
    have hl := take_map_len entI hi
    have ht3 := take_map_take entI ws i
    refine goh hl ?_
    refine W_cnd ?_ ?_ <;> (try simp only [cnd_r]) <;> intro hlt
    ·have hi' : i < ws.length := by omega
     have hm := hms _ (getD_mem hi')
     have hb := hbad _ (getD_mem hi')
     have hs := take_map_at entI hi' ET.str.dflt
     obtain ⟨w, hw⟩ : ∃ w, ws.getD i ET.str.dflt = w := ⟨_, rfl⟩
     rw [hw] at hm hb hs
     cases ht : thr w with
     | none =>
       have e := hb (not_exact ht)
       refine goh (And.intro hw (And.intro hm (And.intro ht nf))) ?_
       refine W_cnd ?_ ?_ <;> intro hlit <;> try (cases hlit; done)
       refine goh trivial ?_
       exact finh [none] e
     | some x =>
       obtain ⟨a, b, c⟩ := x
       cases hsm : same (pointsV [a, b, c]) w with
       | false =>
         have e := hb (not_exact2 ht hsm)
         refine goh (And.intro hw (And.intro hm (And.intro ht (And.intro hsm nf)))) ?_
         refine W_cnd ?_ ?_ <;> intro hlit <;> try (cases hlit; done)
         refine goh trivial ?_
         exact finh [none] e
       | true =>
         obtain ⟨he, hx⟩ := entI_exact ht hsm
         rw [he] at hs
         refine goh (And.intro hw (And.intro hm (And.intro ht (And.intro hsm nt)))) ?_
         refine W_cnd ?_ ?_ <;> intro hlit <;> try (cases hlit; done)
         refine goh (And.intro hl ht3) ?_
         exact ⟨[some 0, some 3], by omega, leh (And.intro hs hl), upto_all hI (by rw [hw]; exact hx)⟩
    ·obtain rfl : i = ws.length := by omega
     have e := hfin _ (all_back hI)
     have ht : ws.take ws.length = ws := List.take_length
     rw [ht] at hl ht3 ⊢
     cases hd : ddtB (ws.map entI) with
     | false =>
       rw [hd] at e
       simp only [Bool.false_eq_true, if_false] at e
       refine goh (And.intro hl (And.intro ht3 (And.intro hd nf))) ?_
       refine W_cnd ?_ ?_ <;> intro hlit <;> try (cases hlit; done)
       refine goh trivial ?_
       exact finh [none] e
     | true =>
       rw [hd] at e
       simp only [if_true] at e
       refine goh (And.intro hl (And.intro ht3 (And.intro hd nt))) ?_
       refine W_cnd ?_ ?_ <;> intro hlit <;> try (cases hlit; done)
       refine goh trivial ?_
       exact finh [some 1] e
 ·simp [no, ifp] at hp
end Go.Proofs.YtfmjgoeclilcnaaGreatDoor
