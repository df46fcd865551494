import Derived.Test.YtmnbgppmfbnamaaGreatDoorM10
import Derived.Test.YtmnbgppmfbnamaaGreatDoorM13
import Derived.Test.YtmnbgppmfbnamaaGreatDoorM14
import Derived.Test.YtmnbgppmfbnamaaGreatDoorM16
import Derived.Test.YtmnbgppmfbnamaaGreatDoorM17
import Derived.Test.YtmnbgppmfbnamaaGreatDoorM18
set_option linter.unusedSimpArgs false
set_option linter.unusedVariables false
set_option linter.unusedSectionVars false
/- Functions: the first commit of a new disk. -/
namespace Go.Proofs.YtmnbgppmfbnamaaGreatDoor
open Go.RowKit

@[go_sem] def ctBlocksN : Ct := ⟨true, [], fun args os => match args, os with
  | [.one (.ptr 0 0)], [.cells [.osl .str 1 0 na, .osl .str 2 0 nb, .osl .late 3 0 nl, .val (.int .i64 x), .osl .cset 4 0 n1, .osl .ent 5 0 n2, .osl .ptr 6 0 n3, .val (.bool y), .osl .int 7 0 n4, .val (.int .i64 u), .osl .int 8 fo nf, .any, .any, .any, .any, .any, .any], .arr .str a, .arr .str b, .arr .late l, .arr .cset cs, .arr .ent es, .arr .ptr ps, .arr .int zs, .arr .int fr] =>
    ⟨((cs = [] ∧ es = [] ∧ ps = [] ∧ zs = []) ∧ (n1 = 0 ∧ n2 = 0 ∧ n3 = 0 ∧ n4 = 0) ∧ y = false) ∧ ((Dk.mk a b l).small ∧ na = a.length ∧ nb = b.length ∧ nl = l.length) ∧ (fo + nf ≤ fr.length ∧ 0 < nf ∧ fr.length ≤ 4000000) ∧ (0 ≤ x ∧ x ≤ 1000000) ∧ (Dk.mk a b l).may2 (fr.getD fo ET.int.dflt) root0 = true, .tup [(blkTo (fr.getD fo ET.int.dflt) root0 (x + 1)).tv, vb true], [(0, some (.cells [.osl .str 1 0 na, .osl .str 2 0 nb, .osl .late 9 0 (nl + 2), .val (.int .i64 x), .osl .cset 4 0 n1, .osl .ent 5 0 n2, .osl .ptr 6 0 n3, .val (.bool y), .osl .int 7 0 n4, .val (.int .i64 u), .osl .int 8 (fo + 1) (nf - 1), .any, .any, .any, .any, .any, .any])), (3, none)], [.arr .late (l ++ [⟨0, (fr.getD fo ET.int.dflt), root0⟩] ++ [⟨1, (fr.getD fo ET.int.dflt), root0⟩])]⟩
  | _, _ => no⟩
theorem s_blocksN_e : EnterOk Tryz.prog 240 := ⟨_, Tryz.func240, rfl, by decide⟩
@[go_sem] def s_blocksN_lv : List (List Nat) := [[1, 2, 3], [1, 2, 3, 16, 17], [1, 2, 3, 16, 17, 18], [1, 2, 3, 4, 16, 17], [1, 2, 3, 5, 16, 17], [1, 2, 3, 5, 16, 17, 31], [1, 2, 3, 5, 6, 7, 16, 17], [1, 2, 3, 5, 6, 16, 17, 43], [2, 3], [1, 2, 3, 16, 17], [1, 2, 3, 16, 17], [1, 2, 3, 57], [1, 2, 3], [1, 2, 3, 71], [1, 2, 3, 8], [1, 2, 3, 9, 10], [1, 2, 3, 9, 81], [2, 3], [], [2, 3]]
@[go_sem] noncomputable def s_blocksN_K : Known := ((((Known.nil).cons 276 ctMapT s_coreMap s_coreMap_e).cons 275 ctPutC s_putC s_putC_e).cons 278 ctDdtT s_ddtText s_ddtText_e).cons 279 ctRootT s_coreRoot s_coreRoot_e
set_option maxHeartbeats 8000000 in
theorem s_blocksN : Sound Tryz.prog 240 ctBlocksN := by
  have ke := s_blocksN_K.env []
  have kl : Lives s_blocksN_lv := trivial
  refine sound_intro (E := ⟨ti, s_blocksN_K.Γ, []⟩) ke Tryz.func240 Tryz.ntmps240 rfl (rs := [.cell 2 187, .cell 3 4]) rfl ?_
  intro args os hp
  unfold ctBlocksN at hp ⊢
  dsimp only at hp ⊢
  split at hp
  · rename_i na nb nl x n1 n2 n3 y n4 u fo nf a b l cs es ps zs fr
    refine ⟨by simp, fun φ0 w0 => ?_⟩
    obtain ⟨⟨⟨rfl, rfl, rfl, rfl⟩, ⟨rfl, rfl, rfl, rfl⟩, rfl⟩, ⟨⟨h1, h2, h3⟩, rfl, rfl, rfl⟩, ⟨g1, g2, g3⟩, ⟨hx0, hx1⟩, hm⟩ : ((cs = [] ∧ es = [] ∧ ps = [] ∧ zs = []) ∧ (n1 = 0 ∧ n2 = 0 ∧ n3 = 0 ∧ n4 = 0) ∧ y = false) ∧ ((Dk.mk a b l).small ∧ na = a.length ∧ nb = b.length ∧ nl = l.length) ∧ (fo + nf ≤ fr.length ∧ 0 < nf ∧ fr.length ≤ 4000000) ∧ (0 ≤ x ∧ x ≤ 1000000) ∧ (Dk.mk a b l).may2 (fr.getD fo ET.int.dflt) root0 = true := hp
    simp only at h1 h2 h3
    have hr := root_none
    have hz : root0.size ≤ 1000000 := by decide
    have hfit := core_fit0 x u
    refine goh trivial ?_
    refine W_for 0 (fun i => True) (fun i => ⟨[(1, .one (.ptr 9 0)), (2, .one (.ptr 10 0)), (3, .one (.ptr 11 0)), (16, vi 0), (17, vi i)], [some (.cells [.osl .str 1 0 a.length, .osl .str 2 0 b.length, .osl .late 3 0 l.length, .val (.int .i64 x), .osl .cset 4 0 0, .osl .ent 5 0 0, .osl .ptr 6 0 0, .val (.bool false), .osl .int 7 0 0, .val (.int .i64 u), .osl .int 8 fo nf, .any, .any, .any, .any, .any, .any]), some (.arr .str a), some (.arr .str b), some (.arr .late l), some (.arr .cset []), some (.arr .ent []), some (.arr .ptr []), some (.arr .int []), some (.arr .int fr), some (.cells [.ptr 0 0]), some (.cells [.val (.int .i64 0), .val (.int .i64 0), .val (.int .i64 0)]), some (.cells [.val (.bool false)])], []⟩) [some 0, some 1, some 2, some 3, some 4, some 5, some 6, some 7, some 8, some 9, some 10, some 11] (leh trivial) trivial fun i hi _ => ?_
    obtain rfl : i = 0 := by omega
    refine goh trivial ?_
    refine W_cnd ?_ ?_ <;> intro hlit <;> try (cases hlit; done)
    refine goh trivial ?_
    refine W_cnd ?_ ?_ <;> intro hlit <;> try (cases hlit; done)
    refine goh (And.intro hr (And.intro hm hfit)) ?_
    trace_state
    exact finh [some 0, some 1, some 2, some 3, some 4, some 5, some 6, some 7, some 8, some 12] trivial
  · simp [no] at hp
end Go.Proofs.YtmnbgppmfbnamaaGreatDoor
/- Functions: the reference's commits (the first commit of a new disk). -/
namespace Go.Proofs.YtmnbgppmfbnamaaGreatDoor
open Go.RowKit

@[go_sem] noncomputable def ctPutR : Ct := ⟨true, [], fun args os => match args, os with
  | [.one (.ptr 0 0), .one (.val (.string t))], [.cells [.osl .str 1 0 na, .osl .str 2 0 nb, .osl .late 3 0 nl, .osl .int 4 fo nf, .val (.int .i64 x), .val (.bool o)], .arr .str a, .arr .str b, .arr .late l, .arr .int fr] =>
    if (Dk.mk a b l).may2 (fr.getD fo ET.int.dflt) t = true then ⟨((Dk.mk a b l).ok = true ∧ na = a.length ∧ nb = b.length ∧ nl = l.length) ∧ (fo + nf ≤ fr.length ∧ 0 < nf ∧ fr.length ≤ 4000000) ∧ t.size ≤ 1000000, (blkTo (fr.getD fo ET.int.dflt) t x).tv, [(0, some (.cells [.osl .str 5 0 na, .osl .str 6 0 nb, .osl .late 7 0 (nl + 1 + 1), .osl .int 4 (fo + 1) (nf - 1), .val (.int .i64 x), .val (.bool o)]))], [.arr .str a, .arr .str b, .arr .late (l ++ [⟨0, fr.getD fo ET.int.dflt, t⟩] ++ [⟨1, fr.getD fo ET.int.dflt, t⟩])]⟩
    else ⟨((Dk.mk a b l).ok = true ∧ na = a.length ∧ nb = b.length ∧ nl = l.length) ∧ (fo + nf ≤ fr.length ∧ 0 < nf ∧ fr.length ≤ 4000000) ∧ t.size ≤ 1000000, (blkTo (fr.getD fo ET.int.dflt) t x).tv, [(0, some (.cells [.osl .str 5 0 na, .osl .str 6 0 nb, .osl .late 7 0 nl, .osl .int 4 (fo + 1) (nf - 1), .val (.int .i64 x), .val (.bool false)]))], [.arr .str a, .arr .str b, .arr .late l]⟩
  | _, _ => no⟩
theorem s_putR_e : EnterOk Tryz.prog 269 := ⟨_, Tryz.func269, rfl, by decide⟩
@[go_sem] def s_putR_lv : List (List Nat) := [[0, 1, 4], [0, 1, 4, 5], [0, 1, 4, 5], [0, 1, 4, 5, 6, 7], [0, 1, 4, 5, 7], [0, 1, 4, 5], [4]]
@[go_sem] noncomputable def s_putR_K : Known := ((Known.nil).cons 163 ctBlkWrite s_specBlkWrite s_specBlkWrite_e).cons 297 ctBlkTo s_specBlkTo s_specBlkTo_e
set_option maxHeartbeats 8000000 in
theorem s_putR : Sound Tryz.prog 269 ctPutR := by
  have ke := s_putR_K.env []
  have kl : Lives s_putR_lv := trivial
  refine sound_intro (E := ⟨ti, s_putR_K.Γ, []⟩) ke Tryz.func269 Tryz.ntmps269 rfl (rs := [.cell 4 187]) rfl ?_
  intro args os hp
  unfold ctPutR at hp ⊢
  dsimp only at hp ⊢
  split at hp
  · rename_i t na nb nl fo nf x o a b l fr
    refine ⟨by simp, fun φ0 w0 => ?_⟩
    obtain ⟨at_, hat⟩ : ∃ q, fr.getD fo ET.int.dflt = q := ⟨_, rfl⟩
    rw [hat] at hp
    have hp' : ((Dk.mk a b l).ok = true ∧ na = a.length ∧ nb = b.length ∧ nl = l.length) ∧ (fo + nf ≤ fr.length ∧ 0 < nf ∧ fr.length ≤ 4000000) ∧ t.size ≤ 1000000 := by
      by_cases h : (Dk.mk a b l).may2 at_ t = true
      · rw [if_pos h] at hp; exact hp
      · rw [if_neg h] at hp; exact hp
    clear hp
    obtain ⟨⟨hok, rfl, rfl, rfl⟩, ⟨g1, g2, g3⟩, hts⟩ := hp'
    obtain ⟨h1, h2, h3⟩ : a.length ≤ 120 ∧ b.length ≤ 120 ∧ l.length ≤ 600 := Dk.ok_small hok
    have d1 : fo + 0 = fo := rfl
    have oF : (if o = true then false else false) = false := by cases o <;> rfl
    have oT : (if o = true then true else false) = o := by cases o <;> rfl
    cases hm : (Dk.mk a b l).may2 at_ t with
    | false =>
      have b1 : blkWrite ⟨a, b, l⟩ at_ t = ⟨a, b, l⟩ := by unfold blkWrite; rw [if_pos hok, hm]; rfl
      have b2 : blkWrites ⟨a, b, l⟩ at_ t = false := by unfold blkWrites; rw [hok, hm]; rfl
      cases o with
      | true =>
        refine goh (And.intro hat (And.intro b1 (And.intro b2 d1))) ?_
        exact finh [some 0, some 1, some 2, some 3, some 4, some 6, some 7, some 8] (And.intro hat hm)
      | false =>
        refine goh (And.intro hat (And.intro b1 (And.intro b2 d1))) ?_
        exact finh [some 0, some 1, some 2, some 3, some 4, some 6, some 7, some 8] (And.intro hat hm)
    | true =>
      have b1 : blkWrite ⟨a, b, l⟩ at_ t = ⟨a, b, l ++ [⟨0, at_, t⟩] ++ [⟨1, at_, t⟩]⟩ := by unfold blkWrite; rw [if_pos hok, hm]; rfl
      have b2 : blkWrites ⟨a, b, l⟩ at_ t = true := by unfold blkWrites; rw [hok, hm]; rfl
      cases o with
      | true =>
        refine goh (And.intro hat (And.intro b1 (And.intro b2 d1))) ?_
        exact finh [some 0, some 1, some 2, some 3, some 4, some 6, some 7, some 8] (And.intro hat hm)
      | false =>
        refine goh (And.intro hat (And.intro b1 (And.intro b2 d1))) ?_
        exact finh [some 0, some 1, some 2, some 3, some 4, some 6, some 7, some 8] (And.intro hat hm)
  · simp [no] at hp
@[go_sem] noncomputable def ctRingS : Ct := ⟨false, [[some .str, some .str, some .late]], fun args os => match args, os with
  | [.agg [.isl .str a, .isl .str b, .isl .late l], .one (.val (.int .i64 x)), .agg [.val (.int .i64 p), .val (.int .i64 q), .val (.int .i64 r)]], [] => ⟨(Dk.mk a b l).small ∧ 0 ≤ x ∧ x ≤ 2000000, .tup [(blkWrite ⟨a, b, l⟩ (1 + x.tmod 4) (uberT x ⟨p, q, r⟩)).v 0, vb (blkWrites ⟨a, b, l⟩ (1 + x.tmod 4) (uberT x ⟨p, q, r⟩))], [], (blkWrite ⟨a, b, l⟩ (1 + x.tmod 4) (uberT x ⟨p, q, r⟩)).objs⟩
  | _, _ => no⟩
theorem s_l8Ring_e : EnterOk Tryz.prog 235 := ⟨_, Tryz.func235, rfl, by decide⟩
@[go_sem] def s_l8Ring_lv : List (List Nat) := [[1, 3, 5, 6], [6, 7]]
@[go_sem] noncomputable def s_l8Ring_K : Known := ((Known.nil).cons 272 ctUber s_specUber s_specUber_e).cons 163 ctBlkWrite s_specBlkWrite s_specBlkWrite_e
set_option maxHeartbeats 8000000 in
theorem s_l8Ring : Sound Tryz.prog 235 ctRingS := by
  have ke := s_l8Ring_K.env []
  have kl : Lives s_l8Ring_lv := trivial
  refine sound_intro (E := ⟨ti, s_l8Ring_K.Γ, []⟩) ke Tryz.func235 Tryz.ntmps235 rfl (rs := [.cell 6 36, .tmp 7]) rfl ?_
  intro args os hp
  unfold ctRingS at hp ⊢
  dsimp only at hp ⊢
  split at hp
  · rename_i a b l x p q r
    refine ⟨by simp, fun φ0 w0 => ?_⟩
    obtain ⟨⟨h1, h2, h3⟩, hx0, hx1⟩ : (Dk.mk a b l).small ∧ 0 ≤ x ∧ x ≤ 2000000 := hp
    simp only at h1 h2 h3
    have hr : 0 ≤ x.tmod 4 ∧ x.tmod 4 < 4 := ⟨Int.tmod_nonneg 4 hx0, Int.tmod_lt_of_pos x (by decide)⟩
    obtain ⟨m, hm⟩ : ∃ m, x.tmod 4 = m := ⟨_, rfl⟩
    rw [hm] at hr
    have w1 : IntKind.i64.wrap (1 + m) = 1 + m := wrap_id _ (by omega) (by omega)
    obtain ⟨d, hd⟩ : ∃ d, blkWrite ⟨a, b, l⟩ (1 + m) (uberT x ⟨p, q, r⟩) = d := ⟨_, rfl⟩
    refine goh (And.intro hm (And.intro w1 hd)) ?_
    exact finh [some 3, some 4, some 5] (And.intro hm hd)
  · simp [no] at hp
end Go.Proofs.YtmnbgppmfbnamaaGreatDoor
/- Functions: a commit's number and pointer that are drawn; an open disk. -/
namespace Go.Proofs.YtmnbgppmfbnamaaGreatDoor
open Go.RowKit

theorem s_diskOpen_e : EnterOk Tryz.prog 14 := ⟨_, Tryz.func14, rfl, by decide⟩
@[go_sem] def s_diskOpen_lv : List (List Nat) := [[0, 2], [0, 2, 5], [2], [2]]
@[go_sem] noncomputable def s_diskOpen_K : Known := (Known.nil).cons 46 ctWithin s_within s_within_e
set_option maxHeartbeats 8000000 in
theorem s_diskOpen : Sound Tryz.prog 14 ctSpecOpen := by
  have ke := s_diskOpen_K.env []
  have kl : Lives s_diskOpen_lv := trivial
  refine sound_intro (E := ⟨ti, s_diskOpen_K.Γ, []⟩) ke Tryz.func14 Tryz.ntmps14 rfl (rs := [.cell 2 36]) rfl ?_
  intro args os hp
  unfold ctSpecOpen at hp ⊢
  dsimp only at hp ⊢
  split at hp
  · rename_i n
    refine ⟨by simp, fun φ0 w0 => ?_⟩
    clear hp
    have nt : (!true) = false := rfl
    have nf : (!false) = true := rfl
    by_cases hn : 1 ≤ n ∧ n ≤ 120
    · have c : (decide (1 ≤ n) && decide (n ≤ 120)) = true := by simp [hn.1, hn.2]
      have hd : dkOpen n = ⟨List.replicate n.toNat ⟨#[]⟩, List.replicate n.toNat ⟨#[]⟩, []⟩ := by unfold dkOpen; rw [if_pos hn]
      obtain ⟨n1, n2⟩ := hn
      refine goh (And.intro c nt) ?_
      refine W_cnd ?_ ?_ <;> intro hlit <;> try (cases hlit; done)
      refine goh trivial ?_
      rw [hd]
      refine ⟨by (simp only [go_sem, ↓reduceIte, reduceCtorEq, Nat.reduceAdd, Nat.reduceLT, Nat.reduceLeDiff, Nat.reduceEqDiff]) <;> trivial, [some 1, some 2, none], ?_⟩
      all_goals try simp only [go_sem, inj_r, ↓reduceIte, reduceCtorEq, Nat.reduceAdd, Nat.reduceLT, Nat.reduceLeDiff, Nat.reduceEqDiff, Int.reduceEq]
      all_goals (repeat' refine And.intro ?_ ?_) <;> try exact shut7
      all_goals simp only [List.length_replicate]
    · have c : (decide (1 ≤ n) && decide (n ≤ 120)) = false := by
        rw [Bool.and_eq_false_iff, decide_eq_false_iff_not, decide_eq_false_iff_not]; omega
      have hd : dkOpen n = ⟨[], [], []⟩ := by unfold dkOpen; rw [if_neg hn]
      refine goh (And.intro c nf) ?_
      refine W_cnd ?_ ?_ <;> intro hlit <;> try (cases hlit; done)
      refine goh trivial ?_
      rw [hd]
      exact finh [none, none, none] trivial
  · simp [no] at hp
def ucN (code : List UInt8) : Int := ET.int.at [1, 2, 99, 0, -1, 1000000, 1000001] (pickV (code.take 2000) 0 7).toNat
def ucP (code : List UInt8) : Ptr := (ptrD (code.take 2000) (blkDisk (code.take 2000) 1).1 (blkDisk (code.take 2000) 1).2).1
@[go_sem] def ctDrawUber : Ct := ⟨false, [[some .byte]], fun args os => match args, os with
  | [.one (.isl .byte code)], [] => ifp (code.length ≤ 1048576) (.tup [vi (ucN code), (ucP code).tv])
  | _, _ => no⟩
/-- What a torn write leaves. -/
theorem torn_disk {s t : ByteArray} (hs : s.size ≤ 420) (ht : t.size ≤ 420) :
    dkWrite (dkOpen 2) 0 1 t = ⟨[⟨#[]⟩, ⟨#[]⟩], [⟨#[]⟩, ⟨#[]⟩], [⟨0, 1, t⟩]⟩ ∧
    dkFlush ⟨[⟨#[]⟩, ⟨#[]⟩], [⟨#[]⟩, ⟨#[]⟩], [⟨0, 1, t⟩]⟩ = ⟨[⟨#[]⟩, t], [⟨#[]⟩, ⟨#[]⟩], []⟩ ∧
    dkWrite ⟨[⟨#[]⟩, t], [⟨#[]⟩, ⟨#[]⟩], []⟩ 0 1 s = ⟨[⟨#[]⟩, t], [⟨#[]⟩, ⟨#[]⟩], [⟨0, 1, s⟩]⟩ ∧
    dkFall ⟨[⟨#[]⟩, t], [⟨#[]⟩, ⟨#[]⟩], [⟨0, 1, s⟩]⟩ [2] = ⟨[⟨#[]⟩, torn t s], [⟨#[]⟩, ⟨#[]⟩], []⟩ := by
  have e0 : dkOpen 2 = ⟨[⟨#[]⟩, ⟨#[]⟩], [⟨#[]⟩, ⟨#[]⟩], []⟩ := rfl
  have k0 : Dk.ok ⟨[⟨#[]⟩, ⟨#[]⟩], [⟨#[]⟩, ⟨#[]⟩], []⟩ = true := by decide
  have m0 : Dk.may ⟨[⟨#[]⟩, ⟨#[]⟩], [⟨#[]⟩, ⟨#[]⟩], []⟩ 0 1 t = true := (may_iff _ _ _ _).2 ⟨.inl rfl, by decide, by decide, ht, by decide⟩
  have k1 := Dk.add_ok k0 m0
  have k1 : Dk.ok ⟨[⟨#[]⟩, ⟨#[]⟩], [⟨#[]⟩, ⟨#[]⟩], [⟨0, 1, t⟩]⟩ = true := k1
  have e1 : dkFlush ⟨[⟨#[]⟩, ⟨#[]⟩], [⟨#[]⟩, ⟨#[]⟩], [⟨0, 1, t⟩]⟩ = ⟨[⟨#[]⟩, t], [⟨#[]⟩, ⟨#[]⟩], []⟩ := by unfold dkFlush; rw [if_pos k1]; rfl
  have k2 : Dk.ok ⟨[⟨#[]⟩, t], [⟨#[]⟩, ⟨#[]⟩], []⟩ = true := by rw [← e1]; exact dkFlush_ok k1
  have m2 : Dk.may ⟨[⟨#[]⟩, t], [⟨#[]⟩, ⟨#[]⟩], []⟩ 0 1 s = true := (may_iff _ _ _ _).2 ⟨.inl rfl, by show (0 : Int) ≤ 1; decide, by show (1 : Int) < 2; decide, hs, by show 0 < 600; decide⟩
  have k3 : Dk.ok ⟨[⟨#[]⟩, t], [⟨#[]⟩, ⟨#[]⟩], [⟨0, 1, s⟩]⟩ = true := Dk.add_ok k2 m2
  refine ⟨?_, e1, ?_, ?_⟩
  · rw [e0]; unfold dkWrite; rw [if_pos k0, if_pos m0]; rfl
  · unfold dkWrite; rw [if_pos k2, if_pos m2]; rfl
  · unfold dkFall; rw [if_pos k3]; rfl
end Go.Proofs.YtmnbgppmfbnamaaGreatDoor
/- Functions: the reference's first commit of a new disk. -/
namespace Go.Proofs.YtmnbgppmfbnamaaGreatDoor
open Go.RowKit

noncomputable def mayB (d : Dk) (c : Co) : Bool := decide (c.txg < 1000000) && decide (((freeL c.ddt c.safe d.a.length).length : Int) ≥ (needsN c : Nat))
@[go_sem] noncomputable def ctMay : Ct := ⟨false, [[some .str, some .str, some .late], [none, some .cset, some .ent, some .ptr, none, some .int, none]], fun args os => match args, os with
  | [.agg [.isl .str a, .isl .str b, .isl .late l], .agg [.val (.int .i64 x), .isl .cset cs, .isl .ent es, .isl .ptr ps, .val (.bool y), .isl .int zs, .val (.int .i64 u)]], [] => ifp ((cs.length ≤ 1000000 ∧ es.length ≤ 1000000 ∧ zs.length ≤ 1000000) ∧ a.length ≤ 1000) (vb (mayB ⟨a, b, l⟩ ⟨x, cs, es, ps, y, zs, u⟩))
  | _, _ => no⟩
theorem s_l8May_e : EnterOk Tryz.prog 187 := ⟨_, Tryz.func187, rfl, by decide⟩
@[go_sem] def s_l8May_lv : List (List Nat) := [[2, 3], [4]]
@[go_sem] noncomputable def s_l8May_K : Known := ((Known.nil).cons 232 ctFreeS s_l7Free s_l7Free_e).cons 233 ctNeedsS s_l8Needs s_l8Needs_e
set_option maxHeartbeats 8000000 in
theorem s_l8May : Sound Tryz.prog 187 ctMay := by
  have ke := s_l8May_K.env []
  have kl : Lives s_l8May_lv := trivial
  refine sound_intro (E := ⟨ti, s_l8May_K.Γ, []⟩) ke Tryz.func187 Tryz.ntmps187 rfl (rs := [.tmp 4]) rfl ?_
  intro args os hp
  unfold ctMay at hp ⊢
  dsimp only at hp ⊢
  split at hp
  · rename_i a b l x cs es ps y zs u
    refine ⟨by simp, fun φ0 w0 => ?_⟩
    obtain ⟨⟨k1, k2, k3⟩, h1⟩ : (cs.length ≤ 1000000 ∧ es.length ≤ 1000000 ∧ zs.length ≤ 1000000) ∧ a.length ≤ 1000 := hp
    cases hx : decide (x < 1000000) with
    | true =>
      have e : mayB ⟨a, b, l⟩ ⟨x, cs, es, ps, y, zs, u⟩ = decide (((freeL es zs a.length).length : Int) ≥ (needsN ⟨x, cs, es, ps, y, zs, u⟩ : Nat)) := by
        unfold mayB; simp only [hx, Bool.true_and]
      refine goh hx ?_
      exact finh [] e
    | false =>
      have e : mayB ⟨a, b, l⟩ ⟨x, cs, es, ps, y, zs, u⟩ = false := by
        unfold mayB; simp only [hx, Bool.false_and]
      refine goh hx ?_
      exact finh [] e
  · simp [no, ifp] at hp
theorem free_none (n : Nat) (h : 13 < n) : ∃ fr, freeL [] [] n = fr ∧ fr.length = n - 13 ∧ fr.getD 0 ET.int.dflt = 13 := by
  have hb : ∀ a, freeB [] [] a = true := fun a => by unfold freeB thereE hasI; simp
  have e : freeL [] [] n = (List.range ((n : Int) - 13).toNat).map fun j : Nat => (13 + j : Int) := by
    unfold freeL freeN
    exact List.filter_eq_self.2 fun a _ => hb a
  have hn : ((n : Int) - 13).toNat = n - 13 := by omega
  refine ⟨_, rfl, ?_, ?_⟩
  · rw [e, hn]; simp
  · rw [e, hn]
    obtain ⟨m, hm⟩ : ∃ m, n - 13 = m + 1 := ⟨n - 14, by omega⟩
    rw [hm, List.range_succ_eq_map]
    rfl
@[go_sem] noncomputable def ctBlocksS : Ct := ⟨true, [], fun args os => match args, os with
  | [.agg [.osl .str 0 0 na, .osl .str 1 0 nb, .osl .late 2 0 nl], .agg [.val (.int .i64 x), .isl .cset cs, .isl .ent es, .isl .ptr ps, .val (.bool y), .isl .int zs, .val (.int .i64 u)]], [.arr .str a, .arr .str b, .arr .late l] =>
    ⟨((cs = [] ∧ es = [] ∧ ps = [] ∧ zs = []) ∧ y = false) ∧ ((Dk.mk a b l).ok = true ∧ na = a.length ∧ nb = b.length ∧ nl = l.length) ∧ 13 < a.length ∧ (0 ≤ x ∧ x ≤ 1000000) ∧ (Dk.mk a b l).may2 13 root0 = true,
     .tup [.one (.ptr 3 0), .agg [.val (.int .i64 x), .osl .cset 8 0 0, .osl .ent 9 0 0, .osl .ptr 10 0 0, .val (.bool false), .osl .int 11 0 0, .val (.int .i64 u)], (blkTo 13 root0 (x + 1)).tv], [],
     [.cells [.osl .str 4 0 na, .osl .str 5 0 nb, .osl .late 6 0 (nl + 1 + 1), .osl .int 7 1 (na - 13 - 1), .val (.int .i64 (x + 1)), .val (.bool true)], .arr .str a, .arr .str b, .arr .late (l ++ [⟨0, 13, root0⟩] ++ [⟨1, 13, root0⟩]), .arr .int (freeL [] [] na), .arr .cset [], .arr .ent [], .arr .ptr [], .arr .int []]⟩
  | _, _ => no⟩
theorem s_l8Blocks_e : EnterOk Tryz.prog 234 := ⟨_, Tryz.func234, rfl, by decide⟩
@[go_sem] def s_l8Blocks_lv : List (List Nat) := [[2, 3, 5, 6], [2, 3, 5, 6], [3, 5, 6, 7], [3, 5, 6, 7, 8], [3, 5, 6, 7, 8, 30], [3, 5, 6, 7, 8], [3, 5, 6, 7, 8, 38], [3, 5, 6, 7, 8], [3, 5, 6, 7, 8], [3, 5, 6, 7, 59], [3, 5, 6, 7, 9], [3, 5, 6, 7, 9], [3, 5, 6, 7, 9, 10], [3, 5, 6, 7, 9, 10, 67], [3, 5, 6, 7, 9, 10], [3, 5, 6, 7, 9, 10], [3, 5, 6, 7], [3, 5, 6, 7, 11], [4, 5, 6]]
@[go_sem] noncomputable def s_l8Blocks_K : Known := ((((((Known.nil).cons 92 ctToCore s_l6Copy s_l6Copy_e).cons 232 ctFreeS s_l7Free s_l7Free_e).cons 270 ctMapT s_specCoreMap s_specCoreMap_e).cons 269 ctPutR s_putR s_putR_e).cons 268 ctParts s_l8Parts s_l8Parts_e).cons 271 ctRootT s_specCoreRoot s_specCoreRoot_e
set_option maxHeartbeats 8000000 in
theorem s_l8Blocks : Sound Tryz.prog 234 ctBlocksS := by
  have ke := s_l8Blocks_K.env []
  have kl : Lives s_l8Blocks_lv := trivial
  refine sound_intro (E := ⟨ti, s_l8Blocks_K.Γ, []⟩) ke Tryz.func234 Tryz.ntmps234 rfl (rs := [.tmp 4, .cell 5 68, .cell 6 187]) rfl ?_
  intro args os hp
  unfold ctBlocksS at hp ⊢
  dsimp only at hp ⊢
  split at hp
  · rename_i na nb nl x cs es ps y zs u a b l
    refine ⟨by simp, fun φ0 w0 => ?_⟩
    obtain ⟨⟨⟨rfl, rfl, rfl, rfl⟩, rfl⟩, ⟨hok, rfl, rfl, rfl⟩, h13, ⟨hx0, hx1⟩, hm⟩ : ((cs = [] ∧ es = [] ∧ ps = [] ∧ zs = []) ∧ y = false) ∧ ((Dk.mk a b l).ok = true ∧ na = a.length ∧ nb = b.length ∧ nl = l.length) ∧ 13 < a.length ∧ (0 ≤ x ∧ x ≤ 1000000) ∧ (Dk.mk a b l).may2 13 root0 = true := hp
    obtain ⟨h1, h2, h3⟩ : a.length ≤ 120 ∧ b.length ≤ 120 ∧ l.length ≤ 600 := Dk.ok_small hok
    obtain ⟨fr, hfr, hfl, hf0⟩ := free_none a.length h13
    have w1 : IntKind.i64.wrap (x + 1) = x + 1 := wrap_id _ (by omega) (by omega)
    have hr := root_none
    have hz : root0.size ≤ 1000000 := by decide
    have hfit := core_fit0 x u
    refine goh (And.intro hfr (And.intro w1 hfl)) ?_
    refine W_for 0 (fun i => True) (fun i => ⟨[(3, .one (.ptr 4 0)), (5, .one (.ptr 5 0)), (6, .one (.ptr 6 0)), (7, .one (.ptr 12 0)), (8, vi i)], [some (.arr .str a), some (.arr .str b), some (.arr .late l), some (.cells [.osl .str 0 0 a.length, .osl .str 1 0 b.length, .osl .late 2 0 l.length]), some (.cells [.val (.int .i64 x), .osl .cset 7 0 0, .osl .ent 8 0 0, .osl .ptr 9 0 0, .val (.bool false), .osl .int 10 0 0, .val (.int .i64 u)]), some (.cells [.val (.int .i64 0), .val (.slice none 0 0), .val (.slice none 0 0), .val (.slice none 0 0), .val (.bool false), .val (.slice none 0 0), .val (.int .i64 0)]), some (.cells [.val (.int .i64 0), .val (.int .i64 0), .val (.int .i64 0)]), some (.arr .cset []), some (.arr .ent []), some (.arr .ptr []), some (.arr .int []), some (.arr .int fr), some (.cells [.osl .str 0 0 a.length, .osl .str 1 0 b.length, .osl .late 2 0 l.length, .osl .int 11 0 (a.length - 13), .val (.int .i64 (x + 1)), .val (.bool true)])], []⟩) [some 0, some 1, some 2, some 3, some 4, some 5, some 6, some 7, some 8, some 9, some 10, some 11, some 12] (leh trivial) trivial fun i hi _ => ?_
    obtain rfl : i = 0 := by omega
    refine goh trivial ?_
    refine W_cnd ?_ ?_ <;> intro hlit <;> try (cases hlit; done)
    refine goh trivial ?_
    refine W_cnd ?_ ?_ <;> intro hlit <;> try (cases hlit; done)
    refine goh (And.intro hr (And.intro hf0 (And.intro hm (And.intro hok (And.intro hfl hfit))))) ?_
    exact finh [some 0, some 1, some 2, some 12, some 13, some 14, some 15, some 11, some 7, some 8, some 9, some 10] hfr
  · simp [no] at hp
def coR : Co := ⟨1, [], [], [], false, [13], 0⟩
@[go_sem] noncomputable def ctDoS : Ct := ⟨true, [], fun args os => match args, os with
  | [.agg [.osl .str 0 0 na, .osl .str 1 0 nb, .osl .late 2 0 nl], .agg [.val (.int .i64 x), .isl .cset cs, .isl .ent es, .isl .ptr ps, .val (.bool y), .isl .int zs, .val (.int .i64 u)]], [.arr .str a, .arr .str b, .arr .late l] =>
    ⟨((cs = [] ∧ es = [] ∧ ps = [] ∧ zs = []) ∧ y = false ∧ x = 0) ∧ ((Dk.mk a b l).ok = true ∧ na = a.length ∧ nb = b.length ∧ nl = l.length) ∧ 13 < a.length ∧ l = [],
     .tup [(comD a b).v 3, coR.v 6, vi 0], [], (comD a b).objs ++ coR.objs⟩
  | _, _ => no⟩
theorem s_l8Do_e : EnterOk Tryz.prog 188 := ⟨_, Tryz.func188, rfl, by decide⟩
@[go_sem] def s_l8Do_lv : List (List Nat) := [[2, 3, 4, 5], [2, 3, 4, 5, 7, 8], [2, 3, 4, 5, 7, 8, 22], [4, 5, 6], [2, 3, 4, 5, 7, 8, 9, 10], [2, 3, 4, 5, 7, 8, 9, 40], [4, 5, 6], [3, 4, 5, 8, 9], [3, 4, 5, 9], [3, 4, 5, 9], [4, 5, 6]]
@[go_sem] noncomputable def s_l8Do_K : Known := ((((Known.nil).cons 234 ctBlocksS s_l8Blocks s_l8Blocks_e).cons 236 ctDiskFlush s_specFlush s_specFlush_e).cons 235 ctRingS s_l8Ring s_l8Ring_e).cons 237 ctReach s_l7Reach s_l7Reach_e
set_option maxHeartbeats 8000000 in
theorem s_l8Do : Sound Tryz.prog 188 ctDoS := by
  have ke := s_l8Do_K.env []
  have kl : Lives s_l8Do_lv := trivial
  refine sound_intro (E := ⟨ti, s_l8Do_K.Γ, []⟩) ke Tryz.func188 Tryz.ntmps188 rfl (rs := [.cell 4 36, .cell 5 68, .tmp 6]) rfl ?_
  intro args os hp
  unfold ctDoS at hp ⊢
  dsimp only at hp ⊢
  split at hp
  · rename_i na nb nl x cs es ps y zs u a b l
    refine ⟨by simp, fun φ0 w0 => ?_⟩
    obtain ⟨⟨⟨rfl, rfl, rfl, rfl⟩, rfl, rfl⟩, ⟨hok, rfl, rfl, rfl⟩, h13, rfl⟩ : ((cs = [] ∧ es = [] ∧ ps = [] ∧ zs = []) ∧ y = false ∧ x = 0) ∧ ((Dk.mk a b l).ok = true ∧ na = a.length ∧ nb = b.length ∧ nl = l.length) ∧ 13 < a.length ∧ l = [] := hp
    obtain ⟨h1, h2, h3⟩ : a.length ≤ 120 ∧ b.length ≤ 120 ∧ ([] : List Late).length ≤ 600 := Dk.ok_small hok
    obtain ⟨m1, o1, o2, ⟨l2a, l2b⟩, m3, o3, ⟨l4a, l4b⟩, l4⟩ := com_facts hok h13
    have hb : blkTo 13 root0 1 = ⟨13, (sumOf root0 : Nat), 1⟩ := root1_eq
    have hr1 : root1 = ⟨13, (sumOf root0 : Nat), 1⟩ := root1_eq
    have f1 : dkFlush ⟨a, b, [⟨0, 13, root0⟩, ⟨1, 13, root0⟩]⟩ = (com1 a b).flushed := by unfold dkFlush; rw [if_pos (show (Dk.mk a b [⟨0, 13, root0⟩, ⟨1, 13, root0⟩]).ok = true from o1)]; rfl
    have f3 : dkFlush (com2 a b) = comD a b := by unfold dkFlush; rw [if_pos o3]; rfl
    have hc2 : com2 a b = ⟨(com1 a b).flushed.a, (com1 a b).flushed.b, [⟨0, 2, uberT 1 root1⟩, ⟨1, 2, uberT 1 root1⟩]⟩ := rfl
    rw [hc2] at f3
    rw [hr1] at f3 m3
    obtain ⟨⟨A2, B2, L2⟩, hA2⟩ : ∃ d, (com1 a b).flushed = d := ⟨_, rfl⟩
    have hL2 : L2 = [] := (congrArg Dk.l hA2).symm
    subst hL2
    rw [hA2] at f1 f3 o2 l2a l2b m3
    simp only at f1 f3 o2 l2a l2b m3
    obtain ⟨S, hS⟩ : ∃ S : Int, (sumOf root0 : Nat) = S := ⟨_, rfl⟩
    rw [hS] at hb f3 m3
    obtain ⟨U, hU⟩ : ∃ U, uberT 1 ⟨13, S, 1⟩ = U := ⟨_, rfl⟩
    rw [hU] at f3 m3
    obtain ⟨D4, hD4⟩ : ∃ d, comD a b = d := ⟨_, rfl⟩
    rw [hD4] at f3 l4a l4b l4
    have b1 : blkWrite ⟨A2, B2, []⟩ 2 U = ⟨A2, B2, [⟨0, 2, U⟩, ⟨1, 2, U⟩]⟩ := by unfold blkWrite; rw [if_pos o2, m3]; rfl
    have b2 : blkWrites ⟨A2, B2, []⟩ 2 U = true := by unfold blkWrites; rw [o2, m3]; rfl
    have hre := reach_none u
    have q0 : (0 : Int) + 1 = 1 := rfl
    have q1 : (1 : Int).tmod 4 = 1 := rfl
    have q2 : (1 : Int) + 1 = 2 := rfl
    have nt : (!true) = false := rfl
    repeat' first
      | with_reducible refine red ?_
      | refine W_seq ?_
      | (refine W_reg (s_l8Do_K.env []) s_l8Do_lv fun K' hK' => ?_
         simp only [go_sem, m1, hok, q0, hb, nt, root0_size, ↓reduceIte, ↓reduceDIte, reduceCtorEq, Nat.reduceAdd, Nat.reduceMul, Nat.reduceSub, Nat.reduceDiv, Nat.reduceMod, Nat.reduceLT, Nat.reduceLeDiff, Nat.reduceEqDiff, Nat.reduceBEq, Int.reduceToNat, Int.reduceLE, Int.reduceLT, Int.reduceEq, Int.reduceNe, Int.reduceNeg]
         (repeat' refine And.intro ?_ ?_) <;> try first | with_reducible refine hK' ?_ | exact shut6)
      | with_reducible refine blockG_o (by decide) ?_
    refine W_cnd ?_ ?_ <;> intro hlit <;> try (cases hlit; done)
    refine goh (And.intro f1 (And.intro q1 (And.intro q2 (And.intro hU (And.intro b1 (And.intro b2 nt)))))) ?_
    refine W_cnd ?_ ?_ <;> intro hlit <;> try (cases hlit; done)
    refine goh (And.intro f3 hre) ?_
    refine ⟨by (simp only [go_sem, hD4, coR, ↓reduceIte, reduceCtorEq, Nat.reduceAdd, Nat.reduceLT, Nat.reduceLeDiff, Nat.reduceEqDiff]) <;> trivial, [some 0, some 1, some 2, some 25, some 26, some 27, some 12, some 13, some 14, some 24], ?_⟩
    all_goals try simp only [go_sem, hD4, coR, inj_r, ↓reduceIte, reduceCtorEq, Nat.reduceAdd, Nat.reduceLT, Nat.reduceLeDiff, Nat.reduceEqDiff, Int.reduceEq]
    all_goals (repeat' refine And.intro ?_ ?_) <;> try exact shut7
  · simp [no] at hp
noncomputable def comV (a b : List ByteArray) : Dk × Co × Int := if (Dk.mk a b []).ok = true ∧ 13 < a.length then (comD a b, coR, 0) else (.nil, .nil, 5)
@[go_sem] noncomputable def ctDoNS : Ct := ⟨false, [[some .str, some .str, some .late], [none, some .cset, some .ent, some .ptr, none, some .int, none]], fun args os => match args, os with
  | [.agg [.isl .str a, .isl .str b, .isl .late l], .agg [.val (.int .i64 x), .isl .cset cs, .isl .ent es, .isl .ptr ps, .val (.bool y), .isl .int zs, .val (.int .i64 u)]], [] =>
    ⟨((cs = [] ∧ es = [] ∧ ps = [] ∧ zs = []) ∧ y = false ∧ x = 0 ∧ u = 0) ∧ (Dk.mk a b l).small ∧ l = [], .tup [(comV a b).1.v 0, (comV a b).2.1.v 3, vi (comV a b).2.2], [], (comV a b).1.objs ++ (comV a b).2.1.objs⟩
  | _, _ => no⟩
theorem needs_none (x u : Int) : needsN ⟨x, [], [], [], false, [], u⟩ = 1 := rfl
theorem s_specDo_e : EnterOk Tryz.prog 114 := ⟨_, Tryz.func114, rfl, by decide⟩
@[go_sem] def s_specDo_lv : List (List Nat) := [[2, 3, 4, 5], [2, 3, 4, 5, 24], [4, 5, 6], [2, 3, 4, 5, 30], [4, 5, 6], [2, 3, 4, 5, 7, 8, 9], [2, 3, 4, 5, 7, 8, 9, 44], [4, 5, 6], [4, 5, 6]]
@[go_sem] noncomputable def s_specDo_K : Known := ((((((Known.nil).cons 88 ctDiskOk s_specDiskOk s_specDiskOk_e).cons 89 ctCoreOk s_specCoreOk s_specCoreOk_e).cons 187 ctMay s_l8May s_l8May_e).cons 91 ctOwn s_copy s_copy_e).cons 92 ctToCore s_l6Copy s_l6Copy_e).cons 188 ctDoS s_l8Do s_l8Do_e
set_option maxHeartbeats 8000000 in
theorem s_specDo : Sound Tryz.prog 114 ctDoNS := by
  have ke := s_specDo_K.env []
  have kl : Lives s_specDo_lv := trivial
  refine sound_intro (E := ⟨ti, s_specDo_K.Γ, []⟩) ke Tryz.func114 Tryz.ntmps114 rfl (rs := [.cell 4 36, .cell 5 68, .tmp 6]) rfl ?_
  intro args os hp
  unfold ctDoNS at hp ⊢
  dsimp only at hp ⊢
  split at hp
  · rename_i a b l x cs es ps y zs u
    refine ⟨by simp, fun φ0 w0 => ?_⟩
    obtain ⟨⟨⟨rfl, rfl, rfl, rfl⟩, rfl, rfl, rfl⟩, ⟨h1, h2, h3⟩, rfl⟩ : ((cs = [] ∧ es = [] ∧ ps = [] ∧ zs = []) ∧ y = false ∧ x = 0 ∧ u = 0) ∧ (Dk.mk a b l).small ∧ l = [] := hp
    simp only at h1 h2 h3
    have hco := core0_ok (u := 0) (by decide) (by decide)
    have hfit := core_fit0 0 0
    have nt : (!true) = false := rfl
    have nf : (!false) = true := rfl
    cases hok : (Dk.mk a b []).ok with
    | false =>
      have e : comV a b = (.nil, .nil, 5) := by unfold comV; rw [if_neg (by rw [hok]; simp)]
      refine goh (And.intro hok (And.intro hco (And.intro hfit (And.intro nf nt)))) ?_
      refine W_cnd ?_ ?_ <;> intro hlit <;> try (cases hlit; done)
      refine goh trivial ?_
      refine ⟨by (simp only [go_sem, e, Dk.nil, Co.nil, ↓reduceIte, reduceCtorEq, Nat.reduceAdd, Nat.reduceLT, Nat.reduceLeDiff, Nat.reduceEqDiff]) <;> trivial, [none, none, none, none, none, none, none], ?_⟩
      all_goals try simp only [go_sem, e, Dk.nil, Co.nil, inj_r, ↓reduceIte, reduceCtorEq, Nat.reduceAdd, Nat.reduceLT, Nat.reduceLeDiff, Nat.reduceEqDiff, Int.reduceEq]
      all_goals (repeat' refine And.intro ?_ ?_) <;> try exact shut7
    | true =>
      by_cases h13 : 13 < a.length
      · have e : comV a b = (comD a b, coR, 0) := by unfold comV; rw [if_pos ⟨hok, h13⟩]
        have c1 : decide ((a.length : Int) ≤ 13) = false := by simp; omega
        obtain ⟨g1, g2, -⟩ : a.length ≤ 120 ∧ b.length ≤ 120 ∧ ([] : List Late).length ≤ 600 := Dk.ok_small hok
        obtain ⟨fr, hfr, hfl, hf0⟩ := free_none a.length h13
        have hmay : mayB ⟨a, b, []⟩ ⟨0, [], [], [], false, [], 0⟩ = true := by
          unfold mayB
          simp only [hfr, hfl, needs_none]
          simp; omega
        obtain ⟨D4, hD4⟩ : ∃ d, comD a b = d := ⟨_, rfl⟩
        rw [hD4] at e
        refine goh (And.intro hok (And.intro hco (And.intro hfit (And.intro c1 (And.intro nf nt))))) ?_
        refine W_cnd ?_ ?_ <;> intro hlit <;> try (cases hlit; done)
        refine goh (And.intro hmay nt) ?_
        refine W_cnd ?_ ?_ <;> intro hlit <;> try (cases hlit; done)
        refine goh (And.intro hok hD4) ?_
        refine W_cnd ?_ ?_ <;> intro hlit <;> try (cases hlit; done)
        refine goh trivial ?_
        refine ⟨by (simp only [go_sem, e, coR, ↓reduceIte, reduceCtorEq, Nat.reduceAdd, Nat.reduceLT, Nat.reduceLeDiff, Nat.reduceEqDiff]) <;> trivial, [some 7, some 8, some 9, some 10, some 11, some 12, some 13], ?_⟩
        all_goals try simp only [go_sem, e, coR, inj_r, ↓reduceIte, reduceCtorEq, Nat.reduceAdd, Nat.reduceLT, Nat.reduceLeDiff, Nat.reduceEqDiff, Int.reduceEq]
        all_goals (repeat' refine And.intro ?_ ?_) <;> try exact shut7
      · have e : comV a b = (.nil, .nil, 5) := by unfold comV; rw [if_neg (fun h => h13 h.2)]
        have c1 : decide ((a.length : Int) ≤ 13) = true := by simp; omega
        refine goh (And.intro hok (And.intro hco (And.intro hfit (And.intro c1 (And.intro nf nt))))) ?_
        refine W_cnd ?_ ?_ <;> intro hlit <;> try (cases hlit; done)
        refine goh trivial ?_
        refine ⟨by (simp only [go_sem, e, Dk.nil, Co.nil, ↓reduceIte, reduceCtorEq, Nat.reduceAdd, Nat.reduceLT, Nat.reduceLeDiff, Nat.reduceEqDiff]) <;> trivial, [none, none, none, none, none, none, none], ?_⟩
        all_goals try simp only [go_sem, e, Dk.nil, Co.nil, inj_r, ↓reduceIte, reduceCtorEq, Nat.reduceAdd, Nat.reduceLT, Nat.reduceLeDiff, Nat.reduceEqDiff, Int.reduceEq]
        all_goals (repeat' refine And.intro ?_ ?_) <;> try exact shut7
  · simp [no] at hp
/-- A new disk, committed. -/
noncomputable def newV (n : Int) : Dk × Co × Bool := ((comV (dkOpen n).a (dkOpen n).b).1, (comV (dkOpen n).a (dkOpen n).b).2.1, (comV (dkOpen n).a (dkOpen n).b).2.2 == 0)
@[go_sem] noncomputable def ctNewS : Ct := ⟨false, [], fun args os => match args, os with
  | [.one (.val (.int .i64 n))], [] => ⟨True, .tup [(newV n).1.v 0, (newV n).2.1.v 3, vb (newV n).2.2], [], (newV n).1.objs ++ (newV n).2.1.objs⟩
  | _, _ => no⟩
theorem open_late (n : Int) : (dkOpen n).l = [] := by unfold dkOpen; split <;> rfl
theorem open_small (n : Int) : (dkOpen n).a.length ≤ 120 ∧ (dkOpen n).b.length ≤ 120 := by
  unfold dkOpen
  split
  · simp; omega
  · simp
theorem s_specNew_e : EnterOk Tryz.prog 37 := ⟨_, Tryz.func37, rfl, by decide⟩
@[go_sem] def s_specNew_lv : List (List Nat) := [[0, 2, 3], [2, 3, 5, 6, 7], [2, 3, 4]]
@[go_sem] noncomputable def s_specNew_K : Known := ((Known.nil).cons 115 ctSpecOpen s_specOpen s_specOpen_e).cons 114 ctDoNS s_specDo s_specDo_e
set_option maxHeartbeats 8000000 in
theorem s_specNew : Sound Tryz.prog 37 ctNewS := by
  have ke := s_specNew_K.env []
  have kl : Lives s_specNew_lv := trivial
  refine sound_intro (E := ⟨ti, s_specNew_K.Γ, []⟩) ke Tryz.func37 Tryz.ntmps37 rfl (rs := [.cell 2 36, .cell 3 68, .tmp 4]) rfl ?_
  intro args os hp
  unfold ctNewS at hp ⊢
  dsimp only at hp ⊢
  split at hp
  · rename_i n
    refine ⟨by simp, fun φ0 w0 => ?_⟩
    clear hp
    have h1 := open_late n
    have h2 := open_small n
    have hnv : newV n = ((comV (dkOpen n).a (dkOpen n).b).1, (comV (dkOpen n).a (dkOpen n).b).2.1, (comV (dkOpen n).a (dkOpen n).b).2.2 == 0) := rfl
    obtain ⟨⟨a, b, l⟩, hd⟩ : ∃ d, dkOpen n = d := ⟨_, rfl⟩
    rw [hd] at h1 h2 hnv
    simp only at h1 h2 hnv
    subst h1
    obtain ⟨g1, g2⟩ := h2
    obtain ⟨⟨D, C, k⟩, hk⟩ : ∃ r, comV a b = r := ⟨_, rfl⟩
    rw [hk] at hnv
    refine goh (And.intro hd hk) ?_
    exact finh [some 5, some 6, some 7, some 8, some 9, some 10, some 11] hnv
  · simp [no] at hp
end Go.Proofs.YtmnbgppmfbnamaaGreatDoor
/- Functions: the first commit of a new disk, the program's. -/
namespace Go.Proofs.YtmnbgppmfbnamaaGreatDoor
open Go.RowKit

@[go_sem] noncomputable def ctRunN : Ct := ⟨true, [], fun args os => match args, os with
  | [.one (.ptr 0 0)], [.cells [.osl .str 1 0 na, .osl .str 2 0 nb, .osl .late 3 0 nl, .val (.int .i64 x), .osl .cset 4 0 n1, .osl .ent 5 0 n2, .osl .ptr 6 0 n3, .val (.bool y), .osl .int 7 0 n4, .val (.int .i64 u), .osl .int 8 fo nf, .val (.slice none 0 0), .val (.slice none 0 0), .val (.slice none 0 0), .val (.slice none 0 0), .val (.slice none 0 0), .val (.slice none 0 0)], .arr .str a, .arr .str b, .arr .late l, .arr .cset cs, .arr .ent es, .arr .ptr ps, .arr .int zs, .arr .int fr] =>
    ⟨((cs = [] ∧ es = [] ∧ ps = [] ∧ zs = []) ∧ (n1 = 0 ∧ n2 = 0 ∧ n3 = 0 ∧ n4 = 0) ∧ y = false) ∧ (x = 0 ∧ 0 ≤ u ∧ u ≤ 8) ∧ ((Dk.mk a b l).ok = true ∧ na = a.length ∧ nb = b.length ∧ nl = l.length) ∧ l = [] ∧ 13 < a.length ∧ (fr.getD fo ET.int.dflt = 13 ∧ fo + nf ≤ fr.length ∧ 0 < nf ∧ fr.length ≤ 4000000), vb true, [(0, some (.cells [.osl .str 1 0 na, .osl .str 2 0 nb, .val (.slice none 0 0), .val (.int .i64 1), .osl .cset 4 0 n1, .osl .ent 5 0 n2, .osl .ptr 6 0 n3, .val (.bool false), .osl .int 9 0 1, .val (.int .i64 0), .osl .int 8 (fo + 1) (nf - 1), .any, .any, .any, .any, .any, .any])), (1, some (.arr .str (comD a b).a)), (2, some (.arr .str (comD a b).b)), (3, none)], [.arr .int [13]]⟩
  | _, _ => no⟩
theorem s_runN_e : EnterOk Tryz.prog 191 := ⟨_, Tryz.func191, rfl, by decide⟩
@[go_sem] def s_runN_lv : List (List Nat) := [[0], [0, 3, 4], [0, 3, 4], [0, 3, 4], [0, 3, 27], [2], [0, 3], [0, 3, 5], [0, 3, 4, 5], [0, 3, 4, 5], [0, 3, 5, 57], [2], [0, 3, 5], [], [2]]
@[go_sem] noncomputable def s_runN_K : Known := ((((((Known.nil).cons 240 ctBlocksN s_blocksN s_blocksN_e).cons 69 ctOwn s_own s_own_e).cons 71 ctFlushC s_flushC s_flushC_e).cons 241 ctUber s_uber s_uber_e).cons 182 ctWriteBothC s_writeBothC s_writeBothC_e).cons 242 ctRoomI s_room s_room_e
set_option maxHeartbeats 8000000 in
theorem s_runN : Sound Tryz.prog 191 ctRunN := by
  have ke := s_runN_K.env []
  have kl : Lives s_runN_lv := trivial
  refine sound_intro (E := ⟨ti, s_runN_K.Γ, []⟩) ke Tryz.func191 Tryz.ntmps191 rfl (rs := [.tmp 2]) rfl ?_
  intro args os hp
  unfold ctRunN at hp ⊢
  dsimp only at hp ⊢
  split at hp
  · rename_i na nb nl x n1 n2 n3 y n4 u fo nf a b l cs es ps zs fr
    refine ⟨by simp, fun φ0 w0 => ?_⟩
    obtain ⟨⟨⟨rfl, rfl, rfl, rfl⟩, ⟨rfl, rfl, rfl, rfl⟩, rfl⟩, ⟨rfl, hu0, hu1⟩, ⟨hok, rfl, rfl, rfl⟩, rfl, h13, ⟨hf0, g1, g2, g3⟩⟩ : ((cs = [] ∧ es = [] ∧ ps = [] ∧ zs = []) ∧ (n1 = 0 ∧ n2 = 0 ∧ n3 = 0 ∧ n4 = 0) ∧ y = false) ∧ (x = 0 ∧ 0 ≤ u ∧ u ≤ 8) ∧ ((Dk.mk a b l).ok = true ∧ na = a.length ∧ nb = b.length ∧ nl = l.length) ∧ l = [] ∧ 13 < a.length ∧ (fr.getD fo ET.int.dflt = 13 ∧ fo + nf ≤ fr.length ∧ 0 < nf ∧ fr.length ≤ 4000000) := hp
    obtain ⟨h1, h2, h3⟩ : a.length ≤ 120 ∧ b.length ≤ 120 ∧ ([] : List Late).length ≤ 600 := Dk.ok_small hok
    obtain ⟨m1, o1, o2, ⟨l2a, l2b⟩, m3, o3, ⟨l4a, l4b⟩, l4⟩ := com_facts hok h13
    have hb : blkTo 13 root0 1 = ⟨13, (sumOf root0 : Nat), 1⟩ := root1_eq
    have hr1 : root1 = ⟨13, (sumOf root0 : Nat), 1⟩ := root1_eq
    have hc1 : com1 a b = ⟨a, b, [⟨0, 13, root0⟩, ⟨1, 13, root0⟩]⟩ := rfl
    have hc2 : com2 a b = ⟨(com1 a b).flushed.a, (com1 a b).flushed.b, [⟨0, 2, uberT 1 root1⟩, ⟨1, 2, uberT 1 root1⟩]⟩ := rfl
    have f3 : (com2 a b).flushed = comD a b := rfl
    rw [hc2] at f3 o3
    rw [hr1] at f3 m3 o3
    obtain ⟨⟨A2, B2, L2⟩, hA2⟩ : ∃ d, (com1 a b).flushed = d := ⟨_, rfl⟩
    have hL2 : L2 = [] := (congrArg Dk.l hA2).symm
    subst hL2
    rw [hA2] at f3 o2 o3 l2a l2b m3
    rw [hc1] at hA2 o1
    simp only at f3 o2 o3 l2a l2b m3
    obtain ⟨S, hS⟩ : ∃ S : Int, (sumOf root0 : Nat) = S := ⟨_, rfl⟩
    rw [hS] at hb f3 m3 o3
    obtain ⟨U, hU⟩ : ∃ U, uberT 1 ⟨13, S, 1⟩ = U := ⟨_, rfl⟩
    rw [hU] at f3 m3 o3
    obtain ⟨D4, hD4⟩ : ∃ d, comD a b = d := ⟨_, rfl⟩
    rw [hD4] at f3 l4a l4b l4
    have hfit := core_fit0 0 u
    have hro := room_none hu0 hu1
    have hrz := roomZ_none hu0 hu1
    have q0 : (0 : Int) + 1 = 1 := rfl
    have q1 : (1 : Int).tmod 4 = 1 := rfl
    have q2 : (1 : Int) + 1 = 2 := rfl
    have z0 : ([13] : List Int) ++ zeros 0 = [13] := rfl
    have nt : (!true) = false := rfl
    have p1 : IntKind.i64.wrap 1 = 1 := wrap_id _ (by decide) (by decide)
    have p2 : IntKind.i64.wrap 2 = 2 := wrap_id _ (by decide) (by decide)
    refine W_le (σ' := ⟨[(0, .one (.ptr 0 0))], [some (.cells [.osl .str 1 0 a.length, .osl .str 2 0 b.length, .osl .late 3 0 0, .val (.int .i64 0), .osl .cset 4 0 0, .osl .ent 5 0 0, .osl .ptr 6 0 0, .val (.bool false), .osl .int 7 0 0, .val (.int .i64 u), .osl .int 8 fo nf, .any, .any, .any, .any, .any, .any]), some (.arr .str a), some (.arr .str b), some (.arr .late []), some (.arr .cset []), some (.arr .ent []), some (.arr .ptr []), some (.arr .int []), some (.arr .int fr)], []⟩) [some 0, some 1, some 2, some 3, some 4, some 5, some 6, some 7, some 8] (leh trivial) ?_
    refine goh (And.intro hf0 (And.intro m1 (And.intro q0 (And.intro hb nt)))) ?_
    refine W_cnd ?_ ?_ <;> intro hlit <;> try (cases hlit; done)
    refine W_le (σ' := ⟨[(0, .one (.ptr 0 0)), (3, .one (.ptr 10 0))], [some (.cells [.osl .str 1 0 a.length, .osl .str 2 0 b.length, .osl .late 9 0 2, .val (.int .i64 0), .osl .cset 4 0 0, .osl .ent 5 0 0, .osl .ptr 6 0 0, .val (.bool false), .osl .int 7 0 0, .val (.int .i64 u), .osl .int 8 (fo + 1) (nf - 1), .any, .any, .any, .any, .any, .any]), some (.arr .str a), some (.arr .str b), none, some (.arr .cset []), some (.arr .ent []), some (.arr .ptr []), some (.arr .int []), some (.arr .int fr), some (.arr .late [⟨0, 13, root0⟩, ⟨1, 13, root0⟩]), some (.cells [.val (.int .i64 13), .val (.int .i64 S), .val (.int .i64 1)])], [0, 1, 2, 3]⟩) [some 0, some 1, some 2, some 3, some 4, some 5, some 6, some 7, some 8, some 9, some 10] (leh trivial) ?_
    iterate 6 (all_goals try first
      | with_reducible refine red ?_
      | refine W_seq ?_
      | (refine W_reg (s_runN_K.env []) s_runN_lv fun K' hK' => ?_
         simp only [go_sem, hA2, o1, Dk.small, ↓reduceIte, ↓reduceDIte, reduceCtorEq, Nat.reduceAdd, Nat.reduceMul, Nat.reduceSub, Nat.reduceDiv, Nat.reduceMod, Nat.reduceLT, Nat.reduceLeDiff, Nat.reduceEqDiff, Nat.reduceBEq, Int.reduceToNat, Int.reduceLE, Int.reduceLT, Int.reduceEq, Int.reduceNe, Int.reduceNeg]
         (repeat' refine And.intro ?_ ?_) <;> try first | with_reducible refine hK' ?_ | exact shut6)
      | with_reducible refine blockG_o (by decide) ?_)
    refine W_le (σ' := ⟨[(0, .one (.ptr 0 0)), (3, .one (.ptr 10 0))], [some (.cells [.osl .str 1 0 A2.length, .osl .str 2 0 B2.length, .osl .late 9 0 0, .val (.int .i64 0), .osl .cset 4 0 0, .osl .ent 5 0 0, .osl .ptr 6 0 0, .val (.bool false), .osl .int 7 0 0, .val (.int .i64 u), .osl .int 8 (fo + 1) (nf - 1), .any, .any, .any, .any, .any, .any]), some (.arr .str A2), some (.arr .str B2), none, some (.arr .cset []), some (.arr .ent []), some (.arr .ptr []), some (.arr .int []), some (.arr .int fr), some (.arr .late []), some (.cells [.val (.int .i64 13), .val (.int .i64 S), .val (.int .i64 1)])], [0, 1, 2, 3]⟩) [some 0, some 1, some 2, some 3, some 4, some 5, some 6, some 7, some 8, none, some 10] (leh (And.intro l2a l2b)) ?_
    refine goh (And.intro q0 (And.intro q1 (And.intro q2 (And.intro p1 (And.intro p2 (And.intro hU (And.intro m3 nt))))))) ?_

    refine W_cnd ?_ ?_ <;> intro hlit <;> try (cases hlit; done)
    refine W_le (σ' := ⟨[(0, .one (.ptr 0 0)), (3, .one (.ptr 10 0)), (5, vi 1)], [some (.cells [.osl .str 1 0 A2.length, .osl .str 2 0 B2.length, .osl .late 9 0 2, .val (.int .i64 0), .osl .cset 4 0 0, .osl .ent 5 0 0, .osl .ptr 6 0 0, .val (.bool false), .osl .int 7 0 0, .val (.int .i64 u), .osl .int 8 (fo + 1) (nf - 1), .any, .any, .any, .any, .any, .any]), some (.arr .str A2), some (.arr .str B2), none, some (.arr .cset []), some (.arr .ent []), some (.arr .ptr []), some (.arr .int []), some (.arr .int fr), some (.arr .late [⟨0, 2, U⟩, ⟨1, 2, U⟩]), some (.cells [.val (.int .i64 13), .val (.int .i64 S), .val (.int .i64 1)])], [0, 1, 2, 3]⟩) [some 0, some 1, some 2, some 3, some 4, some 5, some 6, some 7, some 8, some 11, some 10] (leh trivial) ?_
    refine goh (And.intro f3 (And.intro o3 (And.intro hro (And.intro hrz (And.intro z0 (And.intro hfit (And.intro l2a l2b))))))) ?_

    exact finh [some 0, some 1, some 2, some 3, some 4, some 5, some 6, some 7, some 8, some 11] (And.intro hD4 (And.intro z0 (And.intro l4a l4b)))
  · simp [no] at hp
@[go_sem] noncomputable def ctNewCommitN : Ct := ⟨false, [[some .str, some .str, some .late], [none, some .cset, some .ent, some .ptr, none, some .int, none]], fun args os => match args, os with
  | [.agg [.isl .str a, .isl .str b, .isl .late l], .agg [.val (.int .i64 x), .isl .cset cs, .isl .ent es, .isl .ptr ps, .val (.bool y), .isl .int zs, .val (.int .i64 u)]], [] => ⟨((cs = [] ∧ es = [] ∧ ps = [] ∧ zs = []) ∧ y = false ∧ x = 0 ∧ u = 0) ∧ (Dk.mk a b l).ok = true ∧ 13 < a.length ∧ l = [], .tup [.one (.ptr 0 0), vb true], [], [.cells [.osl .str 1 0 a.length, .osl .str 2 0 b.length, .osl .late 3 0 0, .val (.int .i64 0), .osl .cset 4 0 0, .osl .ent 5 0 0, .osl .ptr 6 0 0, .val (.bool false), .osl .int 7 0 0, .val (.int .i64 0), .osl .int 8 0 (a.length - 13), .val (.slice none 0 0), .val (.slice none 0 0), .val (.slice none 0 0), .val (.slice none 0 0), .val (.slice none 0 0), .val (.slice none 0 0)], .arr .str a, .arr .str b, .arr .late [], .arr .cset [], .arr .ent [], .arr .ptr [], .arr .int [], .arr .int (freeL [] [] a.length)]⟩
  | _, _ => no⟩
theorem s_newCommitN_e : EnterOk Tryz.prog 190 := ⟨_, Tryz.func190, rfl, by decide⟩
@[go_sem] def s_newCommitN_lv : List (List Nat) := [[2, 3], [2, 3, 6], [2, 3, 6, 22], [4, 5], [4, 5]]
@[go_sem] noncomputable def s_newCommitN_K : Known := ((((Known.nil).cons 238 ctFree s_free s_free_e).cons 239 ctNeeds s_needs s_needs_e).cons 69 ctOwn s_own s_own_e).cons 98 ctToCore s_ownCore s_ownCore_e
set_option maxHeartbeats 8000000 in
theorem s_newCommitN : Sound Tryz.prog 190 ctNewCommitN := by
  have ke := s_newCommitN_K.env []
  have kl : Lives s_newCommitN_lv := trivial
  refine sound_intro (E := ⟨ti, s_newCommitN_K.Γ, []⟩) ke Tryz.func190 Tryz.ntmps190 rfl (rs := [.tmp 4, .tmp 5]) rfl ?_
  intro args os hp
  unfold ctNewCommitN at hp ⊢
  dsimp only at hp ⊢
  split at hp
  · rename_i a b l x cs es ps y zs u
    refine ⟨by simp, fun φ0 w0 => ?_⟩
    obtain ⟨⟨⟨rfl, rfl, rfl, rfl⟩, rfl, rfl, rfl⟩, hok, h13, rfl⟩ : ((cs = [] ∧ es = [] ∧ ps = [] ∧ zs = []) ∧ y = false ∧ x = 0 ∧ u = 0) ∧ (Dk.mk a b l).ok = true ∧ 13 < a.length ∧ l = [] := hp
    obtain ⟨h1, h2, h3⟩ : a.length ≤ 120 ∧ b.length ≤ 120 ∧ ([] : List Late).length ≤ 600 := Dk.ok_small hok
    have hco := core0_ok (u := 0) (by decide) (by decide)
    have hfit := core_fit0 0 0
    obtain ⟨fr, hfr, hfl, hf0⟩ := free_none a.length h13
    have has : Asc [] := ⟨fun i _ hi => by simp at hi, fun i hi => by simp at hi⟩
    have hup : UpI [] := fun i j _ hj => by simp at hj
    have hnd : (if (Co.mk 0 [] [] [] false [] 0).ok = true then (needsN ⟨0, [], [], [], false, [], 0⟩ : Int) else 0) = 1 := by rw [if_pos hco]; rfl
    have c0 : ((0 : Int) == 1000000) = false := rfl
    have c1 : decide (((a.length - 13 : Nat) : Int) < 1) = false := by simp; omega
    refine goh (And.intro hfr (And.intro hfl (And.intro hnd (And.intro c0 (And.intro c1 (And.intro hfit (And.intro has hup))))))) ?_
    refine W_cnd ?_ ?_ <;> intro hlit <;> try (cases hlit; done)
    refine goh (And.intro hfr hfl) ?_
    exact finh [some 10, some 3, some 4, some 5, some 6, some 7, some 8, some 9, some 2] hfr
  · simp [no] at hp
theorem s_implDo_e : EnterOk Tryz.prog 116 := ⟨_, Tryz.func116, rfl, by decide⟩
@[go_sem] def s_implDo_lv : List (List Nat) := [[2, 3, 4, 5], [2, 3, 4, 5, 12], [4, 5, 6], [2, 3, 4, 5, 7, 8], [2, 3, 4, 5, 7, 27], [4, 5, 6], [4, 5, 6]]
@[go_sem] noncomputable def s_implDo_K : Known := (((((Known.nil).cons 189 ctCommitOk s_commitOk s_commitOk_e).cons 190 ctNewCommitN s_newCommitN s_newCommitN_e).cons 191 ctRunN s_runN s_runN_e).cons 69 ctOwn s_own s_own_e).cons 98 ctToCore s_ownCore s_ownCore_e
set_option maxHeartbeats 8000000 in
theorem s_implDo : Sound Tryz.prog 116 ctDoNS := by
  have ke := s_implDo_K.env []
  have kl : Lives s_implDo_lv := trivial
  refine sound_intro (E := ⟨ti, s_implDo_K.Γ, []⟩) ke Tryz.func116 Tryz.ntmps116 rfl (rs := [.cell 4 36, .cell 5 68, .tmp 6]) rfl ?_
  intro args os hp
  unfold ctDoNS at hp ⊢
  dsimp only at hp ⊢
  split at hp
  · rename_i a b l x cs es ps y zs u
    refine ⟨by simp, fun φ0 w0 => ?_⟩
    obtain ⟨⟨⟨rfl, rfl, rfl, rfl⟩, rfl, rfl, rfl⟩, ⟨h1, h2, h3⟩, rfl⟩ : ((cs = [] ∧ es = [] ∧ ps = [] ∧ zs = []) ∧ y = false ∧ x = 0 ∧ u = 0) ∧ (Dk.mk a b l).small ∧ l = [] := hp
    simp only at h1 h2 h3
    have hco := core0_ok (u := 0) (by decide) (by decide)
    have hfit := core_fit0 0 0
    have nt : (!true) = false := rfl
    have nf : (!false) = true := rfl
    by_cases hd : (Dk.mk a b []).ok = true ∧ 13 < a.length
    · obtain ⟨hok, h13⟩ := hd
      have e : comV a b = (comD a b, coR, 0) := by unfold comV; rw [if_pos ⟨hok, h13⟩]
      have hpb : poolB ⟨⟨a, b, []⟩, ⟨0, [], [], [], false, [], 0⟩, true⟩ = true := by unfold poolB; simp only [hok, hco, decide_eq_true h13, Bool.and_self]
      obtain ⟨g1, g2, -⟩ : a.length ≤ 120 ∧ b.length ≤ 120 ∧ ([] : List Late).length ≤ 600 := Dk.ok_small hok
      obtain ⟨-, -, -, -, -, -, ⟨l4a, l4b⟩, l4⟩ := com_facts hok h13
      obtain ⟨fr, hfr, hfl, hf0⟩ := free_none a.length h13
      obtain ⟨D4, hD4⟩ : ∃ d, comD a b = d := ⟨_, rfl⟩
      rw [hD4] at e l4a l4b l4
      refine goh (And.intro hpb (And.intro hfit nt)) ?_
      refine W_cnd ?_ ?_ <;> intro hlit <;> try (cases hlit; done)
      refine goh (And.intro hok (And.intro hfr (And.intro hf0 (And.intro hfl (And.intro hD4 nt))))) ?_
      refine W_cnd ?_ ?_ <;> intro hlit <;> try (cases hlit; done)
      have t1 : D4.a.take a.length = D4.a := List.take_of_length_le (by omega)
      have t2 : D4.b.take b.length = D4.b := List.take_of_length_le (by omega)
      refine goh (And.intro t1 (And.intro t2 (And.intro l4a l4b))) ?_
      refine ⟨by (simp only [go_sem, e, coR, l4a, l4b, l4, ↓reduceIte, reduceCtorEq, Nat.reduceAdd, Nat.reduceLT, Nat.reduceLeDiff, Nat.reduceEqDiff]) <;> trivial, [some 14, some 15, some 16, some 17, some 18, some 19, some 20], ?_⟩
      all_goals try simp only [go_sem, e, coR, l4a, l4b, l4, inj_r, ↓reduceIte, reduceCtorEq, Nat.reduceAdd, Nat.reduceLT, Nat.reduceLeDiff, Nat.reduceEqDiff, Int.reduceEq]
      all_goals (repeat' refine And.intro ?_ ?_) <;> try exact shut7
    · have e : comV a b = (.nil, .nil, 5) := by unfold comV; rw [if_neg hd]
      have hpb : poolB ⟨⟨a, b, []⟩, ⟨0, [], [], [], false, [], 0⟩, true⟩ = false := by
        unfold poolB
        cases hok : (Dk.mk a b []).ok with
        | false => rfl
        | true =>
          have : decide (13 < a.length) = false := decide_eq_false fun h => hd ⟨hok, h⟩
          simp only [this, Bool.false_and, Bool.and_false]
      refine goh (And.intro hpb (And.intro hfit nf)) ?_
      refine W_cnd ?_ ?_ <;> intro hlit <;> try (cases hlit; done)
      refine goh trivial ?_
      refine ⟨by (simp only [go_sem, e, Dk.nil, Co.nil, ↓reduceIte, reduceCtorEq, Nat.reduceAdd, Nat.reduceLT, Nat.reduceLeDiff, Nat.reduceEqDiff]) <;> trivial, [none, none, none, none, none, none, none], ?_⟩
      all_goals try simp only [go_sem, e, Dk.nil, Co.nil, inj_r, ↓reduceIte, reduceCtorEq, Nat.reduceAdd, Nat.reduceLT, Nat.reduceLeDiff, Nat.reduceEqDiff, Int.reduceEq]
      all_goals (repeat' refine And.intro ?_ ?_) <;> try exact shut7
  · simp [no] at hp
theorem s_implNew_e : EnterOk Tryz.prog 38 := ⟨_, Tryz.func38, rfl, by decide⟩
@[go_sem] def s_implNew_lv : List (List Nat) := [[0, 2, 3], [2, 3, 5, 6, 7], [2, 3, 4]]
@[go_sem] noncomputable def s_implNew_K : Known := ((Known.nil).cons 14 ctSpecOpen s_diskOpen s_diskOpen_e).cons 116 ctDoNS s_implDo s_implDo_e
set_option maxHeartbeats 8000000 in
theorem s_implNew : Sound Tryz.prog 38 ctNewS := by
  have ke := s_implNew_K.env []
  have kl : Lives s_implNew_lv := trivial
  refine sound_intro (E := ⟨ti, s_implNew_K.Γ, []⟩) ke Tryz.func38 Tryz.ntmps38 rfl (rs := [.cell 2 36, .cell 3 68, .tmp 4]) rfl ?_
  intro args os hp
  unfold ctNewS at hp ⊢
  dsimp only at hp ⊢
  split at hp
  · rename_i n
    refine ⟨by simp, fun φ0 w0 => ?_⟩
    clear hp
    have h1 := open_late n
    have h2 := open_small n
    have hnv : newV n = ((comV (dkOpen n).a (dkOpen n).b).1, (comV (dkOpen n).a (dkOpen n).b).2.1, (comV (dkOpen n).a (dkOpen n).b).2.2 == 0) := rfl
    obtain ⟨⟨a, b, l⟩, hd⟩ : ∃ d, dkOpen n = d := ⟨_, rfl⟩
    rw [hd] at h1 h2 hnv
    simp only at h1 h2 hnv
    subst h1
    obtain ⟨g1, g2⟩ := h2
    obtain ⟨⟨D, C, k⟩, hk⟩ : ∃ r, comV a b = r := ⟨_, rfl⟩
    rw [hk] at hnv
    refine goh (And.intro hd hk) ?_
    exact finh [some 5, some 6, some 7, some 8, some 9, some 10, some 11] hnv
  · simp [no] at hp
end Go.Proofs.YtmnbgppmfbnamaaGreatDoor
/- Plain facts: the lists of a new disk are not long. -/
namespace Go.Proofs.YtmnbgppmfbnamaaGreatDoor
open Go.RowKit

theorem mid_new (n : Int) : (newV n).1.mid ∧ (newV n).2.1.mid := by
  have h := open_small n
  unfold newV
  simp only
  unfold comV
  split
  · rename_i hc
    obtain ⟨hok, h13⟩ := hc
    obtain ⟨-, -, -, -, -, -, ⟨l4a, l4b⟩, l4⟩ := com_facts hok h13
    exact ⟨⟨by rw [l4a]; omega, by rw [l4b]; omega, by rw [l4]; simp⟩, ⟨Nat.zero_le _, Nat.zero_le _, Nat.zero_le _, by show 1 ≤ _; omega⟩⟩
  · exact ⟨Dk.mid_nil, Co.mid_nil⟩
end Go.Proofs.YtmnbgppmfbnamaaGreatDoor
