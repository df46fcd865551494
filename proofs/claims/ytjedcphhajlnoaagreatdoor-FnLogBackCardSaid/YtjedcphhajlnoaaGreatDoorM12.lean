import Derived.Test.YtjedcphhajlnoaaGreatDoorM7
import Derived.Test.YtjedcphhajlnoaaGreatDoorM9
import Derived.Test.YtjedcphhajlnoaaGreatDoorM10
import Derived.Test.YtjedcphhajlnoaaGreatDoorM11
set_option linter.unusedSimpArgs false
set_option linter.unusedVariables false
set_option linter.unusedSectionVars false
/- Functions: a disk that is drawn. -/
namespace Go.Proofs.YtjedcphhajlnoaaGreatDoor
open Go.RowKit

@[go_sem] theorem Dk.eta (d : Dk) : Dk.mk d.a d.b d.l = d := rfl
def dstep1 (bs : List UInt8) (d : Dk) (p : Int) : Dk := dkWrite d (pickV bs p 2) (pickV bs (p + 1) 6) (textV bs (p + 2))
def dstep (bs : List UInt8) (d : Dk) (p : Int) : Dk × Int :=
  if pickV bs (textP bs (p + 2)) 8 = 0 then (dkFlush (dstep1 bs d p), textP bs (p + 2) + 1)
  else if pickV bs (textP bs (p + 2)) 8 = 1 then (dkFall (dstep1 bs d p) (fateV bs (textP bs (p + 2) + 1)), fateP bs (textP bs (p + 2) + 1))
  else (dstep1 bs d p, textP bs (p + 2) + 1)
def dsteps (bs : List UInt8) : Nat → Dk → Int → Dk × Int
  | 0, d, p => (d, p)
  | i + 1, d, p => dsteps bs i (dstep bs d p).1 (dstep bs d p).2
def bend (bs : List UInt8) (d : Dk) (p : Int) : Dk × Int :=
  if pickV bs p 24 = 0 then (⟨d.a, d.b ++ [⟨#[]⟩], d.l⟩, p + 1)
  else if pickV bs p 24 = 1 then (⟨d.a, d.b, d.l ++ [⟨ET.int.at [-1, 2, 0] (pickV bs (p + 1) 3).toNat, ET.int.at [-1, 6, 0] (pickV bs (p + 2) 3).toNat, ⟨#[]⟩⟩]⟩, p + 3)
  else if pickV bs p 24 = 2 then (⟨[], d.b, d.l⟩, p + 1)
  else (d, p + 1)
def drawDisk0 (bs : List UInt8) (p : Int) : Dk × Int := dsteps bs (pickV bs (p + 1) 14).toNat (dkOpen (1 + pickV bs p 6)) (p + 2)
/-- A disk that is drawn, and where the reader goes on. -/
def drawDisk (bs : List UInt8) (p : Int) : Dk × Int := bend bs (drawDisk0 bs p).1 (drawDisk0 bs p).2
/-- Few sectors, few writes. -/
def Dk.few (d : Dk) (n : Nat) : Prop := d.a.length ≤ 6 ∧ d.b.length ≤ 6 ∧ d.l.length ≤ n
theorem Dk.few_write {d : Dk} {n : Nat} (h : d.few n) (s k : Int) (t : ByteArray) : (dkWrite d s k t).few (n + 1) := by
  obtain ⟨h1, h2, h3⟩ := h
  unfold dkWrite
  split
  · split
    · refine ⟨h1, h2, ?_⟩
      show (d.l ++ [_]).length ≤ n + 1
      rw [List.length_append]; simp only [List.length_cons, List.length_nil]; omega
    · exact ⟨h1, h2, by omega⟩
  · exact ⟨Nat.zero_le _, Nat.zero_le _, Nat.zero_le _⟩
theorem Dk.few_flush {d : Dk} {n : Nat} (h : d.few n) : (dkFlush d).few n := by
  obtain ⟨h1, h2, h3⟩ := h
  unfold dkFlush
  split
  · have := d.done_len d.l.length
    exact ⟨by show (d.done _).1.length ≤ 6; omega, by show (d.done _).2.length ≤ 6; omega, Nat.zero_le _⟩
  · exact ⟨Nat.zero_le _, Nat.zero_le _, Nat.zero_le _⟩
theorem Dk.few_fall {d : Dk} {n : Nat} (h : d.few n) (f : List Int) : (dkFall d f).few n := by
  obtain ⟨h1, h2, h3⟩ := h
  unfold dkFall
  split
  · have := d.fallN_len f (min d.l.length f.length)
    exact ⟨by show (d.fallN f _).1.length ≤ 6; omega, by show (d.fallN f _).2.length ≤ 6; omega, Nat.zero_le _⟩
  · exact ⟨Nat.zero_le _, Nat.zero_le _, Nat.zero_le _⟩
theorem dstep_few (bs : List UInt8) (d : Dk) (p : Int) {n : Nat} (h : d.few n) : (dstep bs d p).1.few (n + 1) := by
  have h1 : (dstep1 bs d p).few (n + 1) := Dk.few_write h _ _ _
  unfold dstep
  split
  · exact Dk.few_flush h1
  · split
    · exact Dk.few_fall h1 _
    · exact h1
theorem dstep_p (bs : List UInt8) (d : Dk) (p : Int) (hp : 0 ≤ p) (hp2 : p ≤ 800000) (hb : bs.length ≤ 2000) : p + 1 ≤ (dstep bs d p).2 ∧ (dstep bs d p).2 ≤ p + 30 := by
  have h1 := textP_in bs (p + 2) ⟨by omega, by omega, hb⟩
  have h2 := fateP_in bs (textP bs (p + 2) + 1) ⟨by omega, by omega, hb⟩
  unfold dstep
  split
  · simp only; omega
  · split
    · simp only; omega
    · simp only; omega
theorem dkOpen_few (n : Int) (h : n ≤ 6) : (dkOpen n).few 0 := by
  unfold dkOpen
  split
  · exact ⟨by show (List.replicate _ _).length ≤ 6; rw [List.length_replicate]; omega, by show (List.replicate _ _).length ≤ 6; rw [List.length_replicate]; omega, Nat.zero_le _⟩
  · exact ⟨Nat.zero_le _, Nat.zero_le _, Nat.zero_le _⟩
theorem dsteps_all (bs : List UInt8) (hb : bs.length ≤ 2000) : ∀ (i : Nat) (d : Dk) (p : Int) (n : Nat), 0 ≤ p → p + 30 * i ≤ 800000 → d.few n → (dsteps bs i d p).1.few (n + i) ∧ p ≤ (dsteps bs i d p).2 ∧ (dsteps bs i d p).2 ≤ p + 30 * i
  | 0, d, p, n, h0, h1, h2 => by
    refine ⟨h2, Int.le_refl _, ?_⟩
    show p ≤ _
    omega
  | i + 1, d, p, n, h0, h1, h2 => by
    have hs := dstep_p bs d p h0 (by omega) hb
    obtain ⟨k1, k2, k3⟩ := dsteps_all bs hb i (dstep bs d p).1 (dstep bs d p).2 (n + 1) (by omega) (by omega) (dstep_few bs d p h2)
    refine ⟨?_, ?_, ?_⟩
    · have : n + (i + 1) = n + 1 + i := by omega
      rw [this]; exact k1
    · show p ≤ (dsteps bs i _ _).2; omega
    · show (dsteps bs i _ _).2 ≤ _; omega
def rdOk2 (bs : List UInt8) (p : Int) : Prop := 0 ≤ p ∧ p ≤ 700000 ∧ bs.length ≤ 2000
theorem drawDisk0_all (bs : List UInt8) (p : Int) (h : rdOk2 bs p) : (drawDisk0 bs p).1.few 13 ∧ p ≤ (drawDisk0 bs p).2 ∧ (drawDisk0 bs p).2 ≤ p + 500 := by
  obtain ⟨h1, h2, h3⟩ := h
  have h7 := pickV_in bs p 6 h1 (by omega) (by omega)
  have h8 := pickV_in bs (p + 1) 14 (by omega) (by omega) (by omega)
  obtain ⟨k1, k2, k3⟩ := dsteps_all bs h3 (pickV bs (p + 1) 14).toNat (dkOpen (1 + pickV bs p 6)) (p + 2) 0 (by omega) (by omega) (dkOpen_few _ (by omega))
  unfold drawDisk0
  refine ⟨⟨k1.1, k1.2.1, Nat.le_trans k1.2.2 (by omega)⟩, by omega, by omega⟩
theorem drawDisk_all (bs : List UInt8) (p : Int) (h : rdOk2 bs p) : ((drawDisk bs p).1.a.length ≤ 7 ∧ (drawDisk bs p).1.b.length ≤ 7 ∧ (drawDisk bs p).1.l.length ≤ 14) ∧ p ≤ (drawDisk bs p).2 ∧ (drawDisk bs p).2 ≤ p + 503 := by
  obtain ⟨⟨k1, k2, k3⟩, k4, k5⟩ := drawDisk0_all bs p h
  unfold drawDisk bend
  split
  · refine ⟨⟨by simp only; omega, ?_, by simp only; omega⟩, by simp only; omega, by simp only; omega⟩
    simp only [List.length_append, List.length_cons, List.length_nil]; omega
  · split
    · refine ⟨⟨by simp only; omega, by simp only; omega, ?_⟩, by simp only; omega, by simp only; omega⟩
      simp only [List.length_append, List.length_cons, List.length_nil]; omega
    · split
      · exact ⟨⟨Nat.zero_le _, by simp only; omega, by simp only; omega⟩, by simp only; omega, by simp only; omega⟩
      · exact ⟨⟨by simp only; omega, by simp only; omega, by simp only; omega⟩, by simp only; omega, by simp only; omega⟩
@[go_sem] def ctDrawDisk : Ct := ⟨true, [], fun args os => match args, os with
  | [.one (.ptr 0 0)], [.cells [.isl .byte bs, .val (.int .i64 p)]] => ⟨rdOk2 bs p, (drawDisk bs p).1.v 1, [(0, some (rdO bs (drawDisk bs p).2))], (drawDisk bs p).1.objs⟩
  | _, _ => no⟩
@[go_sem] def sgDraw (bs : List UInt8) (p : Int) (i : Nat) (d : Dk) : Sg := ⟨[(0, .one (.ptr 0 0)), (2, .one (.ptr 1 0)), (3, .one (.ptr 2 0)), (4, vi i)],
  [some (rdO bs p), some (.cells [.val (.slice none 0 0), .val (.slice none 0 0), .val (.slice none 0 0)]), some (.cells [.osl .str 3 0 d.a.length, .osl .str 4 0 d.b.length, .osl .late 5 0 d.l.length]), some (.arr .str d.a), some (.arr .str d.b), some (.arr .late d.l)], [0]⟩
end Go.Proofs.YtjedcphhajlnoaaGreatDoor
/- Functions: a disk of blocks that is drawn. -/
namespace Go.Proofs.YtjedcphhajlnoaaGreatDoor
open Go.RowKit

def l3s : List ByteArray := [⟨#[97]⟩, ⟨#[98, 98]⟩, ⟨#[120, 32, 121]⟩, ⟨#[97]⟩, ⟨#[]⟩]
/-- n blocks written, from place i on. -/
def l3W (bs : List UInt8) : Nat → Int → Dk → Int → Dk
  | 0, _, d, _ => d
  | n + 1, i, d, p => l3W bs n (i + 1) (blkWrite d i (ET.str.at l3s (pickV bs p 5).toNat)) (p + 1)
/-- n writes. -/
def l3V (bs : List UInt8) : Nat → Dk → Int → Dk × Int
  | 0, d, p => (d, p)
  | n + 1, d, p => l3V bs n (dstep1 bs d p) (textP bs (p + 2))
def l3a (bs : List UInt8) (p : Int) : Dk := l3W bs 5 1 (dkOpen 6) p
def l3b (bs : List UInt8) (p : Int) : Dk := if pickV bs (p + 5) 2 = 0 then dkFlush (l3a bs p) else l3a bs p
def l3c (bs : List UInt8) (p : Int) : Dk × Int := l3V bs (pickV bs (p + 6) 3).toNat (l3b bs p) (p + 7)
def blkDisk (bs : List UInt8) (p : Int) : Dk × Int := (if pickV bs (l3c bs p).2 16 = 0 then ⟨[], (l3c bs p).1.b, (l3c bs p).1.l⟩ else (l3c bs p).1, (l3c bs p).2 + 1)
theorem few_blk {d : Dk} {n : Nat} (h : d.few n) (k : Int) (t : ByteArray) : (blkWrite d k t).few (n + 2) := by
  obtain ⟨h1, h2, h3⟩ := h
  unfold blkWrite
  split
  · split
    · refine ⟨h1, h2, ?_⟩
      show (d.l ++ [_] ++ [_]).length ≤ n + 2
      simp only [List.length_append, List.length_cons, List.length_nil]; omega
    · exact ⟨h1, h2, by omega⟩
  · exact ⟨Nat.zero_le _, Nat.zero_le _, Nat.zero_le _⟩
theorem few_mono {d : Dk} {n m : Nat} (h : d.few n) (hm : n ≤ m) : d.few m := ⟨h.1, h.2.1, Nat.le_trans h.2.2 hm⟩
theorem l3W_few (bs : List UInt8) : ∀ (n : Nat) (i : Int) (d : Dk) (p : Int) (m : Nat), d.few m → (l3W bs n i d p).few (m + 2 * n)
  | 0, _, _, _, _, h => h
  | n + 1, i, d, p, m, h => few_mono (l3W_few bs n (i + 1) _ (p + 1) (m + 2) (few_blk h _ _)) (by omega)
theorem l3V_all (bs : List UInt8) (hb : bs.length ≤ 2000) : ∀ (n : Nat) (d : Dk) (p : Int) (m : Nat), 0 ≤ p → p + 10 * n ≤ 800000 → d.few m → (l3V bs n d p).1.few (m + n) ∧ p ≤ (l3V bs n d p).2 ∧ (l3V bs n d p).2 ≤ p + 10 * n
  | 0, d, p, m, h0, h1, h2 => ⟨h2, Int.le_refl _, by show p ≤ _; omega⟩
  | n + 1, d, p, m, h0, h1, h2 => by
    have ht := textP_in bs (p + 2) ⟨by omega, by omega, hb⟩
    obtain ⟨k1, k2, k3⟩ := l3V_all bs hb n (dstep1 bs d p) (textP bs (p + 2)) (m + 1) (by omega) (by omega) (Dk.few_write h2 _ _ _)
    refine ⟨few_mono k1 (by omega), ?_, ?_⟩
    · show p ≤ (l3V bs n _ _).2; omega
    · show (l3V bs n _ _).2 ≤ _; omega
theorem l3s_size (i : Nat) : (ET.str.at l3s i).size ≤ 3 := at_size (by decide) i
theorem blkDisk_all (bs : List UInt8) (p : Int) (h : rdOk2 bs p) : ((l3b bs p).few 10 ∧ (l3c bs p).1.few 12 ∧ p + 7 ≤ (l3c bs p).2 ∧ (l3c bs p).2 ≤ p + 27) := by
  obtain ⟨h1, h2, h3⟩ := h
  have ha : (l3a bs p).few 10 := few_mono (l3W_few bs 5 1 _ p 0 (dkOpen_few 6 (by omega))) (by omega)
  have hb : (l3b bs p).few 10 := by
    unfold l3b; split
    · exact Dk.few_flush ha
    · exact ha
  have hp := pickV_in bs (p + 6) 3 (by omega) (by omega) (by omega)
  obtain ⟨k1, k2, k3⟩ := l3V_all bs h3 (pickV bs (p + 6) 3).toNat (l3b bs p) (p + 7) 10 (by omega) (by omega) hb
  refine ⟨hb, few_mono k1 (by omega), by unfold l3c; omega, by unfold l3c; omega⟩
@[go_sem] def ctBlkDisk : Ct := ⟨true, [], fun args os => match args, os with
  | [.one (.ptr 0 0)], [.cells [.isl .byte bs, .val (.int .i64 p)]] => ⟨rdOk2 bs p, (blkDisk bs p).1.v 1, [(0, some (rdO bs (blkDisk bs p).2))], (blkDisk bs p).1.objs⟩
  | _, _ => no⟩
@[go_sem] def sgB3 (bs : List UInt8) (p : Int) (i : Nat) (d : Dk) : Sg := ⟨[(0, .one (.ptr 0 0)), (2, .one (.ptr 1 0)), (3, .one (.ptr 2 0)), (5, vi i)], (sgDraw bs p i d).tab, [0]⟩
structure Box (X : Prop) : Prop where
  out : X
theorem merge {A X : Prop} (h : Box X → A) (x : X) : A := h ⟨x⟩
theorem s_blkDisk_e : EnterOk Tryz.prog 99 := ⟨_, Tryz.func99, rfl, by decide⟩
@[go_sem] def s_blkDisk_lv : List (List Nat) := [[0, 2], [0, 2, 3], [0, 2, 3, 4], [0, 2, 3, 4, 8], [0, 2, 3, 4], [0, 2, 3, 4], [0, 2, 3, 22], [0, 2, 3], [0, 2, 3, 5], [0, 2, 3, 5, 28], [0, 2, 3, 5], [0, 2, 3, 5], [2, 3, 44], [2, 3], [2]]
@[go_sem] noncomputable def s_blkDisk_K : Known := (((((((Known.nil).cons 172 ctSpecOpen s_specOpen s_specOpen_e).cons 174 ctOf s_of s_of_e).cons 173 ctBlkWrite s_specBlkWrite s_specBlkWrite_e).cons 170 ctPick s_pick s_pick_e).cons 118 ctDiskFlush s_specFlush s_specFlush_e).cons 175 ctText s_text s_text_e).cons 86 ctDiskWrite s_specWrite s_specWrite_e
set_option maxHeartbeats 8000000 in
theorem s_blkDisk : Sound Tryz.prog 99 ctBlkDisk := by
  have ke := s_blkDisk_K.env []
  have kl : Lives s_blkDisk_lv := trivial
  refine sound_intro (E := ⟨ti, s_blkDisk_K.Γ, []⟩) ke Tryz.func99 Tryz.ntmps99 rfl (rs := [.cell 2 39]) rfl ?_
  intro args os hp
  unfold ctBlkDisk at hp ⊢
  dsimp only at hp ⊢
  split at hp
  · rename_i bs p
    refine ⟨by simp, fun φ0 w0 => ?_⟩
    have hr : rdOk2 bs p := hp
    obtain ⟨h1, h2, h3⟩ := hr
    obtain ⟨⟨b1, b2, b3⟩, ⟨c1, c2, c3⟩, c4, c5⟩ := blkDisk_all bs p ⟨h1, h2, h3⟩
    refine goh trivial ?_
    refine W_le (σ' := sgDraw bs p 1 (dkOpen 6)) [some 0, some 1, some 5, some 2, some 3, some 4] (by
      simp only [go_sem, inj_r, ↓reduceIte, reduceCtorEq, Nat.reduceAdd, Nat.reduceLT, Nat.reduceLeDiff, Nat.reduceEqDiff, Int.reduceEq]
      all_goals (repeat' refine And.intro ?_ ?_) <;> try exact shut7
      ) ?_
    refine W_loop (fun n σ => ∃ (i : Nat) (q : Int) (e : Dk), n = 6 - i ∧ 1 ≤ i ∧ i ≤ 6 ∧ e.few (2 * (i - 1)) ∧ q + 1 = p + i ∧ l3W bs (6 - i) i e q = l3a bs p ∧ σ = sgDraw bs q i e) 5
      ⟨1, p, _, by omega, by omega, by omega, dkOpen_few 6 (by omega), by omega, rfl, rfl⟩ ?_
    rintro n σ ⟨i, q, e, rfl, hi1, hi, he, hq, hw, rfl⟩
    obtain ⟨f1, f2, f3⟩ := he
    unfold sgDraw
    refine goh trivial ?_
    refine W_cnd ?_ ?_ <;> (try simp only [cnd_r]) <;> intro hlt
    · obtain ⟨j, hj⟩ : ∃ j, 6 - i = j + 1 := ⟨5 - i, by omega⟩
      have h5 := pickV_in bs q 5 (by omega) (by omega) (by omega)
      rw [hj] at hw
      have hw : l3W bs j (i + 1) (blkWrite e i (ET.str.at l3s (pickV bs q 5).toNat)) (q + 1) = l3a bs p := hw
      have hts : ET.str.at l3s (pickV bs q 5).toNat = ([⟨#[97]⟩, ⟨#[98, 98]⟩, ⟨#[120, 32, 121]⟩, ⟨#[97]⟩, ⟨#[]⟩] : List ByteArray).getD (pickV bs q 5).toNat ET.str.dflt := rfl
      refine goh trivial ?_
      refine ⟨6 - (i + 1), [some 0, some 1, some 2, some 7, some 8, some 9], sgDraw bs (q + 1) (i + 1) (blkWrite e i (ET.str.at l3s (pickV bs q 5).toNat)), by omega, ?_, i + 1, q + 1, _, rfl, by omega, by omega, few_mono (few_blk ⟨f1, f2, f3⟩ _ _) (by omega), by omega, by rw [show 6 - (i + 1) = j by omega]; exact hw, rfl⟩
      rw [hts]
      exact leh trivial
    · obtain rfl : i = 6 := by omega
      have hwe : e = l3a bs p := hw
      obtain rfl : q = p + 5 := by omega
      have g0 : p + 5 + 1 = p + 6 := by omega
      have g1 : p + 6 + 1 = p + 7 := by omega
      have h8 := pickV_in bs (p + 6) 3 (by omega) (by omega) (by omega)
      refine goh trivial ?_
      refine @merge _ ?X (fun key => ?_) ?_
      rotate_left
      · refine W_cond _ (by exact rfl) (by exact trivial) ?_ ?_ <;> intro hc
        · have c0 : pickV bs (p + 5) 2 = 0 := by simpa using hc
          have e2 : l3b bs p = dkFlush e := by unfold l3b; rw [if_pos c0, hwe]
          refine goh (And.intro g0 g1) ?_
          refine W_le (σ' := sgB3 bs (p + 7) (pickV bs (p + 6) 3).toNat (l3b bs p)) [some 0, some 1, some 2, some 6, some 7, some 8] (by
            rw [e2]
            simp only [go_sem, inj_r, ↓reduceIte, reduceCtorEq, Nat.reduceAdd, Nat.reduceLT, Nat.reduceLeDiff, Nat.reduceEqDiff, Int.reduceEq]
            all_goals (repeat' refine And.intro ?_ ?_) <;> try exact shut7
            ) ?_
          exact key.1
        · have c0 : ¬ pickV bs (p + 5) 2 = 0 := by simpa using hc
          have e2 : l3b bs p = e := by unfold l3b; rw [if_neg c0, hwe]
          refine goh (And.intro g0 g1) ?_
          refine W_le (σ' := sgB3 bs (p + 7) (pickV bs (p + 6) 3).toNat (l3b bs p)) [some 0, some 1, some 2, some 3, some 4, some 5] (by
            rw [e2]
            simp only [go_sem, inj_r, ↓reduceIte, reduceCtorEq, Nat.reduceAdd, Nat.reduceLT, Nat.reduceLeDiff, Nat.reduceEqDiff, Int.reduceEq]
            all_goals (repeat' refine And.intro ?_ ?_) <;> try exact shut7
            ) ?_
          exact key.1
      · obtain ⟨d, hd⟩ : ∃ d, d = l3c bs p := ⟨_, rfl⟩
        refine W_loop (fun n σ => ∃ (i : Nat) (q : Int) (e : Dk), n = i ∧ i ≤ 2 ∧ e.few (12 - i) ∧ 0 ≤ q ∧ q + 10 * i ≤ 750000 ∧ l3V bs i e q = d ∧ σ = sgB3 bs q i e) (pickV bs (p + 6) 3).toNat
          ⟨_, _, _, rfl, by omega, ⟨b1, b2, by omega⟩, by omega, by omega, hd.symm, rfl⟩ ?_
        clear hi1 hi f1 f2 f3 hlt hw hwe hq
        rintro n σ ⟨i, q, e, rfl, hi, he, hq, hq2, hds, rfl⟩
        obtain ⟨f1, f2, f3⟩ := he
        unfold sgB3
        refine goh trivial ?_
        refine W_cnd ?_ ?_ <;> (try simp only [cnd_r]) <;> intro hlt
        · obtain ⟨j, rfl⟩ : ∃ j, n = j + 1 := ⟨n - 1, by omega⟩
          have g1 : q + 1 + 1 = q + 2 := by omega
          have g2 : rdOk bs (q + 2) := ⟨by omega, by omega, h3⟩
          have g3 := textP_in bs (q + 2) g2
          have hds : l3V bs j (dstep1 bs e q) (textP bs (q + 2)) = d := hds
          have e1 : dkWrite e (pickV bs q 2) (pickV bs (q + 1) 6) (textV bs (q + 2)) = dstep1 bs e q := rfl
          have g9 : (dstep1 bs e q).few (12 - (j + 1) + 1) := Dk.few_write ⟨f1, f2, f3⟩ _ _ _
          obtain ⟨k1, k2, k3⟩ := g9
          refine goh (And.intro g1 e1) ?_
          refine ⟨j, [some 0, some 1, some 2, some 6, some 7, some 8], sgB3 bs (textP bs (q + 2)) j (dstep1 bs e q), by omega, ?_, j, _, _, rfl, by omega, ⟨k1, k2, by omega⟩, by omega, by omega, hds, rfl⟩
          exact leh trivial
        · have hn0 : n = 0 := by omega
          subst hn0
          have hds : (e, q) = d := hds
          have hc1 : (l3c bs p).1 = e := by rw [← hd, ← hds]
          have hc2 : (l3c bs p).2 = q := by rw [← hd, ← hds]
          refine goh trivial ?_
          refine W_cond _ (by exact rfl) (by exact trivial) ?_ ?_ <;> intro hc
          · have c0 : pickV bs q 16 = 0 := by simpa using hc
            have e2 : blkDisk bs p = (⟨[], e.b, e.l⟩, q + 1) := by unfold blkDisk; rw [hc1, hc2, if_pos c0]
            refine goh trivial ?_
            exact finh [some 0, none, some 4, some 5] e2
          · have c0 : ¬ pickV bs q 16 = 0 := by simpa using hc
            have e2 : blkDisk bs p = (e, q + 1) := by unfold blkDisk; rw [hc1, hc2, if_neg c0]
            refine goh trivial ?_
            exact finh [some 0, some 3, some 4, some 5] e2
  · simp [no] at hp
end Go.Proofs.YtjedcphhajlnoaaGreatDoor
/- Functions: what is drawn to fall, to be written. -/
namespace Go.Proofs.YtjedcphhajlnoaaGreatDoor
open Go.RowKit

def fallF (code : List UInt8) : List Int := fateV (code.take 2000) 0
def fallD (code : List UInt8) : Dk := (drawDisk (code.take 2000) (fateP (code.take 2000) 0)).1
theorem take2000 (code : List UInt8) : (code.take 2000).length ≤ 2000 := by rw [List.length_take]; omega
theorem fall_all (code : List UInt8) : ((fallD code).a.length ≤ 7 ∧ (fallD code).b.length ≤ 7 ∧ (fallD code).l.length ≤ 14) ∧ (fallF code).length ≤ 15 := by
  have h := fateP_in (code.take 2000) 0 ⟨by omega, by omega, take2000 code⟩
  exact ⟨(drawDisk_all (code.take 2000) _ ⟨by omega, by omega, take2000 code⟩).1, fateV_len _ _ ⟨by omega, by omega, take2000 code⟩⟩
@[go_sem] def ctDrawFall : Ct := ⟨false, [[some .byte]], fun args os => match args, os with
  | [.one (.isl .byte code)], [] => ⟨code.length ≤ 1048576, .tup [(fallD code).v 0, .one (.osl .int 3 0 (fallF code).length)], [], (fallD code).objs ++ [.arr .int (fallF code)]⟩
  | _, _ => no⟩
def wrP (code : List UInt8) : Int := (drawDisk (code.take 2000) 0).2
def wrD (code : List UInt8) : Dk := (drawDisk (code.take 2000) 0).1
def wrS (code : List UInt8) : Int := ET.int.at [0, 0, 1, 1, -1, 2] (pickV (code.take 2000) (wrP code) 6).toNat
def wrA (code : List UInt8) : Int := pickV (code.take 2000) (wrP code + 1) 8 - 1
def wrT (code : List UInt8) : ByteArray := if pickV (code.take 2000) (wrP code + 2) 20 = 0 then many ⟨#[120]⟩ (420 + pickV (code.take 2000) (wrP code + 3) 2).toNat else textV (code.take 2000) (wrP code + 3)
theorem wr_all (code : List UInt8) : ((wrD code).a.length ≤ 7 ∧ (wrD code).b.length ≤ 7 ∧ (wrD code).l.length ≤ 14) ∧ 0 ≤ wrP code ∧ wrP code ≤ 503 ∧ (wrT code).size ≤ 421 := by
  obtain ⟨h1, h2, h3⟩ := drawDisk_all (code.take 2000) 0 ⟨by omega, by omega, take2000 code⟩
  have h2' : 0 ≤ wrP code := h2
  have h3' : wrP code ≤ 0 + 503 := h3
  refine ⟨h1, h2', by omega, ?_⟩
  unfold wrT
  split
  · have := pickV_in (code.take 2000) (wrP code + 3) 2 (by omega) (by omega) (by omega)
    rw [many_size _ _ (by omega)]
    show _ * 1 ≤ _
    omega
  · have := textV_size (code.take 2000) (wrP code + 3) ⟨by omega, by omega, take2000 code⟩
    omega
@[go_sem] def ctDrawWrite : Ct := ⟨false, [[some .byte]], fun args os => match args, os with
  | [.one (.isl .byte code)], [] => ⟨code.length ≤ 1048576, .tup [(wrD code).v 0, vi (wrS code), vi (wrA code), vs (wrT code)], [], (wrD code).objs⟩
  | _, _ => no⟩
end Go.Proofs.YtjedcphhajlnoaaGreatDoor
/- Functions: a block that is drawn to be written. -/
namespace Go.Proofs.YtjedcphhajlnoaaGreatDoor
open Go.RowKit

def bwP (code : List UInt8) : Int := (blkDisk (code.take 2000) 0).2
def bwD (code : List UInt8) : Dk := (blkDisk (code.take 2000) 0).1
def bwA (code : List UInt8) : Int := pickV (code.take 2000) (bwP code) 8 - 1
def bwT (code : List UInt8) : ByteArray := textV (code.take 2000) (bwP code + 1)
theorem bw_all (code : List UInt8) : ((bwD code).a.length ≤ 6 ∧ (bwD code).b.length ≤ 6 ∧ (bwD code).l.length ≤ 12) ∧ 0 ≤ bwP code ∧ bwP code ≤ 30 ∧ (bwT code).size ≤ 421 ∧ -1 ≤ bwA code ∧ bwA code ≤ 6 := by
  obtain ⟨-, ⟨h1, h2, h3⟩, h4, h5⟩ := blkDisk_all (code.take 2000) 0 ⟨by omega, by omega, take2000 code⟩
  have e : bwP code = (l3c (code.take 2000) 0).2 + 1 := rfl
  have hp := pickV_in (code.take 2000) (bwP code) 8 (by omega) (by omega) (by omega)
  have ht := textV_size (code.take 2000) (bwP code + 1) ⟨by omega, by omega, take2000 code⟩
  refine ⟨?_, by omega, by omega, by unfold bwT; omega, by unfold bwA; omega, by unfold bwA; omega⟩
  unfold bwD blkDisk
  split
  · exact ⟨Nat.zero_le _, h2, h3⟩
  · exact ⟨h1, h2, h3⟩
@[go_sem] def ctDrawBlk : Ct := ⟨false, [[some .byte]], fun args os => match args, os with
  | [.one (.isl .byte code)], [] => ⟨code.length ≤ 1048576, .tup [(bwD code).v 0, vi (bwA code), vs (bwT code)], [], (bwD code).objs⟩
  | _, _ => no⟩
end Go.Proofs.YtjedcphhajlnoaaGreatDoor
/- Functions: a disk and a pointer that are drawn. -/
namespace Go.Proofs.YtjedcphhajlnoaaGreatDoor
open Go.RowKit

theorem ptrOk_real' {p : Ptr} (h : realB p = true) : 1 ≤ p.at_ ∧ ptrOkB p = true := by
  have h2 := h
  unfold realB ptrOkB at h
  unfold realB at h2
  rw [Bool.and_eq_true] at h2
  simp only [Bool.and_eq_true, Bool.or_eq_true, decide_eq_true_eq, Bool.not_eq_true', beq_eq_false_iff_ne, ne_eq] at h
  exact ⟨by omega, h2.1⟩
theorem s_specBlkTo_e : EnterOk Tryz.prog 171 := ⟨_, Tryz.func171, rfl, by decide⟩
@[go_sem] def s_specBlkTo_lv : List (List Nat) := [[0, 1, 2, 6], [0, 6, 7], [6, 7, 19], [6], [6]]
@[go_sem] noncomputable def s_specBlkTo_K : Known := ((Known.nil).cons 169 ctSumOf s_specSum s_specSum_e).cons 25 ctPtrOk s_specPtrOk s_specPtrOk_e
set_option maxHeartbeats 8000000 in
theorem s_specBlkTo : Sound Tryz.prog 171 ctBlkTo := by
  have ke := s_specBlkTo_K.env []
  have kl : Lives s_specBlkTo_lv := trivial
  refine sound_intro (E := ⟨ti, s_specBlkTo_K.Γ, []⟩) ke Tryz.func171 Tryz.ntmps171 rfl (rs := [.cell 6 55]) rfl ?_
  intro args os hp
  unfold ctBlkTo at hp ⊢
  dsimp only at hp ⊢
  split at hp
  · rename_i a t b
    refine ⟨by simp, fun φ0 w0 => ?_⟩
    have hlen : t.size ≤ 1000000000 := hp
    clear hp
    have nt : (!true) = false := rfl
    have nf : (!false) = true := rfl
    have e : blkTo a t b = if 1 ≤ a ∧ ptrOkB ⟨a, (sumOf t : Nat), b⟩ = true then ⟨a, (sumOf t : Nat), b⟩ else ptr0 := by
      unfold blkTo
      by_cases h : realB ⟨a, (sumOf t : Nat), b⟩ = true
      · rw [if_pos h, if_pos]
        have := ptrOk_real' h
        exact this
      · rw [if_neg h, if_neg]
        rintro ⟨h1, h2⟩
        apply h
        unfold realB
        rw [h2]
        simp only [Bool.true_and, Bool.not_eq_true', beq_eq_false_iff_ne, ne_eq]
        omega
    by_cases ha : 1 ≤ a
    · have c : decide (a < 1) = false := by simp; omega
      cases hk : ptrOkB ⟨a, (sumOf t : Nat), b⟩ with
      | true =>
        rw [if_pos ⟨ha, hk⟩] at e
        refine goh (And.intro c (And.intro hk nt)) ?_
        refine W_cnd ?_ ?_ <;> intro hlit <;> try (cases hlit; done)
        refine goh trivial ?_
        exact finh [] e
      | false =>
        rw [if_neg (fun h => by rw [hk] at h; cases h.2)] at e
        refine goh (And.intro c (And.intro hk nf)) ?_
        refine W_cnd ?_ ?_ <;> intro hlit <;> try (cases hlit; done)
        refine goh trivial ?_
        refine ⟨by (simp only [go_sem, e, ptr0, ↓reduceIte, reduceCtorEq, Nat.reduceAdd, Nat.reduceLT, Nat.reduceLeDiff, Nat.reduceEqDiff]) <;> trivial, [], ?_⟩
        all_goals try simp only [go_sem, e, ptr0, inj_r, ↓reduceIte, reduceCtorEq, Nat.reduceAdd, Nat.reduceLT, Nat.reduceLeDiff, Nat.reduceEqDiff, Int.reduceEq]
        all_goals (repeat' refine And.intro ?_ ?_) <;> try exact shut7
    · have c : decide (a < 1) = true := by simp; omega
      rw [if_neg (fun h => ha h.1)] at e
      refine goh c ?_
      refine W_cnd ?_ ?_ <;> intro hlit <;> try (cases hlit; done)
      refine goh trivial ?_
      refine ⟨by (simp only [go_sem, e, ptr0, ↓reduceIte, reduceCtorEq, Nat.reduceAdd, Nat.reduceLT, Nat.reduceLeDiff, Nat.reduceEqDiff]) <;> trivial, [], ?_⟩
      all_goals try simp only [go_sem, e, ptr0, inj_r, ↓reduceIte, reduceCtorEq, Nat.reduceAdd, Nat.reduceLT, Nat.reduceLeDiff, Nat.reduceEqDiff, Int.reduceEq]
      all_goals (repeat' refine And.intro ?_ ?_) <;> try exact shut7
  · simp [no, ifp] at hp
def ptr1 (bs : List UInt8) (d : Dk) (p : Int) : Ptr := blkTo (pickV bs p 7) (dkRead d (pickV bs (p + 1) 2) (pickV bs p 7)) (pickV bs (p + 2) 9)
/-- A pointer that is drawn, and where the reader goes on. -/
def ptrD (bs : List UInt8) (d : Dk) (p : Int) : Ptr × Int :=
  if pickV bs (p + 3) 12 = 0 then (⟨(ptr1 bs d p).at_, IntKind.i64.wrap ((ptr1 bs d p).sum + ET.int.at [1, -1, 65521] (pickV bs (p + 4) 3).toNat), (ptr1 bs d p).birth⟩, p + 5)
  else if pickV bs (p + 3) 12 = 1 then (⟨ET.int.at [0, 119, 120, -1] (pickV bs (p + 4) 4).toNat, (ptr1 bs d p).sum, (ptr1 bs d p).birth⟩, p + 5)
  else if pickV bs (p + 3) 12 = 2 then (⟨(ptr1 bs d p).at_, (ptr1 bs d p).sum, ET.int.at [-1, 1000000, 1000001] (pickV bs (p + 4) 3).toNat⟩, p + 5)
  else if pickV bs (p + 3) 12 = 3 then (ptr0, p + 4) else (ptr1 bs d p, p + 4)
@[go_sem] def ctPtrD : Ct := ⟨true, [], fun args os => match args, os with
  | [.one (.ptr 0 0), .agg [.osl .str 1 0 na, .osl .str 2 0 nb, .osl .late 3 0 nl]], [.cells [.isl .byte bs, .val (.int .i64 p)], .arr .str a, .arr .str b, .arr .late l] => ⟨(0 ≤ p ∧ p ≤ 1000 ∧ bs.length ≤ 2000) ∧ (na = a.length ∧ nb = b.length ∧ nl = l.length) ∧ (Dk.mk a b l).small, (ptrD bs ⟨a, b, l⟩ p).1.tv, [(0, some (rdO bs (ptrD bs ⟨a, b, l⟩ p).2))], []⟩
  | _, _ => no⟩
theorem s_ptrD_e : EnterOk Tryz.prog 98 := ⟨_, Tryz.func98, rfl, by decide⟩
@[go_sem] def s_ptrD_lv : List (List Nat) := [[0, 3, 4], [0, 3, 4, 5], [0, 4, 5, 6], [0, 4, 8], [0, 4, 8, 25], [0, 4, 8, 25, 26], [4, 8], [0, 4, 8, 25, 35], [4, 8], [0, 4, 8, 25, 41], [4, 8], [4, 8, 47], [4], [4]]
@[go_sem] noncomputable def s_ptrD_K : Known := ((((Known.nil).cons 170 ctPick s_pick s_pick_e).cons 111 ctDiskRead s_specRead s_specRead_e).cons 171 ctBlkTo s_specBlkTo s_specBlkTo_e).cons 97 ctNum s_num s_num_e
set_option maxHeartbeats 8000000 in
theorem s_ptrD : Sound Tryz.prog 98 ctPtrD := by
  have ke := s_ptrD_K.env []
  have kl : Lives s_ptrD_lv := trivial
  refine sound_intro (E := ⟨ti, s_ptrD_K.Γ, []⟩) ke Tryz.func98 Tryz.ntmps98 rfl (rs := [.cell 4 55]) rfl ?_
  intro args os hp
  unfold ctPtrD at hp ⊢
  dsimp only at hp ⊢
  split at hp
  · rename_i na nb nl bs p a b l
    obtain ⟨⟨h1, h2, h3⟩, ⟨rfl, rfl, rfl⟩, hsm⟩ : (0 ≤ p ∧ p ≤ 1000 ∧ bs.length ≤ 2000) ∧ (na = a.length ∧ nb = b.length ∧ nl = l.length) ∧ (Dk.mk a b l).small := hp
    obtain ⟨s1, s2, s3⟩ : a.length ≤ 4000000 ∧ b.length ≤ 4000000 ∧ l.length ≤ 4000000 := hsm
    refine ⟨by simp, fun φ0 w0 => ?_⟩
    have g1 : p + 1 + 1 = p + 2 := by omega
    have g2 : p + 2 + 1 = p + 3 := by omega
    have g3 : p + 3 + 1 = p + 4 := by omega
    have g4 : p + 4 + 1 = p + 5 := by omega
    have v1 := pickV_in bs p 7 (by omega) (by omega) (by omega)
    have v2 := pickV_in bs (p + 4) 3 (by omega) (by omega) (by omega)
    have v3 := pickV_in bs (p + 4) 4 (by omega) (by omega) (by omega)
    have hz := dkRead_size ⟨a, b, l⟩ (pickV bs (p + 1) 2) (pickV bs p 7)
    obtain ⟨q, hq⟩ : ∃ q, blkTo (pickV bs p 7) (dkRead ⟨a, b, l⟩ (pickV bs (p + 1) 2) (pickV bs p 7)) (pickV bs (p + 2) 9) = q := ⟨_, rfl⟩
    have hq1 : ptr1 bs ⟨a, b, l⟩ p = q := hq
    obtain ⟨qa, qs, qb⟩ := q
    have eV : ∀ z, (if pickV bs (p + 3) 12 = 0 then (⟨qa, IntKind.i64.wrap (qs + ET.int.at [1, -1, 65521] (pickV bs (p + 4) 3).toNat), qb⟩, p + 5) else if pickV bs (p + 3) 12 = 1 then (⟨ET.int.at [0, 119, 120, -1] (pickV bs (p + 4) 4).toNat, qs, qb⟩, p + 5)
      else if pickV bs (p + 3) 12 = 2 then (⟨qa, qs, ET.int.at [-1, 1000000, 1000001] (pickV bs (p + 4) 3).toNat⟩, p + 5) else if pickV bs (p + 3) 12 = 3 then (ptr0, p + 4) else (⟨qa, qs, qb⟩, p + 4)) = z → ptrD bs ⟨a, b, l⟩ p = z := by
      intro z hz; unfold ptrD; rw [hq1]; exact hz
    refine goh (And.intro g1 (And.intro g2 (And.intro g3 hq))) ?_
    refine W_cnd ?_ ?_ <;> (try simp only [cnd_r]) <;> intro c0
    · have e := eV _ (if_pos c0)
      refine goh (And.intro g3 g4) ?_
      exact finh [some 0, some 1, some 2, some 3] e
    · simp only [beq_eq_false_iff_ne, ne_eq] at c0
      rw [if_neg c0] at eV
      refine goh trivial ?_
      refine W_cnd ?_ ?_ <;> (try simp only [cnd_r]) <;> intro c1
      · have e := eV _ (if_pos c1)
        refine goh (And.intro g3 g4) ?_
        exact finh [some 0, some 1, some 2, some 3] e
      · simp only [beq_eq_false_iff_ne, ne_eq] at c1
        rw [if_neg c1] at eV
        refine goh trivial ?_
        refine W_cnd ?_ ?_ <;> (try simp only [cnd_r]) <;> intro c2
        · have e := eV _ (if_pos c2)
          refine goh (And.intro g3 g4) ?_
          exact finh [some 0, some 1, some 2, some 3] e
        · simp only [beq_eq_false_iff_ne, ne_eq] at c2
          rw [if_neg c2] at eV
          refine goh trivial ?_
          refine W_cnd ?_ ?_ <;> (try simp only [cnd_r]) <;> intro c3
          · have e := eV _ (if_pos c3)
            refine goh trivial ?_
            refine ⟨by (simp only [go_sem, e, ptr0, ↓reduceIte, reduceCtorEq, Nat.reduceAdd, Nat.reduceLT, Nat.reduceLeDiff, Nat.reduceEqDiff]) <;> trivial, [some 0, some 1, some 2, some 3], ?_⟩
            all_goals try simp only [go_sem, e, ptr0, inj_r, ↓reduceIte, reduceCtorEq, Nat.reduceAdd, Nat.reduceLT, Nat.reduceLeDiff, Nat.reduceEqDiff, Int.reduceEq]
            all_goals (repeat' refine And.intro ?_ ?_) <;> try exact shut7
          · simp only [beq_eq_false_iff_ne, ne_eq] at c3
            rw [if_neg c3] at eV
            have e := eV _ rfl
            refine goh trivial ?_
            exact finh [some 0, some 1, some 2, some 3] e
  · simp [no] at hp
def hdP (code : List UInt8) : Ptr := (ptrD (code.take 2000) (bwD code) (bwP code)).1
@[go_sem] def ctDrawHeal : Ct := ⟨false, [[some .byte]], fun args os => match args, os with
  | [.one (.isl .byte code)], [] => ⟨code.length ≤ 1048576, .tup [(bwD code).v 0, (hdP code).tv], [], (bwD code).objs⟩
  | _, _ => no⟩
theorem s_drawBlkRead_e : EnterOk Tryz.prog 79 := ⟨_, Tryz.func79, rfl, by decide⟩
@[go_sem] def s_drawBlkRead_lv : List (List Nat) := [[0, 2, 3], [2, 3, 4], [2, 3, 4, 5], [2, 3]]
@[go_sem] noncomputable def s_drawBlkRead_K : Known := (((Known.nil).cons 96 ctOpen s_open s_open_e).cons 99 ctBlkDisk s_blkDisk s_blkDisk_e).cons 98 ctPtrD s_ptrD s_ptrD_e
set_option maxHeartbeats 8000000 in
theorem s_drawBlkRead : Sound Tryz.prog 79 ctDrawHeal := by
  have ke := s_drawBlkRead_K.env []
  have kl : Lives s_drawBlkRead_lv := trivial
  refine sound_intro (E := ⟨ti, s_drawBlkRead_K.Γ, []⟩) ke Tryz.func79 Tryz.ntmps79 rfl (rs := [.cell 2 39, .cell 3 55]) rfl ?_
  intro args os hp
  unfold ctDrawHeal at hp ⊢
  dsimp only at hp ⊢
  split at hp
  · rename_i code
    refine ⟨by simp, fun φ0 w0 => ?_⟩
    have hlen : code.length ≤ 1048576 := hp
    obtain ⟨⟨d1, d2, d3⟩, h1, h2, -⟩ := bw_all code
    have hr : rdOk2 (code.take 2000) 0 := ⟨by omega, by omega, take2000 code⟩
    have e1 : (blkDisk (code.take 2000) 0).2 = bwP code := rfl
    have e2 : (blkDisk (code.take 2000) 0).1 = bwD code := rfl
    have hb := take2000 code
    clear hp
    refine goh (And.intro e1 e2) ?_
    refine ⟨by (simp only [go_sem, hdP, ↓reduceIte, reduceCtorEq, Nat.reduceAdd, Nat.reduceLT, Nat.reduceLeDiff, Nat.reduceEqDiff]) <;> trivial, [some 3, some 4, some 5], ?_⟩
    all_goals try simp only [go_sem, hdP, inj_r, ↓reduceIte, reduceCtorEq, Nat.reduceAdd, Nat.reduceLT, Nat.reduceLeDiff, Nat.reduceEqDiff, Int.reduceEq]
    all_goals (repeat' refine And.intro ?_ ?_) <;> try exact shut7
  · simp [no] at hp
theorem s_drawBlkHeal_e : EnterOk Tryz.prog 20 := ⟨_, Tryz.func20, rfl, by decide⟩
@[go_sem] def s_drawBlkHeal_lv : List (List Nat) := [[0, 2, 3], [2, 3]]
@[go_sem] noncomputable def s_drawBlkHeal_K : Known := (Known.nil).cons 79 ctDrawHeal s_drawBlkRead s_drawBlkRead_e
set_option maxHeartbeats 8000000 in
theorem s_drawBlkHeal : Sound Tryz.prog 20 ctDrawHeal := by
  have ke := s_drawBlkHeal_K.env []
  have kl : Lives s_drawBlkHeal_lv := trivial
  refine sound_intro (E := ⟨ti, s_drawBlkHeal_K.Γ, []⟩) ke Tryz.func20 Tryz.ntmps20 rfl (rs := [.cell 2 39, .cell 3 55]) rfl ?_
  intro args os hp
  unfold ctDrawHeal at hp ⊢
  dsimp only at hp ⊢
  split at hp
  · rename_i code
    refine ⟨by simp, fun φ0 w0 => ?_⟩
    have hlen : code.length ≤ 1048576 := hp
    refine goh trivial ?_
    exact finh [some 2, some 3, some 4] trivial
  · simp [no] at hp
end Go.Proofs.YtjedcphhajlnoaaGreatDoor
/- Functions: texts of commits. -/
namespace Go.Proofs.YtjedcphhajlnoaaGreatDoor
open Go.RowKit

@[go_sem] noncomputable def ctUber : Ct := ⟨false, [], fun args os => match args, os with
  | [.one (.val (.int .i64 k)), .agg [.val (.int .i64 a), .val (.int .i64 s), .val (.int .i64 b)]], [] => is (vs (uberT k ⟨a, s, b⟩))
  | _, _ => no⟩
theorem uber_yes {k : Int} {r : Ptr} (h1 : 1 ≤ k) (h2 : k ≤ 1000000) (h3 : realB r = true) : uberOk k r := ⟨h1, h2, h3⟩
theorem uber_no {k : Int} {r : Ptr} (h : ¬ uberOk k r) : uberT k r = ⟨#[]⟩ := by unfold uberT; rw [if_neg h]
theorem s_uber_e : EnterOk Tryz.prog 32 := ⟨_, Tryz.func32, rfl, by decide⟩
@[go_sem] def s_uber_lv : List (List Nat) := [[0, 3], [0, 3, 13], [4], [3, 5], [4]]
@[go_sem] noncomputable def s_uber_K : Known := (((((Known.nil).cons 89 ctWithin s_within s_within_e).cons 91 ctReal s_isReal s_isReal_e).cons 100 ctItoa s_itoa s_itoa_e).cons 27 ctPtrText s_ptrText s_ptrText_e).cons 101 ctSeal s_seal s_seal_e
set_option maxHeartbeats 8000000 in
theorem s_uber : Sound Tryz.prog 32 ctUber := by
  have ke := s_uber_K.env []
  have kl : Lives s_uber_lv := trivial
  refine sound_intro (E := ⟨ti, s_uber_K.Γ, []⟩) ke Tryz.func32 Tryz.ntmps32 rfl (rs := [.tmp 4]) rfl ?_
  intro args os hp
  unfold ctUber at hp ⊢
  dsimp only at hp ⊢
  split at hp
  · rename_i k a s b
    refine ⟨by simp, fun φ0 w0 => ?_⟩
    clear hp
    have nt : (!true) = false := rfl
    have nf : (!false) = true := rfl
    by_cases hk : 1 ≤ k ∧ k ≤ 1000000
    · have c1 : decide (1 ≤ k) = true := by simp [hk.1]
      have c2 : decide (k ≤ 1000000) = true := by simp [hk.2]
      cases hr : realB ⟨a, s, b⟩ with
      | false =>
        have e := uber_no (k := k) (r := ⟨a, s, b⟩) (fun h => by have := h.2.2; rw [hr] at this; cases this)
        repeat' first
          | with_reducible refine red ?_
          | refine W_seq ?_
          | (refine W_reg (s_uber_K.env []) s_uber_lv fun K' hK' => ?_
             simp only [go_sem, c1, c2, hr, nt, nf, Bool.and_self, ↓reduceIte, ↓reduceDIte, reduceCtorEq, Nat.reduceAdd, Nat.reduceMul, Nat.reduceSub, Nat.reduceDiv, Nat.reduceMod, Nat.reduceLT, Nat.reduceLeDiff, Nat.reduceEqDiff, Nat.reduceBEq, Int.reduceToNat, Int.reduceLE, Int.reduceLT, Int.reduceEq, Int.reduceNe, Int.reduceNeg]
             (repeat' refine And.intro ?_ ?_) <;> try first | with_reducible refine hK' ?_ | exact shut6)
          | with_reducible refine blockG_o (by decide) ?_
        refine W_cnd ?_ ?_ <;> intro hlit <;> try (cases hlit; done)
        refine goh trivial ?_
        exact finh [] e
      | true =>
        have hok : uberOk k ⟨a, s, b⟩ := ⟨hk.1, hk.2, hr⟩
        have e : uberT k ⟨a, s, b⟩ = sealV (decS k ++ ⟨#[32]⟩ ++ ptrT ⟨a, s, b⟩ ++ ⟨#[32]⟩ ++ decS k) := by unfold uberT; rw [if_pos hok]; rfl
        have h1 := decS_size (n := k) (by omega) (by omega)
        have h2 := ptrT_size ⟨a, s, b⟩
        have h3 : (⟨#[32]⟩ : ByteArray).size = 1 := rfl
        obtain ⟨k1, k2⟩ := hk
        repeat' first
          | with_reducible refine red ?_
          | refine W_seq ?_
          | (refine W_reg (s_uber_K.env []) s_uber_lv fun K' hK' => ?_
             simp only [go_sem, c1, c2, hr, nt, nf, Bool.and_self, ↓reduceIte, ↓reduceDIte, reduceCtorEq, Nat.reduceAdd, Nat.reduceMul, Nat.reduceSub, Nat.reduceDiv, Nat.reduceMod, Nat.reduceLT, Nat.reduceLeDiff, Nat.reduceEqDiff, Nat.reduceBEq, Int.reduceToNat, Int.reduceLE, Int.reduceLT, Int.reduceEq, Int.reduceNe, Int.reduceNeg]
             (repeat' refine And.intro ?_ ?_) <;> try first | with_reducible refine hK' ?_ | exact shut6)
          | with_reducible refine blockG_o (by decide) ?_
        refine W_cnd ?_ ?_ <;> intro hlit <;> try (cases hlit; done)
        refine goh trivial ?_
        exact finh [] e
    · have e := uber_no (k := k) (r := ⟨a, s, b⟩) (fun h => hk ⟨h.1, h.2.1⟩)
      have c : (decide (1 ≤ k) && decide (k ≤ 1000000)) = false := by
        rw [Bool.and_eq_false_iff, decide_eq_false_iff_not, decide_eq_false_iff_not]; omega
      refine goh (And.intro c nf) ?_
      refine W_cnd ?_ ?_ <;> intro hlit <;> try (cases hlit; done)
      refine goh trivial ?_
      exact finh [] e
  · exact hp.elim
theorem s_specUber_e : EnterOk Tryz.prog 33 := ⟨_, Tryz.func33, rfl, by decide⟩
@[go_sem] def s_specUber_lv : List (List Nat) := [[0, 3], [0, 3, 20], [4], [4]]
@[go_sem] noncomputable def s_specUber_K : Known := ((((Known.nil).cons 25 ctPtrOk s_specPtrOk s_specPtrOk_e).cons 103 ctDecV s_dec2 s_dec2_e).cons 104 ctPtrText s_specPtrText s_specPtrText_e).cons 102 ctSeal s_specSeal s_specSeal_e
set_option maxHeartbeats 8000000 in
theorem s_specUber : Sound Tryz.prog 33 ctUber := by
  have ke := s_specUber_K.env []
  have kl : Lives s_specUber_lv := trivial
  refine sound_intro (E := ⟨ti, s_specUber_K.Γ, []⟩) ke Tryz.func33 Tryz.ntmps33 rfl (rs := [.tmp 4]) rfl ?_
  intro args os hp
  unfold ctUber at hp ⊢
  dsimp only at hp ⊢
  split at hp
  · rename_i k a s b
    refine ⟨by simp, fun φ0 w0 => ?_⟩
    clear hp
    have nt : (!true) = false := rfl
    have nf : (!false) = true := rfl
    by_cases hk : 1 ≤ k ∧ k ≤ 1000000
    · have c1 : decide (k < 1) = false := by simp; omega
      have c2 : decide (k > 1000000) = false := by simp; omega
      cases hr : ptrOkB ⟨a, s, b⟩ with
      | false =>
        have e := uber_no (k := k) (r := ⟨a, s, b⟩) (fun h => by have := (ptrOk_real h.2.2).1; rw [hr] at this; cases this)
        refine goh (And.intro c1 (And.intro c2 (And.intro hr (And.intro nt nf)))) ?_
        refine W_cnd ?_ ?_ <;> intro hlit <;> try (cases hlit; done)
        refine goh trivial ?_
        exact finh [] e
      | true =>
        by_cases ha : a = 0
        · have c3 : (a == 0) = true := by simp [ha]
          have e := uber_no (k := k) (r := ⟨a, s, b⟩) (fun h => (ptrOk_real h.2.2).2.1 ha)
          refine goh (And.intro c1 (And.intro c2 (And.intro hr (And.intro c3 (And.intro nt nf))))) ?_
          refine W_cnd ?_ ?_ <;> intro hlit <;> try (cases hlit; done)
          refine goh trivial ?_
          exact finh [] e
        · have c3 : (a == 0) = false := by simp [ha]
          have hok : uberOk k ⟨a, s, b⟩ := ⟨hk.1, hk.2, by unfold realB; rw [hr]; simpa using ha⟩
          have e : uberT k ⟨a, s, b⟩ = sealV (decS k ++ ⟨#[32]⟩ ++ ptrT ⟨a, s, b⟩ ++ ⟨#[32]⟩ ++ decS k) := by unfold uberT; rw [if_pos hok]; rfl
          have h1 := decS_size (n := k) (by omega) (by omega)
          have h2 := ptrT_size ⟨a, s, b⟩
          have h3 : (⟨#[32]⟩ : ByteArray).size = 1 := rfl
          obtain ⟨k1, k2⟩ := hk
          refine goh (And.intro c1 (And.intro c2 (And.intro hr (And.intro c3 (And.intro nt nf))))) ?_
          refine W_cnd ?_ ?_ <;> intro hlit <;> try (cases hlit; done)
          refine goh trivial ?_
          exact finh [] e
    · have e := uber_no (k := k) (r := ⟨a, s, b⟩) (fun h => hk ⟨h.1, h.2.1⟩)
      by_cases h1 : k < 1
      · have c1 : decide (k < 1) = true := by simp [h1]
        refine goh c1 ?_
        refine W_cnd ?_ ?_ <;> intro hlit <;> try (cases hlit; done)
        refine goh trivial ?_
        exact finh [] e
      · have c1 : decide (k < 1) = false := by simp; omega
        have c2 : decide (k > 1000000) = true := by simp; omega
        refine goh (And.intro c1 c2) ?_
        refine W_cnd ?_ ?_ <;> intro hlit <;> try (cases hlit; done)
        refine goh trivial ?_
        exact finh [] e
  · exact hp.elim
theorem cutV_size (c : UInt8) (s : ByteArray) : (cutV c s).2.1.size ≤ s.size := by
  unfold cutV Lib.cut bytesL
  split
  · show (List.drop _ s.data.toList).toArray.size ≤ s.data.size
    simp
  · exact Nat.zero_le _
theorem openV_size (s : ByteArray) : (openV s).1.size ≤ s.size := by
  unfold openV
  split
  · exact cutV_size 58 s
  · exact Nat.zero_le _
@[go_sem] noncomputable def ctUberRead : Ct := ⟨false, [], fun args os => match args, os with
  | [.one (.val (.string t))], [] => ifp (t.size ≤ 1000000) (match uberP t with | some (k, p) => .tup [vi k, .agg [.val (.int .i64 p.at_), .val (.int .i64 p.sum), .val (.int .i64 p.birth)], vb true] | none => .tup [vi 0, .agg [.val (.int .i64 0), .val (.int .i64 0), .val (.int .i64 0)], vb false])
  | _, _ => no⟩
theorem s_uberRead_e : EnterOk Tryz.prog 37 := ⟨_, Tryz.func37, rfl, by decide⟩
@[go_sem] def s_uberRead_lv : List (List Nat) := [[0, 3], [0, 3, 5], [0, 3, 7], [0, 3, 7, 21], [2, 3, 4], [0, 3, 7, 8, 9], [0, 3, 8, 9, 10, 11], [3, 8, 10, 49], [2, 3, 4], [2, 3, 4]]
@[go_sem] noncomputable def s_uberRead_K : Known := (((((Known.nil).cons 106 ctSumOpen s_sumOpen s_sumOpen_e).cons 107 ctSplit s_split s_split_e).cons 108 ctAtoi s_atoi s_atoi_e).cons 26 ctPtrRead s_ptrRead s_ptrRead_e).cons 32 ctUber s_uber s_uber_e
set_option maxHeartbeats 8000000 in
theorem s_uberRead : Sound Tryz.prog 37 ctUberRead := by
  have ke := s_uberRead_K.env []
  have kl : Lives s_uberRead_lv := trivial
  refine sound_intro (E := ⟨ti, s_uberRead_K.Γ, []⟩) ke Tryz.func37 Tryz.ntmps37 rfl (rs := [.tmp 2, .cell 3 55, .tmp 4]) rfl ?_
  intro args os hp
  unfold ctUberRead at hp ⊢
  dsimp only at hp ⊢
  split at hp
  · rename_i t
    refine ⟨by simp, fun φ0 w0 => ?_⟩
    have hlen : t.size ≤ 1000000 := hp
    have nt : (!true) = false := rfl
    have nf : (!false) = true := rfl
    have hsp : (⟨#[32]⟩ : ByteArray).data.getD 0 0 = 32 := rfl
    have hsz : (⟨#[32]⟩ : ByteArray).size = 1 := rfl
    have hos := openV_size t
    obtain ⟨⟨inner, ok⟩, hin⟩ : ∃ x, openV t = x := ⟨_, rfl⟩
    rw [hin] at hos
    simp only at hos
    have hwl := splitV_len 32 inner
    have hms : ∀ w ∈ splitV 32 inner, w.size ≤ 1000000 := fun w hw => Nat.le_trans (splitV_size hw) (by omega)
    obtain ⟨ws, hws⟩ : ∃ ws, splitV 32 inner = ws := ⟨_, rfl⟩
    rw [hws] at hms hwl
    refine goh (And.intro hsp (And.intro hsz (And.intro hin hws))) ?_
    refine W_cnd ?_ ?_ <;> (try simp only [cnd_r]) <;> intro h3
    · have h3' : ws.length ≠ 3 := by intro e; rw [e] at h3; exact absurd h3 (by decide)
      have e : uberP t = none := by
        unfold uberP
        rw [hin]
        simp only
        rw [hws]
        split
        · exact absurd rfl h3'
        · rfl
      refine goh trivial ?_
      exact finh [] e
    · have h3' : ws.length = 3 := by omega
      match ws, h3' with
      | [x, y, z], _ =>
      have m0 := hms x (by simp)
      have m1 := hms y (by simp)
      have m0' : x.size ≤ 281474976710656 := by omega
      have e : uberP t = (match atoiV x, ptrReadV y with
        | some k, some r => if uberT k r = t then some (k, r) else none
        | _, _ => none) := by unfold uberP; rw [hin]; simp only; rw [hws]; try rfl
      cases ha : atoiV x with
      | none =>
        rw [ha] at e
        simp only at e
        cases hr : ptrReadV y with
        | none =>
          refine goh (And.intro ha (And.intro hr (And.intro m0' (And.intro m1 nf)))) ?_
          refine W_cnd ?_ ?_ <;> intro hlit <;> try (cases hlit; done)
          refine goh trivial ?_
          exact finh [] e
        | some r =>
          refine goh (And.intro ha (And.intro hr (And.intro m0' (And.intro m1 nt)))) ?_
          refine W_cnd ?_ ?_ <;> intro hlit <;> try (cases hlit; done)
          refine goh trivial ?_
          exact finh [] e
      | some k =>
        have hk := (atoiV_in ha).1
        rw [ha] at e
        cases hr : ptrReadV y with
        | none =>
          rw [hr] at e
          simp only at e
          refine goh (And.intro ha (And.intro hr (And.intro m0' (And.intro m1 nf)))) ?_
          refine W_cnd ?_ ?_ <;> intro hlit <;> try (cases hlit; done)
          refine goh trivial ?_
          exact finh [] e
        | some r =>
          obtain ⟨ra, rs, rb⟩ := r
          rw [hr] at e
          simp only at e
          cases hs : same (uberT k ⟨ra, rs, rb⟩) t with
          | false =>
            rw [if_neg (fun h => by rw [same_true.2 h] at hs; cases hs)] at e
            refine goh (And.intro ha (And.intro hr (And.intro hk (And.intro hs (And.intro m0' (And.intro m1 (And.intro nt nf))))))) ?_
            refine W_cnd ?_ ?_ <;> intro hlit <;> try (cases hlit; done)
            refine goh trivial ?_
            exact finh [] e
          | true =>
            rw [if_pos (same_true.1 hs)] at e
            refine goh (And.intro ha (And.intro hr (And.intro hk (And.intro hs (And.intro m0' (And.intro m1 (And.intro nt nf))))))) ?_
            refine W_cnd ?_ ?_ <;> intro hlit <;> try (cases hlit; done)
            refine goh hk ?_
            exact finh [] e
  · simp [no, ifp] at hp
end Go.Proofs.YtjedcphhajlnoaaGreatDoor
/- Functions: the reference reads. -/
namespace Go.Proofs.YtjedcphhajlnoaaGreatDoor
open Go.RowKit

theorem byte_eq (a : UInt8) {c : Int} (h0 : 0 ≤ c) (h1 : c ≤ 255) : ((a.toNat : Int) = c) ↔ a = UInt8.ofNat c.toNat := by
  constructor
  · intro h
    apply UInt8.toNat_inj.1
    rw [ofNat_u8 (by omega)]; omega
  · rintro rfl
    rw [ofNat_u8 (by omega)]; omega
@[go_sem] def ctFind : Ct := ⟨false, [], fun args os => match args, os with
  | [.one (.val (.string s)), .one (.val (.int .u8 c))], [] => ifp (s.size ≤ 1000000 ∧ 0 ≤ c ∧ c ≤ 255) (vi (findV (UInt8.ofNat c.toNat) s))
  | _, _ => no⟩
theorem s_find_e : EnterOk Tryz.prog 208 := ⟨_, Tryz.func208, rfl, by decide⟩
@[go_sem] def s_find_lv : List (List Nat) := [[0, 1], [0, 1, 5], [0, 1, 5, 9], [0, 1, 5], [0, 1, 5, 16], [4], [4]]
@[go_sem] noncomputable def s_find_K : Known := Known.nil
set_option maxHeartbeats 8000000 in
theorem s_find : Sound Tryz.prog 208 ctFind := by
  have ke := s_find_K.env []
  have kl : Lives s_find_lv := trivial
  refine sound_intro (E := ⟨ti, s_find_K.Γ, []⟩) ke Tryz.func208 Tryz.ntmps208 rfl (rs := [.tmp 4]) rfl ?_
  intro args os hp
  unfold ctFind at hp ⊢
  dsimp only at hp ⊢
  split at hp
  · rename_i s c
    obtain ⟨hlen, c0, c1⟩ : s.size ≤ 1000000 ∧ 0 ≤ c ∧ c ≤ 255 := hp
    refine ⟨by simp, fun φ0 w0 => ?_⟩
    have hll : s.data.toList.length = s.size := rfl
    refine goh trivial ?_
    refine W_for s.size (fun i => UInt8.ofNat c.toNat ∉ s.data.toList.take i) (fun i => ⟨[(0, vs s), (1, .one (.val (.int .u8 c))), (5, vi i)], [], []⟩) [] (leh trivial) (by simp) fun i hi hI => ?_
    refine goh trivial ?_
    refine W_cnd ?_ ?_ <;> (try simp only [cnd_r]) <;> intro hlt
    · have hil : i < s.data.toList.length := by omega
      have hg := getD_list s hil
      refine goh trivial ?_
      refine W_cnd ?_ ?_ <;> (try simp only [cnd_r]) <;> intro hc
      · have hb := (byte_eq (s.data.getD i 0) c0 c1).1 hc
        rw [hg] at hb
        have e := (find_at hil hI hb).1
        refine goh trivial ?_
        exact finh [] e
      · simp only [beq_eq_false_iff_ne, ne_eq] at hc
        have hb : ¬ s.data.getD i 0 = UInt8.ofNat c.toNat := fun h => hc ((byte_eq _ c0 c1).2 h)
        rw [hg] at hb
        refine goh trivial ?_
        refine ⟨[], by omega, leh trivial, ?_⟩
        rw [List.take_succ_eq_append_getElem hil, List.mem_append, List.mem_singleton]
        rintro (h | h)
        · exact hI h
        · exact hb h.symm
    · have hI2 : UInt8.ofNat c.toNat ∉ s.data.toList := by
        rw [List.take_of_length_le (by omega)] at hI; exact hI
      have e := find_not hI2
      refine goh trivial ?_
      exact finh [] e
  · simp [no, ifp] at hp
@[go_sem] def ctCutB : Ct := ⟨false, [], fun args os => match args, os with
  | [.one (.val (.string s)), .one (.val (.int .u8 c))], [] => ⟨s.size ≤ 1000000 ∧ 0 ≤ c ∧ c ≤ 255, .one (.osl .str 0 0 (splitV (UInt8.ofNat c.toNat) s).length), [], [.arr .str (splitV (UInt8.ofNat c.toNat) s)]⟩
  | _, _ => no⟩
theorem s_cutB_e : EnterOk Tryz.prog 136 := ⟨_, Tryz.func136, rfl, by decide⟩
@[go_sem] def s_cutB_lv : List (List Nat) := [[0, 1], [0, 1, 5], [0, 1, 5, 6], [0, 1, 5, 6, 7], [0, 1, 5, 6, 7, 12], [0, 1, 5, 6, 7], [0, 1, 5, 6, 7, 25], [0, 1, 5, 7], [0, 1, 5, 6, 7], [4]]
@[go_sem] noncomputable def s_cutB_K : Known := Known.nil
set_option maxHeartbeats 8000000 in
theorem s_cutB : Sound Tryz.prog 136 ctCutB := by
  have ke := s_cutB_K.env []
  have kl : Lives s_cutB_lv := trivial
  refine sound_intro (E := ⟨ti, s_cutB_K.Γ, []⟩) ke Tryz.func136 Tryz.ntmps136 rfl (rs := [.tmp 4]) rfl ?_
  intro args os hp
  unfold ctCutB at hp ⊢
  dsimp only at hp ⊢
  split at hp
  · rename_i s c
    obtain ⟨hlen, c0, c1⟩ : s.size ≤ 1000000 ∧ 0 ≤ c ∧ c ≤ 255 := hp
    refine ⟨by simp, fun φ0 w0 => ?_⟩
    have hll : s.data.toList.length = s.size := rfl
    obtain ⟨b, hb⟩ : ∃ b, UInt8.ofNat c.toNat = b := ⟨_, rfl⟩
    rw [hb]
    have hsl := splitV_len b s
    refine goh trivial ?_
    refine W_le (σ' := ⟨[(0, vs s), (1, .one (.val (.int .u8 c))), (5, .one (.osl .str 0 0 ([] : List ByteArray).length)), (6, vi (0 : Nat)), (7, vi (0 : Nat))], [some (.arr .str ([] : List ByteArray))], []⟩) [some 0] (leh (show (((0 : Nat) : Int)) = 0 from rfl)) ?_
    refine W_loop (fun q σ => ∃ (i f : Nat) (out : List ByteArray), q = s.size + 1 - i ∧ i ≤ s.size + 1 ∧ out.length ≤ i ∧ (i ≤ s.size → f ≤ i ∧ b ∉ (s.data.toList.drop f).take (i - f) ∧ out ++ (cutL b (s.data.toList.drop f)).map bytesL = splitV b s) ∧ (i = s.size + 1 → out = splitV b s) ∧ σ = ⟨[(0, vs s), (1, .one (.val (.int .u8 c))), (5, .one (.osl .str 0 0 out.length)), (6, vi f), (7, vi i)], [some (.arr .str out)], []⟩) (s.size + 1) ⟨0, 0, [], rfl, by omega, by simp, fun _ => ⟨Nat.le_refl _, by simp, by simp [splitV]⟩, fun h => by omega, rfl⟩ ?_
    rintro q σ ⟨i, f, out, rfl, hi, hol, hI, hE, rfl⟩
    refine goh trivial ?_
    refine W_cnd ?_ ?_ <;> (try simp only [cnd_r]) <;> intro hlt
    · have hi2 : i ≤ s.size := by omega
      obtain ⟨hf, hn, ho⟩ := hI hi2
      have hex := extract_list s f i
      by_cases hz : i = s.size
      · have cz : ((i : Int) == (s.size : Int)) = true := by simp [hz]
        have hnn : b ∉ s.data.toList.drop f := by
          rw [List.take_of_length_le (by rw [List.length_drop]; omega)] at hn; exact hn
        have ho2 : out ++ [s.extract f i] = splitV b s := by
          rw [cut_none _ _ hnn] at ho
          rw [hex, List.take_of_length_le (by rw [List.length_drop]; omega)]; exact ho
        refine goh cz ?_
        refine W_cnd ?_ ?_ <;> intro hlit <;> try (cases hlit; done)
        refine goh trivial ?_
        refine ⟨s.size + 1 - (i + 1), [some 2], ⟨[(0, vs s), (1, .one (.val (.int .u8 c))), (5, .one (.osl .str 0 0 (out ++ [s.extract f i]).length)), (6, vi (i + 1 : Nat)), (7, vi (i + 1 : Nat))], [some (.arr .str (out ++ [s.extract f i]))], []⟩, by omega, leh trivial, i + 1, i + 1, _, rfl, by omega, ?_, fun h => by omega, fun _ => ho2, rfl⟩
        rw [List.length_append]; simp only [List.length_cons, List.length_nil]; omega
      · have cz : ((i : Int) == (s.size : Int)) = false := by simp; omega
        have hil : i < s.data.toList.length := by omega
        have hg := getD_list s hil
        by_cases hc : s.data.getD i 0 = b
        · have cc : (((s.data.getD i 0).toNat : Int) == c) = true := by
            rw [beq_iff_eq]; exact (byte_eq _ c0 c1).2 (hc.trans hb.symm)
          rw [hg] at hc
          have hd := drop_at hil hf
          rw [hc] at hd
          have ho2 : out ++ [s.extract f i] ++ (cutL b (s.data.toList.drop (i + 1))).map bytesL = splitV b s := by
            rw [hd, cut_app _ _ _ hn] at ho
            rw [← ho, hex, List.append_assoc]; rfl
          refine goh (And.intro cz cc) ?_
          refine W_cnd ?_ ?_ <;> intro hlit <;> try (cases hlit; done)
          refine goh trivial ?_
          refine ⟨s.size + 1 - (i + 1), [some 2], ⟨[(0, vs s), (1, .one (.val (.int .u8 c))), (5, .one (.osl .str 0 0 (out ++ [s.extract f i]).length)), (6, vi (i + 1 : Nat)), (7, vi (i + 1 : Nat))], [some (.arr .str (out ++ [s.extract f i]))], []⟩, by omega, leh trivial, i + 1, i + 1, _, rfl, by omega, ?_, fun _ => ⟨Nat.le_refl _, by simp, ho2⟩, fun h => by omega, rfl⟩
          rw [List.length_append]; simp only [List.length_cons, List.length_nil]; omega
        · have cc : (((s.data.getD i 0).toNat : Int) == c) = false := by
            rw [beq_eq_false_iff_ne]; exact fun h => hc (((byte_eq _ c0 c1).1 h).trans hb)
          rw [hg] at hc
          have hn2 : b ∉ (s.data.toList.drop f).take (i + 1 - f) := by
            rw [take_at hil hf, List.mem_append, List.mem_singleton]
            rintro (h | h)
            · exact hn h
            · exact hc h.symm
          refine goh (And.intro cz cc) ?_
          refine W_cnd ?_ ?_ <;> intro hlit <;> try (cases hlit; done)
          refine goh trivial ?_
          exact ⟨s.size + 1 - (i + 1), [some 0], ⟨[(0, vs s), (1, .one (.val (.int .u8 c))), (5, .one (.osl .str 0 0 out.length)), (6, vi f), (7, vi (i + 1 : Nat))], [some (.arr .str out)], []⟩, by omega, leh trivial, i + 1, f, out, rfl, by omega, by omega, fun _ => ⟨by omega, hn2, ho⟩, fun h => by omega, rfl⟩
    · have hz : i = s.size + 1 := by omega
      have e := hE hz
      refine goh trivial ?_
      exact finh [some 0] e
  · simp [no] at hp
@[go_sem] noncomputable def ctSpecOpenS : Ct := ⟨false, [], fun args os => match args, os with
  | [.one (.val (.string s))], [] => ifp (s.size ≤ 1000000) (.tup [vs (openV s).1, vb (openV s).2])
  | _, _ => no⟩
theorem s_specSumOpen_e : EnterOk Tryz.prog 135 := ⟨_, Tryz.func135, rfl, by decide⟩
@[go_sem] def s_specSumOpen_lv : List (List Nat) := [[0], [0, 4], [0, 4, 17], [2, 3], [2, 3]]
@[go_sem] noncomputable def s_specSumOpen_K : Known := ((Known.nil).cons 208 ctFind s_find s_find_e).cons 102 ctSeal s_specSeal s_specSeal_e
set_option maxHeartbeats 8000000 in
theorem s_specSumOpen : Sound Tryz.prog 135 ctSpecOpenS := by
  have ke := s_specSumOpen_K.env []
  have kl : Lives s_specSumOpen_lv := trivial
  refine sound_intro (E := ⟨ti, s_specSumOpen_K.Γ, []⟩) ke Tryz.func135 Tryz.ntmps135 rfl (rs := [.tmp 2, .tmp 3]) rfl ?_
  intro args os hp
  unfold ctSpecOpenS at hp ⊢
  dsimp only at hp ⊢
  split at hp
  · rename_i s
    refine ⟨by simp, fun φ0 w0 => ?_⟩
    have hlen : s.size ≤ 1000000 := hp
    have nt : (!true) = false := rfl
    have nf : (!false) = true := rfl
    have h58 : UInt8.ofNat 58 = 58 := rfl
    by_cases hm : (58 : UInt8) ∈ s.data.toList
    · obtain ⟨i, hi, hc, hn⟩ : ∃ i, ∃ hi : i < s.data.toList.length, s.data.toList[i] = 58 ∧ (58 : UInt8) ∉ s.data.toList.take i := by
        obtain ⟨w, r, hw, hnw⟩ := List.eq_append_cons_of_mem hm
        refine ⟨w.length, by rw [hw]; simp, by simp [hw], by rw [hw]; simpa using hnw⟩
      obtain ⟨f1, f2, f3⟩ := find_at hi hn hc
      have hil : i < s.size := hi
      have e : openV s = if same (sealV (s.extract (i + 1) s.size)) s = true then (s.extract (i + 1) s.size, true) else (⟨#[]⟩, false) := by
        unfold openV
        rw [f2, f3]
        simp only [true_and]
      have hw : IntKind.i64.wrap ((i : Int) + 1) = ((i + 1 : Nat) : Int) := wrap_id _ (by omega) (by omega)
      have c : decide ((i : Int) < 0) = false := by simp
      cases hs : same (sealV (s.extract (i + 1) s.size)) s with
      | false =>
        rw [hs, if_neg (by decide)] at e
        refine goh (And.intro h58 (And.intro f1 (And.intro hw (And.intro c (And.intro hs nf))))) ?_
        refine W_cnd ?_ ?_ <;> intro hlit <;> try (cases hlit; done)
        refine goh trivial ?_
        exact finh [] e
      | true =>
        rw [hs, if_pos rfl] at e
        refine goh (And.intro h58 (And.intro f1 (And.intro hw (And.intro c (And.intro hs nt))))) ?_
        refine W_cnd ?_ ?_ <;> intro hlit <;> try (cases hlit; done)
        refine goh hw ?_
        exact finh [] e
    · have f1 := find_not hm
      have e : openV s = (⟨#[]⟩, false) := by
        unfold openV
        rw [cutV_not hm, if_neg (by rintro ⟨h, -⟩; cases h)]
      refine goh (And.intro h58 f1) ?_
      refine W_cnd ?_ ?_ <;> intro hlit <;> try (cases hlit; done)
      refine goh trivial ?_
      exact finh [] e
  · simp [no, ifp] at hp
end Go.Proofs.YtjedcphhajlnoaaGreatDoor
