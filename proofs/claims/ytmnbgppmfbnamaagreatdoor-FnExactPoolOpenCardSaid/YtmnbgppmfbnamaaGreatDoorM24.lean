import Derived.Test.YtmnbgppmfbnamaaGreatDoorRows
import Derived.ProofKit
import Derived.OpenShut
import Derived.ShutString
import Derived.ChangeOld
import Derived.Below
import Derived.Test.YtmnbgppmfbnamaaGreatDoorM5
import Derived.Test.YtmnbgppmfbnamaaGreatDoorM13
import Derived.Test.YtmnbgppmfbnamaaGreatDoorM20
set_option linter.unusedSimpArgs false
set_option linter.unusedVariables false
set_option linter.unusedSectionVars false
/- Functions: a new store, of both programs; the exact law. -/
namespace Go.Proofs.YtmnbgppmfbnamaaGreatDoor
open Go.RowKit

noncomputable def poolNew (n : Int) : Pl := if (newV n).2.2 = true then ⟨(newV n).1, (newV n).2.1, true⟩ else .nil
@[go_sem] noncomputable def ctPoolNew : Ct := ⟨false, [], fun args os => match args, os with
  | [.one (.val (.int .i64 n))], [] => ⟨True, (poolNew n).v, [], (poolNew n).objs⟩
  | _, _ => no⟩
theorem s_specPoolNew_e : EnterOk Tryz.prog 39 := ⟨_, Tryz.func39, rfl, by decide⟩
@[go_sem] def s_specPoolNew_lv : List (List Nat) := [[0, 2], [2, 3, 4, 5], [2, 3, 4, 13], [2], [2]]
@[go_sem] noncomputable def s_specPoolNew_K : Known := (Known.nil).cons 37 ctNewS s_specNew s_specNew_e
set_option maxHeartbeats 8000000 in
theorem s_specPoolNew : Sound Tryz.prog 39 ctPoolNew := by
  have ke := s_specPoolNew_K.env []
  have kl : Lives s_specPoolNew_lv := trivial
  refine sound_intro (E := ⟨ti, s_specPoolNew_K.Γ, []⟩) ke Tryz.func39 Tryz.ntmps39 rfl (rs := [.cell 2 79]) rfl ?_
  intro args os hp
  unfold ctPoolNew at hp ⊢
  dsimp only at hp ⊢
  split at hp
  · rename_i n
    refine ⟨by simp, fun φ0 w0 => ?_⟩
    clear hp
    have nt : (!true) = false := rfl
    have nf : (!false) = true := rfl
    have e : poolNew n = if (newV n).2.2 = true then ⟨(newV n).1, (newV n).2.1, true⟩ else .nil := rfl
    obtain ⟨⟨D, C, k⟩, hk⟩ : ∃ r, newV n = r := ⟨_, rfl⟩
    rw [hk] at e
    simp only at e
    cases k with
    | true =>
      rw [if_pos rfl] at e
      refine goh (And.intro hk nt) ?_
      refine W_cnd ?_ ?_ <;> intro hlit <;> try (cases hlit; done)
      refine goh trivial ?_
      exact finh [some 1, some 2, some 3, some 4, some 5, some 6, some 7] e
    | false =>
      rw [if_neg (by decide)] at e
      refine goh (And.intro hk nf) ?_
      refine W_cnd ?_ ?_ <;> intro hlit <;> try (cases hlit; done)
      refine goh trivial ?_
      refine ⟨by (simp only [go_sem, e, Pl.nil, Dk.nil, Co.nil, ↓reduceIte, reduceCtorEq, Nat.reduceAdd, Nat.reduceLT, Nat.reduceLeDiff, Nat.reduceEqDiff]) <;> trivial, [none, none, none, none, none, none, none], ?_⟩
      all_goals try simp only [go_sem, e, Pl.nil, Dk.nil, Co.nil, inj_r, ↓reduceIte, reduceCtorEq, Nat.reduceAdd, Nat.reduceLT, Nat.reduceLeDiff, Nat.reduceEqDiff, Int.reduceEq]
      all_goals (repeat' refine And.intro ?_ ?_) <;> try exact shut7
  · simp [no] at hp
theorem s_poolNew_e : EnterOk Tryz.prog 40 := ⟨_, Tryz.func40, rfl, by decide⟩
@[go_sem] def s_poolNew_lv : List (List Nat) := [[0, 2], [2, 3, 4, 5], [2, 3, 4, 13], [2], [2]]
@[go_sem] noncomputable def s_poolNew_K : Known := (Known.nil).cons 38 ctNewS s_implNew s_implNew_e
set_option maxHeartbeats 8000000 in
theorem s_poolNew : Sound Tryz.prog 40 ctPoolNew := by
  have ke := s_poolNew_K.env []
  have kl : Lives s_poolNew_lv := trivial
  refine sound_intro (E := ⟨ti, s_poolNew_K.Γ, []⟩) ke Tryz.func40 Tryz.ntmps40 rfl (rs := [.cell 2 79]) rfl ?_
  intro args os hp
  unfold ctPoolNew at hp ⊢
  dsimp only at hp ⊢
  split at hp
  · rename_i n
    refine ⟨by simp, fun φ0 w0 => ?_⟩
    clear hp
    have nt : (!true) = false := rfl
    have nf : (!false) = true := rfl
    have e : poolNew n = if (newV n).2.2 = true then ⟨(newV n).1, (newV n).2.1, true⟩ else .nil := rfl
    obtain ⟨⟨D, C, k⟩, hk⟩ : ∃ r, newV n = r := ⟨_, rfl⟩
    rw [hk] at e
    simp only at e
    cases k with
    | true =>
      rw [if_pos rfl] at e
      refine goh (And.intro hk nt) ?_
      refine W_cnd ?_ ?_ <;> intro hlit <;> try (cases hlit; done)
      refine goh trivial ?_
      exact finh [some 1, some 2, some 3, some 4, some 5, some 6, some 7] e
    | false =>
      rw [if_neg (by decide)] at e
      refine goh (And.intro hk nf) ?_
      refine W_cnd ?_ ?_ <;> intro hlit <;> try (cases hlit; done)
      refine goh trivial ?_
      refine ⟨by (simp only [go_sem, e, Pl.nil, Dk.nil, Co.nil, ↓reduceIte, reduceCtorEq, Nat.reduceAdd, Nat.reduceLT, Nat.reduceLeDiff, Nat.reduceEqDiff]) <;> trivial, [none, none, none, none, none, none, none], ?_⟩
      all_goals try simp only [go_sem, e, Pl.nil, Dk.nil, Co.nil, inj_r, ↓reduceIte, reduceCtorEq, Nat.reduceAdd, Nat.reduceLT, Nat.reduceLeDiff, Nat.reduceEqDiff, Int.reduceEq]
      all_goals (repeat' refine And.intro ?_ ?_) <;> try exact shut7
  · simp [no] at hp
theorem mid_poolNew (n : Int) : (poolNew n).disk.mid ∧ (poolNew n).core.mid := by
  have h := mid_new n
  unfold poolNew
  split
  · exact h
  · exact ⟨Dk.mid_nil, Co.mid_nil⟩
@[go_sem] def ct_s_xPoolOpen : Ct := ⟨false, [], fun args os => match args, os with
  | [.one (.val (.int .i64 n))], [] => is (vb true)
  | _, _ => no⟩
theorem s_xPoolOpen_e : EnterOk Tryz.prog 7 := ⟨_, Tryz.func7, rfl, by decide⟩
@[go_sem] def s_xPoolOpen_lv : List (List Nat) := [[0], [0, 3], [0, 3, 4], [0, 3, 4, 15], [2], [0, 3, 4, 5], [0, 3, 4, 5], [0, 3, 4, 5, 6], [0, 3, 4, 5, 6], [0, 3, 4, 5, 6, 23], [2], [0, 3, 4, 5, 26], [2], [3, 4, 5, 7], [4, 5, 32], [2], [4, 5, 6], [5, 6], [5, 6, 37], [2], [40], [2], [2]]
@[go_sem] noncomputable def s_xPoolOpen_K : Known := (((((Known.nil).cons 39 ctPoolNew s_specPoolNew s_specPoolNew_e).cons 40 ctPoolNew s_poolNew s_poolNew_e).cons 41 ctEqPool s_eqPool s_eqPool_e).cons 42 ctMarkPool s_markPool s_markPool_e).cons 43 ctHeldPool s_heldPool s_heldPool_e
set_option maxHeartbeats 8000000 in
theorem s_xPoolOpen : Sound Tryz.prog 7 ct_s_xPoolOpen := by
  have ke := s_xPoolOpen_K.env []
  have kl : Lives s_xPoolOpen_lv := trivial
  refine sound_intro (E := ⟨ti, s_xPoolOpen_K.Γ, []⟩) ke Tryz.func7 Tryz.ntmps7 rfl (rs := [.tmp 2]) rfl ?_
  intro args os hp
  unfold ct_s_xPoolOpen at hp ⊢
  dsimp only at hp ⊢
  split at hp
  · rename_i n
    refine ⟨by simp, fun φ0 w0 => ?_⟩
    clear hp
    have nt : (!true) = false := rfl
    have hmid := mid_poolNew n
    obtain ⟨r, hx⟩ : ∃ r, poolNew n = r := ⟨_, rfl⟩
    rw [hx] at hmid
    obtain ⟨⟨y1, y2, y3⟩, y4, y5, y6, y7⟩ := hmid
    have c1 : decide (1 + (r.disk.a.length : Int) + r.disk.b.length + 3 * r.disk.l.length + 7 * r.core.sets.length + 3 * r.core.ddt.length + 3 * r.core.parts.length + r.core.safe.length < 0) = false := by simp; omega
    refine goh (And.intro hx (And.intro c1 nt)) ?_
    refine W_cnd ?_ ?_ <;> intro hlit <;> try (cases hlit; done)
    refine goh (And.intro hx (And.intro c1 nt)) ?_
    refine W_cnd ?_ ?_ <;> intro hlit <;> try (cases hlit; done)
    refine goh (And.intro hx (And.intro c1 nt)) ?_
    refine W_cnd ?_ ?_ <;> intro hlit <;> try (cases hlit; done)
    refine goh (And.intro hx (And.intro c1 nt)) ?_
    refine W_cnd ?_ ?_ <;> intro hlit <;> try (cases hlit; done)
    refine goh (And.intro hx (And.intro c1 nt)) ?_
    refine W_cnd ?_ ?_ <;> intro hlit <;> try (cases hlit; done)
    refine goh (And.intro hx (And.intro c1 nt)) ?_
    refine W_cnd ?_ ?_ <;> intro hlit <;> try (cases hlit; done)
    refine goh trivial ?_
    exact finh [] trivial
  · simp [no, is] at hp
end Go.Proofs.YtmnbgppmfbnamaaGreatDoor
/- From a contract to the given statement: laws of one text of bytes. -/
namespace Go.Proofs.YtmnbgppmfbnamaaGreatDoor
open Go.ChangeShapes Go.WideShapes Go.ChangeAt Go.RowKit

theorem own : ownKnob Tryz.prog.godebug = none := by kernel_rfl
theorem laidOut : laidOutB Tryz.prog = true := by kernel_rfl

def bytesOf (zs : List Int) : List UInt8 := zs.map fun n => UInt8.ofNat n.toNat
/-- What is known of a slice of bytes that came in. -/
def IsBytes (w : World) (v : Value) (bs : List UInt8) : Prop :=
  ∃ a cap, v = .slice a bs.length cap ∧ bs.length ≤ cap ∧ (a = none → cap = 0) ∧ (∀ ad, a = some ad → ad.spot = none) ∧ (bs ≠ [] → ∃ b o, a = some ⟨b, o, none⟩ ∧ b < w.heap.size ∧ CellsAt w b o (bs.flatMap (ET.cells .byte)))
theorem bytes_open {H : Type} {enc : TypeId × Value → H} {P : Program} {w : World} {base : Nat} {spare : Nat → Bool} {held : Bool} {t e : TypeId} {v : Value} {x : DataW H × List MemPlace} (ht : P.underlying t = some (.slice e)) (he : P.underlying e = some (.int .u8)) (hc : P.cellsOf e = 1)
    (hv : Value.okWide P w .any base t v) {fuel : Nat} (h : DataW.trod enc P w 0 spare held fuel t v.cells.toList = some x) : ∃ bs, IsBytes w v bs := by
  obtain ⟨a, len, cap, rfl⟩ := okWide_slice ht hv
  rcases open_ints ht he hc h with ⟨hcs, _⟩ | ⟨x, l, c, zs, hcs, _, hl, hm, hz, _, hcell, hwz⟩
  · simp [Value.cells] at hcs
    obtain ⟨rfl, rfl, rfl⟩ := hcs
    exact ⟨[], none, 0, rfl, Nat.le_refl _, fun _ => rfl, fun _ h => by simp at h, fun h => absurd rfl h⟩
  · simp [Value.cells] at hcs
    obtain ⟨rfl, rfl, rfl⟩ := hcs
    have hsp : x.spot = none := by
      simp only [Value.okWide, ht, Cell.okWide, Cell.ok] at hv
      exact hv.2.2.2.1
    obtain ⟨b, o, sp⟩ := x
    simp only at hsp
    subst hsp
    have hlz : len ≤ zs.length := by
      rw [hz]; split
      · exact hl
      · exact Nat.le_refl _
    have hlen : (bytesOf (zs.take len)).length = len := by
      unfold bytesOf; rw [List.length_map, List.length_take]; omega
    have hval : ∀ i, i < len → w.cell? ⟨b, o + i, none⟩ = some (.int .u8 ((bytesOf (zs.take len)).getD i 0).toNat) := by
      intro i hi
      have h1 := hcell i (by omega)
      have h2 := hwz (zs.getD i 0) (by
        rw [List.getD_eq_getElem?_getD, List.getElem?_eq_getElem (show i < zs.length by omega)]
        exact List.getElem_mem _)
      have h3 : 0 ≤ zs.getD i 0 ∧ zs.getD i 0 ≤ 255 := by
        have : ∀ n : Int, (Lit.int .u8 n).wf = true → 0 ≤ n ∧ n ≤ 255 := by
          intro n hn
          simp [Lit.wf, show IntKind.u8.min = 0 from rfl, show IntKind.u8.max = 255 from rfl] at hn
          omega
        exact this _ h2
      have h4 : ((bytesOf (zs.take len)).getD i 0) = UInt8.ofNat (zs.getD i 0).toNat := by
        unfold bytesOf
        rw [List.getD_eq_getElem?_getD, List.getElem?_map, List.getElem?_take, if_pos hi, List.getD_eq_getElem?_getD, List.getElem?_eq_getElem (show i < zs.length by omega)]
        rfl
      rw [h4, UInt8.toNat_ofNat']
      have h6 : (Addr.mk b o none).add i = Addr.mk b (o + i) none := by
        unfold Addr.add; split
        · rename_i h; subst h; rfl
        · rfl
      rw [h6] at h1
      rw [h1]
      congr 2
      omega
    refine ⟨bytesOf (zs.take len), some ⟨b, o, none⟩, cap, by rw [hlen], by rw [hlen]; exact hl, (fun h => by cases h), (fun ad h => by cases h; rfl), fun hne => ⟨b, o, rfl, ?_, ?_⟩⟩
    · have : 0 < len := by
        rw [← hlen]; exact List.length_pos_iff.2 hne
      have h0 := hval 0 this
      unfold World.cell? at h0
      rcases Nat.lt_or_ge b w.heap.size with hb | hb
      · exact hb
      · rw [Array.getElem?_eq_none hb] at h0; cases h0
    · intro i v hv
      have hi : i < len := by
        have := (List.getElem?_eq_some_iff.1 hv).1
        rw [flat_len, hlen] at this
        simpa [ET.sz] using this
      rw [hval i hi]
      have h5 := flat_get .byte (bytesOf (zs.take len)) i 0 (by rw [hlen]; exact hi) (by decide)
      have h6 : i * ET.byte.sz + 0 = i := by simp [ET.sz]
      rw [h6, hv] at h5
      simp only [ET.cells, List.getElem?_cons_zero, Option.some.injEq] at h5
      rw [h5, List.getD_eq_getElem?_getD, List.getElem?_eq_getElem (by rw [hlen]; exact hi)]
      rfl
def phi0 : Phi := ⟨fun _ => none, fun _ => False⟩
theorem not_own0 {b : Nat} : ¬ Own phi0 (tabOf []) b := fun ⟨k, base, h, _⟩ => by simp [tabOf] at h
theorem isBytes_R {w : World} {v : Value} {bs : List UInt8} (h : IsBytes w v bs) : VR phi0 (tabOf []) w (.one (.isl .byte bs)) v := by
  obtain ⟨a, cap, h1, h2, h3, h4, h5⟩ := h
  simp only [VR, CR]
  exact ⟨a, cap, h1, h2, h3, h4, fun hne => by
    obtain ⟨b, o, h6, h7, h8⟩ := h5 hne
    exact ⟨b, o, h6, ⟨h7, not_own0, fun hf => hf⟩, h8⟩⟩
theorem glo_none (h : gloL = []) (w : World) : GloOk0 w := fun q hq => by rw [h] at hq; cases hq
theorem rel0 (w : World) (hg : GloOk0 w) : Rel phi0 (tabOf []) w := ⟨fun k o h => by simp [tabOf] at h, fun k _ _ _ _ h _ _ _ => by simp [tabOf] at h, fun b h => h.elim, fun q hq => ⟨fun ⟨k, _, h, _⟩ => h (by simp [tabOf]), hg q hq⟩⟩
/-- A contract that hands over nothing and gets nothing new back: what was there is as it was. -/
theorem post_below {w w' : World} {n : Nat} {s : St} {e : Ending} (h : Post phi0 (tabOf []) w n s e w') : ∃ r φ', e = .returned r ∧ VR φ' (newT (tabOf []) n s) w' s.v r ∧ Below w.heap.size w w' := by
  obtain ⟨r, φ', h1, h2, -, hg, -⟩ := h
  exact ⟨r, φ', h1, h2, hg.os, hg.tape, hg.output, hg.size, fun b hb => hg.block b hb not_own0⟩
@[go_sem] def ctLaw1 : Ct := ⟨false, [[some .byte]], fun args os => match args, os with
  | [.one (.isl .byte code)], [] => ⟨True, vb true, [], []⟩
  | _, _ => no⟩
@[go_sem] def ctLaw2 : Ct := ⟨false, [[some .byte], [some .byte]], fun args os => match args, os with
  | [.one (.isl .byte code), .one (.isl .byte more)], [] => ⟨True, vb true, [], []⟩
  | _, _ => no⟩
theorem law1 {f : FuncId} (h : Sound Tryz.prog f ctLaw1) {w : World} {v : Value} {bs : List UInt8} (hb : IsBytes w v bs) (hg : GloOk0 w) :
    Calls Tryz.prog f #[v] w fun e w' => e = .returned (.bool true) ∧ Below w.heap.size w w' := by
  refine (h [.one (.isl .byte bs)] [] trivial phi0 w [v] (rel0 w hg) (by simp only [VRs]; exact ⟨isBytes_R hb, trivial⟩) fun _ _ => rfl).mono ?_
  rintro e w' hp
  obtain ⟨r, φ', rfl, hv, hbl⟩ := post_below hp
  simp only [ctLaw1, vb, VR, CR] at hv
  subst hv
  exact ⟨rfl, hbl⟩
theorem law2 {f : FuncId} (h : Sound Tryz.prog f ctLaw2) {w : World} {v u : Value} {bs cs : List UInt8} (hb : IsBytes w v bs) (hc : IsBytes w u cs) (hg : GloOk0 w) :
    Calls Tryz.prog f #[v, u] w fun e w' => e = .returned (.bool true) ∧ Below w.heap.size w w' := by
  refine (h [.one (.isl .byte bs), .one (.isl .byte cs)] [] trivial phi0 w [v, u] (rel0 w hg) (by simp only [VRs]; exact ⟨isBytes_R hb, isBytes_R hc, trivial⟩) fun _ _ => rfl).mono ?_
  rintro e w' hp
  obtain ⟨r, φ', rfl, hv, hbl⟩ := post_below hp
  simp only [ctLaw2, vb, VR, CR] at hv
  subst hv
  exact ⟨rfl, hbl⟩
end Go.Proofs.YtmnbgppmfbnamaaGreatDoor
