import Derived.Test.YtmnbgppmfbnamaaGreatDoorRows
import Derived.ProofKit
import Derived.OpenShut
import Derived.ShutString
import Derived.ChangeOld
import Derived.Below
import Derived.Test.YtmnbgppmfbnamaaGreatDoorM5
set_option linter.unusedSimpArgs false
set_option linter.unusedVariables false
set_option linter.unusedSectionVars false
/- From a contract to the given statement: laws of one text of bytes. -/
namespace Go.Proofs.YtmnbgppmfbnamaaGreatDoor
open Go.ChangeShapes Go.WideShapes Go.ChangeAt Go.RowKit

theorem own : ownKnob Tryz.prog.godebug = none := by kernel_rfl
theorem laidOut : laidOutB Tryz.prog = true := by kernel_rfl

def bytesOf (zs : List Int) : List UInt8 := zs.map fun n => UInt8.ofNat n.toNat
/-- What is known of a slice of bytes that came in. -/
def IsBytes (w : World) (v : Value) (bs : List UInt8) : Prop :=
  ∃ a cap, v = .slice a bs.length cap ∧ bs.length ≤ cap ∧ (a = none → cap = 0) ∧ (∀ ad, a = some ad → ad.spot = none) ∧ (bs ≠ [] → ∃ b o, a = some ⟨b, o, none⟩ ∧ b < w.heap.size ∧ CellsAt w b o (bs.flatMap (ET.cells .byte)))
theorem bytes_open {H : Type} {enc : TypeId × Value → H} {P : Program} {w : World} {base : Nat} {spare : Nat → Bool} {held : Bool} {t e : TypeId} {v : Value} {x : DataW H × List MemPlace} (ht : P.underlying t = some (.slice e)) (he : P.underlying e = some (.int .u8)) (hc : P.cellsOf e = 1)
    (hv : Value.okWide P w .any base t v) {fuel : Nat} (h : DataW.trod enc P w 0 spare held fuel t v.cells.toList = some x) : ∃ bs, IsBytes w v bs := by
  obtain ⟨a, len, cap, rfl⟩ := okWide_slice ht hv
  rcases open_ints ht he hc h with ⟨hcs, _⟩ | ⟨x, l, c, zs, hcs, _, hl, hm, hz, _, hcell, hwz⟩
  · simp [Value.cells] at hcs
    obtain ⟨rfl, rfl, rfl⟩ := hcs
    exact ⟨[], none, 0, rfl, Nat.le_refl _, fun _ => rfl, fun _ h => by simp at h, fun h => absurd rfl h⟩
  · simp [Value.cells] at hcs
    obtain ⟨rfl, rfl, rfl⟩ := hcs
    have hsp : x.spot = none := by
      simp only [Value.okWide, ht, Cell.okWide, Cell.ok] at hv
      exact hv.2.2.2.1
    obtain ⟨b, o, sp⟩ := x
    simp only at hsp
    subst hsp
    have hlz : len ≤ zs.length := by
      rw [hz]; split
      · exact hl
      · exact Nat.le_refl _
    have hlen : (bytesOf (zs.take len)).length = len := by
      unfold bytesOf; rw [List.length_map, List.length_take]; omega
    have hval : ∀ i, i < len → w.cell? ⟨b, o + i, none⟩ = some (.int .u8 ((bytesOf (zs.take len)).getD i 0).toNat) := by
      intro i hi
      have h1 := hcell i (by omega)
      have h2 := hwz (zs.getD i 0) (by
        rw [List.getD_eq_getElem?_getD, List.getElem?_eq_getElem (show i < zs.length by omega)]
        exact List.getElem_mem _)
      have h3 : 0 ≤ zs.getD i 0 ∧ zs.getD i 0 ≤ 255 := by
        have : ∀ n : Int, (Lit.int .u8 n).wf = true → 0 ≤ n ∧ n ≤ 255 := by
          intro n hn
          simp [Lit.wf, show IntKind.u8.min = 0 from rfl, show IntKind.u8.max = 255 from rfl] at hn
          omega
        exact this _ h2
      have h4 : ((bytesOf (zs.take len)).getD i 0) = UInt8.ofNat (zs.getD i 0).toNat := by
        unfold bytesOf
        rw [List.getD_eq_getElem?_getD, List.getElem?_map, List.getElem?_take, if_pos hi, List.getD_eq_getElem?_getD, List.getElem?_eq_getElem (show i < zs.length by omega)]
        rfl
      rw [h4, UInt8.toNat_ofNat']
      have h6 : (Addr.mk b o none).add i = Addr.mk b (o + i) none := by
        unfold Addr.add; split
        · rename_i h; subst h; rfl
        · rfl
      rw [h6] at h1
      rw [h1]
      congr 2
      omega
    refine ⟨bytesOf (zs.take len), some ⟨b, o, none⟩, cap, by rw [hlen], by rw [hlen]; exact hl, (fun h => by cases h), (fun ad h => by cases h; rfl), fun hne => ⟨b, o, rfl, ?_, ?_⟩⟩
    · have : 0 < len := by
        rw [← hlen]; exact List.length_pos_iff.2 hne
      have h0 := hval 0 this
      unfold World.cell? at h0
      rcases Nat.lt_or_ge b w.heap.size with hb | hb
      · exact hb
      · rw [Array.getElem?_eq_none hb] at h0; cases h0
    · intro i v hv
      have hi : i < len := by
        have := (List.getElem?_eq_some_iff.1 hv).1
        rw [flat_len, hlen] at this
        simpa [ET.sz] using this
      rw [hval i hi]
      have h5 := flat_get .byte (bytesOf (zs.take len)) i 0 (by rw [hlen]; exact hi) (by decide)
      have h6 : i * ET.byte.sz + 0 = i := by simp [ET.sz]
      rw [h6, hv] at h5
      simp only [ET.cells, List.getElem?_cons_zero, Option.some.injEq] at h5
      rw [h5, List.getD_eq_getElem?_getD, List.getElem?_eq_getElem (by rw [hlen]; exact hi)]
      rfl
def phi0 : Phi := ⟨fun _ => none, fun _ => False⟩
theorem not_own0 {b : Nat} : ¬ Own phi0 (tabOf []) b := fun ⟨k, base, h, _⟩ => by simp [tabOf] at h
theorem isBytes_R {w : World} {v : Value} {bs : List UInt8} (h : IsBytes w v bs) : VR phi0 (tabOf []) w (.one (.isl .byte bs)) v := by
  obtain ⟨a, cap, h1, h2, h3, h4, h5⟩ := h
  simp only [VR, CR]
  exact ⟨a, cap, h1, h2, h3, h4, fun hne => by
    obtain ⟨b, o, h6, h7, h8⟩ := h5 hne
    exact ⟨b, o, h6, ⟨h7, not_own0, fun hf => hf⟩, h8⟩⟩
theorem glo_none (h : gloL = []) (w : World) : GloOk0 w := fun q hq => by rw [h] at hq; cases hq
theorem rel0 (w : World) (hg : GloOk0 w) : Rel phi0 (tabOf []) w := ⟨fun k o h => by simp [tabOf] at h, fun k _ _ _ _ h _ _ _ => by simp [tabOf] at h, fun b h => h.elim, fun q hq => ⟨fun ⟨k, _, h, _⟩ => h (by simp [tabOf]), hg q hq⟩⟩
/-- A contract that hands over nothing and gets nothing new back: what was there is as it was. -/
theorem post_below {w w' : World} {n : Nat} {s : St} {e : Ending} (h : Post phi0 (tabOf []) w n s e w') : ∃ r φ', e = .returned r ∧ VR φ' (newT (tabOf []) n s) w' s.v r ∧ Below w.heap.size w w' := by
  obtain ⟨r, φ', h1, h2, -, hg, -⟩ := h
  exact ⟨r, φ', h1, h2, hg.os, hg.tape, hg.output, hg.size, fun b hb => hg.block b hb not_own0⟩
@[go_sem] def ctLaw1 : Ct := ⟨false, [[some .byte]], fun args os => match args, os with
  | [.one (.isl .byte code)], [] => ⟨True, vb true, [], []⟩
  | _, _ => no⟩
@[go_sem] def ctLaw2 : Ct := ⟨false, [[some .byte], [some .byte]], fun args os => match args, os with
  | [.one (.isl .byte code), .one (.isl .byte more)], [] => ⟨True, vb true, [], []⟩
  | _, _ => no⟩
theorem law1 {f : FuncId} (h : Sound Tryz.prog f ctLaw1) {w : World} {v : Value} {bs : List UInt8} (hb : IsBytes w v bs) (hg : GloOk0 w) :
    Calls Tryz.prog f #[v] w fun e w' => e = .returned (.bool true) ∧ Below w.heap.size w w' := by
  refine (h [.one (.isl .byte bs)] [] trivial phi0 w [v] (rel0 w hg) (by simp only [VRs]; exact ⟨isBytes_R hb, trivial⟩) fun _ _ => rfl).mono ?_
  rintro e w' hp
  obtain ⟨r, φ', rfl, hv, hbl⟩ := post_below hp
  simp only [ctLaw1, vb, VR, CR] at hv
  subst hv
  exact ⟨rfl, hbl⟩
theorem law2 {f : FuncId} (h : Sound Tryz.prog f ctLaw2) {w : World} {v u : Value} {bs cs : List UInt8} (hb : IsBytes w v bs) (hc : IsBytes w u cs) (hg : GloOk0 w) :
    Calls Tryz.prog f #[v, u] w fun e w' => e = .returned (.bool true) ∧ Below w.heap.size w w' := by
  refine (h [.one (.isl .byte bs), .one (.isl .byte cs)] [] trivial phi0 w [v, u] (rel0 w hg) (by simp only [VRs]; exact ⟨isBytes_R hb, isBytes_R hc, trivial⟩) fun _ _ => rfl).mono ?_
  rintro e w' hp
  obtain ⟨r, φ', rfl, hv, hbl⟩ := post_below hp
  simp only [ctLaw2, vb, VR, CR] at hv
  subst hv
  exact ⟨rfl, hbl⟩
end Go.Proofs.YtmnbgppmfbnamaaGreatDoor
