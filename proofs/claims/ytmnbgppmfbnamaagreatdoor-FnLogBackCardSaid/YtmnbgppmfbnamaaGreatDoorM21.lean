import Derived.Test.YtmnbgppmfbnamaaGreatDoorRows
import Derived.ProofKit
import Derived.OpenShut
import Derived.ShutString
import Derived.ChangeOld
import Derived.Below
import Derived.LaidMore
import Derived.Lay
import Derived.Lib.LaidTab
import Derived.Handed
import Derived.Test.YtmnbgppmfbnamaaGreatDoorM4
import Derived.Test.YtmnbgppmfbnamaaGreatDoorM5
import Derived.Test.YtmnbgppmfbnamaaGreatDoorM6
import Derived.Test.YtmnbgppmfbnamaaGreatDoorM13
import Derived.Test.YtmnbgppmfbnamaaGreatDoorM15
import Derived.Test.YtmnbgppmfbnamaaGreatDoorM20
set_option linter.unusedSimpArgs false
set_option linter.unusedVariables false
set_option linter.unusedSectionVars false
/- From a contract to the given statement: laws of one text of bytes. -/
namespace Go.Proofs.YtmnbgppmfbnamaaGreatDoor
open Go.ChangeShapes Go.WideShapes Go.ChangeAt Go.RowKit

theorem own : ownKnob Tryz.prog.godebug = none := by kernel_rfl
theorem laidOut : laidOutB Tryz.prog = true := by kernel_rfl

def bytesOf (zs : List Int) : List UInt8 := zs.map fun n => UInt8.ofNat n.toNat
/-- What is known of a slice of bytes that came in. -/
def IsBytes (w : World) (v : Value) (bs : List UInt8) : Prop :=
  ∃ a cap, v = .slice a bs.length cap ∧ bs.length ≤ cap ∧ (a = none → cap = 0) ∧ (∀ ad, a = some ad → ad.spot = none) ∧ (bs ≠ [] → ∃ b o, a = some ⟨b, o, none⟩ ∧ b < w.heap.size ∧ CellsAt w b o (bs.flatMap (ET.cells .byte)))
theorem bytes_open {H : Type} {enc : TypeId × Value → H} {P : Program} {w : World} {base : Nat} {spare : Nat → Bool} {held : Bool} {t e : TypeId} {v : Value} {x : DataW H × List MemPlace} (ht : P.underlying t = some (.slice e)) (he : P.underlying e = some (.int .u8)) (hc : P.cellsOf e = 1)
    (hv : Value.okWide P w .any base t v) {fuel : Nat} (h : DataW.trod enc P w 0 spare held fuel t v.cells.toList = some x) : ∃ bs, IsBytes w v bs := by
  obtain ⟨a, len, cap, rfl⟩ := okWide_slice ht hv
  rcases open_ints ht he hc h with ⟨hcs, _⟩ | ⟨x, l, c, zs, hcs, _, hl, hm, hz, _, hcell, hwz⟩
  · simp [Value.cells] at hcs
    obtain ⟨rfl, rfl, rfl⟩ := hcs
    exact ⟨[], none, 0, rfl, Nat.le_refl _, fun _ => rfl, fun _ h => by simp at h, fun h => absurd rfl h⟩
  · simp [Value.cells] at hcs
    obtain ⟨rfl, rfl, rfl⟩ := hcs
    have hsp : x.spot = none := by
      simp only [Value.okWide, ht, Cell.okWide, Cell.ok] at hv
      exact hv.2.2.2.1
    obtain ⟨b, o, sp⟩ := x
    simp only at hsp
    subst hsp
    have hlz : len ≤ zs.length := by
      rw [hz]; split
      · exact hl
      · exact Nat.le_refl _
    have hlen : (bytesOf (zs.take len)).length = len := by
      unfold bytesOf; rw [List.length_map, List.length_take]; omega
    have hval : ∀ i, i < len → w.cell? ⟨b, o + i, none⟩ = some (.int .u8 ((bytesOf (zs.take len)).getD i 0).toNat) := by
      intro i hi
      have h1 := hcell i (by omega)
      have h2 := hwz (zs.getD i 0) (by
        rw [List.getD_eq_getElem?_getD, List.getElem?_eq_getElem (show i < zs.length by omega)]
        exact List.getElem_mem _)
      have h3 : 0 ≤ zs.getD i 0 ∧ zs.getD i 0 ≤ 255 := by
        have : ∀ n : Int, (Lit.int .u8 n).wf = true → 0 ≤ n ∧ n ≤ 255 := by
          intro n hn
          simp [Lit.wf, show IntKind.u8.min = 0 from rfl, show IntKind.u8.max = 255 from rfl] at hn
          omega
        exact this _ h2
      have h4 : ((bytesOf (zs.take len)).getD i 0) = UInt8.ofNat (zs.getD i 0).toNat := by
        unfold bytesOf
        rw [List.getD_eq_getElem?_getD, List.getElem?_map, List.getElem?_take, if_pos hi, List.getD_eq_getElem?_getD, List.getElem?_eq_getElem (show i < zs.length by omega)]
        rfl
      rw [h4, UInt8.toNat_ofNat']
      have h6 : (Addr.mk b o none).add i = Addr.mk b (o + i) none := by
        unfold Addr.add; split
        · rename_i h; subst h; rfl
        · rfl
      rw [h6] at h1
      rw [h1]
      congr 2
      omega
    refine ⟨bytesOf (zs.take len), some ⟨b, o, none⟩, cap, by rw [hlen], by rw [hlen]; exact hl, (fun h => by cases h), (fun ad h => by cases h; rfl), fun hne => ⟨b, o, rfl, ?_, ?_⟩⟩
    · have : 0 < len := by
        rw [← hlen]; exact List.length_pos_iff.2 hne
      have h0 := hval 0 this
      unfold World.cell? at h0
      rcases Nat.lt_or_ge b w.heap.size with hb | hb
      · exact hb
      · rw [Array.getElem?_eq_none hb] at h0; cases h0
    · intro i v hv
      have hi : i < len := by
        have := (List.getElem?_eq_some_iff.1 hv).1
        rw [flat_len, hlen] at this
        simpa [ET.sz] using this
      rw [hval i hi]
      have h5 := flat_get .byte (bytesOf (zs.take len)) i 0 (by rw [hlen]; exact hi) (by decide)
      have h6 : i * ET.byte.sz + 0 = i := by simp [ET.sz]
      rw [h6, hv] at h5
      simp only [ET.cells, List.getElem?_cons_zero, Option.some.injEq] at h5
      rw [h5, List.getD_eq_getElem?_getD, List.getElem?_eq_getElem (by rw [hlen]; exact hi)]
      rfl
def phi0 : Phi := ⟨fun _ => none, fun _ => False⟩
theorem not_own0 {b : Nat} : ¬ Own phi0 (tabOf []) b := fun ⟨k, base, h, _⟩ => by simp [tabOf] at h
theorem isBytes_R {w : World} {v : Value} {bs : List UInt8} (h : IsBytes w v bs) : VR phi0 (tabOf []) w (.one (.isl .byte bs)) v := by
  obtain ⟨a, cap, h1, h2, h3, h4, h5⟩ := h
  simp only [VR, CR]
  exact ⟨a, cap, h1, h2, h3, h4, fun hne => by
    obtain ⟨b, o, h6, h7, h8⟩ := h5 hne
    exact ⟨b, o, h6, ⟨h7, not_own0, fun hf => hf⟩, h8⟩⟩
theorem glo_none (h : gloL = []) (w : World) : GloOk0 w := fun q hq => by rw [h] at hq; cases hq
theorem rel0 (w : World) (hg : GloOk0 w) : Rel phi0 (tabOf []) w := ⟨fun k o h => by simp [tabOf] at h, fun k _ _ _ _ h _ _ _ => by simp [tabOf] at h, fun b h => h.elim, fun q hq => ⟨fun ⟨k, _, h, _⟩ => h (by simp [tabOf]), hg q hq⟩⟩
/-- A contract that hands over nothing and gets nothing new back: what was there is as it was. -/
theorem post_below {w w' : World} {n : Nat} {s : St} {e : Ending} (h : Post phi0 (tabOf []) w n s e w') : ∃ r φ', e = .returned r ∧ VR φ' (newT (tabOf []) n s) w' s.v r ∧ Below w.heap.size w w' := by
  obtain ⟨r, φ', h1, h2, -, hg, -⟩ := h
  exact ⟨r, φ', h1, h2, hg.os, hg.tape, hg.output, hg.size, fun b hb => hg.block b hb not_own0⟩
@[go_sem] def ctLaw1 : Ct := ⟨false, [[some .byte]], fun args os => match args, os with
  | [.one (.isl .byte code)], [] => ⟨True, vb true, [], []⟩
  | _, _ => no⟩
@[go_sem] def ctLaw2 : Ct := ⟨false, [[some .byte], [some .byte]], fun args os => match args, os with
  | [.one (.isl .byte code), .one (.isl .byte more)], [] => ⟨True, vb true, [], []⟩
  | _, _ => no⟩
theorem law1 {f : FuncId} (h : Sound Tryz.prog f ctLaw1) {w : World} {v : Value} {bs : List UInt8} (hb : IsBytes w v bs) (hg : GloOk0 w) :
    Calls Tryz.prog f #[v] w fun e w' => e = .returned (.bool true) ∧ Below w.heap.size w w' := by
  refine (h [.one (.isl .byte bs)] [] trivial phi0 w [v] (rel0 w hg) (by simp only [VRs]; exact ⟨isBytes_R hb, trivial⟩) fun _ _ => rfl).mono ?_
  rintro e w' hp
  obtain ⟨r, φ', rfl, hv, hbl⟩ := post_below hp
  simp only [ctLaw1, vb, VR, CR] at hv
  subst hv
  exact ⟨rfl, hbl⟩
theorem law2 {f : FuncId} (h : Sound Tryz.prog f ctLaw2) {w : World} {v u : Value} {bs cs : List UInt8} (hb : IsBytes w v bs) (hc : IsBytes w u cs) (hg : GloOk0 w) :
    Calls Tryz.prog f #[v, u] w fun e w' => e = .returned (.bool true) ∧ Below w.heap.size w w' := by
  refine (h [.one (.isl .byte bs), .one (.isl .byte cs)] [] trivial phi0 w [v, u] (rel0 w hg) (by simp only [VRs]; exact ⟨isBytes_R hb, isBytes_R hc, trivial⟩) fun _ _ => rfl).mono ?_
  rintro e w' hp
  obtain ⟨r, φ', rfl, hv, hbl⟩ := post_below hp
  simp only [ctLaw2, vb, VR, CR] at hv
  subst hv
  exact ⟨rfl, hbl⟩
end Go.Proofs.YtmnbgppmfbnamaaGreatDoor
/- The law of torn root pointers: for all codes FnCoreTorn answers true. -/
namespace Go.Proofs.YtmnbgppmfbnamaaGreatDoor
open Go.RowKit

theorem torn_list (t s : ByteArray) : ∃ i z, (z = t.data.toList.drop i ∨ z = []) ∧ (torn t s).data.toList = s.data.toList.take i ++ z := by
  unfold torn
  split
  · refine ⟨s.size / 2, _, .inl rfl, ?_⟩
    rw [ByteArray.data_append, Array.toList_append, Lib.extract_from_zero, Lib.extract_to_end]
  · exact ⟨s.size / 2, [], .inr rfl, by rw [Lib.extract_from_zero, List.append_nil]⟩
theorem torn_law {n m k : Int} {p q r : Ptr} (hs : uberT n p ≠ ⟨#[]⟩) (hnm : n ≠ m) (h : uberP (torn (uberT m q) (uberT n p)) = some (k, r)) : (k = n ∧ r = p) ∨ (k = m ∧ r = q) := by
  obtain ⟨hk, ht⟩ := uberP_iff.1 h
  have hn : uberOk n p := by
    by_cases hn : uberOk n p
    · exact hn
    · exact absurd (uber_no hn) hs
  have hm : uberOk m q ∨ uberT m q = ⟨#[]⟩ := by
    by_cases hm : uberOk m q
    · exact .inl hm
    · exact .inr (uber_no hm)
  obtain ⟨i, z, hz, hl⟩ := torn_list (uberT m q) (uberT n p)
  rw [← ht] at hl
  exact torn_uber hk hn hm hnm i hz hl
theorem torn_size2 (t s : ByteArray) : (torn t s).size ≤ t.size + s.size := by
  unfold torn
  split
  · rw [ByteArray.size_append, ByteArray.size_extract, ByteArray.size_extract]; omega
  · rw [ByteArray.size_extract]; omega
end Go.Proofs.YtmnbgppmfbnamaaGreatDoor
/- The law of records: for all codes FnLogBack answers true. -/
namespace Go.Proofs.YtmnbgppmfbnamaaGreatDoor
open Go.RowKit

@[go_sem] theorem valsEq_lrec (t s k i t' s' k' i' : Int) (a b x a' b' x' : ByteArray) : valsEq [.int .i64 t, .int .i64 s, .int .i64 k, .string a, .string b, .int .i64 i, .string x] [.int .i64 t', .int .i64 s', .int .i64 k', .string a', .string b', .int .i64 i', .string x'] = same (LRec.mk t s ⟨k, a, b, i, x⟩) (LRec.mk t' s' ⟨k', a', b', i', x'⟩) := by
  rw [Bool.eq_iff_iff, same_true]
  simp only [valsEq, toList_same, Bool.and_eq_true, beq_iff_eq, same_true, LRec.mk.injEq, BOp.mk.injEq, and_true]
theorem log_law {n m k : LRec} (hn : LogOk n) (hnm : m.txg ≠ n.txg) (h : logP (torn (logT m) (logT n)) = some k) : k = n ∨ k = m := by
  obtain ⟨hk, ht⟩ := logP_some.1 h
  have hm : LogOk m ∨ logT m = ⟨#[]⟩ := by
    by_cases hm : LogOk m
    · exact .inl hm
    · exact .inr (logT_no hm)
  obtain ⟨i, z, hz, hl⟩ := torn_list (logT m) (logT n)
  rw [← ht] at hl
  exact log_torn hk hn hm hnm i hz hl
theorem logT_some {r : LRec} (h : LogOk r) : logT r ≠ ⟨#[]⟩ := fun e => by
  have h2 := open_log h
  rw [e, open_nil] at h2
  exact Bool.noConfusion (show false = true from congrArg Prod.snd h2)
theorem s_lawLog_e : EnterOk Tryz.prog 3 := ⟨_, Tryz.func3, rfl, by decide⟩
@[go_sem] def s_lawLog_lv : List (List Nat) := [[0, 1], [0, 1, 26], [4], [1, 5], [1, 5, 6], [1, 5, 6, 7, 8], [1, 5, 6, 52], [4], [1, 5, 6, 9], [1, 5, 6, 9, 10, 11], [1, 5, 6, 9, 10, 11, 13], [1, 5, 6, 76], [4], [5, 6, 14], [5, 6, 14, 87], [4], [5, 6, 14, 15], [5, 6, 14, 15], [5, 14, 15], [5, 14, 16], [5, 14, 17, 18], [4]]
@[go_sem] noncomputable def s_lawLog_K : Known := ((((((((((Known.nil).cons 8 ctDrawRec s_drawRec s_drawRec_e).cons 9 ctLogText s_logText s_logText_e).cons 10 ctLogRead s_logRead s_logRead_e).cons 11 ctLogText s_specLogText s_specLogText_e).cons 12 ctDrawTxt s_drawTxt s_drawTxt_e).cons 13 ctLogRead s_specLogRead s_specLogRead_e).cons 14 ctSpecOpen s_diskOpen s_diskOpen_e).cons 15 ctDiskWrite s_diskWrite s_diskWrite_e).cons 16 ctDiskFlush s_diskFlush s_diskFlush_e).cons 17 ctDiskFall s_diskFall s_diskFall_e
set_option maxHeartbeats 8000000 in
theorem s_lawLog : Sound Tryz.prog 3 ctLaw2 := by
  have ke := s_lawLog_K.env []
  have kl : Lives s_lawLog_lv := trivial
  refine sound_intro (E := ⟨ti, s_lawLog_K.Γ, []⟩) ke Tryz.func3 Tryz.ntmps3 rfl (rs := [.tmp 4]) rfl ?_
  intro args os hp
  unfold ctLaw2 at hp ⊢
  dsimp only at hp ⊢
  split at hp
  · rename_i code more
    refine ⟨by simp, fun φ0 w0 => ?_⟩
    clear hp
    refine goh trivial ?_
    refine W_cnd ?_ ?_ <;> (try simp only [cnd_r]) <;> intro hlen
    · refine goh trivial ?_
      exact finh [] trivial
    · have hl1 : code.length ≤ 1048576 := by omega
      have hl2 : more.length ≤ 1048576 := by omega
      have nt : (!true) = false := rfl
      have nf : (!false) = true := rfl
      have tt : (true == true) = true := rfl
      have ff : (false == false) = true := rfl
      obtain ⟨ka, -, -⟩ := recD_all (code.take 2000) (p := 0) (by omega) (by omega) (take2000 code)
      obtain ⟨kb, -, -⟩ := recD_all (more.take 2000) (p := 0) (by omega) (by omega) (take2000 more)
      have hXs : (txtV more).size ≤ 1000 := by
        have h1 := tornD_size (more.take 2000) (logT (recV more)) (recD (more.take 2000) 0).2
        have h2 := logT_size (recV more)
        unfold txtV; omega
      have ka : (recV code).op.a.size ≤ 7 := ka
      have kb : (recV more).op.a.size ≤ 7 := kb
      obtain ⟨r, hr⟩ : ∃ r, recV code = r := ⟨_, rfl⟩
      obtain ⟨o, ho⟩ : ∃ r, recV more = r := ⟨_, rfl⟩
      obtain ⟨X, hX⟩ : ∃ x, txtV more = x := ⟨_, rfl⟩
      rw [hr] at ka
      rw [ho] at kb
      rw [hX] at hXs
      have zS := logT_size r
      have zT := logT_size o
      have hlaw := fun k h1 h2 => @log_law r o k h1 h2
      have hsome := @logT_some r
      have hno := @logT_no r
      have hPok := fun h : LogOk r => logP_some.2 ⟨h, rfl⟩
      obtain ⟨S, hS⟩ : ∃ s, logT r = s := ⟨_, rfl⟩
      obtain ⟨T, hT⟩ : ∃ s, logT o = s := ⟨_, rfl⟩
      rw [hS] at zS hlaw hsome hno hPok
      rw [hT] at zT hlaw
      have hss : same S S = true := same_true.2 rfl
      obtain ⟨t, s, ⟨k, a, b, i, x⟩⟩ := r
      obtain ⟨t', s', ⟨k', a', b', i', x'⟩⟩ := o
      simp only at ka kb hlaw
      have ka2 : a.size ≤ 9223372036854775807 := by omega
      have kb2 : a'.size ≤ 9223372036854775807 := by omega
      have zS2 : S.size ≤ 1000000 := by omega
      have hXs2 : X.size ≤ 1000000 := by omega
      have hrr : same (LRec.mk t s ⟨k, a, b, i, x⟩) (LRec.mk t s ⟨k, a, b, i, x⟩) = true := same_true.2 rfl
      have hoo : same (LRec.mk t' s' ⟨k', a', b', i', x'⟩) (LRec.mk t' s' ⟨k', a', b', i', x'⟩) = true := same_true.2 rfl
      -- what the drawn text holds
      have hY : ∀ y, logP X = some y → logT y = X ∧ y.op.a.size ≤ 9223372036854775807 := fun y h => by
        obtain ⟨h1, h2⟩ := logP_some.1 h
        have := (name_size h1.a).2
        exact ⟨h2, by omega⟩
      have hXX : same X X = true := same_true.2 rfl
      by_cases hok : LogOk ⟨t, s, ⟨k, a, b, i, x⟩⟩
      · have c1 : same S ⟨#[]⟩ = false := same_false.2 (hsome hok)
        have hP := hPok hok
        refine goh (And.intro hl1 (And.intro hl2 (And.intro hr (And.intro ka2 (And.intro hS (And.intro zS2 (And.intro hP (And.intro hss (And.intro c1 (And.intro hrr (And.intro nt nf))))))))))) ?_
        refine W_cnd ?_ ?_ <;> intro hlit <;> try (cases hlit; done)
        have rest : ∀ c : Bool, decide (t' = t) = c → ((t' == t) = c) := fun c h => by rw [← h]; rfl
        cases hPX : logP X with
        | none =>
          refine goh (And.intro hl2 (And.intro hX (And.intro hXs2 (And.intro hPX (And.intro ff nt))))) ?_
          refine W_cnd ?_ ?_ <;> intro hlit <;> try (cases hlit; done)
          by_cases htt : t' = t
          · have c2 : (t' == t) = true := by simp [htt]
            refine goh (And.intro hl2 (And.intro ho (And.intro c1 c2))) ?_
            refine W_cnd ?_ ?_ <;> intro hlit <;> try (cases hlit; done)
            refine goh trivial ?_
            exact finh [] trivial
          · have c2 : (t' == t) = false := by simp [htt]
            obtain ⟨t1, t2, t3, t4⟩ := torn_disk (s := S) (t := T) (by omega) (by omega)
            have o2 : dkOpen 2 = ⟨[⟨#[]⟩, ⟨#[]⟩], [⟨#[]⟩, ⟨#[]⟩], []⟩ := rfl
            rw [o2] at t1
            have hts := torn_size2 T S
            refine goh (And.intro hl2 (And.intro ho (And.intro c1 c2))) ?_
            refine W_cnd ?_ ?_ <;> intro hlit <;> try (cases hlit; done)
            cases hu : logP (torn T S) with
            | none =>
              refine goh (And.intro kb2 (And.intro hT (And.intro o2 (And.intro t1 (And.intro t2 (And.intro t3 (And.intro t4 (And.intro hu (And.intro hts nf))))))))) ?_
              exact finh [] trivial
            | some z =>
              rcases hlaw z hok htt hu with rfl | rfl
              · refine goh (And.intro kb2 (And.intro hT (And.intro o2 (And.intro t1 (And.intro t2 (And.intro t3 (And.intro t4 (And.intro hu (And.intro hts (And.intro nt hrr)))))))))) ?_
                exact finh [] trivial
              · have hne : same (LRec.mk t' s' ⟨k', a', b', i', x'⟩) (LRec.mk t s ⟨k, a, b, i, x⟩) = false := same_false.2 (fun e => htt (congrArg LRec.txg e))
                refine goh (And.intro kb2 (And.intro hT (And.intro o2 (And.intro t1 (And.intro t2 (And.intro t3 (And.intro t4 (And.intro hu (And.intro hts (And.intro nt (And.intro hoo hne))))))))))) ?_
                exact finh [] trivial
        | some y =>
          obtain ⟨y1, y2⟩ := hY y hPX
          obtain ⟨yt, ys, ⟨yk, ya, yb, yi, yx⟩⟩ := y
          simp only at y2
          refine goh (And.intro hl2 (And.intro hX (And.intro hXs2 (And.intro hPX (And.intro tt (And.intro nt (And.intro y1 (And.intro y2 hXX)))))))) ?_
          refine W_cnd ?_ ?_ <;> intro hlit <;> try (cases hlit; done)
          by_cases htt : t' = t
          · have c2 : (t' == t) = true := by simp [htt]
            refine goh (And.intro hl2 (And.intro ho (And.intro c1 c2))) ?_
            refine W_cnd ?_ ?_ <;> intro hlit <;> try (cases hlit; done)
            refine goh trivial ?_
            exact finh [] trivial
          · have c2 : (t' == t) = false := by simp [htt]
            obtain ⟨t1, t2, t3, t4⟩ := torn_disk (s := S) (t := T) (by omega) (by omega)
            have o2 : dkOpen 2 = ⟨[⟨#[]⟩, ⟨#[]⟩], [⟨#[]⟩, ⟨#[]⟩], []⟩ := rfl
            rw [o2] at t1
            have hts := torn_size2 T S
            refine goh (And.intro hl2 (And.intro ho (And.intro c1 c2))) ?_
            refine W_cnd ?_ ?_ <;> intro hlit <;> try (cases hlit; done)
            cases hu : logP (torn T S) with
            | none =>
              refine goh (And.intro kb2 (And.intro hT (And.intro o2 (And.intro t1 (And.intro t2 (And.intro t3 (And.intro t4 (And.intro hu (And.intro hts nf))))))))) ?_
              exact finh [] trivial
            | some z =>
              rcases hlaw z hok htt hu with rfl | rfl
              · refine goh (And.intro kb2 (And.intro hT (And.intro o2 (And.intro t1 (And.intro t2 (And.intro t3 (And.intro t4 (And.intro hu (And.intro hts (And.intro nt hrr)))))))))) ?_
                exact finh [] trivial
              · have hne : same (LRec.mk t' s' ⟨k', a', b', i', x'⟩) (LRec.mk t s ⟨k, a, b, i, x⟩) = false := same_false.2 (fun e => htt (congrArg LRec.txg e))
                refine goh (And.intro kb2 (And.intro hT (And.intro o2 (And.intro t1 (And.intro t2 (And.intro t3 (And.intro t4 (And.intro hu (And.intro hts (And.intro nt (And.intro hoo hne))))))))))) ?_
                exact finh [] trivial
      · have e0 := hno hok
        have c1 : same S ⟨#[]⟩ = true := same_true.2 e0
        have hP : logP S = none := by rw [e0]; exact logP_closed (by rw [open_nil])
        refine goh (And.intro hl1 (And.intro hl2 (And.intro hr (And.intro ka2 (And.intro hS (And.intro zS2 (And.intro hP (And.intro hss (And.intro c1 (And.intro nt nf)))))))))) ?_
        refine W_cnd ?_ ?_ <;> intro hlit <;> try (cases hlit; done)
        cases hPX : logP X with
        | none =>
          refine goh (And.intro hl2 (And.intro hX (And.intro hXs2 (And.intro hPX (And.intro ff nt))))) ?_
          refine W_cnd ?_ ?_ <;> intro hlit <;> try (cases hlit; done)
          refine goh (And.intro hl2 (And.intro ho c1)) ?_
          refine W_cnd ?_ ?_ <;> intro hlit <;> try (cases hlit; done)
          refine goh trivial ?_
          exact finh [] trivial
        | some y =>
          obtain ⟨y1, y2⟩ := hY y hPX
          obtain ⟨yt, ys, ⟨yk, ya, yb, yi, yx⟩⟩ := y
          simp only at y2
          refine goh (And.intro hl2 (And.intro hX (And.intro hXs2 (And.intro hPX (And.intro tt (And.intro nt (And.intro y1 (And.intro y2 hXX)))))))) ?_
          refine W_cnd ?_ ?_ <;> intro hlit <;> try (cases hlit; done)
          refine goh (And.intro hl2 (And.intro ho c1)) ?_
          refine W_cnd ?_ ?_ <;> intro hlit <;> try (cases hlit; done)
          refine goh trivial ?_
          exact finh [] trivial
  · simp [no] at hp
end Go.Proofs.YtmnbgppmfbnamaaGreatDoor
/- What is handed in to an exact law, as the walks see it. -/
namespace Go.Proofs.YtmnbgppmfbnamaaGreatDoor
open Go.ChangeShapes Go.WideShapes Go.ChangeAt Go.RowKit

abbrev VR0 (w : World) (x : TV) (v : Value) : Prop := VR phi0 (tabOf []) w x v
theorem isSl_R {w : World} {t : ET} {v : Value} {xs : List t.α} (h : IsSl w t v xs) : CR phi0 (tabOf []) w (.isl t xs) v := by
  obtain ⟨a, cap, h1, h2, h3, h4, h5⟩ := h
  simp only [CR]
  exact ⟨a, cap, h1, h2, h3, h4, fun hne => by
    obtain ⟨b, o, h6, h7, h8⟩ := h5 hne
    exact ⟨b, o, h6, ⟨h7, not_own0, fun hf => hf⟩, h8⟩⟩
theorem str_all {xs : List ByteArray} (h : ∀ i, i < xs.length → EksOk ET.str.eks (ET.str.cells (xs.getD i ET.str.dflt))) (i : Nat) : (xs.getD i ET.str.dflt).size ≤ 9223372036854775807 := by
  rcases Nat.lt_or_ge i xs.length with hi | hi
  · obtain ⟨⟨s, hs, h2⟩, -⟩ := h i hi
    have : xs.getD i ET.str.dflt = s := by injection hs
    rw [this]; exact h2
  · rw [List.getD_eq_getElem?_getD, List.getElem?_eq_none hi]; exact Nat.zero_le _
theorem late_all {xs : List Late} (h : ∀ i, i < xs.length → EksOk ET.late.eks (ET.late.cells (xs.getD i ET.late.dflt))) (i : Nat) : (xs.getD i ET.late.dflt).text.size ≤ 9223372036854775807 := by
  rcases Nat.lt_or_ge i xs.length with hi | hi
  · obtain ⟨-, -, ⟨s, hs, h2⟩, -⟩ := h i hi
    have : (xs.getD i ET.late.dflt).text = s := by injection hs
    rw [this]; exact h2
  · rw [List.getD_eq_getElem?_getD, List.getElem?_eq_none hi]; exact Nat.zero_le _
section
variable {H : Type} {enc : TypeId × Value → H} {P : Program} {w : World} {base : Nat} {sp : Nat → Bool} {held : Bool} {t : TypeId} {v : Value} {d : DataW H} {ps : List MemPlace}
theorem lks_one {k : LK} {cs : List Value} (h : LksOk w [k] cs) : ∃ x, cs = [x] ∧ LkOk w k x := by
  cases cs with
  | nil => exact h.elim
  | cons x r => cases r with
    | nil => exact ⟨x, rfl, h.1⟩
    | cons y r => exact h.2.elim
theorem lks_cons {k : LK} {ks : List LK} {cs : List Value} (h : LksOk w (k :: ks) cs) : ∃ x r, cs = x :: r ∧ LkOk w k x ∧ LksOk w ks r := by
  cases cs with
  | nil => exact h.elim
  | cons x r => exact ⟨x, r, rfl, h.1, h.2⟩
theorem lks_nil {cs : List Value} (h : LksOk w [] cs) : cs = [] := by
  cases cs with
  | nil => rfl
  | cons x r => exact h.elim
theorem okWide_agg (n : Nat) (hu : (match P.underlying t with | some (.struct _) => true | some (.array _ _) => true | _ => false) = true) (h : Value.okWide P w .any n t v) : ∃ cs, v = .agg cs := by
  unfold Value.okWide at h
  split at h
  · obtain ⟨cs, h1, -⟩ := h; exact ⟨cs, h1⟩
  · obtain ⟨cs, h1, -⟩ := h; exact ⟨cs, h1⟩
  · rename_i h1 h2
    split at hu
    · rename_i fs e; exact (h1 fs e).elim
    · rename_i a b e; exact (h2 a b e).elim
    · cases hu
theorem arg_int (ht : P.underlying t = some (.int .i64)) (hv : Value.okWide P w .any base t v) : ∃ n, VR0 w (.one (.val (.int .i64 n))) v := by
  obtain ⟨n, rfl⟩ := okWide_int ht hv
  exact ⟨n, by simp only [VR, CR]⟩
theorem arg_str (ht : P.underlying t = some .string) (hv : Value.okWide P w .any base t v) (h : DataW.Trod enc P w 0 sp held t v d ps) : ∃ s, s.size ≤ 9223372036854775807 ∧ VR0 w (.one (.val (.string s))) v := by
  obtain ⟨fuel, hf⟩ := h
  obtain ⟨s, hc, -, hs⟩ := DataW.trod_string ht hf
  obtain ⟨u, rfl⟩ := okWide_string ht hv
  simp [Value.cells] at hc
  subst hc
  exact ⟨u, hs, by simp only [VR, CR]⟩
theorem arg_ints (n : Nat) (hsh : shapeL P n t = some [.sl ET.int.eks]) {e : TypeId} (ht : P.underlying t = some (.slice e)) (hv : Value.okWide P w .any base t v) (h : DataW.Trod enc P w 0 sp held t v d ps) : ∃ xs : List Int, xs.length ≤ 9223372036854775807 ∧ VR0 w (.one (.isl .int xs)) v := by
  obtain ⟨fuel, hf⟩ := h
  obtain ⟨a, len, cap, rfl⟩ := okWide_slice ht hv
  obtain ⟨x, hx, h1⟩ := lks_one (open_l n t _ hsh _ _ _ hf)
  have hns := value_noSpot hv
  simp [Value.cells] at hx hns
  subst hx
  obtain ⟨xs, h2, h3, -⟩ := sl_open h1 hns rfl (by decide) fun vs h => eks_int h
  exact ⟨xs, h3, isSl_R h2⟩
theorem arg_disk (n : Nat) (hsh : shapeL P n t = some [.sl ET.str.eks, .sl ET.str.eks, .sl ET.late.eks]) (hu : (match P.underlying t with | some (.struct _) => true | some (.array _ _) => true | _ => false) = true) (hv : Value.okWide P w .any base t v) (h : DataW.Trod enc P w 0 sp held t v d ps) :
    ∃ a b l, (Dk.mk a b l).inn ∧ VR0 w (.agg [.isl .str a, .isl .str b, .isl .late l]) v := by
  obtain ⟨fuel, hf⟩ := h
  obtain ⟨cs, rfl⟩ := okWide_agg base hu hv
  have hns := value_noSpot hv
  have h0 := open_l n t _ hsh _ _ _ hf
  obtain ⟨x, _, e1, h1, h0⟩ := lks_cons h0
  obtain ⟨y, _, rfl, h2, h0⟩ := lks_cons h0
  obtain ⟨z, _, rfl, h3, h0⟩ := lks_cons h0
  obtain rfl := lks_nil h0
  rw [e1] at hns
  have hcs : cs.toList = [x, y, z] := by simpa [Value.cells] using e1
  obtain ⟨a, a1, a2, a3⟩ := sl_open h1 (hns x (by simp)) rfl (by decide) fun vs h => eks_str h
  obtain ⟨b, b1, b2, b3⟩ := sl_open h2 (hns y (by simp)) rfl (by decide) fun vs h => eks_str h
  obtain ⟨l, l1, l2, l3⟩ := sl_open h3 (hns z (by simp)) rfl (by decide) fun vs h => eks_late h
  refine ⟨a, b, l, ⟨⟨a2, str_all a3⟩, ⟨b2, str_all b3⟩, ⟨l2, late_all l3⟩⟩, ?_⟩
  simp only [VR]
  exact ⟨cs, rfl, by rw [hcs]; exact ⟨isSl_R a1, isSl_R b1, isSl_R l1, trivial⟩⟩
theorem arg_ptr (n : Nat) (hsh : shapeL P n t = some [.e (.int .i64), .e (.int .i64), .e (.int .i64)]) (hu : (match P.underlying t with | some (.struct _) => true | some (.array _ _) => true | _ => false) = true) (hv : Value.okWide P w .any base t v) (h : DataW.Trod enc P w 0 sp held t v d ps) :
    ∃ a b c, VR0 w (.agg [.val (.int .i64 a), .val (.int .i64 b), .val (.int .i64 c)]) v := by
  obtain ⟨fuel, hf⟩ := h
  obtain ⟨cs, rfl⟩ := okWide_agg base hu hv
  have h0 := open_l n t _ hsh _ _ _ hf
  obtain ⟨_, _, e1, ⟨a, rfl, -⟩, h1⟩ := lks_cons h0
  obtain ⟨_, _, rfl, ⟨b, rfl, -⟩, h2⟩ := lks_cons h1
  obtain ⟨_, _, rfl, ⟨c, rfl, -⟩, h3⟩ := lks_cons h2
  obtain rfl := lks_nil h3
  have hcs : cs.toList = [.int .i64 a, .int .i64 b, .int .i64 c] := by simpa [Value.cells] using e1
  refine ⟨a, b, c, ?_⟩
  simp only [VR]
  exact ⟨cs, rfl, by rw [hcs]; exact ⟨rfl, rfl, rfl, trivial⟩⟩
end
/-- What a contract says that hands over nothing: the answer, and that all is as it was. -/
theorem lawN {f : FuncId} {ct : Ct} (h : Sound Tryz.prog f ct) {w : World} {vs : List Value} {args : List TV} (hs : ct.spec args [] = ifp True (vb true) ∨ ∃ p, p ∧ ct.spec args [] = ifp p (vb true)) (hr : VRs phi0 (tabOf []) w args vs) (hg : GloOk0 w) :
    Calls Tryz.prog f vs.toArray w fun e w' => e = .returned (.bool true) ∧ Below w.heap.size w w' := by
  have hpre : (ct.spec args []).pre ∧ (ct.spec args []).v = vb true := by
    rcases hs with hs | ⟨p, hp, hs⟩
    · rw [hs]; exact ⟨trivial, rfl⟩
    · rw [hs]; exact ⟨hp, rfl⟩
  refine (h args [] hpre.1 phi0 w vs (rel0 w hg) hr fun _ _ => rfl).mono ?_
  rintro e w' hp
  obtain ⟨r, φ', rfl, hv, hbl⟩ := post_below hp
  rw [hpre.2] at hv
  simp only [vb, VR, CR] at hv
  subst hv
  exact ⟨rfl, hbl⟩
end Go.Proofs.YtmnbgppmfbnamaaGreatDoor
/- What stands in Go's tables: seven of them. -/
namespace Go.Proofs.YtmnbgppmfbnamaaGreatDoor
open Go.ChangeShapes Go.WideShapes Go.ChangeAt Go.RowKit

set_option maxRecDepth 100000 in
theorem mapsR7 : mapsRowed Tryz.prog = true := by kernel_rfl
def laid7 : List (String × DataW Unit) := [("math/bits.deBruijn32tab", Rows.laid_math_bits_deBruijn32tab), ("math/bits.deBruijn64tab", Rows.laid_math_bits_deBruijn64tab), ("internal/strconv.uint64pow10", Rows.laid_internal_strconv_uint64pow10), ("unicode/utf8.acceptRanges", Rows.laid_unicode_utf8_acceptRanges), ("strconv.ErrRange", Rows.laid_strconv_ErrRange), ("strconv.ErrSyntax", Rows.laid_strconv_ErrSyntax), ("unicode/utf8.first", Rows.laid_unicode_utf8_first)]
set_option maxRecDepth 100000 in
/-- A world in which the tables lie. -/
theorem laid7_met (os : Os) (args : Array Value) : laidMetH Tryz.prog laid7 ((World.laidAll Tryz.prog os laid7).forCall (fun _ _ => 0) ⟨#[], args, []⟩).memory := by
  rw [MakeChecks.laidMetH_plain _ _ _ (by kernel_rfl)]
  exact laidMet_laidAll _ (by kernel_rfl) (by kernel_rfl)
set_option maxRecDepth 100000 in
theorem laid7_shaped (os : Os) : World.Shaped Tryz.prog (World.laidAll Tryz.prog os laid7) := World.shaped_of_ZipB (by kernel_rfl) (by kernel_rfl)
theorem laidVars_at7 {P : Program} {w : World} : ∀ {l : List (String × DataW Unit)} {ps : List MemPlace}, DataW.LaidVars P w l ps → ∀ {n : String} {d : DataW Unit}, (n, d) ∈ l →
    ∃ g t cs fuel p, P.globalNamed n = some g ∧ (P.globals[g]?).map (·.type) = some t ∧ w.var? P n = some cs ∧ DataW.trod (fun _ => ()) P w 0 (fun _ => true) false fuel t cs.toList = some (d, p)
  | [], _, _, n, d, hm => by cases hm
  | (n', d') :: r, ps, h, n, d, hm => by
    obtain ⟨g, t, cs, fuel, p, q, h1, h2, h3, h4, h5, -⟩ := h
    rcases List.mem_cons.1 hm with he | hm
    · cases he
      exact ⟨g, t, cs, fuel, p, h1, h2, h3, h4⟩
    · exact laidVars_at7 h5 hm
theorem var_heap7 {P : Program} {w : World} {n : String} {g : Nat} {cs : Array Value} (hg : P.globalNamed n = some g) (h : w.var? P n = some cs) : ∃ e f, w.heap[g]? = some (.cells cs e f) := by
  unfold World.var? at h
  rw [hg, Option.bind_some] at h
  split at h
  · rename_i c e f hc
    cases h
    exact ⟨e, f, hc⟩
  · cases h
theorem iface_cells {P : Program} {w : World} {fuel : Nat} {t : TypeId} {cs : List Value} {s : String} {d : DataW Unit} {p : List MemPlace} (ht : ∃ ms, P.underlying t = some (.interface ms))
    (h : DataW.trod (fun _ => ()) P w 0 (fun _ => true) false fuel t cs = some (.iface s d, p)) : ∃ u v, cs = [.iface u v] := by
  obtain ⟨ms, ht⟩ := ht
  cases fuel with
  | zero => simp [DataW.trod] at h
  | succ fuel =>
    match cs, h with
    | [], h => simp [DataW.trod, ht] at h
    | v :: v2 :: r, h => simp [DataW.trod, ht] at h
    | [v], h => cases v <;> first | exact ⟨_, _, rfl⟩ | (simp [DataW.trod, ht] at h; done)
set_option maxRecDepth 100000 in
theorem laid7_plain : (laid7.filter fun x => x.2.handleName?.isSome) = [] := by kernel_rfl
set_option maxRecDepth 100000 in
theorem pow10_laid7 : (Rows.laid_internal_strconv_uint64pow10 : DataW Unit) = Lib.tabData .u64 Lib.pow10Tab := by kernel_rfl
set_option maxRecDepth 100000 in
theorem glo_laid7 {W : World} (hs : W.ShapedOpen Tryz.prog) (h : laidMetH Tryz.prog laid7 W) : GloOk0 W := by
  unfold laidMetH at h
  rw [laid7_plain] at h
  obtain ⟨ps, hv, -, -⟩ := h
  have err : ∀ (n : String) (g : Nat) (d : DataW Unit), (n, d) ∈ laid7 → (∃ s d', d = .iface s d') → Tryz.prog.globalNamed n = some g → (Tryz.prog.globals[g]?).map (·.type) = some 98 → ∃ c e f, W.heap[g]? = some (.cells c e f) ∧ ∃ t p, c = #[.iface t p] := by
    rintro n g d hm ⟨s, d', rfl⟩ hg ht
    obtain ⟨g', t, cs, fuel, p, h1, h2, h3, h4⟩ := laidVars_at7 hv hm
    obtain rfl := Option.some.inj (hg.symm.trans h1)
    obtain rfl := Option.some.inj (ht.symm.trans h2)
    obtain ⟨e, f, h5⟩ := var_heap7 h1 h3
    obtain ⟨u, v, h6⟩ := iface_cells ⟨_, Tryz.underlying98⟩ h4
    exact ⟨cs, e, f, h5, u, v, by cases cs; simpa using h6⟩
  intro q hq
  unfold gloL at hq
  simp only [List.mem_cons, List.not_mem_nil, or_false] at hq
  rcases hq with rfl | rfl | rfl | rfl
  · obtain ⟨g, t, cs, fuel, p, h1, h2, h3, h4⟩ := laidVars_at7 hv (n := "internal/strconv.uint64pow10") (d := Rows.laid_internal_strconv_uint64pow10) (by simp [laid7])
    have hg : Tryz.prog.globalNamed "internal/strconv.uint64pow10" = some 3 := by kernel_rfl
    obtain rfl := Option.some.inj (hg.symm.trans h1)
    obtain ⟨e, f, h5⟩ := var_heap7 h1 h3
    refine ⟨cs, e, f, h5, ?_⟩
    rw [pow10_laid7] at h4
    have ht : (Tryz.prog.globals[3]?).map (·.type) = some 304 := by kernel_rfl
    obtain rfl := Option.some.inj (ht.symm.trans h2)
    have h6 := Lib.cells_of_tab (n := 20) (e := 273) (by kernel_rfl) (by kernel_rfl) (by kernel_rfl) (by kernel_rfl) h4
    show cs = _
    rw [← h6]
  · exact err "strconv.ErrSyntax" 1 Rows.laid_strconv_ErrSyntax (by simp [laid7]) ⟨_, _, rfl⟩ (by kernel_rfl) (by kernel_rfl)
  · exact err "strconv.ErrRange" 2 Rows.laid_strconv_ErrRange (by simp [laid7]) ⟨_, _, rfl⟩ (by kernel_rfl) (by kernel_rfl)
  · obtain ⟨m, hm⟩ := Tryz.lays146.s1_3 W hs
    have hm : W.cell? ⟨0, 0, none⟩ = some (.int .i64 m) := hm
    cases hh : W.heap[0]? with
    | none => simp [World.cell?, hh] at hm
    | some o =>
      cases o with
      | cells c e f => exact ⟨c, e, f, rfl, m, by simpa [World.cell?, hh] using hm⟩
      | _ => simp [World.cell?, hh] at hm
/-- As the kit's wrap for a condition more, the world's shape kept. -/
theorem handed_and_shaped {H : Type} {enc : TypeId × Value → H} {a : Assume} {C : Checked} {os : Os} {f : FuncId} {fn : Func} {s : ChangeSpec} {conds : List PathCond} {apart fresh handsOn again : Bool} {X : World → Array Value → Prop}
    (hX : ∀ (w w' : World) (args : Array Value), w.heap = w'.heap → X w args → X w' args)
    (own : ownKnob C.prog.godebug = none) (started : os.Started) (noInit : C.prog.inits.idxOf? f = none) (hfn : C.prog.funcs[f]? = some fn)
    (witness : ∃ (w : World) (tape : Tape) (i : Input), w.os = os ∧ (w.forCall tape i).Shaped C.prog ∧ i.vars = [] ∧ Input.okWide C.prog (w.forCall tape i) .any w.heap.size f i ∧
      ((s.pre enc C.prog fn conds apart (w.forCall tape i).memory i.args ∧ X (w.forCall tape i).memory i.args) ∧ sizedMet enc C.prog fn (OpenSpec.ofChange s) apart (w.forCall tape i).memory i.args) ∧ a.holds C.prog (lone (Frame.enter C.prog f i.args .normal) [] (w.forCall tape i)))
    (contract : ∀ (W : World) (base : Nat) (args : Array Value) (ds gs : List (DataW H)) (before : List MemPlace),
      (∀ (j : Nat) t v, fn.params[j]? = some t → args[j]? = some v → Value.okWide C.prog W .any base t v) →
      DataW.Whole enc C.prog fn.params.toList s.vars apart W args.toList ds gs before →
      conds.all (PathCond.test C.prog ⟨fn.params.toList, ds, s.plain.varTypes C.prog, gs⟩) = true →
      (DataW.weightsEach C.prog (fn.params.toList ++ s.plain.varTypes C.prog) (ds ++ gs)).all (· ≤ reachBytes) = true → W.ShapedOpen C.prog ∧ X W args →
      a.holds C.prog (lone (Frame.enter C.prog f args .normal) [] W) →
      Calls C.prog f args W fun e W' => ∃ v, e = .returned v ∧ s.post enc C.prog fn apart fresh handsOn again W args v W') :
    ReturnsInHanded a C os f .any (fun w args => (s.pre enc C.prog fn conds apart w args ∧ X w args) ∧ sizedMet enc C.prog fn (OpenSpec.ofChange s) apart w args) (s.post enc C.prog fn apart fresh handsOn again) := by
  refine returnsInHanded_of_calls own started noInit witness ?_
  intro w tape i _ hsh _ hok hpre hholds
  obtain ⟨_, _, _, fn', hfn', _, _, _, _, hval⟩ := hok
  have e : fn' = fn := Option.some.inj (hfn'.symm.trans hfn)
  subst e
  obtain ⟨⟨⟨ds, gs, before, hw, hc⟩, hx⟩, hz⟩ := hpre
  have hw' := DataW.Whole.of_heap (w' := w.forCall tape i) (by rfl) hw
  refine (contract (w.forCall tape i) w.heap.size i.args ds gs before hval hw' hc (hz.weights hw) ⟨hsh, hX _ _ _ (by rfl) hx⟩ hholds).mono fun e W' ⟨v, he, hp⟩ => ?_
  subst he
  exact ChangeSpec.post_blind hp
end Go.Proofs.YtmnbgppmfbnamaaGreatDoor
/- What is handed in to an exact law of pools, as the walks see it. -/
namespace Go.Proofs.YtmnbgppmfbnamaaGreatDoor
open Go.ChangeShapes Go.WideShapes Go.ChangeAt Go.RowKit

def EK.wide : EK → Bool
  | .int .i64 => true
  | .int _ => false
  | _ => true
theorem eks_kinds : ∀ {ks : List EK} {vs : List Value}, ks.all EK.wide = true → EksOk ks vs → kindsOk (ks.map EK.tk) vs = true
  | [], [], _, _ => rfl
  | [], _ :: _, _, h => h.elim
  | _ :: _, [], _, h => h.elim
  | k :: ks, v :: vs, hw, ⟨h, h2⟩ => by
    rw [List.all_cons, Bool.and_eq_true] at hw
    have ih := eks_kinds hw.2 h2
    cases k with
    | int q =>
      obtain ⟨n, rfl, -⟩ := h
      cases q <;> simp [EK.wide] at hw
      simpa [kindsOk, EK.tk] using ih
    | str => obtain ⟨n, rfl, -⟩ := h; simpa [kindsOk, EK.tk] using ih
    | bool => obtain ⟨n, rfl⟩ := h; simpa [kindsOk, EK.tk] using ih
theorem eks_cset {vs : List Value} (h : EksOk ET.cset.eks vs) : ∃ x, ET.cset.cells x = vs := ⟨_, cset_cells (eks_kinds (by decide) h)⟩
theorem eks_ent {vs : List Value} (h : EksOk ET.ent.eks vs) : ∃ x, ET.ent.cells x = vs := by
  obtain ⟨_, _, rfl, ⟨a, rfl, _⟩, h1⟩ := eks_cons h
  obtain ⟨_, _, rfl, ⟨b, rfl, _⟩, h2⟩ := eks_cons h1
  obtain ⟨_, _, rfl, ⟨c, rfl, _⟩, h3⟩ := eks_cons h2
  obtain rfl := eks_nil h3
  exact ⟨⟨a, b, c⟩, rfl⟩
theorem cset_all {xs : List CSet} (h : ∀ i, i < xs.length → EksOk ET.cset.eks (ET.cset.cells (xs.getD i ET.cset.dflt))) (i : Nat) : (xs.getD i ET.cset.dflt).name.size ≤ 9223372036854775807 ∧ (xs.getD i ET.cset.dflt).from_.size ≤ 9223372036854775807 := by
  rcases Nat.lt_or_ge i xs.length with hi | hi
  · obtain ⟨⟨s, hs, h2⟩, -, ⟨f, hf, hf2⟩, -⟩ := h i hi
    have e1 : (xs.getD i ET.cset.dflt).name = s := by injection hs
    have e2 : (xs.getD i ET.cset.dflt).from_ = f := by injection hf
    rw [e1, e2]; exact ⟨h2, hf2⟩
  · rw [List.getD_eq_getElem?_getD, List.getElem?_eq_none hi]; exact ⟨Nat.zero_le _, Nat.zero_le _⟩
section
variable {H : Type} {enc : TypeId × Value → H} {P : Program} {w : World} {base : Nat} {sp : Nat → Bool} {held : Bool} {t : TypeId} {v : Value} {d : DataW H} {ps : List MemPlace}
theorem arg_pool (n : Nat) (hsh : shapeL P n t = some [.sl ET.str.eks, .sl ET.str.eks, .sl ET.late.eks, .e (.int .i64), .sl ET.cset.eks, .sl ET.ent.eks, .sl ET.ptr.eks, .e .bool, .sl ET.int.eks, .e (.int .i64), .e .bool]) (hu : (match P.underlying t with | some (.struct _) => true | some (.array _ _) => true | _ => false) = true) (hv : Value.okWide P w .any base t v) (h : DataW.Trod enc P w 0 sp held t v d ps) :
    ∃ a b l x cs es ps' y zs u o, (Pl.mk ⟨a, b, l⟩ ⟨x, cs, es, ps', y, zs, u⟩ o).inn ∧ VR0 w (.agg [.isl .str a, .isl .str b, .isl .late l, .val (.int .i64 x), .isl .cset cs, .isl .ent es, .isl .ptr ps', .val (.bool y), .isl .int zs, .val (.int .i64 u), .val (.bool o)]) v := by
  obtain ⟨fuel, hf⟩ := h
  obtain ⟨vs, rfl⟩ := okWide_agg base hu hv
  have hns := value_noSpot hv
  have h0 := open_l n t _ hsh _ _ _ hf
  obtain ⟨v1, _, e1, h1, g1⟩ := lks_cons h0
  obtain ⟨v2, _, rfl, h2, g2⟩ := lks_cons g1
  obtain ⟨v3, _, rfl, h3, g3⟩ := lks_cons g2
  obtain ⟨_, _, rfl, ⟨x, rfl, -⟩, g4⟩ := lks_cons g3
  obtain ⟨v5, _, rfl, h5, g5⟩ := lks_cons g4
  obtain ⟨v6, _, rfl, h6, g6⟩ := lks_cons g5
  obtain ⟨v7, _, rfl, h7, g7⟩ := lks_cons g6
  obtain ⟨_, _, rfl, ⟨y, rfl⟩, g8⟩ := lks_cons g7
  obtain ⟨v9, _, rfl, h9, g9⟩ := lks_cons g8
  obtain ⟨_, _, rfl, ⟨u, rfl, -⟩, g10⟩ := lks_cons g9
  obtain ⟨_, _, rfl, ⟨o, rfl⟩, g11⟩ := lks_cons g10
  obtain rfl := lks_nil g11
  rw [e1] at hns
  have hcs : vs.toList = [v1, v2, v3, .int .i64 x, v5, v6, v7, .bool y, v9, .int .i64 u, .bool o] := by simpa [Value.cells] using e1
  obtain ⟨a, a1, a2, a3⟩ := sl_open h1 (hns v1 (by simp)) rfl (by decide) fun vs h => eks_str h
  obtain ⟨b, b1, b2, b3⟩ := sl_open h2 (hns v2 (by simp)) rfl (by decide) fun vs h => eks_str h
  obtain ⟨l, l1, l2, l3⟩ := sl_open h3 (hns v3 (by simp)) rfl (by decide) fun vs h => eks_late h
  obtain ⟨cs, c1, c2, c3⟩ := sl_open h5 (hns v5 (by simp)) rfl (by decide) fun vs h => eks_cset h
  obtain ⟨es, s1, s2, -⟩ := sl_open h6 (hns v6 (by simp)) rfl (by decide) fun vs h => eks_ent h
  obtain ⟨qs, p1, p2, -⟩ := sl_open h7 (hns v7 (by simp)) rfl (by decide) fun vs h => eks_ptr h
  obtain ⟨zs, z1, z2, -⟩ := sl_open h9 (hns v9 (by simp)) rfl (by decide) fun vs h => eks_int h
  refine ⟨a, b, l, x, cs, es, qs, y, zs, u, o, ⟨⟨⟨a2, str_all a3⟩, ⟨b2, str_all b3⟩, ⟨l2, late_all l3⟩⟩, ⟨⟨c2, cset_all c3⟩, s2, p2, z2⟩⟩, ?_⟩
  simp only [VR]
  exact ⟨vs, rfl, by rw [hcs]; exact ⟨isSl_R a1, isSl_R b1, isSl_R l1, rfl, isSl_R c1, isSl_R s1, isSl_R p1, rfl, isSl_R z1, rfl, rfl, trivial⟩⟩
end
end Go.Proofs.YtmnbgppmfbnamaaGreatDoor
