import Derived.Test.YtmnbgppmfbnamaaGreatDoorM7
import Derived.Test.YtmnbgppmfbnamaaGreatDoorM10
import Derived.Test.YtmnbgppmfbnamaaGreatDoorM16
import Derived.Test.YtmnbgppmfbnamaaGreatDoorM19
set_option linter.unusedSimpArgs false
set_option linter.unusedVariables false
set_option linter.unusedSectionVars false
/- Functions: a call done on a book, the reference's. -/
namespace Go.Proofs.YtmnbgppmfbnamaaGreatDoor
open Go.RowKit

/-- What a call leaves: the sets, what is answered, and whether they lie in new memory. -/
structure DoR where
  xs : List BSet
  c : Int
  f : Bool
@[go_sem] def doV (p : Prop) (r : DoR) : St := ⟨p, .tup [.agg [.osl .bset (if r.f = true then 1 else 0) 0 r.xs.length], vi r.c], (if r.f = true then [(0, none)] else [(0, some (.arr .bset r.xs))]), (if r.f = true then [.arr .bset r.xs] else [])⟩
noncomputable def newX (xs : List BSet) (s : BSet) : DoR :=
  if nameB s.name = false then ⟨xs, 5, false⟩ else if thereB xs s.name = true then ⟨xs, 2, false⟩ else if xs.length = 6 then ⟨xs, 4, false⟩ else ⟨xs.take (lowN xs s.name) ++ [s] ++ xs.drop (lowN xs s.name), 0, true⟩
@[go_sem] noncomputable def ctNew : Ct := ⟨true, [], fun args os => match args, os with
  | [.agg [.osl .bset 0 0 n], .agg cs], [.arr .bset xs] => (match bsetOf cs with | some s => doV (n = xs.length ∧ xs.length ≤ 100 ∧ s.name.size ≤ 1000) (newX xs s) | none => no)
  | _, _ => no⟩
noncomputable def killX (xs : List BSet) (k : Nat) : DoR :=
  if (xs.any fun s => same s.from_ (xs.getD k ET.bset.dflt).name) = true then ⟨xs, 6, false⟩ else ⟨xs.take k ++ xs.drop (k + 1), 0, true⟩
@[go_sem] noncomputable def ctKill : Ct := ⟨true, [], fun args os => match args, os with
  | [.agg [.osl .bset 0 0 n], .one (.val (.int .i64 k))], [.arr .bset xs] => doV (n = xs.length ∧ xs.length ≤ 100 ∧ 0 ≤ k ∧ k < xs.length) (killX xs k.toNat)
  | _, _ => no⟩
def Eight.put {α : Type} (x : Eight α) (i : Int) (t : α) : Eight α :=
  ⟨if i = 0 then t else x.x0, if i = 1 then t else x.x1, if i = 2 then t else x.x2, if i = 3 then t else x.x3, if i = 4 then t else x.x4, if i = 5 then t else x.x5, if i = 6 then t else x.x6, if i = 7 then t else x.x7⟩
def putX (xs : List BSet) (k : Nat) (i : Int) (t : ByteArray) : DoR :=
  if i < 0 ∨ 8 ≤ i ∨ 24 < t.size then ⟨xs, 5, false⟩ else if ¬ (xs.getD k ET.bset.dflt).kind = 1 then ⟨xs, 3, false⟩ else
    ⟨xs.set k ⟨(xs.getD k ET.bset.dflt).name, (xs.getD k ET.bset.dflt).kind, (xs.getD k ET.bset.dflt).from_, (xs.getD k ET.bset.dflt).blocks.put i t⟩, 0, false⟩
@[go_sem] noncomputable def ctPut : Ct := ⟨true, [], fun args os => match args, os with
  | [.agg [.osl .bset 0 0 n], .one (.val (.int .i64 k)), .agg [.val (.int .i64 kind), .val (.string a), .val (.string b), .val (.int .i64 i), .val (.string t)]], [.arr .bset xs] => doV (n = xs.length ∧ xs.length ≤ 100 ∧ 0 ≤ k ∧ k < xs.length ∧ t.size ≤ 1000) (putX xs k.toNat i t)
  | _, _ => no⟩
noncomputable def backX (xs : List BSet) (k : Nat) (name : ByteArray) : DoR :=
  if thereB xs name = false then ⟨xs, 1, false⟩ else if (xs.getD k ET.bset.dflt).kind = 1 ∧ (xs.getD (lowN xs name) ET.bset.dflt).kind = 2 ∧ (xs.getD (lowN xs name) ET.bset.dflt).from_ = (xs.getD k ET.bset.dflt).name then
    ⟨xs.set k ⟨(xs.getD k ET.bset.dflt).name, (xs.getD k ET.bset.dflt).kind, (xs.getD k ET.bset.dflt).from_, (xs.getD (lowN xs name) ET.bset.dflt).blocks⟩, 0, false⟩ else ⟨xs, 3, false⟩
@[go_sem] noncomputable def ctBack : Ct := ⟨true, [], fun args os => match args, os with
  | [.agg [.osl .bset 0 0 n], .one (.val (.int .i64 k)), .one (.val (.string name))], [.arr .bset xs] => doV (n = xs.length ∧ xs.length ≤ 100 ∧ 0 ≤ k ∧ k < xs.length) (backX xs k.toNat name)
  | _, _ => no⟩
noncomputable def doX (xs : List BSet) (o : BOp) : DoR :=
  if o.kind = 1 then newX xs ⟨o.a, 1, ⟨#[]⟩, Eight.rep ⟨#[]⟩⟩
  else if o.kind < 1 ∨ 6 < o.kind then ⟨xs, 5, false⟩
  else if thereB xs o.a = false then ⟨xs, 1, false⟩
  else if o.kind = 2 then killX xs (lowN xs o.a)
  else if o.kind = 3 then putX xs (lowN xs o.a) o.i o.text
  else if o.kind = 6 then backX xs (lowN xs o.a) o.b
  else if o.kind = 5 then (if ¬ (xs.getD (lowN xs o.a) ET.bset.dflt).kind = 2 then ⟨xs, 3, false⟩ else newX xs ⟨o.b, 1, (xs.getD (lowN xs o.a) ET.bset.dflt).name, (xs.getD (lowN xs o.a) ET.bset.dflt).blocks⟩)
  else (if ¬ (xs.getD (lowN xs o.a) ET.bset.dflt).kind = 1 then ⟨xs, 3, false⟩ else newX xs ⟨o.b, 2, (xs.getD (lowN xs o.a) ET.bset.dflt).name, (xs.getD (lowN xs o.a) ET.bset.dflt).blocks⟩)
@[go_sem] noncomputable def ctDo : Ct := ⟨true, [], fun args os => match args, os with
  | [.agg [.osl .bset 0 0 n], .agg [.val (.int .i64 kind), .val (.string a), .val (.string b), .val (.int .i64 i), .val (.string t)]], [.arr .bset xs] => doV (n = xs.length ∧ xs.length ≤ 100 ∧ a.size ≤ 1000 ∧ b.size ≤ 1000 ∧ t.size ≤ 1000) (doX xs ⟨kind, a, b, i, t⟩)
  | _, _ => no⟩
end Go.Proofs.YtmnbgppmfbnamaaGreatDoor
/- Functions: a call that is drawn. -/
namespace Go.Proofs.YtmnbgppmfbnamaaGreatDoor
open Go.RowKit

/-- Two ways meet in one state. -/
theorem W_join {P : Program} {B : Beg} {σ : Sg} {Q : Exit → Sg → Prop} {x y : Code} (J : Sg) (hy : W P B y J Q) (h : ∀ Y : Sg → Prop, (∀ {σ' : Sg} (π : List (Option Nat)), leS B.m π σ' J → Y σ') → W P B x σ (thenG Y Q)) :
    W P B x σ (thenG (fun σ' => W P B y σ' Q) Q) := h _ fun π hle => W_le π hle hy
@[go_sem] def ctCopyB : Ct := ⟨false, [[some .bset]], fun args os => match args, os with
  | [.agg [.isl .bset xs]], [] => ⟨xs.length ≤ 1000, .agg [.osl .bset 0 0 xs.length], [], [.arr .bset xs]⟩
  | _, _ => no⟩
def names8 : List ByteArray := [⟨#[97]⟩, ⟨#[98]⟩, ⟨#[99]⟩, ⟨#[100]⟩, ⟨#[101]⟩, ⟨#[102]⟩, ⟨#[103]⟩, ⟨#[118, 111, 108]⟩]
@[go_sem] def ctNm : Ct := ⟨true, [], fun args os => match args, os with
  | [.one (.ptr 0 0)], [.cells [.isl .byte bs, .val (.int .i64 p)]] => ⟨0 ≤ p ∧ p ≤ 1000000 ∧ bs.length ≤ 2000, vs (ET.str.at names8 (pickV bs p 8).toNat), [(0, some (rdO bs (p + 1)))], []⟩
  | _, _ => no⟩
theorem s_nm_e : EnterOk Tryz.prog 118 := ⟨_, Tryz.func118, rfl, by decide⟩
@[go_sem] def s_nm_lv : List (List Nat) := [[0], [2]]
@[go_sem] noncomputable def s_nm_K : Known := (Known.nil).cons 121 ctOf s_of s_of_e
set_option maxHeartbeats 8000000 in
theorem s_nm : Sound Tryz.prog 118 ctNm := by
  have ke := s_nm_K.env []
  have kl : Lives s_nm_lv := trivial
  refine sound_intro (E := ⟨ti, s_nm_K.Γ, []⟩) ke Tryz.func118 Tryz.ntmps118 rfl (rs := [.tmp 2]) rfl ?_
  intro args os hp
  unfold ctNm at hp ⊢
  dsimp only at hp ⊢
  split at hp
  · rename_i bs p
    refine ⟨by simp, fun φ0 w0 => ?_⟩
    obtain ⟨h1, h2, h3⟩ : 0 ≤ p ∧ p ≤ 1000000 ∧ bs.length ≤ 2000 := hp
    have hn : names8 = [⟨#[97]⟩, ⟨#[98]⟩, ⟨#[99]⟩, ⟨#[100]⟩, ⟨#[101]⟩, ⟨#[102]⟩, ⟨#[103]⟩, ⟨#[118, 111, 108]⟩] := rfl
    refine goh trivial ?_
    exact finh [some 0] hn
  · simp [no] at hp
/-- Places of the reader counted on. -/
theorem more1 : (∀ p : Int, p + 1 + 1 = p + 2) ∧ (∀ p : Int, p + 2 + 1 = p + 3) ∧ (∀ p : Int, p + 3 + 1 = p + 4) ∧ (∀ p : Int, p + 4 + 1 = p + 5) ∧ (∀ p : Int, p + 5 + 1 = p + 6) ∧ (∀ p : Int, p + 6 + 1 = p + 7) ∧ (∀ p : Int, p + 7 + 1 = p + 8) := by
  refine ⟨?_, ?_, ?_, ?_, ?_, ?_, ?_⟩ <;> intro p <;> omega
def opKs : List Int := [1, 1, 2, 3, 3, 3, 3, 3, 3, 3, 4, 4, 5, 6]
def opTs : List ByteArray := [⟨#[120]⟩, ⟨#[121]⟩, ⟨#[122, 122]⟩, ⟨#[111, 110, 101]⟩, ⟨#[97, 122, 122]⟩, ⟨#[98, 120, 108]⟩, ⟨#[]⟩, ⟨#[120]⟩, ⟨#[97, 32, 98]⟩, ⟨#[49, 50, 51, 52, 53, 54, 55, 56, 57, 48, 49, 50, 51, 52, 53, 54, 55, 56, 57, 48]⟩]
def op0 (bs : List UInt8) (p : Int) : BOp := ⟨ET.int.at opKs (pickV bs p 14).toNat, ET.str.at names8 (pickV bs (p + 1) 8).toNat, ET.str.at names8 (pickV bs (p + 2) 8).toNat, pickV bs (p + 3) 8, ET.str.at opTs (pickV bs (p + 4) 10).toNat⟩
@[go_sem] def sgOq (bs : List UInt8) (xs : List BSet) (q : Int) (o : BOp) : Sg := ⟨[(0, .one (.ptr 0 0)), (3, .one (.ptr 2 0)), (4, .one (.ptr 3 0)), (5, .one (.ptr 4 0))],
  [some (rdO bs q), some (.arr .bset xs), some (.cells [.osl .bset 1 0 xs.length]), some (.cells [.val (.int .i64 0), .val (.string ⟨#[]⟩), .val (.string ⟨#[]⟩), .val (.int .i64 0), .val (.string ⟨#[]⟩)]), some (.cells ((ET.bop.cells o).map .val))], [0]⟩
def lettersV (bs : List UInt8) (p q : Int) : ByteArray := ⟨#[UInt8.ofNat (IntKind.u8.wrap (IntKind.i64.wrap (65 + pickV bs p 26))).toNat, UInt8.ofNat (IntKind.u8.wrap (IntKind.i64.wrap (48 + pickV bs q 10))).toNat]⟩
def op1 (bs : List UInt8) (p : Int) : BOp × Int :=
  if pickV bs (p + 5) 3 = 0 then (⟨(op0 bs p).kind, (op0 bs p).a, (op0 bs p).b, (op0 bs p).i, lettersV bs (p + 6) (p + 7)⟩, p + 8) else (op0 bs p, p + 6)
def op2 (bs : List UInt8) (xs : List BSet) (r : BOp × Int) : BOp × Int :=
  if 0 < xs.length ∧ ¬ r.1.kind = 1 then
    (if 0 < pickV bs r.2 5 then (⟨r.1.kind, (xs.getD (pickV bs (r.2 + 1) xs.length).toNat ET.bset.dflt).name, r.1.b, r.1.i, r.1.text⟩, r.2 + 2) else (r.1, r.2 + 1)) else r
@[go_sem] def sgO2 (bs : List UInt8) (xs : List BSet) (q : Int) (o : BOp) : Sg := ⟨[(0, .one (.ptr 0 0)), (4, .one (.ptr 3 0)), (5, .one (.ptr 4 0))],
  [some (rdO bs q), some (.arr .bset xs), some (.cells [.osl .bset 1 0 xs.length]), some (.cells [.val (.int .i64 0), .val (.string ⟨#[]⟩), .val (.string ⟨#[]⟩), .val (.int .i64 0), .val (.string ⟨#[]⟩)]), some (.cells ((ET.bop.cells o).map .val))], [0]⟩
def op3 (bs : List UInt8) (xs : List BSet) (r : BOp × Int) : BOp × Int :=
  if r.1.kind = 6 ∧ 0 < xs.length then
    (if 0 < pickV bs r.2 4 then (⟨r.1.kind, (xs.getD (pickV bs (r.2 + 1) xs.length).toNat ET.bset.dflt).from_, (xs.getD (pickV bs (r.2 + 1) xs.length).toNat ET.bset.dflt).name, r.1.i, r.1.text⟩, r.2 + 2) else (r.1, r.2 + 1)) else r
def op4 (bs : List UInt8) (r : BOp × Int) : BOp × Int :=
  if pickV bs r.2 30 = 0 then (⟨ET.int.at [0, 7, -1] (pickV bs (r.2 + 1) 3).toNat, r.1.a, r.1.b, r.1.i, r.1.text⟩, r.2 + 2)
  else if pickV bs r.2 30 = 1 then (⟨r.1.kind, r.1.a, r.1.b, ET.int.at [-1, 8] (pickV bs (r.2 + 1) 2).toNat, r.1.text⟩, r.2 + 2)
  else if pickV bs r.2 30 = 2 then (⟨r.1.kind, r.1.a, r.1.b, r.1.i, many ⟨#[120]⟩ (24 + pickV bs (r.2 + 1) 2).toNat⟩, r.2 + 2)
  else if pickV bs r.2 30 = 3 then (⟨r.1.kind, ET.str.at [⟨#[]⟩, ⟨#[65]⟩, ⟨#[97, 98, 99, 100, 101, 102, 103]⟩] (pickV bs (r.2 + 1) 3).toNat, r.1.b, r.1.i, r.1.text⟩, r.2 + 2)
  else if pickV bs r.2 30 = 4 then (⟨r.1.kind, r.1.a, ET.str.at [⟨#[]⟩, ⟨#[66]⟩, ⟨#[97, 98, 99, 100, 101, 102, 103]⟩] (pickV bs (r.2 + 1) 3).toNat, r.1.i, r.1.text⟩, r.2 + 2)
  else (r.1, r.2 + 1)
/-- The call that is drawn, and where the reader goes on. -/
def opV (bs : List UInt8) (xs : List BSet) (p : Int) : BOp × Int := op4 bs (op3 bs xs (op2 bs xs (op1 bs p)))
@[go_sem] def ctOp : Ct := ⟨true, [], fun args os => match args, os with
  | [.one (.ptr 0 0), .agg [.osl .bset 1 0 n]], [.cells [.isl .byte bs, .val (.int .i64 p)], .arr .bset xs] => ⟨rdOk bs p ∧ n = xs.length ∧ xs.length ≤ 100, .agg ((ET.bop.cells (opV bs xs p).1).map .val), [(0, some (rdO bs (opV bs xs p).2))], []⟩
  | _, _ => no⟩
end Go.Proofs.YtmnbgppmfbnamaaGreatDoor
/- Functions: records and texts that are drawn. -/
namespace Go.Proofs.YtmnbgppmfbnamaaGreatDoor
open Go.RowKit

def LRec.tv (r : LRec) : TV := .agg [.val (.int .i64 r.txg), .val (.int .i64 r.seq), .val (.int .i64 r.op.kind), .val (.string r.op.a), .val (.string r.op.b), .val (.int .i64 r.op.i), .val (.string r.op.text)]
attribute [go_sem] LRec.tv
def rec0 (bs : List UInt8) (p : Int) : LRec := ⟨1 + pickV bs p 9, pickV bs (p + 1) 8, ⟨3, ET.str.at names8 (pickV bs (p + 2) 8).toNat, ⟨#[]⟩, pickV bs (p + 3) 8, textV bs (p + 4)⟩⟩
def recW (bs : List UInt8) (r : LRec) (q : Int) : LRec × Int :=
  if pickV bs q 28 = 0 then (⟨ET.int.at [0, -1, 1000000, 1000001] (pickV bs (q + 1) 4).toNat, r.seq, r.op⟩, q + 2)
  else if pickV bs q 28 = 1 then (⟨r.txg, ET.int.at [-1, 8] (pickV bs (q + 1) 2).toNat, r.op⟩, q + 2)
  else if pickV bs q 28 = 2 then (⟨r.txg, r.seq, ⟨ET.int.at [1, 0] (pickV bs (q + 1) 2).toNat, r.op.a, r.op.b, r.op.i, r.op.text⟩⟩, q + 2)
  else if pickV bs q 28 = 3 then (⟨r.txg, r.seq, ⟨r.op.kind, ET.str.at [⟨#[]⟩, ⟨#[65]⟩, ⟨#[97, 32, 98]⟩] (pickV bs (q + 1) 3).toNat, r.op.b, r.op.i, r.op.text⟩⟩, q + 2)
  else if pickV bs q 28 = 4 then (⟨r.txg, r.seq, ⟨r.op.kind, r.op.a, r.op.b, ET.int.at [-1, 8] (pickV bs (q + 1) 2).toNat, r.op.text⟩⟩, q + 2)
  else if pickV bs q 28 = 5 then (⟨r.txg, r.seq, ⟨r.op.kind, r.op.a, r.op.b, r.op.i, many ⟨#[122]⟩ (24 + pickV bs (q + 1) 2).toNat⟩⟩, q + 2)
  else if pickV bs q 28 = 6 then (⟨r.txg, r.seq, ⟨r.op.kind, r.op.a, ⟨#[98]⟩, r.op.i, r.op.text⟩⟩, q + 1)
  else (r, q + 1)
/-- A record that is drawn, and where the reader goes on. -/
def recD (bs : List UInt8) (p : Int) : LRec × Int := recW bs (rec0 bs p) (textP bs (p + 4))
@[go_sem] def ctRecD : Ct := ⟨true, [], fun args os => match args, os with
  | [.one (.ptr 0 0)], [.cells [.isl .byte bs, .val (.int .i64 p)]] => ⟨0 ≤ p ∧ p ≤ 1000 ∧ bs.length ≤ 2000, (recD bs p).1.tv, [(0, some (rdO bs (recD bs p).2))], []⟩
  | _, _ => no⟩
theorem s_recD_e : EnterOk Tryz.prog 44 := ⟨_, Tryz.func44, rfl, by decide⟩
@[go_sem] def s_recD_lv : List (List Nat) := [[0, 2], [0, 2, 3], [0, 2, 3, 18], [0, 2, 3, 18, 19], [2, 3], [0, 2, 3, 18, 25], [2, 3], [0, 2, 3, 18, 31], [2, 3], [0, 2, 3, 18, 38], [2, 3], [0, 2, 3, 18, 45], [2, 3], [0, 2, 3, 18, 52], [2, 3], [2, 3, 60], [2, 3], [2]]
@[go_sem] noncomputable def s_recD_K : Known := ((((((Known.nil).cons 117 ctPick s_pick s_pick_e).cons 118 ctNm s_nm s_nm_e).cons 119 ctText s_text s_text_e).cons 120 ctNum s_num s_num_e).cons 121 ctOf s_of s_of_e).cons 122 ctMany s_many s_many_e
set_option maxHeartbeats 8000000 in
theorem s_recD : Sound Tryz.prog 44 ctRecD := by
  have ke := s_recD_K.env []
  have kl : Lives s_recD_lv := trivial
  refine sound_intro (E := ⟨ti, s_recD_K.Γ, []⟩) ke Tryz.func44 Tryz.ntmps44 rfl (rs := [.cell 2 26]) rfl ?_
  intro args os hp
  unfold ctRecD at hp ⊢
  dsimp only at hp ⊢
  split at hp
  · rename_i bs p
    obtain ⟨h1, h2, h3⟩ : 0 ≤ p ∧ p ≤ 1000 ∧ bs.length ≤ 2000 := hp
    refine ⟨by simp, fun φ0 w0 => ?_⟩
    have g1 : p + 1 + 1 = p + 2 := by omega
    have g2 : p + 2 + 1 = p + 3 := by omega
    have g3 : p + 3 + 1 = p + 4 := by omega
    have v1 := pickV_in bs p 9 (by omega) (by omega) (by omega)
    have v2 := pickV_in bs (p + 1) 8 (by omega) (by omega) (by omega)
    have v3 := pickV_in bs (p + 3) 8 (by omega) (by omega) (by omega)
    have w1 : IntKind.i64.wrap (1 + pickV bs p 9) = 1 + pickV bs p 9 := wrap_id _ (by omega) (by omega)
    have hr : rdOk bs (p + 4) := ⟨by omega, by omega, h3⟩
    have hq := textP_in bs (p + 4) hr
    obtain ⟨q, hqe⟩ : ∃ q, textP bs (p + 4) = q := ⟨_, rfl⟩
    obtain ⟨t, hte⟩ : ∃ t, textV bs (p + 4) = t := ⟨_, rfl⟩
    rw [hqe] at hq
    have u2 := pickV_in bs (q + 1) 2 (by omega) (by omega) (by omega)
    have g5 : q + 1 + 1 = q + 2 := by omega
    have w2 : IntKind.i64.wrap (24 + pickV bs (q + 1) 2) = 24 + pickV bs (q + 1) 2 := wrap_id _ (by omega) (by omega)
    obtain ⟨x, hx⟩ : ∃ x, 1 + pickV bs p 9 = x := ⟨_, rfl⟩
    obtain ⟨y, hy⟩ : ∃ x, pickV bs (p + 1) 8 = x := ⟨_, rfl⟩
    obtain ⟨i, hi⟩ : ∃ x, pickV bs (p + 3) 8 = x := ⟨_, rfl⟩
    obtain ⟨a, ha⟩ : ∃ x, ET.str.at names8 (pickV bs (p + 2) 8).toNat = x := ⟨_, rfl⟩
    have e0 : recD bs p = recW bs ⟨x, y, ⟨3, a, ⟨#[]⟩, i, t⟩⟩ q := by unfold recD rec0; rw [hqe, hte, hx, hy, hi, ha]
    have ha2 := ha
    unfold ET.at names8 at ha2
    rw [hx] at w1
    refine goh (And.intro g1 (And.intro g2 (And.intro g3 (And.intro w1 (And.intro hr (And.intro hqe (And.intro hte (And.intro hx (And.intro hy (And.intro hi (And.intro ha ha2))))))))))) ?_
    refine W_cnd ?_ ?_ <;> (try simp only [cnd_r]) <;> intro c0
    · have e := e0.trans (by unfold recW; rw [if_pos c0])
      refine goh g5 ?_
      exact finh [some 0] e
    · simp only [beq_eq_false_iff_ne, ne_eq] at c0
      refine goh trivial ?_
      refine W_cnd ?_ ?_ <;> (try simp only [cnd_r]) <;> intro c1
      · have e := e0.trans (by unfold recW; rw [if_neg c0, if_pos c1])
        refine goh g5 ?_
        exact finh [some 0] e
      · simp only [beq_eq_false_iff_ne, ne_eq] at c1
        refine goh trivial ?_
        refine W_cnd ?_ ?_ <;> (try simp only [cnd_r]) <;> intro c2
        · have e := e0.trans (by unfold recW; rw [if_neg c0, if_neg c1, if_pos c2])
          refine goh g5 ?_
          exact finh [some 0] e
        · simp only [beq_eq_false_iff_ne, ne_eq] at c2
          refine goh trivial ?_
          refine W_cnd ?_ ?_ <;> (try simp only [cnd_r]) <;> intro c3
          · have e := e0.trans (by unfold recW; rw [if_neg c0, if_neg c1, if_neg c2, if_pos c3])
            refine goh g5 ?_
            exact finh [some 0] e
          · simp only [beq_eq_false_iff_ne, ne_eq] at c3
            refine goh trivial ?_
            refine W_cnd ?_ ?_ <;> (try simp only [cnd_r]) <;> intro c4
            · have e := e0.trans (by unfold recW; rw [if_neg c0, if_neg c1, if_neg c2, if_neg c3, if_pos c4])
              refine goh g5 ?_
              exact finh [some 0] e
            · simp only [beq_eq_false_iff_ne, ne_eq] at c4
              refine goh trivial ?_
              refine W_cnd ?_ ?_ <;> (try simp only [cnd_r]) <;> intro c5
              · have e := e0.trans (by unfold recW; rw [if_neg c0, if_neg c1, if_neg c2, if_neg c3, if_neg c4, if_pos c5])
                have hz : (⟨#[122]⟩ : ByteArray).size = 1 := rfl
                refine goh (And.intro g5 (And.intro w2 hz)) ?_
                exact finh [some 0] e
              · simp only [beq_eq_false_iff_ne, ne_eq] at c5
                refine goh trivial ?_
                refine W_cnd ?_ ?_ <;> (try simp only [cnd_r]) <;> intro c6
                · have e := e0.trans (by unfold recW; rw [if_neg c0, if_neg c1, if_neg c2, if_neg c3, if_neg c4, if_neg c5, if_pos c6])
                  refine goh trivial ?_
                  exact finh [some 0] e
                · simp only [beq_eq_false_iff_ne, ne_eq] at c6
                  have e := e0.trans (by unfold recW; rw [if_neg c0, if_neg c1, if_neg c2, if_neg c3, if_neg c4, if_neg c5, if_neg c6])
                  refine goh trivial ?_
                  exact finh [some 0] e
  · simp [no] at hp
theorem recD_all (bs : List UInt8) {p : Int} (h1 : 0 ≤ p) (h2 : p ≤ 1000) (h3 : bs.length ≤ 2000) : (recD bs p).1.op.a.size ≤ 7 ∧ p ≤ (recD bs p).2 ∧ (recD bs p).2 ≤ p + 20 := by
  have hq := textP_in bs (p + 4) ⟨by omega, by omega, h3⟩
  have n1 : ∀ i, (ET.str.at [⟨#[]⟩, ⟨#[65]⟩, ⟨#[97, 32, 98]⟩] i).size ≤ 7 := at_size (by decide)
  have n2 : ∀ i, (ET.str.at names8 i).size ≤ 7 := at_size (by decide)
  unfold recD recW rec0
  repeat' split
  all_goals
    refine ⟨?_, ?_, ?_⟩
    · first | exact n1 _ | exact n2 _
    · simp only; omega
    · simp only; omega
def recV (code : List UInt8) : LRec := (recD (code.take 2000) 0).1
@[go_sem] def ctDrawRec : Ct := ⟨false, [[some .byte]], fun args os => match args, os with
  | [.one (.isl .byte code)], [] => ifp (code.length ≤ 1048576) (recV code).tv
  | _, _ => no⟩
theorem s_drawRec_e : EnterOk Tryz.prog 8 := ⟨_, Tryz.func8, rfl, by decide⟩
@[go_sem] def s_drawRec_lv : List (List Nat) := [[0, 2], [2]]
@[go_sem] noncomputable def s_drawRec_K : Known := ((Known.nil).cons 45 ctOpen s_open s_open_e).cons 44 ctRecD s_recD s_recD_e
set_option maxHeartbeats 8000000 in
theorem s_drawRec : Sound Tryz.prog 8 ctDrawRec := by
  have ke := s_drawRec_K.env []
  have kl : Lives s_drawRec_lv := trivial
  refine sound_intro (E := ⟨ti, s_drawRec_K.Γ, []⟩) ke Tryz.func8 Tryz.ntmps8 rfl (rs := [.cell 2 26]) rfl ?_
  intro args os hp
  unfold ctDrawRec at hp ⊢
  dsimp only at hp ⊢
  split at hp
  · rename_i code
    refine ⟨by simp, fun φ0 w0 => ?_⟩
    have hlen : code.length ≤ 1048576 := hp
    have hb := take2000 code
    have e : recV code = (recD (code.take 2000) 0).1 := rfl
    clear hp
    refine goh trivial ?_
    exact finh [] e
  · simp [no, ifp] at hp
def tears : List ByteArray := [⟨#[]⟩, ⟨#[48]⟩, ⟨#[45]⟩, ⟨#[32]⟩, ⟨#[46]⟩, ⟨#[10]⟩, ⟨#[49]⟩, ⟨#[97]⟩]
def tornD (bs : List UInt8) (s : ByteArray) (p : Int) : ByteArray × Int :=
  if s.size = 0 then (s, p) else if pickV bs p 2 = 0 then (s, p + 1)
  else (s.extract 0 (pickV bs (p + 1) s.size).toNat ++ ET.str.at tears (pickV bs (p + 2) 8).toNat ++ s.extract (pickV bs (p + 1) s.size + pickV bs (p + 3) 2).toNat s.size, p + 4)
@[go_sem] def ctTornD : Ct := ⟨true, [], fun args os => match args, os with
  | [.one (.ptr 0 0), .one (.val (.string s))], [.cells [.isl .byte bs, .val (.int .i64 p)]] => ⟨(0 ≤ p ∧ p ≤ 1000 ∧ bs.length ≤ 2000) ∧ s.size ≤ 1000, vs (tornD bs s p).1, [(0, some (rdO bs (tornD bs s p).2))], []⟩
  | _, _ => no⟩
theorem s_tornD_e : EnterOk Tryz.prog 63 := ⟨_, Tryz.func63, rfl, by decide⟩
@[go_sem] def s_tornD_lv : List (List Nat) := [[0, 1], [0, 1, 13], [4], [0, 1, 5], [4]]
@[go_sem] noncomputable def s_tornD_K : Known := ((Known.nil).cons 117 ctPick s_pick s_pick_e).cons 121 ctOf s_of s_of_e
set_option maxHeartbeats 8000000 in
theorem s_tornD : Sound Tryz.prog 63 ctTornD := by
  have ke := s_tornD_K.env []
  have kl : Lives s_tornD_lv := trivial
  refine sound_intro (E := ⟨ti, s_tornD_K.Γ, []⟩) ke Tryz.func63 Tryz.ntmps63 rfl (rs := [.tmp 4]) rfl ?_
  intro args os hp
  unfold ctTornD at hp ⊢
  dsimp only at hp ⊢
  split at hp
  · rename_i s bs p
    obtain ⟨⟨h1, h2, h3⟩, hs⟩ : (0 ≤ p ∧ p ≤ 1000 ∧ bs.length ≤ 2000) ∧ s.size ≤ 1000 := hp
    refine ⟨by simp, fun φ0 w0 => ?_⟩
    by_cases z : s.size = 0
    · have c0 : ((s.size : Int) == 0) = true := by simp [z]
      have e : tornD bs s p = (s, p) := by unfold tornD; rw [if_pos z]
      refine goh c0 ?_
      refine W_cnd ?_ ?_ <;> intro hlit <;> try (cases hlit; done)
      refine goh trivial ?_
      exact finh [some 0] e
    · have c0 : ((s.size : Int) == 0) = false := by simp [z]
      refine goh c0 ?_
      refine W_cnd ?_ ?_ <;> (try simp only [cnd_r]) <;> intro c1
      · have e : tornD bs s p = (s, p + 1) := by unfold tornD; rw [if_neg z, if_pos c1]
        refine goh trivial ?_
        exact finh [some 0] e
      · simp only [beq_eq_false_iff_ne, ne_eq] at c1
        have v1 := pickV_in bs (p + 1) s.size (by omega) (by omega) (by omega)
        have v2 := pickV_in bs (p + 3) 2 (by omega) (by omega) (by omega)
        have v3 := pickV_in bs (p + 2) 8 (by omega) (by omega) (by omega)
        have g1 : p + 1 + 1 = p + 2 := by omega
        have g2 : p + 2 + 1 = p + 3 := by omega
        have g3 : p + 3 + 1 = p + 4 := by omega
        obtain ⟨k, hk⟩ := Int.eq_ofNat_of_zero_le v1.1
        obtain ⟨j, hj⟩ := Int.eq_ofNat_of_zero_le v2.1
        rw [hk] at v1
        rw [hj] at v2
        have w1 : IntKind.i64.wrap ((k : Int) + (j : Int)) = ((k + j : Nat) : Int) := wrap_id _ (by omega) (by omega)
        obtain ⟨u, hu⟩ : ∃ u, ET.str.at tears (pickV bs (p + 2) 8).toNat = u := ⟨_, rfl⟩
        have hus : u.size ≤ 1 := by
          have n1 : ∀ i, (ET.str.at tears i).size ≤ 1 := at_size (by decide)
          rw [← hu]; exact n1 _
        have e : tornD bs s p = (s.extract 0 k ++ u ++ s.extract (k + j) s.size, p + 4) := by
          unfold tornD
          rw [if_neg z, if_neg c1, hk, hj, hu, Int.toNat_natCast, show ((k : Int) + (j : Int)).toNat = k + j by omega]
        have hu2 := hu
        unfold ET.at tears at hu2
        have x1 : (s.extract 0 k).size ≤ 1000 := by rw [ByteArray.size_extract]; omega
        have x2 : (s.extract (k + j) s.size).size ≤ 1000 := by rw [ByteArray.size_extract]; omega
        refine goh (And.intro hk (And.intro hj (And.intro g1 (And.intro g2 (And.intro g3 (And.intro w1 (And.intro hu hu2))))))) ?_
        exact finh [some 0] e
  · simp [no] at hp
theorem tornD_size (bs : List UInt8) (s : ByteArray) (p : Int) : (tornD bs s p).1.size ≤ 2 * s.size + 1 := by
  have n1 : ∀ i, (ET.str.at tears i).size ≤ 1 := at_size (by decide)
  unfold tornD
  repeat' split
  · simp only; omega
  · simp only; omega
  · simp only [ByteArray.size_append, ByteArray.size_extract]
    have := n1 (pickV bs (p + 2) 8).toNat
    omega
noncomputable def txtV (code : List UInt8) : ByteArray := (tornD (code.take 2000) (logT (recV code)) (recD (code.take 2000) 0).2).1
@[go_sem] noncomputable def ctDrawTxt : Ct := ⟨false, [[some .byte]], fun args os => match args, os with
  | [.one (.isl .byte code)], [] => ifp (code.length ≤ 1048576) (vs (txtV code))
  | _, _ => no⟩
theorem s_drawTxt_e : EnterOk Tryz.prog 12 := ⟨_, Tryz.func12, rfl, by decide⟩
@[go_sem] def s_drawTxt_lv : List (List Nat) := [[0], [3], [2]]
@[go_sem] noncomputable def s_drawTxt_K : Known := ((((Known.nil).cons 45 ctOpen s_open s_open_e).cons 44 ctRecD s_recD s_recD_e).cons 11 ctLogText s_specLogText s_specLogText_e).cons 63 ctTornD s_tornD s_tornD_e
set_option maxHeartbeats 8000000 in
theorem s_drawTxt : Sound Tryz.prog 12 ctDrawTxt := by
  have ke := s_drawTxt_K.env []
  have kl : Lives s_drawTxt_lv := trivial
  refine sound_intro (E := ⟨ti, s_drawTxt_K.Γ, []⟩) ke Tryz.func12 Tryz.ntmps12 rfl (rs := [.tmp 2]) rfl ?_
  intro args os hp
  unfold ctDrawTxt at hp ⊢
  dsimp only at hp ⊢
  split at hp
  · rename_i code
    refine ⟨by simp, fun φ0 w0 => ?_⟩
    have hlen : code.length ≤ 1048576 := hp
    have hb := take2000 code
    obtain ⟨k1, k2, k3⟩ := recD_all (code.take 2000) (p := 0) (by omega) (by omega) hb
    obtain ⟨⟨r, q⟩, hr⟩ : ∃ x, recD (code.take 2000) 0 = x := ⟨_, rfl⟩
    rw [hr] at k1 k2 k3
    simp only at k1 k2 k3
    have e : txtV code = (tornD (code.take 2000) (logT r) q).1 := by unfold txtV recV; rw [hr]
    have hz := logT_size r
    obtain ⟨t, s, ⟨k, a, b, i, x⟩⟩ := r
    simp only at k1
    have ka : a.size ≤ 9223372036854775807 := by omega
    clear hp
    refine goh (And.intro hr ka) ?_
    exact finh [] e
  · simp [no, ifp] at hp
end Go.Proofs.YtmnbgppmfbnamaaGreatDoor
/- Functions: a commit's number and pointer that are drawn; an open disk. -/
namespace Go.Proofs.YtmnbgppmfbnamaaGreatDoor
open Go.RowKit

theorem s_diskOpen_e : EnterOk Tryz.prog 14 := ⟨_, Tryz.func14, rfl, by decide⟩
@[go_sem] def s_diskOpen_lv : List (List Nat) := [[0, 2], [0, 2, 5], [2], [2]]
@[go_sem] noncomputable def s_diskOpen_K : Known := (Known.nil).cons 46 ctWithin s_within s_within_e
set_option maxHeartbeats 8000000 in
theorem s_diskOpen : Sound Tryz.prog 14 ctSpecOpen := by
  have ke := s_diskOpen_K.env []
  have kl : Lives s_diskOpen_lv := trivial
  refine sound_intro (E := ⟨ti, s_diskOpen_K.Γ, []⟩) ke Tryz.func14 Tryz.ntmps14 rfl (rs := [.cell 2 36]) rfl ?_
  intro args os hp
  unfold ctSpecOpen at hp ⊢
  dsimp only at hp ⊢
  split at hp
  · rename_i n
    refine ⟨by simp, fun φ0 w0 => ?_⟩
    clear hp
    have nt : (!true) = false := rfl
    have nf : (!false) = true := rfl
    by_cases hn : 1 ≤ n ∧ n ≤ 120
    · have c : (decide (1 ≤ n) && decide (n ≤ 120)) = true := by simp [hn.1, hn.2]
      have hd : dkOpen n = ⟨List.replicate n.toNat ⟨#[]⟩, List.replicate n.toNat ⟨#[]⟩, []⟩ := by unfold dkOpen; rw [if_pos hn]
      obtain ⟨n1, n2⟩ := hn
      refine goh (And.intro c nt) ?_
      refine W_cnd ?_ ?_ <;> intro hlit <;> try (cases hlit; done)
      refine goh trivial ?_
      rw [hd]
      refine ⟨by (simp only [go_sem, ↓reduceIte, reduceCtorEq, Nat.reduceAdd, Nat.reduceLT, Nat.reduceLeDiff, Nat.reduceEqDiff]) <;> trivial, [some 1, some 2, none], ?_⟩
      all_goals try simp only [go_sem, inj_r, ↓reduceIte, reduceCtorEq, Nat.reduceAdd, Nat.reduceLT, Nat.reduceLeDiff, Nat.reduceEqDiff, Int.reduceEq]
      all_goals (repeat' refine And.intro ?_ ?_) <;> try exact shut7
      all_goals simp only [List.length_replicate]
    · have c : (decide (1 ≤ n) && decide (n ≤ 120)) = false := by
        rw [Bool.and_eq_false_iff, decide_eq_false_iff_not, decide_eq_false_iff_not]; omega
      have hd : dkOpen n = ⟨[], [], []⟩ := by unfold dkOpen; rw [if_neg hn]
      refine goh (And.intro c nf) ?_
      refine W_cnd ?_ ?_ <;> intro hlit <;> try (cases hlit; done)
      refine goh trivial ?_
      rw [hd]
      exact finh [none, none, none] trivial
  · simp [no] at hp
def ucN (code : List UInt8) : Int := ET.int.at [1, 2, 99, 0, -1, 1000000, 1000001] (pickV (code.take 2000) 0 7).toNat
def ucP (code : List UInt8) : Ptr := (ptrD (code.take 2000) (blkDisk (code.take 2000) 1).1 (blkDisk (code.take 2000) 1).2).1
@[go_sem] def ctDrawUber : Ct := ⟨false, [[some .byte]], fun args os => match args, os with
  | [.one (.isl .byte code)], [] => ifp (code.length ≤ 1048576) (.tup [vi (ucN code), (ucP code).tv])
  | _, _ => no⟩
/-- What a torn write leaves. -/
theorem torn_disk {s t : ByteArray} (hs : s.size ≤ 420) (ht : t.size ≤ 420) :
    dkWrite (dkOpen 2) 0 1 t = ⟨[⟨#[]⟩, ⟨#[]⟩], [⟨#[]⟩, ⟨#[]⟩], [⟨0, 1, t⟩]⟩ ∧
    dkFlush ⟨[⟨#[]⟩, ⟨#[]⟩], [⟨#[]⟩, ⟨#[]⟩], [⟨0, 1, t⟩]⟩ = ⟨[⟨#[]⟩, t], [⟨#[]⟩, ⟨#[]⟩], []⟩ ∧
    dkWrite ⟨[⟨#[]⟩, t], [⟨#[]⟩, ⟨#[]⟩], []⟩ 0 1 s = ⟨[⟨#[]⟩, t], [⟨#[]⟩, ⟨#[]⟩], [⟨0, 1, s⟩]⟩ ∧
    dkFall ⟨[⟨#[]⟩, t], [⟨#[]⟩, ⟨#[]⟩], [⟨0, 1, s⟩]⟩ [2] = ⟨[⟨#[]⟩, torn t s], [⟨#[]⟩, ⟨#[]⟩], []⟩ := by
  have e0 : dkOpen 2 = ⟨[⟨#[]⟩, ⟨#[]⟩], [⟨#[]⟩, ⟨#[]⟩], []⟩ := rfl
  have k0 : Dk.ok ⟨[⟨#[]⟩, ⟨#[]⟩], [⟨#[]⟩, ⟨#[]⟩], []⟩ = true := by decide
  have m0 : Dk.may ⟨[⟨#[]⟩, ⟨#[]⟩], [⟨#[]⟩, ⟨#[]⟩], []⟩ 0 1 t = true := (may_iff _ _ _ _).2 ⟨.inl rfl, by decide, by decide, ht, by decide⟩
  have k1 := Dk.add_ok k0 m0
  have k1 : Dk.ok ⟨[⟨#[]⟩, ⟨#[]⟩], [⟨#[]⟩, ⟨#[]⟩], [⟨0, 1, t⟩]⟩ = true := k1
  have e1 : dkFlush ⟨[⟨#[]⟩, ⟨#[]⟩], [⟨#[]⟩, ⟨#[]⟩], [⟨0, 1, t⟩]⟩ = ⟨[⟨#[]⟩, t], [⟨#[]⟩, ⟨#[]⟩], []⟩ := by unfold dkFlush; rw [if_pos k1]; rfl
  have k2 : Dk.ok ⟨[⟨#[]⟩, t], [⟨#[]⟩, ⟨#[]⟩], []⟩ = true := by rw [← e1]; exact dkFlush_ok k1
  have m2 : Dk.may ⟨[⟨#[]⟩, t], [⟨#[]⟩, ⟨#[]⟩], []⟩ 0 1 s = true := (may_iff _ _ _ _).2 ⟨.inl rfl, by show (0 : Int) ≤ 1; decide, by show (1 : Int) < 2; decide, hs, by show 0 < 600; decide⟩
  have k3 : Dk.ok ⟨[⟨#[]⟩, t], [⟨#[]⟩, ⟨#[]⟩], [⟨0, 1, s⟩]⟩ = true := Dk.add_ok k2 m2
  refine ⟨?_, e1, ?_, ?_⟩
  · rw [e0]; unfold dkWrite; rw [if_pos k0, if_pos m0]; rfl
  · unfold dkWrite; rw [if_pos k2, if_pos m2]; rfl
  · unfold dkFall; rw [if_pos k3]; rfl
end Go.Proofs.YtmnbgppmfbnamaaGreatDoor
