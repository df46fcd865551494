/- The evaluator's own steps, as a tactic. -/
import Derived.Test.YtfmeopnankeaeaaDoorTEnv
set_option linter.unusedSimpArgs false
set_option linter.unusedVariables false
set_option linter.unusedSectionVars false
namespace Go.Proofs.YtfmeopnankeaeaaDoor
open Go.RowKit

section
variable {P : Program} {B : Beg} {σ : Sg} {Q : Exit → Sg → Prop}
theorem W_region_k {E : Env} (ok : EnvOk P E) {id : Nat} {ops : Array Oper} (h : ∀ K : Sg → Prop, (∀ σ', Q .normal σ' → K σ') → goOps E B.N B.m ops.toList ops.toList σ K) : W P B (.region id ops false) σ Q :=
  W_region ok (h _ fun _ h => h)
theorem W_drawn_k {E : Env} (ok : EnvOk P E) (hm : P.follows .mixedOrders = true) {id : Nat} {ops : Array Oper} (h : ∀ K : Sg → Prop, (∀ σ', Q .normal σ' → K σ') → goOpsD E B.N B.m ops.toList ops.toList σ [] K) : W P B (.region id ops true) σ Q :=
  W_drawn ok hm (h _ fun _ h => h)
theorem W_seq_k {x y : Code} (h : ∀ Y : Sg → Prop, (∀ σ', W P B y σ' Q → Y σ') → W P B x σ (thenG Y Q)) : W P B (.seq x y) σ Q := W_seq (h _ fun _ h => h)
theorem drawOk_k {a : List Oper} {b : List (List Nat × List Nat)} (h : drawOk a b = true) : drawOk a b = true := h
def keepSl (ks : List Nat) (sl : List (Nat × TV)) : List (Nat × TV) := ks.map fun i => (i, look sl i)
theorem keepSl_R {φ : Phi} {T : Tab} {w : World} {sl : List (Nat × TV)} {tmps : Array Value} (h : SlR φ T w sl tmps) : ∀ ks : List Nat, SlR φ T w (keepSl ks sl) tmps
  | [], i => by simp only [keepSl, List.map_nil, look, VR, CR]
  | k :: ks, i => by
    simp only [keepSl, List.map_cons, look_put]
    split
    · rename_i he; subst he; exact h k
    · exact keepSl_R h ks i
/-- What lives behind a region. -/
def pr (lv : List (List Nat)) (id : Nat) (σ : Sg) : Sg := ⟨keepSl (lv.getD id []) σ.sl, σ.tab, σ.tch⟩
theorem Sim.pr {φ0 : Phi} {T0 : Tab} {w0 : World} {N m : Nat} {φ : Phi} {a : Act} {w : World} (hs : Sim φ0 T0 w0 N m φ σ a w) (lv : List (List Nat)) (id : Nat) : Sim φ0 T0 w0 N m φ (pr lv id σ) a w :=
  { hs with sl := keepSl_R hs.sl _ }
theorem W_region_l {E : Env} (ok : EnvOk P E) (lv : List (List Nat)) {id : Nat} {ops : Array Oper} (h : ∀ K : Sg → Prop, (∀ σ' σ'', pr lv id σ' = σ'' → Q .normal σ'' → K σ') → goOps E B.N B.m ops.toList ops.toList σ K) : W P B (.region id ops false) σ Q := by
  intro φ a w hs
  exact wp_region (region_sound ok (h (fun σ' => Q .normal (pr lv id σ')) fun _ _ h1 h2 => by subst h1; exact h2) hs fun σ' φ' a' w' h1 h2 => ⟨Go.Proofs.YtfmeopnankeaeaaDoor.pr lv id σ', φ', h1.pr lv id, h2⟩)
theorem W_drawn_l {E : Env} (ok : EnvOk P E) (hm : P.follows .mixedOrders = true) (lv : List (List Nat)) {id : Nat} {ops : Array Oper} (h : ∀ K : Sg → Prop, (∀ σ' σ'', pr lv id σ' = σ'' → Q .normal σ'' → K σ') → goOpsD E B.N B.m ops.toList ops.toList σ [] K) : W P B (.region id ops true) σ Q := by
  intro φ a w hs
  exact wp_region_any hm (drawn_sound ok (h (fun σ' => Q .normal (pr lv id σ')) fun _ _ h1 h2 => by subst h1; exact h2) hs.drawn fun σ' φ' a' w' h1 h2 => ⟨Go.Proofs.YtfmeopnankeaeaaDoor.pr lv id σ', φ', h1.pr lv id, h2⟩)
def goX (dr : Bool) (E : Env) (n m : Nat) (ops : List Oper) (σ : Sg) (K : Sg → Prop) : Prop := if dr then goOpsD E n m ops ops σ [] K else goOps E n m ops ops σ K
theorem thenG_n {next : Sg → Prop} (h : next σ) : thenG next Q .normal σ := h
theorem thenG_x {next : Sg → Prop} {id : Nat} (h : Q (.exit id) σ) : thenG next Q (.exit id) σ := h
theorem thenG_r {next : Sg → Prop} (h : Q .ret σ) : thenG next Q .ret σ := h
theorem blockG_n {id : Nat} (h : Q .normal σ) : blockG id Q .normal σ := h
theorem blockG_r {id : Nat} (h : Q .ret σ) : blockG id Q .ret σ := h
theorem blockG_x {id : Nat} (h : Q .normal σ) : blockG id Q (.exit id) σ := by simp only [blockG, if_true]; exact h
theorem blockG_o {id id' : Nat} (hne : ¬ id' = id) (h : Q (.exit id') σ) : blockG id Q (.exit id') σ := by simp only [blockG, if_neg hne]; exact h
/-- Slots forgotten. -/
theorem W_keep {c : Code} (ks : List Nat) (h : W P B c ⟨keepSl ks σ.sl, σ.tab, σ.tch⟩ Q) : W P B c σ Q :=
  fun φ a w hs => h φ a w { hs with sl := keepSl_R hs.sl ks }
end
theorem mixed : Tryd.prog.follows .mixedOrders = true := by kernel_rfl
/-- A region, in the text's order or drawn. -/
theorem W_reg {B : Beg} {σ : Sg} {Q : Exit → Sg → Prop} {E : Env} (ok : EnvOk Tryd.prog E) (lv : List (List Nat)) {id : Nat} {ops : Array Oper} {dr : Bool} (h : ∀ K : Sg → Prop, (∀ σ' σ'', pr lv id σ' = σ'' → Q .normal σ'' → K σ') → goX dr E B.N B.m ops.toList σ K) : W Tryd.prog B (.region id ops dr) σ Q := by
  cases dr with
  | true => exact W_drawn_l ok mixed lv h
  | false => exact W_region_l ok lv h
@[go_sem] theorem goX_t (E : Env) (n m : Nat) (ops : List Oper) (σ : Sg) (K : Sg → Prop) : goX true E n m ops σ K = goOpsD E n m ops ops σ [] K := rfl
@[go_sem] theorem goX_f (E : Env) (n m : Nat) (ops : List Oper) (σ : Sg) (K : Sg → Prop) : goX false E n m ops σ K = goOps E n m ops ops σ K := rfl

@[go_sem] theorem goOps_nil (E : Env) (n m : Nat) (ops : List Oper) (σ : Sg) (K : Sg → Prop) : goOps E n m ops [] σ K = K σ := rfl
@[go_sem] theorem goOps_cons (E : Env) (n m : Nat) (ops : List Oper) (o : Oper) (r : List Oper) (σ : Sg) (K : Sg → Prop) : goOps E n m ops (o :: r) σ K = ((stepR E n m ops o σ).1 ∧ goOps E n m ops r (stepR E n m ops o σ).2.1 K) :=
  propext (stepv_iff E n m ops o σ fun σ' _ => goOps E n m ops r σ' K)
@[go_sem] theorem goOpsD_nil (E : Env) (n m : Nat) (ops : List Oper) (σ : Sg) (log : List (List Nat × List Nat)) (K : Sg → Prop) : goOpsD E n m ops [] σ log K = (drawOk ops log.reverse = true ∧ K σ) := rfl
@[go_sem] theorem goOpsD_cons (E : Env) (n m : Nat) (ops : List Oper) (o : Oper) (r : List Oper) (σ : Sg) (log : List (List Nat × List Nat)) (K : Sg → Prop) :
    goOpsD E n m ops (o :: r) σ log K = ((stepR E n m ops o σ).1 ∧ goOpsD E n m ops r (stepR E n m ops o σ).2.1 ((foot E (rdT σ.tab) σ.sl o.op, (stepR E n m ops o σ).2.2) :: log) K) :=
  propext (stepv_iff E n m ops o σ fun σ' ws => goOpsD E n m ops r σ' ((foot E (rdT σ.tab) σ.sl o.op, ws) :: log) K)
attribute [go_sem] reads passed stepR opv opd look strip constV initSl keepSl putS setT touch rdT underAll under operandsOf isPick dstOk gcond is ifp no vb vi vs binOpv binv eqop eqv ET.kinds kindsOk unv lohi content contentV cellsStr part lay layV asVal loadv storable allStorable oneCell storev fieldAt fieldv fieldOf indexv indexOf slicev boxv appendv makev elems litv fills placeOf knownAll buildv caps lenv convv zeroOf asI plain tcv TV.cells TV.isAgg minv builtinv callv callWith capArgs handed addNew idxOf refsC refsV refsO mapO viewCap viewC viewCs viewV viewVs viewO ren renC renV renV.renVs renO freeC freeV freeV.freeVs freeO foot footV footCall Known.nil Known.cons Op.operands ET.cells ET.ofCells ET.at cell Value.num Value.str Value.boo ptrOf Ptr.cells ET.sz
attribute [go_sem] ti_1 ti_2 ti_3 ti_4 ti_5 ti_6 ti_7 ti_8 ti_9 ti_10 ti_11 ti_12 ti_13 ti_14 ti_15 ti_16 ti_17 ti_18 ti_19 ti_20 ti_21 ti_22 ti_23 ti_24 ti_25 ti_26 ti_27 ti_28 ti_29 ti_30 ti_31 ti_32 ti_33 ti_34 ti_35 ti_36 ti_37 ti_38 ti_39 ti_40 ti_41 ti_42 ti_43 ti_44 ti_45 ti_46 ti_47 ti_48 ti_49 ti_50 ti_51 ti_52 ti_53 ti_55 ti_56 ti_58 ti_59 ti_60 ti_61 ti_62 ti_63 ti_64 ti_65 ti_66 ti_67 ti_68 ti_69 ti_70 ti_71 ti_72 ti_73 ti_74 ti_75 ti_76 ti_77 ti_78 ti_79 ti_80 ti_81 ti_82 ti_86 ti_87 ti_88 ti_89 ti_91 ti_92 ti_93 ti_95 ti_96 ti_97 ti_98 ti_99 ti_100 ti_101 ti_102 ti_103 ti_104 ti_105 ti_106 ti_107 ti_108 ti_109 ti_110 ti_111 ti_112 ti_113 ti_114 ti_115 ti_116 ti_117
attribute [go_sem] List.length_cons List.length_nil List.map_cons List.map_nil List.append_nil List.nil_append List.cons_append List.getElem?_cons_zero List.getElem?_cons_succ List.getElem?_nil List.getD_cons_zero List.getD_cons_succ List.getD_nil List.set_cons_zero List.set_cons_succ List.set_nil List.drop_zero List.drop_succ_cons List.drop_nil List.take_succ_cons List.take_zero List.take_nil List.foldl_cons List.foldl_nil List.flatMap_cons List.flatMap_nil List.all_cons List.all_nil List.any_cons List.any_nil List.contains_cons List.contains_nil List.filterMap_cons List.filterMap_nil List.headD_cons List.headD_nil List.reverse_cons List.reverse_nil List.range_zero List.replicate_zero List.toList_toArray List.size_toArray List.getElem?_toArray Array.toList_append Array.toList_empty Option.map_some Option.map_none Option.getD_some Option.getD_none Option.bind_some Option.bind_none Option.toList_some Option.toList_none Option.isSome_some Option.isSome_none Option.some.injEq TC.val.injEq if_true if_false dif_pos ite_true ite_false and_true true_and and_false false_and imp_self implies_true true_implies forall_const not_true_eq_false not_false_eq_true Bool.false_eq_true Bool.true_eq_false Bool.not_true Bool.not_false Bool.and_true Bool.true_and Bool.and_false Bool.false_and Bool.or_false Bool.false_or Bool.or_true Bool.true_or Bool.and_eq_true decide_true decide_false decide_eq_true_eq eq_self ne_eq Nat.zero_add Nat.add_zero Nat.lt_irrefl Nat.le_refl Int.toNat_natCast
attribute [go_sem] Int.cast_ofNat_Int List.take_length List.length_append List.length_set
@[go_sem] theorem u8_wrap (x : Int) : (((UInt8.ofNat (IntKind.u8.wrap x).toNat).toNat : Nat) : Int) = IntKind.u8.wrap x := by
  have h : 0 ≤ IntKind.u8.wrap x ∧ IntKind.u8.wrap x < 256 := by
    have h1 : IntKind.u8.wrap x = x % 256 := by simp [IntKind.wrap, IntKind.bits, IntKind.signed]
    rw [h1]; omega
  rw [UInt8.toNat_ofNat']
  omega
@[go_sem] theorem take_data (s : ByteArray) (i : Nat) (v : UInt8) : (s.data.toList.set i v).take s.size = s.data.toList.set i v :=
  List.take_of_length_le (by rw [List.length_set, Array.length_toList]; exact Nat.le_refl _)
@[go_sem] theorem take_snoc1 {α : Type} (l : List α) (x : α) : (l ++ [x]).take (l.length + 1) = l ++ [x] := List.take_of_length_le (by simp)
@[go_sem] theorem take_app2 {α : Type} (l k : List α) : (l ++ k).take (l.length + k.length) = l ++ k := List.take_of_length_le (by simp)
@[go_sem] theorem gl_nil {α : Type} (g : Bool) : gl g ([] : List α) = [] := by cases g <;> rfl
@[go_sem] theorem gl_true {α : Type} (l : List α) : gl true l = l := rfl
@[go_sem] theorem gl_false {α : Type} (l : List α) : gl false l = [] := rfl
@[go_sem] theorem optArr_some {α : Type} (x : α) : (some x).toArray = #[x] := rfl
@[go_sem] theorem optArr_none {α : Type} : (none : Option α).toArray = #[] := rfl
attribute [go_sem] bytesMax Call.operands Array.append_eq_append Array.toList_append List.append_toArray Array.toList_map Array.toList_flatMap Array.flatMap_toArray List.map_toArray List.flatMap_toArray
attribute [go_sem] leV leVs leS leSl leTab leO leC leCs leCap nodupS headOk packV resV resP
noncomputable def same {α : Type} (a b : α) : Bool := @decide (a = b) (Classical.propDecidable _)
theorem same_true {α : Type} {a b : α} : same a b = true ↔ a = b := by simp [same]
theorem same_false {α : Type} {a b : α} : same a b = false ↔ a ≠ b := by simp [same]
@[go_sem] theorem toList_same (a b : ByteArray) : (a.toList == b.toList) = same a b := by
  rw [Bool.eq_iff_iff, same_true, beq_iff_eq]
  constructor
  · intro h
    obtain ⟨⟨a⟩⟩ := a
    obtain ⟨⟨b⟩⟩ := b
    rw [ByteArray.toList_eq, ByteArray.toList_eq] at h
    simpa using h
  · rintro rfl; rfl
@[go_sem] theorem valsEq_late (a b a' b' : Int) (t t' : ByteArray) : valsEq [.int .i64 a, .int .i64 b, .string t] [.int .i64 a', .int .i64 b', .string t'] = same (Late.mk a b t) (Late.mk a' b' t') := by
  rw [Bool.eq_iff_iff, same_true]
  simp only [valsEq, toList_same, Bool.and_eq_true, beq_iff_eq, same_true, Late.mk.injEq]
  simp
@[go_sem] theorem valsEq_ptr (a b c a' b' c' : Int) : valsEq [.int .i64 a, .int .i64 b, .int .i64 c] [.int .i64 a', .int .i64 b', .int .i64 c'] = same (Ptr.mk a b c) (Ptr.mk a' b' c') := by
  rw [Bool.eq_iff_iff, same_true]
  simp only [valsEq, Bool.and_eq_true, beq_iff_eq, Ptr.mk.injEq]
  simp
end Go.Proofs.YtfmeopnankeaeaaDoor
