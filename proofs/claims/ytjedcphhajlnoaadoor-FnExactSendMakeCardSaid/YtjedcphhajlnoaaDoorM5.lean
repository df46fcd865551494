import Derived.Below
import Derived.Test.YtjedcphhajlnoaaDoorM0
import Derived.Test.YtjedcphhajlnoaaDoorM4
set_option linter.unusedSimpArgs false
set_option linter.unusedVariables false
set_option linter.unusedSectionVars false
/- The evaluator's own steps, as a tactic. -/
namespace Go.Proofs.YtjedcphhajlnoaaDoor
open Go.RowKit

section
variable {P : Program} {B : Beg} {σ : Sg} {Q : Exit → Sg → Prop}
theorem W_region_k {E : Env} (ok : EnvOk P E) {id : Nat} {ops : Array Oper} (h : ∀ K : Sg → Prop, (∀ σ', Q .normal σ' → K σ') → goOps E B.N B.m ops.toList ops.toList σ K) : W P B (.region id ops false) σ Q :=
  W_region ok (h _ fun _ h => h)
theorem W_drawn_k {E : Env} (ok : EnvOk P E) (hm : P.follows .mixedOrders = true) {id : Nat} {ops : Array Oper} (h : ∀ K : Sg → Prop, (∀ σ', Q .normal σ' → K σ') → goOpsD E B.N B.m ops.toList ops.toList σ [] K) : W P B (.region id ops true) σ Q :=
  W_drawn ok hm (h _ fun _ h => h)
theorem W_seq_k {x y : Code} (h : ∀ Y : Sg → Prop, (∀ σ', W P B y σ' Q → Y σ') → W P B x σ (thenG Y Q)) : W P B (.seq x y) σ Q := W_seq (h _ fun _ h => h)
theorem drawOk_k {a : List Oper} {b : List (List Nat × List Nat)} (h : drawOk a b = true) : drawOk a b = true := h
def keepSl (ks : List Nat) (sl : List (Nat × TV)) : List (Nat × TV) := ks.map fun i => (i, look sl i)
theorem keepSl_R {φ : Phi} {T : Tab} {w : World} {sl : List (Nat × TV)} {tmps : Array Value} (h : SlR φ T w sl tmps) : ∀ ks : List Nat, SlR φ T w (keepSl ks sl) tmps
  | [], i => by simp only [keepSl, List.map_nil, look, VR, CR]
  | k :: ks, i => by
    simp only [keepSl, List.map_cons, look_put]
    split
    · rename_i he; subst he; exact h k
    · exact keepSl_R h ks i
/-- What lives behind a region. -/
def pr (lv : List (List Nat)) (id : Nat) (σ : Sg) : Sg := ⟨keepSl (lv.getD id []) σ.sl, σ.tab, σ.tch⟩
theorem Sim.pr {φ0 : Phi} {T0 : Tab} {w0 : World} {N m : Nat} {φ : Phi} {a : Act} {w : World} (hs : Sim φ0 T0 w0 N m φ σ a w) (lv : List (List Nat)) (id : Nat) : Sim φ0 T0 w0 N m φ (pr lv id σ) a w :=
  { hs with sl := keepSl_R hs.sl _ }
theorem W_region_l {E : Env} (ok : EnvOk P E) (lv : List (List Nat)) {id : Nat} {ops : Array Oper} (h : ∀ K : Sg → Prop, (∀ σ' σ'', pr lv id σ' = σ'' → Q .normal σ'' → K σ') → goOps E B.N B.m ops.toList ops.toList σ K) : W P B (.region id ops false) σ Q := by
  intro φ a w hs
  exact wp_region (region_sound ok (h (fun σ' => Q .normal (pr lv id σ')) fun _ _ h1 h2 => by subst h1; exact h2) hs fun σ' φ' a' w' h1 h2 => ⟨Go.Proofs.YtjedcphhajlnoaaDoor.pr lv id σ', φ', h1.pr lv id, h2⟩)
theorem W_drawn_l {E : Env} (ok : EnvOk P E) (hm : P.follows .mixedOrders = true) (lv : List (List Nat)) {id : Nat} {ops : Array Oper} (h : ∀ K : Sg → Prop, (∀ σ' σ'', pr lv id σ' = σ'' → Q .normal σ'' → K σ') → goOpsD E B.N B.m ops.toList ops.toList σ [] K) : W P B (.region id ops true) σ Q := by
  intro φ a w hs
  exact wp_region_any hm (drawn_sound ok (h (fun σ' => Q .normal (pr lv id σ')) fun _ _ h1 h2 => by subst h1; exact h2) hs.drawn fun σ' φ' a' w' h1 h2 => ⟨Go.Proofs.YtjedcphhajlnoaaDoor.pr lv id σ', φ', h1.pr lv id, h2⟩)
def goX (dr : Bool) (E : Env) (n m : Nat) (ops : List Oper) (σ : Sg) (K : Sg → Prop) : Prop := if dr then goOpsD E n m ops ops σ [] K else goOps E n m ops ops σ K
theorem thenG_n {next : Sg → Prop} (h : next σ) : thenG next Q .normal σ := h
theorem thenG_x {next : Sg → Prop} {id : Nat} (h : Q (.exit id) σ) : thenG next Q (.exit id) σ := h
theorem thenG_r {next : Sg → Prop} (h : Q .ret σ) : thenG next Q .ret σ := h
theorem blockG_n {id : Nat} (h : Q .normal σ) : blockG id Q .normal σ := h
theorem blockG_r {id : Nat} (h : Q .ret σ) : blockG id Q .ret σ := h
theorem blockG_x {id : Nat} (h : Q .normal σ) : blockG id Q (.exit id) σ := by simp only [blockG, if_true]; exact h
theorem blockG_o {id id' : Nat} (hne : ¬ id' = id) (h : Q (.exit id') σ) : blockG id Q (.exit id') σ := by simp only [blockG, if_neg hne]; exact h
/-- Slots forgotten. -/
theorem W_keep {c : Code} (ks : List Nat) (h : W P B c ⟨keepSl ks σ.sl, σ.tab, σ.tch⟩ Q) : W P B c σ Q :=
  fun φ a w hs => h φ a w { hs with sl := keepSl_R hs.sl ks }
end
theorem mixed : Tryd.prog.follows .mixedOrders = true := by kernel_rfl
/-- A region, in the text's order or drawn. -/
theorem W_reg {B : Beg} {σ : Sg} {Q : Exit → Sg → Prop} {E : Env} (ok : EnvOk Tryd.prog E) (lv : List (List Nat)) {id : Nat} {ops : Array Oper} {dr : Bool} (h : ∀ K : Sg → Prop, (∀ {σ' σ'' : Sg}, Q .normal σ'' → (e : pr lv id σ' = σ'' := by (simp only [go_sem, pr, keepSl, ↓reduceIte, Nat.reduceEqDiff]; try with_unfolding_all rfl)) → K σ') → goX dr E B.N B.m ops.toList σ K) : W Tryd.prog B (.region id ops dr) σ Q := by
  cases dr with
  | true => exact W_drawn_l ok mixed lv fun K hK => h K fun h2 h1 => hK _ _ h1 h2
  | false => exact W_region_l ok lv fun K hK => h K fun h2 h1 => hK _ _ h1 h2
/-- What is shown by a fixed way. -/
theorem shut6 {p : Prop} (h : p := by first | omega | (with_reducible refine drawOk_k ?_; kernel_rfl) | assumption | refine Eq.refl _ | exact fun h => ⟨h, fun k => ⟨h, k⟩⟩ | (intro _; (repeat' refine And.intro ?_ ?_) <;> first | omega | assumption) | exact fun h => h.elim | (simp only [List.length_append, List.length_cons, List.length_nil] <;> omega)) : p := h
theorem shut7 {p : Prop} (h : p := by first | rfl | trivial | omega | (rw [wrap_id] <;> omega)) : p := h
/-- A rule that is used wherever it fits. -/
class Red (p : outParam Prop) (q : Prop) : Prop where
  of : p → q
section
variable {P : Program} {B : Beg} {σ : Sg} {Q : Exit → Sg → Prop}
instance red_skip : Red (Q .normal σ) (W P B .skip σ Q) := ⟨W_skip⟩
instance red_exit {id : Nat} : Red (Q (.exit id) σ) (W P B (.exit id) σ Q) := ⟨W_exit⟩
instance red_ret : Red (Q .ret σ) (W P B .ret σ Q) := ⟨W_ret⟩
instance red_seq {x y : Code} : Red (W P B x σ (thenG (fun σ' => W P B y σ' Q) Q)) (W P B (.seq x y) σ Q) := ⟨W_seq⟩
instance red_block {id : Nat} {c : Code} : Red (W P B c σ (blockG id Q)) (W P B (.block id c) σ Q) := ⟨W_block⟩
instance red_tn {next : Sg → Prop} : Red (next σ) (thenG next Q .normal σ) := ⟨id⟩
instance red_tx {next : Sg → Prop} {i : Nat} : Red (Q (.exit i) σ) (thenG next Q (.exit i) σ) := ⟨id⟩
instance red_tr {next : Sg → Prop} : Red (Q .ret σ) (thenG next Q .ret σ) := ⟨id⟩
instance red_bn {i : Nat} : Red (Q .normal σ) (blockG i Q .normal σ) := ⟨id⟩
instance red_br {i : Nat} : Red (Q .ret σ) (blockG i Q .ret σ) := ⟨id⟩
instance (priority := high) red_bx {i : Nat} : Red (Q .normal σ) (blockG i Q (.exit i) σ) := ⟨blockG_x⟩
theorem red {p q : Prop} [h : Red p q] (hp : p) : q := h.of hp
theorem W_cnd {c : Operand} {x y : Code} {b : Bool} (h1 : b = true → W P B x σ Q) (h2 : b = false → W P B y σ Q) (hb : opd σ.sl c = .one (.val (.bool b)) := by exact rfl) (hu : under true σ.sl c := by exact trivial) : W P B (.cond c x y) σ Q := W_cond b hb hu h1 h2
end
@[go_sem] theorem goX_t (E : Env) (n m : Nat) (ops : List Oper) (σ : Sg) (K : Sg → Prop) : goX true E n m ops σ K = goOpsD E n m ops ops σ [] K := rfl
@[go_sem] theorem goX_f (E : Env) (n m : Nat) (ops : List Oper) (σ : Sg) (K : Sg → Prop) : goX false E n m ops σ K = goOps E n m ops ops σ K := rfl

@[go_sem] theorem goOps_nil (E : Env) (n m : Nat) (ops : List Oper) (σ : Sg) (K : Sg → Prop) : goOps E n m ops [] σ K = K σ := rfl
@[go_sem] theorem goOps_cons (E : Env) (n m : Nat) (ops : List Oper) (o : Oper) (r : List Oper) (σ : Sg) (K : Sg → Prop) : goOps E n m ops (o :: r) σ K = ((stepR E n m ops o σ).1 ∧ goOps E n m ops r (stepR E n m ops o σ).2.1 K) :=
  propext (stepv_iff E n m ops o σ fun σ' _ => goOps E n m ops r σ' K)
@[go_sem] theorem goOpsD_nil (E : Env) (n m : Nat) (ops : List Oper) (σ : Sg) (log : List (List Nat × List Nat)) (K : Sg → Prop) : goOpsD E n m ops [] σ log K = (drawOk ops log.reverse = true ∧ K σ) := rfl
@[go_sem] theorem goOpsD_cons (E : Env) (n m : Nat) (ops : List Oper) (o : Oper) (r : List Oper) (σ : Sg) (log : List (List Nat × List Nat)) (K : Sg → Prop) :
    goOpsD E n m ops (o :: r) σ log K = ((stepR E n m ops o σ).1 ∧ goOpsD E n m ops r (stepR E n m ops o σ).2.1 ((foot E (rdT σ.tab) σ.sl o.op, (stepR E n m ops o σ).2.2) :: log) K) :=
  propext (stepv_iff E n m ops o σ fun σ' ws => goOpsD E n m ops r σ' ((foot E (rdT σ.tab) σ.sl o.op, ws) :: log) K)
attribute [go_sem] reads passed stepR opv opd look strip constV initSl keepSl putS setT touch rdT underAll under operandsOf isPick dstOk gcond is ifp no vb vi vs binOpv binv eqop eqv ET.kinds kindsOk unv lohi content contentV cellsStr cellsPtr cellsE part lay layV asVal loadv storable allStorable oneCell storev fieldAt fieldv fieldOf indexv indexOf slicev boxv appendv makev elems litv fills placeOf knownAll buildv caps lenv convv zeroOf asI plain tcv TV.cells TV.isAgg minv builtinv callv callWith capArgs handed addNew idxOf refsC refsV refsO mapO viewCap viewC viewCs viewV viewVs viewO ren renC renV renV.renVs renO freeC freeV freeV.freeVs freeO foot footV footCall Known.nil Known.cons Op.operands ET.cells ET.ofCells ET.at cell Value.num Value.str Value.boo ptrOf Ptr.cells ET.sz
attribute [go_sem] ti_3 ti_4 ti_5 ti_9 ti_22 ti_23 ti_25 ti_28 ti_32 ti_34 ti_36 ti_38 ti_49 ti_54 ti_61 ti_68 ti_71 ti_73 ti_77 ti_80 ti_96 ti_104
attribute [go_sem] List.length_cons List.length_nil List.map_cons List.map_nil List.append_nil List.nil_append List.cons_append List.getElem?_cons_zero List.getElem?_cons_succ List.getElem?_nil List.getD_cons_zero List.getD_cons_succ List.getD_nil List.set_cons_zero List.set_cons_succ List.set_nil List.drop_zero List.drop_succ_cons List.drop_nil List.take_succ_cons List.take_zero List.take_nil List.foldl_cons List.foldl_nil List.flatMap_cons List.flatMap_nil List.all_cons List.all_nil List.any_cons List.any_nil List.contains_cons List.contains_nil List.filterMap_cons List.filterMap_nil List.headD_cons List.headD_nil List.reverse_cons List.reverse_nil List.range_zero List.replicate_zero List.toList_toArray List.size_toArray List.getElem?_toArray Array.toList_append Array.toList_empty Option.map_some Option.map_none Option.getD_some Option.getD_none Option.bind_some Option.bind_none Option.toList_some Option.toList_none Option.isSome_some Option.isSome_none Option.some.injEq TC.val.injEq if_true if_false dif_pos ite_true ite_false and_true true_and and_false false_and imp_self implies_true true_implies forall_const not_true_eq_false not_false_eq_true Bool.false_eq_true Bool.true_eq_false Bool.not_true Bool.not_false Bool.and_true Bool.true_and Bool.and_false Bool.false_and Bool.or_false Bool.false_or Bool.or_true Bool.true_or Bool.and_eq_true decide_true decide_false decide_eq_true_eq eq_self ne_eq Nat.zero_add Nat.add_zero Nat.lt_irrefl Nat.le_refl Int.toNat_natCast
attribute [go_sem] and_self bne_self_eq_false beq_self_eq_true Int.cast_ofNat_Int List.take_length List.length_append List.length_set
@[go_sem] theorem u8_wrap (x : Int) : (((UInt8.ofNat (IntKind.u8.wrap x).toNat).toNat : Nat) : Int) = IntKind.u8.wrap x := by
  have h : 0 ≤ IntKind.u8.wrap x ∧ IntKind.u8.wrap x < 256 := by
    have h1 : IntKind.u8.wrap x = x % 256 := by simp [IntKind.wrap, IntKind.bits, IntKind.signed]
    rw [h1]; omega
  rw [UInt8.toNat_ofNat']
  omega
@[go_sem] theorem take_data (s : ByteArray) (i : Nat) (v : UInt8) : (s.data.toList.set i v).take s.size = s.data.toList.set i v :=
  List.take_of_length_le (by rw [List.length_set, Array.length_toList]; exact Nat.le_refl _)
@[go_sem] theorem take_snoc1 {α : Type} (l : List α) (x : α) : (l ++ [x]).take (l.length + 1) = l ++ [x] := List.take_of_length_le (by simp)
@[go_sem] theorem take_app2 {α : Type} (l k : List α) : (l ++ k).take (l.length + k.length) = l ++ k := List.take_of_length_le (by simp)
@[go_sem] theorem gl_nil {α : Type} (g : Bool) : gl g ([] : List α) = [] := by cases g <;> rfl
@[go_sem] theorem gl_true {α : Type} (l : List α) : gl true l = l := rfl
@[go_sem] theorem gl_false {α : Type} (l : List α) : gl false l = [] := rfl
@[go_sem] theorem optArr_some {α : Type} (x : α) : (some x).toArray = #[x] := rfl
@[go_sem] theorem optArr_none {α : Type} : (none : Option α).toArray = #[] := rfl
attribute [go_sem] bytesMax Call.operands Array.append_eq_append Array.toList_append List.append_toArray Array.toList_map Array.toList_flatMap Array.flatMap_toArray List.map_toArray List.flatMap_toArray
attribute [go_sem] leV leVs leS leSl leTab leO leC leCs leCap nodupS headOk packV resV resP
noncomputable def same {α : Type} (a b : α) : Bool := @decide (a = b) (Classical.propDecidable _)
theorem same_true {α : Type} {a b : α} : same a b = true ↔ a = b := by simp [same]
theorem same_false {α : Type} {a b : α} : same a b = false ↔ a ≠ b := by simp [same]
@[go_sem] theorem toList_same (a b : ByteArray) : (a.toList == b.toList) = same a b := by
  rw [Bool.eq_iff_iff, same_true, beq_iff_eq]
  constructor
  · intro h
    obtain ⟨⟨a⟩⟩ := a
    obtain ⟨⟨b⟩⟩ := b
    rw [ByteArray.toList_eq, ByteArray.toList_eq] at h
    simpa using h
  · rintro rfl; rfl
@[go_sem] theorem valsEq_late (a b a' b' : Int) (t t' : ByteArray) : valsEq [.int .i64 a, .int .i64 b, .string t] [.int .i64 a', .int .i64 b', .string t'] = same (Late.mk a b t) (Late.mk a' b' t') := by
  rw [Bool.eq_iff_iff, same_true]
  simp only [valsEq, toList_same, Bool.and_eq_true, beq_iff_eq, same_true, Late.mk.injEq]
  simp
@[go_sem] theorem valsEq_ptr (a b c a' b' c' : Int) : valsEq [.int .i64 a, .int .i64 b, .int .i64 c] [.int .i64 a', .int .i64 b', .int .i64 c'] = same (Ptr.mk a b c) (Ptr.mk a' b' c') := by
  rw [Bool.eq_iff_iff, same_true]
  simp only [valsEq, Bool.and_eq_true, beq_iff_eq, Ptr.mk.injEq]
  simp
/-- Rules for what a branch tells. -/
theorem cnd_r : (∀ (p : Prop) [Decidable p] (f : Bool), (if p then true else f) = (decide p || f)) ∧ (∀ (p : Prop) [Decidable p] (t : Bool), (if p then t else false) = (decide p && t)) ∧ (∀ (p : Prop) [Decidable p] (f : Bool), (if p then f else true) = (!decide p || f)) ∧ (∀ (p : Prop) [Decidable p] (f : Bool), (if p then false else f) = (!decide p && f)) ∧
    (∀ b : Bool, decide (b = true) = b) ∧ (∀ a b c : Bool, ((a || b) || c) = (a || (b || c))) ∧ (∀ a b c : Bool, ((a && b) && c) = (a && (b && c))) ∧ (∀ b : Bool, (b && true) = b) ∧ (∀ b : Bool, (b || false) = b) ∧ (∀ b : Bool, (true && b) = b) ∧ (∀ b : Bool, (false || b) = b) ∧
    (∀ (p : Prop) [Decidable p], (decide p = true) = p) ∧ (∀ (p : Prop) [Decidable p], decide p = false ↔ ¬ p) ∧ (∀ p q : Prop, (¬ (p ∧ q)) = (p → ¬ q)) ∧ (∀ p q : Prop, ¬ (p ∨ q) ↔ ¬ p ∧ ¬ q) ∧ (∀ p : Prop, ¬ ¬ p ↔ p) ∧
    (∀ a b : Bool, ((a && b) = true) = (a = true ∧ b = true)) ∧ (∀ a b : Bool, ((a || b) = true) = (a = true ∨ b = true)) ∧ (∀ b : Bool, ((!b) = true) = (b = false)) ∧ (∀ b : Bool, ((!b) = false) = (b = true)) ∧ (∀ a b : Bool, ((a || b) = false) = (a = false ∧ b = false)) ∧ (∀ a b : Bool, ((a && b) = false) = (a = false ∨ b = false)) ∧
    (∀ {α : Type} [BEq α] [LawfulBEq α] (a b : α), (a != b) = true ↔ a ≠ b) ∧ (∀ {α : Type} (a b : α), (a ≠ b) = ¬ (a = b)) ∧ (∀ {α : Type} [BEq α] [LawfulBEq α] (a b : α), (a == b) = true ↔ a = b) ∧ (∀ {α : Type} [BEq α] [LawfulBEq α] (a b : α), (a != b) = false ↔ a = b) ∧
    (∀ {α : Type} (a b : α), same a b = true ↔ a = b) ∧ (∀ {α : Type} (a b : α), same a b = false ↔ a ≠ b) ∧ (∀ m n : Nat, ((m : Int) = n) ↔ m = n) :=
  ⟨fun p _ f => by by_cases h : p <;> simp [h], fun p _ f => by by_cases h : p <;> simp [h], fun p _ f => by by_cases h : p <;> simp [h], fun p _ f => by by_cases h : p <;> simp [h], fun b => by simp, Bool.or_assoc, Bool.and_assoc, Bool.and_true, Bool.or_false, Bool.true_and, Bool.false_or, fun p _ => by simp, fun p _ => by simp, fun p q => by simp, fun p q => not_or, fun p => Classical.not_not, fun a b => by simp, fun a b => by simp, fun b => by simp, fun b => by simp, fun a b => by simp, fun a b => by cases a <;> cases b <;> simp, fun a b => by simp, fun a b => rfl, fun a b => by simp, fun a b => by simp, fun a b => same_true, fun a b => same_false, fun m n => by omega⟩
theorem inj_r : (∀ a b : Value, (TC.val a = TC.val b) = (a = b)) ∧ (∀ a b : Bool, (Value.bool a = Value.bool b) = (a = b)) ∧ (∀ (k k' : IntKind) (a b : Int), (Value.int k a = Value.int k' b) = (k = k' ∧ a = b)) ∧ (∀ a b : ByteArray, (Value.string a = Value.string b) = (a = b)) ∧ (∀ a b : TC, (TV.one a = TV.one b) = (a = b)) :=
  ⟨fun _ _ => by simp, fun _ _ => by simp, fun _ _ _ _ => by simp, fun _ _ => by simp, fun _ _ => by simp⟩
/-- Said beside a walk: what lives behind each region. -/
def Lives (_ : List (List Nat)) : Prop := True
theorem W_rg {B : Beg} {σ : Sg} {Q : Exit → Sg → Prop} {E : Env} {lv : List (List Nat)} (ok : EnvOk Tryd.prog E) (_ : Lives lv) {id : Nat} {ops : Array Oper} {dr : Bool} (h : ∀ K : Sg → Prop, (∀ {σ' σ'' : Sg}, Q .normal σ'' → (e : pr lv id σ' = σ'' := by (simp only [go_sem, pr, keepSl, ↓reduceIte, Nat.reduceEqDiff]; try with_unfolding_all rfl)) → K σ') → goX dr E B.N B.m ops.toList σ K) : W Tryd.prog B (.region id ops dr) σ Q := W_reg ok lv h
/-- Put away. -/
structure Away (q : Prop) : Prop where
  out : q
/-- A walk goes on as far as it does by itself; the text of the steps is in the last place. -/
theorem goh {p q X : Prop} (hx : X) (hq : q) (h : X → Away q → p := by
    intro hx hq
    repeat' first
      | with_reducible refine red ?_
      | refine W_seq ?_
      | (refine W_rg ke kl fun K' hK' => ?_
         simp only [go_sem, hx, ↓reduceIte, ↓reduceDIte, reduceCtorEq, Nat.reduceAdd, Nat.reduceMul, Nat.reduceSub, Nat.reduceDiv, Nat.reduceMod, Nat.reduceLT, Nat.reduceLeDiff, Nat.reduceEqDiff, Nat.reduceBEq, Int.reduceToNat, Int.reduceLE, Int.reduceLT, Int.reduceEq, Int.reduceNe, Int.reduceNeg]
         (repeat' refine And.intro ?_ ?_) <;> try first | with_reducible refine hK' ?_ | exact shut6)
      | with_reducible refine blockG_o (by decide) ?_
    exact hq.out) : p := h hx ⟨hq⟩
theorem leh {p X : Prop} (hx : X) (h : X → p := by
    intro hx
    simp only [go_sem, hx, inj_r, ↓reduceIte, reduceCtorEq, Nat.reduceAdd, Nat.reduceLT, Nat.reduceLeDiff, Nat.reduceEqDiff, Int.reduceEq]
    all_goals (repeat' refine And.intro ?_ ?_) <;> try exact shut7) : p := h hx
theorem finh {a X : Prop} {b : List (Option Nat) → Prop} (π : List (Option Nat)) (hx : X) (h1 : X → a := by
    intro hx
    (simp only [go_sem, hx, ↓reduceIte, reduceCtorEq, Nat.reduceAdd, Nat.reduceLT, Nat.reduceLeDiff, Nat.reduceEqDiff]) <;> trivial) (h2 : X → b π := by
    intro hx
    all_goals try simp only [go_sem, hx, inj_r, ↓reduceIte, reduceCtorEq, Nat.reduceAdd, Nat.reduceLT, Nat.reduceLeDiff, Nat.reduceEqDiff, Int.reduceEq]
    all_goals (repeat' refine And.intro ?_ ?_) <;> try exact shut7) : a ∧ ∃ π, b π := ⟨h1 hx, π, h2 hx⟩
/-- A loop that counts from 0 to n: sg i is the state at its head. -/
theorem W_for {P : Program} {B : Beg} {σ : Sg} {Q : Exit → Sg → Prop} {c : Code} (n : Nat) (I : Nat → Prop) (sg : Nat → Sg) (π0 : List (Option Nat)) (hle : leS B.m π0 σ (sg 0)) (h0 : I 0)
    (h : ∀ i, i ≤ n → I i → W P B c (sg i) (thenG (fun σ' => ∃ π, i < n ∧ leS B.m π σ' (sg (i + 1)) ∧ I (i + 1)) Q)) : W P B (.loop c) σ Q :=
  W_le (σ' := sg 0) π0 hle (W_loop (fun q σ => ∃ i, i ≤ n ∧ q = n - i ∧ I i ∧ σ = sg i) n ⟨0, Nat.zero_le _, rfl, h0, rfl⟩ (by
    rintro q σ ⟨i, hi, rfl, hI, rfl⟩
    refine (h i hi hI).mono fun e σ hx => ?_
    cases e with
    | normal =>
      obtain ⟨π, h1, h2, h3⟩ := hx
      exact ⟨n - (i + 1), π, sg (i + 1), by omega, h2, i + 1, h1, rfl, h3, rfl⟩
    | _ => exact hx))
end Go.Proofs.YtjedcphhajlnoaaDoor
/- A contract of plain values: from a library's own contract. -/
namespace Go.Proofs.YtjedcphhajlnoaaDoor
open Go.RowKit

def plainV (vals : List Value) : List TV := vals.map fun v => .one (.val v)
theorem plainV_R {φ : Phi} {T : Tab} {w : World} : ∀ {vals rs : List Value}, VRs φ T w (plainV vals) rs → rs = vals
  | [], [], _ => rfl
  | [], _ :: _, h => by simp [plainV, VRs] at h
  | v :: vs, [], h => by simp [plainV, VRs] at h
  | v :: vs, r :: rs, h => by
    simp only [plainV, List.map_cons, VRs, VR, CR] at h
    obtain ⟨rfl, h2⟩ := h
    rw [plainV_R (vals := vs) (rs := rs) h2]
theorem sound_plain {P : Program} {f : FuncId} {ct : Ct} (h : ∀ args os, (ct.spec args os).pre → os = [] ∧ ∃ (vals : List Value) (r : Value), args = plainV vals ∧ ct.spec args os = ⟨(ct.spec args os).pre, .one (.val r), [], []⟩ ∧
    ∀ w, GloOk0 w → Calls P f vals.toArray w fun e w' => e = .returned r ∧ Below w.heap.size w w') : Sound P f ct := by
  intro args os hp φ w rargs hrel hv hn
  obtain ⟨rfl, vals, r, rfl, hs, hc⟩ := h args os hp
  obtain rfl := plainV_R hv
  refine (hc w fun q hq => (hrel.glo q hq).2).mono ?_
  rintro e w' ⟨rfl, hb⟩
  rw [hs]
  have hT : newT (tabOf []) ([] : List Obj).length ⟨(ct.spec (plainV rargs) []).pre, .one (.val r), [], []⟩ = tabOf [] := by
    funext k; simp [newT, addT, updT]
  have no : ∀ b, ¬ Own φ (tabOf []) b := fun b ⟨k, base, h1, _⟩ => by simp [tabOf] at h1
  have old : ∀ b, b < w.heap.size → w'.heap[b]? = w.heap[b]? := fun b hb' => hb.block b hb'
  refine ⟨r, φ, rfl, by simp only [VR, CR], ?_, ?_, fun k hk => .inl hk, fun b hb' _ => old b hb'⟩
  · rw [hT]
    exact ⟨fun k o h => by simp [tabOf] at h, fun k _ _ _ _ h _ _ _ => by simp [tabOf] at h, fun b h => ⟨Nat.lt_of_lt_of_le (hrel.frd b h).1 hb.size, no b⟩, fun q hq => by
      obtain ⟨-, c, e, f, h2, h3⟩ := hrel.glo q hq
      exact ⟨no _, c, e, f, (old _ (Array.getElem?_eq_some_iff.1 h2).1).trans h2, h3⟩⟩
  · rw [hT]
    exact ⟨hb.os, hb.tape, hb.output, hb.size, fun _ _ h => h, fun b hb' _ => old b hb', fun b _ h => h, fun b hb' => by unfold sizeAt; rw [old b hb'], fun _ => Iff.rfl⟩
end Go.Proofs.YtjedcphhajlnoaaDoor
/- Plain facts: the sizes, the marks. -/
namespace Go.Proofs.YtjedcphhajlnoaaDoor

/-- What is left of so much, when the weights are taken off one by one. -/
def szW : List Nat → Int → Int
  | [], n => n
  | x :: r, n => if n - x < 0 then -1 else szW r (n - x)
theorem szW_in : ∀ (ws : List Nat) (n : Int), 0 ≤ n → szW ws n = -1 ∨ (0 ≤ szW ws n ∧ szW ws n ≤ n)
  | [], n, h => .inr ⟨h, Int.le_refl _⟩
  | x :: r, n, h => by
    unfold szW
    split
    · exact .inl rfl
    · rcases szW_in r (n - x) (by omega) with h1 | ⟨h1, h2⟩
      · exact .inl h1
      · exact .inr ⟨h1, by omega⟩
theorem szW_app : ∀ (ws vs : List Nat) (n : Int), 0 ≤ n → szW (ws ++ vs) n = if szW ws n < 0 then -1 else szW vs (szW ws n)
  | [], vs, n, h => by rw [List.nil_append, show szW [] n = n from rfl, if_neg (by omega)]
  | x :: r, vs, n, h => by
    rw [List.cons_append]
    show (if n - x < 0 then -1 else szW (r ++ vs) (n - x)) = if (if n - x < 0 then -1 else szW r (n - x)) < 0 then -1 else szW vs (if n - x < 0 then -1 else szW r (n - x))
    by_cases hc : n - x < 0
    · rw [if_pos hc, if_pos hc, if_pos (by decide)]
    · rw [if_neg hc, if_neg hc]
      exact szW_app r vs (n - x) (by omega)
theorem szW_sum : ∀ (ws : List Nat) (n : Int), 0 ≤ szW ws n → ws.sum ≤ n
  | [], n, h => h
  | x :: r, n, h => by
    unfold szW at h
    split at h
    · omega
    · have := szW_sum r _ h
      rw [List.sum_cons]; omega
theorem le_sum : ∀ {ws : List Nat} {x : Nat}, x ∈ ws → x ≤ ws.sum
  | y :: r, x, h => by
    rw [List.sum_cons]
    rcases List.mem_cons.1 h with rfl | h
    · omega
    · have := le_sum h; omega
theorem szW_mem {ws : List Nat} {n : Int} (h : 0 ≤ szW ws n) {x : Nat} (hx : x ∈ ws) : x ≤ n := by
  have h1 := szW_sum ws n h
  have h2 : x ≤ ws.sum := le_sum hx
  omega
def wS (xs : List ByteArray) : List Nat := xs.length :: xs.map (·.size)
def wL (xs : List Late) : List Nat := xs.length :: xs.map (·.text.size)
/-- A number's digits before a text. -/
def digs : Nat → Int → ByteArray → ByteArray
  | 0, _, out => out
  | f + 1, k, out => if k > 0 then digs f (k.tdiv 10) (⟨#[UInt8.ofNat (IntKind.u8.wrap (IntKind.i64.wrap (48 + k.tmod 10))).toNat]⟩ ++ out) else out
def markT (k : Int) : ByteArray := if k ≤ 0 then ⟨#[109, 48]⟩ else ⟨#[109]⟩ ++ digs 64 k ⟨#[]⟩
def markS (n : Nat) (k : Int) : List ByteArray := (List.range n).map fun i : Nat => markT (k + (i : Int))
def markL (n : Nat) (k : Int) : List Late := (List.range n).map fun i : Nat => ⟨k + 3 * (i : Int), k + 3 * (i : Int) + 1, markT (k + 3 * (i : Int) + 2)⟩
def markI (n : Nat) (k : Int) : List Int := (List.range n).map fun i : Nat => k + (i : Int)
@[go_sem] theorem markS_len (n : Nat) (k : Int) : (markS n k).length = n := by simp [markS]
@[go_sem] theorem markL_len (n : Nat) (k : Int) : (markL n k).length = n := by simp [markL]
@[go_sem] theorem markI_len (n : Nat) (k : Int) : (markI n k).length = n := by simp [markI]
@[go_sem] theorem markS_take (n : Nat) (k : Int) : (markS n k).take n = markS n k := List.take_of_length_le (by simp [markS])
@[go_sem] theorem markL_take (n : Nat) (k : Int) : (markL n k).take n = markL n k := List.take_of_length_le (by simp [markL])
@[go_sem] theorem markI_take (n : Nat) (k : Int) : (markI n k).take n = markI n k := List.take_of_length_le (by simp [markI])
theorem getD_lt {α : Type} {xs : List α} {i : Nat} (h : i < xs.length) (d : α) : xs.getD i d = xs[i] := by simp [h]
theorem markS_get {n : Nat} {k : Int} {i : Nat} (h : i < n) (d : ByteArray) : (markS n k).getD i d = markT (k + i) := by simp [markS, h]
theorem markL_get {n : Nat} {k : Int} {i : Nat} (h : i < n) (d : Late) : (markL n k).getD i d = ⟨k + 3 * i, k + 3 * i + 1, markT (k + 3 * i + 2)⟩ := by simp [markL, h]
theorem markI_get {n : Nat} {k : Int} {i : Nat} (h : i < n) (d : Int) : (markI n k).getD i d = k + i := by simp [markI, h]
/-- A list that is filled from another one: so many are done. -/
def mix {α : Type} (a b : List α) (i : Nat) : List α := a.take i ++ b.drop i
theorem mix_len {α : Type} (a b : List α) (i : Nat) (h : a.length = b.length) : (mix a b i).length = b.length := by
  unfold mix; simp; omega
theorem mix_zero {α : Type} (a b : List α) : mix a b 0 = b := by simp [mix]
theorem mix_all {α : Type} (a b : List α) (i : Nat) (h : a.length = b.length) (hi : i = b.length) : mix a b i = a := by
  unfold mix; rw [List.take_of_length_le (by omega), List.drop_of_length_le (by omega), List.append_nil]
theorem mix_set {α : Type} (a b : List α) (i : Nat) (d : α) (h : a.length = b.length) (hi : i < b.length) {x : α} (hx : x = a.getD i d) : (mix a b i).set i x = mix a b (i + 1) := by
  subst hx
  unfold mix
  apply List.ext_getElem?
  intro j
  rw [List.getElem?_set]
  have ha : i < a.length := by omega
  simp only [List.length_append, List.length_take, List.length_drop, List.getElem?_append, List.getElem?_take, List.getElem?_drop]
  rcases Nat.lt_trichotomy j i with hj | hj | hj
  · simp [show i ≠ j by omega, show j < min i a.length by omega, show j < min (i + 1) a.length by omega, hj, show j < i + 1 by omega]
  · subst hj
    simp [ha, show j < min (j + 1) a.length by omega, show j < min j a.length + (b.length - j) by omega]
  · simp [show i ≠ j by omega, show ¬ j < min i a.length by omega, show ¬ j < min (i + 1) a.length by omega]
    congr 1; omega
end Go.Proofs.YtjedcphhajlnoaaDoor
/- Functions: numbers, texts, sectors. -/
namespace Go.Proofs.YtjedcphhajlnoaaDoor
open Go.RowKit


@[go_sem] def ctWithin : Ct := ⟨false, [], fun args os => match args, os with
  | [.one (.val (.int .i64 n)), .one (.val (.int .i64 lo)), .one (.val (.int .i64 hi))], [] => is (vb (decide (lo ≤ n) && decide (n ≤ hi)))
  | _, _ => no⟩
theorem s_within_e : EnterOk Tryd.prog 64 := ⟨_, Tryd.func64, rfl, by decide⟩
@[go_sem] def s_within_lv : List (List Nat) := [[0, 1, 2], [6]]
@[go_sem] noncomputable def s_within_K : Known := Known.nil
set_option maxHeartbeats 8000000 in
theorem s_within : Sound Tryd.prog 64 ctWithin := by
  have ke := s_within_K.env []
  have kl : Lives s_within_lv := trivial
  refine sound_intro (E := ⟨ti, s_within_K.Γ, []⟩) ke Tryd.func64 Tryd.ntmps64 rfl (rs := [.tmp 6]) rfl ?_
  intro args os hp
  unfold ctWithin at hp ⊢
  dsimp only at hp ⊢
  split at hp
  · rename_i n lo hi
    refine ⟨by simp, fun φ0 w0 => ?_⟩
    clear hp
    refine goh trivial ?_
    refine ⟨by (simp only [go_sem, ↓reduceIte, reduceCtorEq, Nat.reduceAdd, Nat.reduceLT, Nat.reduceLeDiff, Nat.reduceEqDiff]) <;> trivial, [], ?_⟩
    all_goals try simp only [go_sem, inj_r, ↓reduceIte, reduceCtorEq, Nat.reduceAdd, Nat.reduceLT, Nat.reduceLeDiff, Nat.reduceEqDiff, Int.reduceEq]
    all_goals (repeat' refine And.intro ?_ ?_) <;> try exact shut7
    by_cases h : lo ≤ n <;> simp [h]
  · simp [no] at hp

def long (s : ByteArray) : Bool := decide (420 < s.size)
@[go_sem] def ctIsLong : Ct := ⟨false, [], fun args os => match args, os with
  | [.one (.val (.string s))], [] => is (vb (long s))
  | _, _ => no⟩
/-- The place of the first element of a kind. -/
def firstAt {α : Type} (p : α → Bool) (xs : List α) : Int := match xs.findIdx? p with | some i => i | none => -1
theorem firstAt_some {α : Type} {p : α → Bool} {xs : List α} {i : Nat} {d : α} (hi : i < xs.length) (hb : ∀ j, j < i → p (xs.getD j d) = false) (hp : p (xs.getD i d) = true) : firstAt p xs = i := by
  have : xs.findIdx? p = some i := by
    rw [List.findIdx?_eq_some_iff_getElem]
    refine ⟨hi, by simpa [List.getD_eq_getElem?_getD, List.getElem?_eq_getElem hi] using hp, fun j hj => ?_⟩
    have := hb j hj
    simpa [List.getD_eq_getElem?_getD, List.getElem?_eq_getElem (Nat.lt_trans hj hi)] using this
  simp [firstAt, this]
theorem firstAt_none {α : Type} {p : α → Bool} {xs : List α} {d : α} (hb : ∀ j, j < xs.length → p (xs.getD j d) = false) : firstAt p xs = -1 := by
  have : xs.findIdx? p = none := by
    rw [List.findIdx?_eq_none_iff]
    intro x hx
    obtain ⟨j, hj, rfl⟩ := List.getElem_of_mem hx
    have := hb j hj
    simpa [List.getD_eq_getElem?_getD, List.getElem?_eq_getElem hj] using this
  simp [firstAt, this]
theorem firstAt_ge {α : Type} (p : α → Bool) (xs : List α) : decide (firstAt p xs ≥ 0) = xs.any p := by
  unfold firstAt
  cases h : xs.findIdx? p with
  | some i =>
    rw [List.findIdx?_eq_some_iff_getElem] at h
    obtain ⟨hi, hp, -⟩ := h
    have : xs.any p = true := List.any_eq_true.2 ⟨_, List.getElem_mem hi, hp⟩
    simp [this]
  | none =>
    rw [List.findIdx?_eq_none_iff] at h
    have : xs.any p = false := by simpa [List.any_eq_false] using h
    rw [this]; decide
@[go_sem] def ctCloneStr : Ct := ⟨false, [[some .str]], fun args os => match args, os with
  | [.one (.isl .str xs)], [] => ⟨xs.length ≤ 4000000, .one (.osl .str 0 0 xs.length), [], [.arr .str xs]⟩
  | _, _ => no⟩
theorem list_same {α : Type} {xs ys : List α} {d : α} (hl : xs.length = ys.length) (h : ∀ j, j < xs.length → xs.getD j d = ys.getD j d) : xs = ys := by
  apply List.ext_getElem hl
  intro i h1 h2
  have := h i h1
  simpa [List.getD_eq_getElem?_getD, List.getElem?_eq_getElem h1, List.getElem?_eq_getElem h2] using this
@[go_sem] noncomputable def ctEqualStr : Ct := ⟨false, [[some .str], [some .str]], fun args os => match args, os with
  | [.one (.isl .str xs), .one (.isl .str ys)], [] => ifp (xs.length ≤ 4000000) (vb (same xs ys))
  | _, _ => no⟩
@[go_sem] def sgEqualStr (xs ys : List ByteArray) (i : Nat) : Sg := ⟨[(13, vi i), (12, vi xs.length), (0, .one (.isl .str xs)), (1, .one (.isl .str ys))], [], []⟩
end Go.Proofs.YtjedcphhajlnoaaDoor
/- Functions: disks. -/
namespace Go.Proofs.YtjedcphhajlnoaaDoor
open Go.RowKit

/-- A sector of n, of two sides. -/
def sector (n : Nat) (side at_ : Int) : Bool := (decide (0 ≤ side) && decide (side ≤ 1)) && (decide (0 ≤ at_) && decide (at_ ≤ (n : Int) - 1))
@[go_sem] def ctIsSector : Ct := ⟨false, [[some .str, some .str, some .late]], fun args os => match args, os with
  | [.agg [.isl .str a, .isl .str b, .isl .late l], .one (.val (.int .i64 s)), .one (.val (.int .i64 k))], [] => ifp (a.length ≤ 4000000) (vb (sector a.length s k))
  | _, _ => no⟩
/-- A write that does not fit a disk of n sectors a side. -/
def badLate (n : Nat) (w : Late) : Bool := !(sector n w.side w.at_) || long w.text
@[go_sem] def ctBadLate : Ct := ⟨true, [], fun args os => match args, os with
  | [.agg [.val (.int .i64 s), .val (.int .i64 k), .val (.string t)], .one (.ptr 0 0)], [.cells [.isl .str a, .isl .str b, .isl .late l]] => ifp (a.length ≤ 4000000) (vb (badLate a.length ⟨s, k, t⟩))
  | _, _ => no⟩
@[go_sem] def ctCloneLate : Ct := ⟨false, [[some .late]], fun args os => match args, os with
  | [.one (.isl .late xs)], [] => ⟨xs.length ≤ 4000000, .one (.osl .late 0 0 xs.length), [], [.arr .late xs]⟩
  | _, _ => no⟩
/-- A disk. -/
structure Dk where
  a : List ByteArray
  b : List ByteArray
  l : List Late
@[go_sem] def Dk.small (d : Dk) : Prop := d.a.length ≤ 4000000 ∧ d.b.length ≤ 4000000 ∧ d.l.length ≤ 4000000
def Dk.ok (d : Dk) : Bool :=
  (decide (1 ≤ (d.a.length : Int)) && decide ((d.a.length : Int) ≤ 120)) && decide (d.b.length = d.a.length) && !d.a.any long && !d.b.any long && decide (d.l.length ≤ 600) && !d.l.any (badLate d.a.length)
theorem diskOk_aux (a b : List ByteArray) (l : List Late) :
    ((if (if (if (!(decide (1 ≤ (a.length : Int)) && decide ((a.length : Int) ≤ 120))) = true then true else (b.length : Int) != (a.length : Int)) = true then true else a.any long) = true then true else b.any long) = true → (Dk.mk a b l).ok = false) ∧
    ((if (if (if (!(decide (1 ≤ (a.length : Int)) && decide ((a.length : Int) ≤ 120))) = true then true else (b.length : Int) != (a.length : Int)) = true then true else a.any long) = true then true else b.any long) = false →
      (if (l.length : Int) ≤ 600 then !l.any (badLate a.length) else false) = (Dk.mk a b l).ok) := by
  unfold Dk.ok
  have hl : ((l.length : Int) ≤ 600) = (l.length ≤ 600) := by apply propext; omega
  have hb : ((b.length : Int) != (a.length : Int)) = !decide (b.length = a.length) := by
    rw [Bool.eq_iff_iff]; simp; omega
  rw [hb]
  simp only [hl]
  generalize a.any long = p
  generalize b.any long = q
  generalize l.any (badLate a.length) = r
  by_cases e1 : 1 ≤ (a.length : Int) <;> by_cases e2 : (a.length : Int) ≤ 120 <;> by_cases e3 : b.length = a.length <;> by_cases e4 : l.length ≤ 600 <;> cases p <;> cases q <;> cases r <;> simp [e1, e2, e3, e4]
@[go_sem] def ctDiskOk : Ct := ⟨false, [[some .str, some .str, some .late]], fun args os => match args, os with
  | [.agg [.isl .str a, .isl .str b, .isl .late l]], [] => ifp ((Dk.mk a b l).small) (vb (Dk.mk a b l).ok)
  | _, _ => no⟩
end Go.Proofs.YtjedcphhajlnoaaDoor
/- Functions: disks, on. -/
namespace Go.Proofs.YtjedcphhajlnoaaDoor
open Go.RowKit

/-- A disk in new memory, its three slices the objects n, n + 1, n + 2. -/
@[go_sem] def Dk.v (d : Dk) (n : Nat) : TV := .agg [.osl .str n 0 d.a.length, .osl .str (n + 1) 0 d.b.length, .osl .late (n + 2) 0 d.l.length]
@[go_sem] def Dk.objs (d : Dk) : List Obj := [.arr .str d.a, .arr .str d.b, .arr .late d.l]
@[go_sem] def ctOwn : Ct := ⟨false, [[some .str, some .str, some .late]], fun args os => match args, os with
  | [.agg [.isl .str a, .isl .str b, .isl .late l]], [] => ⟨(Dk.mk a b l).small, (Dk.mk a b l).v 0, [], (Dk.mk a b l).objs⟩
  | _, _ => no⟩
@[go_sem] noncomputable def ctEqualLate : Ct := ⟨false, [[some .late], [some .late]], fun args os => match args, os with
  | [.one (.isl .late xs), .one (.isl .late ys)], [] => ifp (xs.length ≤ 4000000) (vb (same xs ys))
  | _, _ => no⟩
@[go_sem] def sgEqualLate (xs ys : List Late) (i : Nat) : Sg := ⟨[(13, vi i), (12, vi xs.length), (0, .one (.isl .late xs)), (1, .one (.isl .late ys))], [], []⟩
noncomputable def Dk.eqv (d e : Dk) : Bool := same d.a e.a && same d.b e.b && same d.l e.l
@[go_sem] noncomputable def ctDiskSame : Ct := ⟨false, [[some .str, some .str, some .late], [some .str, some .str, some .late]], fun args os => match args, os with
  | [.agg [.isl .str a, .isl .str b, .isl .late l], .agg [.isl .str a', .isl .str b', .isl .late l']], [] => ifp (Dk.mk a b l).small (vb (Dk.eqv ⟨a, b, l⟩ ⟨a', b', l'⟩))
  | _, _ => no⟩
end Go.Proofs.YtjedcphhajlnoaaDoor
/- Functions of the exact laws: what is handed in, weighed and copied; equal ones. -/
namespace Go.Proofs.YtjedcphhajlnoaaDoor
open Go.RowKit

/-- No text is longer than a machine holds. -/
structure inS (xs : List ByteArray) : Prop where
  len : xs.length ≤ 9223372036854775807
  all : ∀ i : Nat, (xs.getD i ET.str.dflt).size ≤ 9223372036854775807
structure inL (xs : List Late) : Prop where
  len : xs.length ≤ 9223372036854775807
  all : ∀ i : Nat, (xs.getD i ET.late.dflt).text.size ≤ 9223372036854775807
theorem drop_map {α : Type} (f : α → Nat) (xs : List α) (i : Nat) (d : α) (h : i < xs.length) : (xs.map f).drop i = f (xs.getD i d) :: (xs.map f).drop (i + 1) := by
  rw [List.drop_eq_getElem_cons (by simpa using h)]
  simp [h]
@[go_sem] def ctSzS : Ct := ⟨false, [[some .str]], fun args os => match args, os with
  | [.one (.isl .str xs), .one (.val (.int .i64 n))], [] => ifp (inS xs ∧ 0 ≤ n ∧ n ≤ 1048576) (vi (szW (wS xs) n))
  | _, _ => no⟩
@[go_sem] def sgSzS (xs : List ByteArray) (n : Int) (i : Nat) : Sg := ⟨[(0, .one (.isl .str xs)), (1, vi n), (5, vi i)], [], []⟩
@[go_sem] def ctSzS2 : Ct := ⟨false, [[some .str, some .str]], fun args os => match args, os with
  | [.agg [.isl .str a, .isl .str b], .one (.val (.int .i64 n))], [] => ifp (inS a ∧ inS b ∧ 0 ≤ n ∧ n ≤ 1048576) (vi (szW (wS a ++ wS b) n))
  | _, _ => no⟩
@[go_sem] def sgSzS2 (a b : List ByteArray) (n i : Int) : Sg := ⟨[(1, vi n), (2, .one (.ptr 0 0)), (5, vi i)], [some (.cells [.isl .str a, .isl .str b])], []⟩
@[go_sem] def ctSzLate : Ct := ⟨false, [], fun args os => match args, os with
  | [.agg [.val (.int .i64 x), .val (.int .i64 y), .val (.string t)], .one (.val (.int .i64 n))], [] => ifp (t.size ≤ 9223372036854775807 ∧ 0 ≤ n ∧ n ≤ 1048576) (vi (szW [t.size] n))
  | _, _ => no⟩
@[go_sem] def ctSzL : Ct := ⟨false, [[some .late]], fun args os => match args, os with
  | [.one (.isl .late xs), .one (.val (.int .i64 n))], [] => ifp (inL xs ∧ 0 ≤ n ∧ n ≤ 1048576) (vi (szW (wL xs) n))
  | _, _ => no⟩
@[go_sem] def sgSzL (xs : List Late) (n : Int) (i : Nat) : Sg := ⟨[(0, .one (.isl .late xs)), (1, vi n), (5, vi i)], [], []⟩
def Dk.wt (d : Dk) : List Nat := (wS d.a ++ wS d.b) ++ wL d.l
structure Dk.inn (d : Dk) : Prop where
  a : inS d.a
  b : inS d.b
  l : inL d.l
@[go_sem] def ctSzDisk : Ct := ⟨false, [[some .str, some .str, some .late]], fun args os => match args, os with
  | [.agg [.isl .str a, .isl .str b, .isl .late l], .one (.val (.int .i64 n))], [] => ifp ((Dk.mk a b l).inn ∧ 0 ≤ n ∧ n ≤ 1048576) (vi (szW (Dk.mk a b l).wt n))
  | _, _ => no⟩
theorem wt_small {d : Dk} {n : Int} (h : 0 ≤ szW d.wt n) : d.a.length ≤ n ∧ d.b.length ≤ n ∧ d.l.length ≤ n :=
  ⟨szW_mem h (by simp [Dk.wt, wS]), szW_mem h (by simp [Dk.wt, wS]), szW_mem h (by simp [Dk.wt, wL])⟩
end Go.Proofs.YtjedcphhajlnoaaDoor
/- Functions of the exact laws: equal ones; copies. -/
namespace Go.Proofs.YtjedcphhajlnoaaDoor
open Go.RowKit

@[go_sem] def ctEqS : Ct := ⟨false, [[some .str], [some .str]], fun args os => match args, os with
  | [.one (.isl .str xs), .one (.isl .str ys)], [] => ifp (xs = ys ∧ xs.length ≤ 4000000) (vb true)
  | _, _ => no⟩
@[go_sem] def sgEqS (xs : List ByteArray) (i : Nat) : Sg := ⟨[(0, .one (.isl .str xs)), (1, .one (.isl .str xs)), (5, vi i)], [], []⟩
@[go_sem] def ctEqS2 : Ct := ⟨false, [[some .str, some .str], [some .str, some .str]], fun args os => match args, os with
  | [.agg [.isl .str a, .isl .str b], .agg [.isl .str c, .isl .str d]], [] => ifp ((a = c ∧ b = d) ∧ a.length ≤ 4000000 ∧ b.length ≤ 4000000) (vb true)
  | _, _ => no⟩
@[go_sem] def sgEqS2 (a b : List ByteArray) (i : Int) : Sg := ⟨[(2, .one (.ptr 0 0)), (3, .one (.ptr 1 0)), (5, vi i)], [some (.cells [.isl .str a, .isl .str b]), some (.cells [.isl .str a, .isl .str b])], []⟩
@[go_sem] def ctEqLate : Ct := ⟨false, [], fun args os => match args, os with
  | [.agg [.val (.int .i64 x), .val (.int .i64 y), .val (.string t)], .agg [.val (.int .i64 x'), .val (.int .i64 y'), .val (.string t')]], [] => ifp (x = x' ∧ y = y' ∧ t = t') (vb true)
  | _, _ => no⟩
@[go_sem] def ctEqL : Ct := ⟨false, [[some .late], [some .late]], fun args os => match args, os with
  | [.one (.isl .late xs), .one (.isl .late ys)], [] => ifp (xs = ys ∧ xs.length ≤ 4000000) (vb true)
  | _, _ => no⟩
@[go_sem] def sgEqL (xs : List Late) (i : Nat) : Sg := ⟨[(0, .one (.isl .late xs)), (1, .one (.isl .late xs)), (5, vi i)], [], []⟩
@[go_sem] def ctEqDisk : Ct := ⟨false, [[some .str, some .str, some .late], [some .str, some .str, some .late]], fun args os => match args, os with
  | [.agg [.isl .str a, .isl .str b, .isl .late l], .agg [.isl .str c, .isl .str d, .isl .late m]], [] => ifp ((a = c ∧ b = d ∧ l = m) ∧ (Dk.mk a b l).small) (vb true)
  | _, _ => no⟩
@[go_sem] def ctToS : Ct := ⟨false, [[some .str]], fun args os => match args, os with
  | [.one (.isl .str xs)], [] => ⟨xs.length ≤ 4000000, .one (.osl .str 0 0 xs.length), [], [.arr .str xs]⟩
  | _, _ => no⟩
@[go_sem] def sgToS (xs : List ByteArray) (i : Nat) : Sg := ⟨[(0, .one (.isl .str xs)), (3, .one (.osl .str 0 0 xs.length)), (4, vi i)], [some (.arr .str (mix xs (List.replicate xs.length ET.str.dflt) i))], []⟩
end Go.Proofs.YtjedcphhajlnoaaDoor
/- Functions of the exact laws: copies; marks. -/
namespace Go.Proofs.YtjedcphhajlnoaaDoor
open Go.RowKit

@[go_sem] def ctToS2 : Ct := ⟨false, [[some .str, some .str]], fun args os => match args, os with
  | [.agg [.isl .str a, .isl .str b]], [] => ⟨a.length ≤ 4000000 ∧ b.length ≤ 4000000, .agg [.osl .str 0 0 a.length, .osl .str 1 0 b.length], [], [.arr .str a, .arr .str b]⟩
  | _, _ => no⟩
@[go_sem] def sgTo0 (a b : List ByteArray) : Sg := ⟨[(1, .one (.ptr 0 0)), (2, .one (.ptr 1 0)), (3, .one (.ptr 2 0)), (4, vi 0)], [some (.cells [.isl .str a, .isl .str b]), some (.cells [.val (.slice none 0 0), .val (.slice none 0 0)]), some (.cells [.val (.slice none 0 0), .val (.slice none 0 0)])], []⟩
@[go_sem] def sgTo1 (a b : List ByteArray) : Sg := ⟨[(1, .one (.ptr 0 0)), (2, .one (.ptr 1 0)), (3, .one (.ptr 2 0)), (4, vi 1)], [some (.cells [.isl .str a, .isl .str b]), some (.cells [.val (.slice none 0 0), .val (.slice none 0 0)]), some (.cells [.osl .str 3 0 a.length, .val (.slice none 0 0)]), some (.arr .str a)], []⟩
@[go_sem] def sgTo2 (a b : List ByteArray) : Sg := ⟨[(1, .one (.ptr 0 0)), (2, .one (.ptr 1 0)), (3, .one (.ptr 2 0)), (4, vi 2)], [some (.cells [.isl .str a, .isl .str b]), some (.cells [.val (.slice none 0 0), .val (.slice none 0 0)]), some (.cells [.osl .str 3 0 a.length, .osl .str 4 0 b.length]), some (.arr .str a), some (.arr .str b)], []⟩
@[go_sem] def ctToLate : Ct := ⟨false, [], fun args os => match args, os with
  | [.agg [.val (.int .i64 x), .val (.int .i64 y), .val (.string t)]], [] => is (.agg [.val (.int .i64 x), .val (.int .i64 y), .val (.string t)])
  | _, _ => no⟩
@[go_sem] def ctToL : Ct := ⟨false, [[some .late]], fun args os => match args, os with
  | [.one (.isl .late xs)], [] => ⟨xs.length ≤ 4000000, .one (.osl .late 0 0 xs.length), [], [.arr .late xs]⟩
  | _, _ => no⟩
@[go_sem] def sgToL (xs : List Late) (i : Nat) : Sg := ⟨[(0, .one (.isl .late xs)), (3, .one (.osl .late 0 0 xs.length)), (4, vi i)], [some (.arr .late (mix xs (List.replicate xs.length ET.late.dflt) i))], []⟩
@[go_sem] def ctToDisk : Ct := ⟨false, [[some .str, some .str, some .late]], fun args os => match args, os with
  | [.agg [.isl .str a, .isl .str b, .isl .late l]], [] => ⟨(Dk.mk a b l).small, (Dk.mk a b l).v 0, [], (Dk.mk a b l).objs⟩
  | _, _ => no⟩
end Go.Proofs.YtjedcphhajlnoaaDoor
/- Functions of the exact laws: marks, and what holds them. -/
namespace Go.Proofs.YtjedcphhajlnoaaDoor
open Go.RowKit

@[go_sem] def ctMarkT : Ct := ⟨false, [], fun args os => match args, os with
  | [.one (.val (.int .i64 k))], [] => ifp (0 ≤ k ∧ k ≤ 1152921504606846976) (vs (markT k))
  | _, _ => no⟩
@[go_sem] def sgMark (k : Int) (out : ByteArray) : Sg := ⟨[(0, vi k), (3, vs out)], [], []⟩
@[go_sem] def ctMarkS : Ct := ⟨true, [], fun args os => match args, os with
  | [.one (.osl .str 0 0 n), .one (.val (.int .i64 k))], [.arr .str xs] => ⟨n = xs.length ∧ xs.length ≤ 4000000 ∧ 0 ≤ k ∧ k ≤ 1000000000, vi (k + xs.length), [(0, some (.arr .str (markS xs.length k)))], []⟩
  | _, _ => no⟩
@[go_sem] def sgMarkS (xs : List ByteArray) (k : Int) (i : Nat) : Sg := ⟨[(0, .one (.osl .str 0 0 xs.length)), (1, vi (k + i)), (5, vi i)], [some (.arr .str (mix (markS xs.length k) xs i))], [0]⟩
@[go_sem] def ctMarkL : Ct := ⟨true, [], fun args os => match args, os with
  | [.one (.osl .late 0 0 n), .one (.val (.int .i64 k))], [.arr .late xs] => ⟨n = xs.length ∧ xs.length ≤ 4000000 ∧ 0 ≤ k ∧ k ≤ 1000000000, vi (k + 3 * xs.length), [(0, some (.arr .late (markL xs.length k)))], []⟩
  | _, _ => no⟩
@[go_sem] def sgMarkL (xs : List Late) (k : Int) (i : Nat) : Sg := ⟨[(0, .one (.osl .late 0 0 xs.length)), (1, vi (k + 3 * i)), (5, vi i)], [some (.arr .late (mix (markL xs.length k) xs i))], [0]⟩
@[go_sem] def ctMarkS2 : Ct := ⟨true, [], fun args os => match args, os with
  | [.agg [.osl .str 0 0 n, .osl .str 1 0 m], .one (.val (.int .i64 k))], [.arr .str a, .arr .str b] => ⟨(n = a.length ∧ m = b.length) ∧ a.length ≤ 4000000 ∧ b.length ≤ 4000000 ∧ 0 ≤ k ∧ k ≤ 900000000, vi (k + a.length + b.length), [(0, some (.arr .str (markS a.length k))), (1, some (.arr .str (markS b.length (k + a.length))))], []⟩
  | _, _ => no⟩
@[go_sem] def sgMarkS2 (a b : List ByteArray) (n m : Nat) (k i : Int) : Sg := ⟨[(1, vi k), (2, .one (.ptr 2 0)), (5, vi i)], [some (.arr .str a), some (.arr .str b), some (.cells [.osl .str 0 0 n, .osl .str 1 0 m])], [0, 1]⟩
@[go_sem] def ctMarkDisk : Ct := ⟨true, [], fun args os => match args, os with
  | [.agg [.osl .str 0 0 n, .osl .str 1 0 m, .osl .late 2 0 q], .one (.val (.int .i64 k))], [.arr .str a, .arr .str b, .arr .late l] => ⟨(n = a.length ∧ m = b.length ∧ q = l.length) ∧ (a.length ≤ 4000000 ∧ b.length ≤ 4000000 ∧ l.length ≤ 4000000) ∧ 0 ≤ k ∧ k ≤ 800000000, vi (k + a.length + b.length + 3 * l.length),
      [(0, some (.arr .str (markS a.length k))), (1, some (.arr .str (markS b.length (k + a.length)))), (2, some (.arr .late (markL l.length (k + a.length + b.length))))], []⟩
  | _, _ => no⟩
@[go_sem] def ctHeldS : Ct := ⟨false, [[some .str]], fun args os => match args, os with
  | [.one (.isl .str xs), .one (.val (.int .i64 k))], [] => ifp (xs = markS xs.length k ∧ xs.length ≤ 4000000 ∧ 0 ≤ k ∧ k ≤ 1000000000) (vi (k + xs.length))
  | _, _ => no⟩
@[go_sem] def sgHeldS (xs : List ByteArray) (k : Int) (i : Nat) : Sg := ⟨[(0, .one (.isl .str xs)), (1, vi (k + i)), (5, vi i)], [], []⟩
@[go_sem] def ctHeldS2 : Ct := ⟨false, [[some .str, some .str]], fun args os => match args, os with
  | [.agg [.isl .str a, .isl .str b], .one (.val (.int .i64 k))], [] => ifp ((a = markS a.length k ∧ b = markS b.length (k + a.length)) ∧ (a.length ≤ 4000000 ∧ b.length ≤ 4000000) ∧ 0 ≤ k ∧ k ≤ 900000000) (vi (k + a.length + b.length))
  | _, _ => no⟩
@[go_sem] def sgHeldS2 (a b : List ByteArray) (k i : Int) : Sg := ⟨[(1, vi k), (2, .one (.ptr 0 0)), (5, vi i)], [some (.cells [.isl .str a, .isl .str b])], []⟩
@[go_sem] def ctHeldL : Ct := ⟨false, [[some .late]], fun args os => match args, os with
  | [.one (.isl .late xs), .one (.val (.int .i64 k))], [] => ifp (xs = markL xs.length k ∧ xs.length ≤ 4000000 ∧ 0 ≤ k ∧ k ≤ 1000000000) (vi (k + 3 * xs.length))
  | _, _ => no⟩
@[go_sem] def sgHeldL (xs : List Late) (k : Int) (i : Nat) : Sg := ⟨[(0, .one (.isl .late xs)), (1, vi (k + 3 * i)), (5, vi i)], [], []⟩
def Dk.held (d : Dk) (k : Int) : Prop := d.a = markS d.a.length k ∧ d.b = markS d.b.length (k + d.a.length) ∧ d.l = markL d.l.length (k + d.a.length + d.b.length)
@[go_sem] def ctHeldDisk : Ct := ⟨false, [[some .str, some .str, some .late]], fun args os => match args, os with
  | [.agg [.isl .str a, .isl .str b, .isl .late l], .one (.val (.int .i64 k))], [] => ifp ((a = markS a.length k ∧ b = markS b.length (k + a.length) ∧ l = markL l.length (k + a.length + b.length)) ∧ (a.length ≤ 4000000 ∧ b.length ≤ 4000000 ∧ l.length ≤ 4000000) ∧ 0 ≤ k ∧ k ≤ 800000000) (vi (k + a.length + b.length + 3 * l.length))
  | _, _ => no⟩
end Go.Proofs.YtjedcphhajlnoaaDoor
/- Functions of the exact laws: numbers; pointers. -/
namespace Go.Proofs.YtjedcphhajlnoaaDoor
open Go.RowKit

@[go_sem] def ctEqI : Ct := ⟨false, [[some .int], [some .int]], fun args os => match args, os with
  | [.one (.isl .int xs), .one (.isl .int ys)], [] => ifp (xs = ys ∧ xs.length ≤ 4000000) (vb true)
  | _, _ => no⟩
@[go_sem] def sgEqI (xs : List Int) (i : Nat) : Sg := ⟨[(0, .one (.isl .int xs)), (1, .one (.isl .int xs)), (5, vi i)], [], []⟩
@[go_sem] def ctToI : Ct := ⟨false, [[some .int]], fun args os => match args, os with
  | [.one (.isl .int xs)], [] => ⟨xs.length ≤ 4000000, .one (.osl .int 0 0 xs.length), [], [.arr .int xs]⟩
  | _, _ => no⟩
@[go_sem] def sgToI (xs : List Int) (i : Nat) : Sg := ⟨[(0, .one (.isl .int xs)), (3, .one (.osl .int 0 0 xs.length)), (4, vi i)], [some (.arr .int (mix xs (List.replicate xs.length ET.int.dflt) i))], []⟩
@[go_sem] def ctMarkI : Ct := ⟨true, [], fun args os => match args, os with
  | [.one (.osl .int 0 0 n), .one (.val (.int .i64 k))], [.arr .int xs] => ⟨n = xs.length ∧ xs.length ≤ 4000000 ∧ 0 ≤ k ∧ k ≤ 1000000000, vi (k + xs.length), [(0, some (.arr .int (markI xs.length k)))], []⟩
  | _, _ => no⟩
@[go_sem] def sgMarkI (xs : List Int) (k : Int) (i : Nat) : Sg := ⟨[(0, .one (.osl .int 0 0 xs.length)), (1, vi (k + i)), (5, vi i)], [some (.arr .int (mix (markI xs.length k) xs i))], [0]⟩
@[go_sem] def ctHeldI : Ct := ⟨false, [[some .int]], fun args os => match args, os with
  | [.one (.isl .int xs), .one (.val (.int .i64 k))], [] => ifp (xs = markI xs.length k ∧ xs.length ≤ 4000000 ∧ 0 ≤ k ∧ k ≤ 1000000000) (vi (k + xs.length))
  | _, _ => no⟩
@[go_sem] def sgHeldI (xs : List Int) (k : Int) (i : Nat) : Sg := ⟨[(0, .one (.isl .int xs)), (1, vi (k + i)), (5, vi i)], [], []⟩
@[go_sem] def ctToPtr : Ct := ⟨false, [], fun args os => match args, os with
  | [.agg [.val (.int .i64 x), .val (.int .i64 y), .val (.int .i64 z)]], [] => is (.agg [.val (.int .i64 x), .val (.int .i64 y), .val (.int .i64 z)])
  | _, _ => no⟩
end Go.Proofs.YtjedcphhajlnoaaDoor
/- Functions: the reference's disks. -/
namespace Go.Proofs.YtjedcphhajlnoaaDoor
open Go.RowKit

/-- What fits a sector. -/
def fits (n : Nat) (side at_ : Int) (t : ByteArray) : Bool := (decide (0 ≤ side) && decide (side ≤ 1)) && (decide (0 ≤ at_) && decide (at_ < (n : Int))) && decide (t.size ≤ 420)
@[go_sem] def ctThere : Ct := ⟨false, [[some .str, some .str, some .late]], fun args os => match args, os with
  | [.agg [.isl .str a, .isl .str b, .isl .late l], .one (.val (.int .i64 s)), .one (.val (.int .i64 k)), .one (.val (.string t))], [] => is (vb (fits a.length s k t))
  | _, _ => no⟩
theorem any_false {α : Type} {p : α → Bool} {xs : List α} (d : α) : xs.any p = false ↔ ∀ j, j < xs.length → p (xs.getD j d) = false := by
  rw [List.any_eq_false]
  constructor
  · intro h j hj
    simpa [List.getD_eq_getElem?_getD, List.getElem?_eq_getElem hj] using h _ (List.getElem_mem hj)
  · intro h x hx
    obtain ⟨j, hj, rfl⟩ := List.getElem_of_mem hx
    simpa [List.getD_eq_getElem?_getD, List.getElem?_eq_getElem hj] using h j hj
theorem Dk.ok_iff (d : Dk) : d.ok = true ↔ 1 ≤ d.a.length ∧ d.a.length ≤ 120 ∧ d.b.length = d.a.length ∧ d.l.length ≤ 600 ∧ (∀ j, j < d.a.length → long (d.a.getD j ET.str.dflt) = false) ∧ (∀ j, j < d.b.length → long (d.b.getD j ET.str.dflt) = false) ∧ (∀ j, j < d.l.length → badLate d.a.length (d.l.getD j ET.late.dflt) = false) := by
  unfold Dk.ok
  simp only [Bool.and_eq_true, decide_eq_true_eq, Bool.not_eq_true', any_false ET.str.dflt, any_false (α := Late) ET.late.dflt]
  constructor
  · rintro ⟨⟨⟨⟨⟨⟨h1, h2⟩, h3⟩, h4⟩, h5⟩, h6⟩, h7⟩
    exact ⟨by omega, by omega, h3, h6, h4, h5, h7⟩
  · rintro ⟨h1, h2, h3, h6, h4, h5, h7⟩
    exact ⟨⟨⟨⟨⟨⟨by omega, by omega⟩, h3⟩, h4⟩, h5⟩, h6⟩, h7⟩
theorem Dk.notOk {d : Dk} (h : d.ok = true → False) : d.ok = false := by
  cases hd : d.ok with
  | true => exact (h hd).elim
  | false => rfl
theorem fits_bad (n : Nat) (w : Late) : fits n w.side w.at_ w.text = !(badLate n w) := by
  unfold fits badLate sector long
  by_cases e1 : 0 ≤ w.side <;> by_cases e2 : w.side ≤ 1 <;> by_cases e3 : 0 ≤ w.at_ <;> simp [e1, e2, e3]
  by_cases e4 : w.at_ < (n : Int)
  · have : w.at_ ≤ (n : Int) - 1 := by omega
    by_cases e5 : w.text.size ≤ 420
    · have : ¬ 420 < w.text.size := by omega
      simp [*]
    · have : 420 < w.text.size := by omega
      simp [*]
  · have : ¬ w.at_ ≤ (n : Int) - 1 := by omega
    simp [e4, this]
@[go_sem] def sgOk1 (a b : List ByteArray) (l : List Late) (i : Nat) : Sg := ⟨[(1, .one (.ptr 0 0)), (3, vi a.length), (4, vi i)], [some (.cells [.isl .str a, .isl .str b, .isl .late l])], []⟩
@[go_sem] def sgOk2 (a b : List ByteArray) (l : List Late) (i : Nat) : Sg := ⟨[(1, .one (.ptr 0 0)), (5, vi i)], [some (.cells [.isl .str a, .isl .str b, .isl .late l])], []⟩
end Go.Proofs.YtjedcphhajlnoaaDoor
/- Functions: writes, flushes. -/
namespace Go.Proofs.YtjedcphhajlnoaaDoor
open Go.RowKit

def Dk.nil : Dk := ⟨[], [], []⟩
/-- May a write be appended? -/
def Dk.may (d : Dk) (s k : Int) (t : ByteArray) : Bool := fits d.a.length s k t && decide (d.l.length < 600)
def Dk.add (d : Dk) (s k : Int) (t : ByteArray) : Dk := ⟨d.a, d.b, d.l ++ [⟨s, k, t⟩]⟩
/-- A write to a disk. -/
def dkWrite (d : Dk) (s k : Int) (t : ByteArray) : Dk := if d.ok then if d.may s k t then d.add s k t else d else .nil
def dkWrites (d : Dk) (s k : Int) (t : ByteArray) : Bool := d.ok && d.may s k t
theorem Dk.ok_small {d : Dk} (h : d.ok = true) : d.a.length ≤ 120 ∧ d.b.length ≤ 120 ∧ d.l.length ≤ 600 := by
  obtain ⟨h1, h2, h3, h4, -⟩ := (Dk.ok_iff d).1 h
  omega
@[go_sem] def ctDiskWrite : Ct := ⟨false, [[some .str, some .str, some .late]], fun args os => match args, os with
  | [.agg [.isl .str a, .isl .str b, .isl .late l], .one (.val (.int .i64 s)), .one (.val (.int .i64 k)), .one (.val (.string t))], [] => ⟨(Dk.mk a b l).small, .tup [(dkWrite ⟨a, b, l⟩ s k t).v 0, vb (dkWrites ⟨a, b, l⟩ s k t)], [], (dkWrite ⟨a, b, l⟩ s k t).objs⟩
  | _, _ => no⟩
/-- The two sides, a write performed. -/
def putW (x : List ByteArray × List ByteArray) (w : Late) : List ByteArray × List ByteArray := if w.side = 0 then (x.1.set w.at_.toNat w.text, x.2) else (x.1, x.2.set w.at_.toNat w.text)
theorem putW_len (x : List ByteArray × List ByteArray) (w : Late) : (putW x w).1.length = x.1.length ∧ (putW x w).2.length = x.2.length := by
  unfold putW; split <;> simp
def Dk.done (d : Dk) (n : Nat) : List ByteArray × List ByteArray := (d.l.take n).foldl putW (d.a, d.b)
theorem Dk.done_zero (d : Dk) : d.done 0 = (d.a, d.b) := by simp [Dk.done]
theorem take_succ_getD {α : Type} (l : List α) (n : Nat) (d : α) (h : n < l.length) : l.take (n + 1) = l.take n ++ [l.getD n d] := by
  rw [List.take_succ_eq_append_getElem h, List.getD_eq_getElem?_getD, List.getElem?_eq_getElem h]; rfl
theorem Dk.done_succ (d : Dk) (n : Nat) (h : n < d.l.length) : d.done (n + 1) = putW (d.done n) (d.l.getD n ET.late.dflt) := by
  unfold Dk.done
  rw [take_succ_getD _ _ ET.late.dflt h, List.foldl_append]; rfl
theorem Dk.done_len (d : Dk) : ∀ n, (d.done n).1.length = d.a.length ∧ (d.done n).2.length = d.b.length := by
  intro n
  unfold Dk.done
  generalize d.l.take n = l
  have : ∀ (l : List Late) (x : List ByteArray × List ByteArray), (l.foldl putW x).1.length = x.1.length ∧ (l.foldl putW x).2.length = x.2.length := by
    intro l
    induction l with
    | nil => intro x; exact ⟨rfl, rfl⟩
    | cons w l ih => intro x; rw [List.foldl_cons, (ih _).1, (ih _).2]; exact putW_len x w
  exact this l (d.a, d.b)
/-- All writes performed. -/
def Dk.flushed (d : Dk) : Dk := ⟨(d.done d.l.length).1, (d.done d.l.length).2, []⟩
def dkFlush (d : Dk) : Dk := if d.ok then d.flushed else .nil
@[go_sem] def ctDiskFlush : Ct := ⟨false, [[some .str, some .str, some .late]], fun args os => match args, os with
  | [.agg [.isl .str a, .isl .str b, .isl .late l]], [] => ⟨(Dk.mk a b l).small, (dkFlush ⟨a, b, l⟩).v 0, [], (dkFlush ⟨a, b, l⟩).objs⟩
  | _, _ => no⟩
theorem Dk.ok_late {d : Dk} (h : d.ok = true) (i : Nat) (hi : i < d.l.length) : ((d.l.getD i ET.late.dflt).side = 0 ∨ (d.l.getD i ET.late.dflt).side = 1) ∧ 0 ≤ (d.l.getD i ET.late.dflt).at_ ∧ (d.l.getD i ET.late.dflt).at_ < d.a.length ∧ (d.l.getD i ET.late.dflt).text.size ≤ 420 := by
  obtain ⟨-, -, -, -, -, -, h7⟩ := (Dk.ok_iff d).1 h
  have := h7 i hi
  unfold badLate sector long at this
  simp only [Bool.or_eq_false_iff, Bool.not_eq_false', Bool.and_eq_true, decide_eq_true_eq, decide_eq_false_iff_not] at this
  omega
@[go_sem] def sgFlush (a b : List ByteArray) (l : List Late) (x : List ByteArray × List ByteArray) (i : Nat) : Sg := ⟨[(1, .one (.ptr 0 0)), (2, .one (.ptr 1 0)), (3, .one (.ptr 5 0)), (4, vi i)],
  [some (.cells [.isl .str a, .isl .str b, .isl .late l]), some (.cells [.val (.slice none 0 0), .val (.slice none 0 0), .val (.slice none 0 0)]), some (.arr .str x.1), some (.arr .str x.2), some (.arr .late l), some (.cells [.osl .str 2 0 x.1.length, .osl .str 3 0 x.2.length, .osl .late 4 0 l.length])], []⟩
end Go.Proofs.YtjedcphhajlnoaaDoor
/- Functions: the reader of codes. -/
namespace Go.Proofs.YtjedcphhajlnoaaDoor
open Go.RowKit

def sumAt (s : ByteArray) : Nat → Nat
  | 0 => 1 + s.size % 997
  | i + 1 => (257 * sumAt s i + (s.data.getD i 0).toNat + 1) % 65521
theorem sumAt_lt (s : ByteArray) : ∀ i, sumAt s i < 65521
  | 0 => by unfold sumAt; omega
  | i + 1 => by unfold sumAt; omega
def sumOf (s : ByteArray) : Nat := sumAt s s.size
@[go_sem] def ctSumOf : Ct := ⟨false, [], fun args os => match args, os with
  | [.one (.val (.string s))], [] => ifp (s.size ≤ 1000000000) (vi (sumOf s))
  | _, _ => no⟩
@[go_sem] def sgSum (s : ByteArray) (i : Nat) : Sg := ⟨[(0, .one (.val (.string s))), (3, vi (sumAt s i)), (10, vi s.size), (11, vi i)], [], []⟩
theorem sum_step (s : ByteArray) (i : Nat) (hi : i < s.size) : (IntKind.i64.wrap (IntKind.i64.wrap (IntKind.i64.wrap (257 * (sumAt s i : Int)) + IntKind.i64.wrap ((s.data.getD i 0).toNat : Int)) + 1)).tmod 65521 = (sumAt s (i + 1) : Nat) := by
  have h := sumAt_lt s i
  have hb : (s.data.getD i 0).toNat < 256 := (s.data.getD i 0).toNat_lt
  rw [wrap_id (257 * (sumAt s i : Int)) (by omega) (by omega), wrap_id ((s.data.getD i 0).toNat : Int) (by omega) (by omega), wrap_id (257 * (sumAt s i : Int) + ((s.data.getD i 0).toNat : Int)) (by omega) (by omega), wrap_id (257 * (sumAt s i : Int) + ((s.data.getD i 0).toNat : Int) + 1) (by omega) (by omega)]
  rw [show (257 * (sumAt s i : Int) + ((s.data.getD i 0).toNat : Int) + 1) = ((257 * sumAt s i + (s.data.getD i 0).toNat + 1 : Nat) : Int) by omega]
  show _ = (((257 * sumAt s i + (s.data.getD i 0).toNat + 1) % 65521 : Nat) : Int)
  exact (Int.ofNat_tmod _ _).symm
theorem sum_first (s : ByteArray) (h : s.size ≤ 1000000000) : IntKind.i64.wrap (1 + ((s.size : Int)).tmod 997) = (sumAt s 0 : Nat) := by
  have : ((s.size : Int)).tmod 997 = ((s.size % 997 : Nat) : Int) := (Int.ofNat_tmod _ _).symm
  rw [this, wrap_id _ (by omega) (by omega)]
  unfold sumAt
  omega
theorem s_sumOf_e : EnterOk Tryd.prog 59 := ⟨_, Tryd.func59, rfl, by decide⟩
@[go_sem] def s_sumOf_lv : List (List Nat) := [[0], [0, 3], [0, 3, 10, 11], [0, 3, 10, 11, 12], [0, 3, 4, 10, 11], [0, 3, 10, 11], [0, 3, 10, 11], [2]]
@[go_sem] noncomputable def s_sumOf_K : Known := Known.nil
set_option maxHeartbeats 8000000 in
theorem s_sumOf : Sound Tryd.prog 59 ctSumOf := by
  have ke := s_sumOf_K.env []
  have kl : Lives s_sumOf_lv := trivial
  refine sound_intro (E := ⟨ti, s_sumOf_K.Γ, []⟩) ke Tryd.func59 Tryd.ntmps59 rfl (rs := [.tmp 2]) rfl ?_
  intro args os hp
  unfold ctSumOf at hp ⊢
  dsimp only at hp ⊢
  split at hp
  · rename_i s
    refine ⟨by simp, fun φ0 w0 => ?_⟩
    have hlen : s.size ≤ 1000000000 := hp
    clear hp
    refine goh trivial ?_
    refine W_le (σ' := sgSum s 0) [] (by
      simp only [go_sem, ↓reduceIte, reduceCtorEq, Nat.reduceAdd, Nat.reduceLT, Nat.reduceLeDiff, Nat.reduceEqDiff, TC.val.injEq, Value.int.injEq, TV.one.injEq, sum_first s hlen]
      all_goals ((repeat' apply And.intro) <;> first | rfl | trivial)) ?_
    refine W_loop (fun n σ => ∃ i : Nat, i ≤ s.size ∧ n = s.size - i ∧ σ = sgSum s i) s.size ⟨0, by omega, by omega, rfl⟩ ?_
    rintro n σ ⟨i, hi, rfl, rfl⟩
    unfold sgSum
    refine goh trivial ?_
    refine W_cnd ?_ ?_ <;> (try simp only [cnd_r]) <;> intro hlt
    · refine goh trivial ?_
      refine ⟨s.size - (i + 1), [], sgSum s (i + 1), by omega, ?_, i + 1, by omega, rfl, rfl⟩
      have hst := sum_step s i (by omega)
      simp only [go_sem, ↓reduceIte, reduceCtorEq, Nat.reduceAdd, Nat.reduceLT, Nat.reduceLeDiff, Nat.reduceEqDiff, TC.val.injEq, Value.int.injEq, TV.one.injEq]
      (repeat' apply And.intro) <;> try first | rfl | trivial | exact hst | (rw [wrap_id] <;> omega)
    · refine goh trivial ?_
      have hi' : i = s.size := by omega
      subst hi'
      exact finh [] trivial
  · simp [no, ifp] at hp

/-- An open disk. -/
def dkOpen (n : Int) : Dk := if 1 ≤ n ∧ n ≤ 120 then ⟨List.replicate n.toNat ⟨#[]⟩, List.replicate n.toNat ⟨#[]⟩, []⟩ else ⟨[], [], []⟩
@[go_sem] def ctSpecOpen : Ct := ⟨false, [], fun args os => match args, os with
  | [.one (.val (.int .i64 n))], [] => ⟨True, (dkOpen n).v 0, [], (dkOpen n).objs⟩
  | _, _ => no⟩
/-- A text of which half is written over another one. -/
def torn (old now : ByteArray) : ByteArray := if now.size / 2 < old.size then now.extract 0 (now.size / 2) ++ old.extract (now.size / 2) old.size else now.extract 0 (now.size / 2)
@[go_sem] def ctTorn : Ct := ⟨false, [], fun args os => match args, os with
  | [.one (.val (.string old)), .one (.val (.string now))], [] => ifp (old.size ≤ 1000000000 ∧ now.size ≤ 1000000000) (vs (torn old now))
  | _, _ => no⟩
end Go.Proofs.YtjedcphhajlnoaaDoor
