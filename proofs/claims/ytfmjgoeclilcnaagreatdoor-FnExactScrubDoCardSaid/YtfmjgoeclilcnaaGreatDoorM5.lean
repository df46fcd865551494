import Derived.Below
import Derived.Test.YtfmjgoeclilcnaaGreatDoorM0
import Derived.Test.YtfmjgoeclilcnaaGreatDoorM4
set_option linter.unusedSimpArgs false
set_option linter.unusedVariables false
set_option linter.unusedSectionVars false
namespace Go.Proofs.YtfmjgoeclilcnaaGreatDoor
open Go.RowKit
section
variable {P : Program} {B : Beg} {σ : Sg} {Q : Exit → Sg → Prop}
theorem drawOk_k {a : List Oper} {b : List (List Nat × List Nat)} (h : drawOk a b = true) : drawOk a b = true := h
def keepSl (ks : List Nat) (sl : List (Nat × TV)) : List (Nat × TV) := ks.map fun i => (i, look sl i)
theorem keepSl_R {φ : Phi} {T : Tab} {w : World} {sl : List (Nat × TV)} {tmps : Array Value} (h : SlR φ T w sl tmps) : ∀ ks : List Nat, SlR φ T w (keepSl ks sl) tmps
 | [], i => by simp only [keepSl, List.map_nil, look, VR, CR]
 | k :: ks, i => by
   simp only [keepSl, List.map_cons, look_put]
   split
   ·rename_i he; subst he; exact h k
   ·exact keepSl_R h ks i
def pr (lv : List (List Nat)) (id : Nat) (σ : Sg) : Sg := ⟨keepSl (lv.getD id []) σ.sl, σ.tab, σ.tch⟩
theorem Sim.pr {φ0 : Phi} {T0 : Tab} {w0 : World} {N m : Nat} {φ : Phi} {a : Act} {w : World} (hs : Sim φ0 T0 w0 N m φ σ a w) (lv : List (List Nat)) (id : Nat) : Sim φ0 T0 w0 N m φ (pr lv id σ) a w :=
 { hs with sl := keepSl_R hs.sl _ }
theorem W_region_l {E : Env} (ok : EnvOk P E) (lv : List (List Nat)) {id : Nat} {ops : Array Oper} (h : ∀ K : Sg → Prop, (∀ σ' σ'', pr lv id σ' = σ'' → Q .normal σ'' → K σ') → goOps E B.N B.m ops.toList ops.toList σ K) : W P B (.region id ops false) σ Q := by
 intro φ a w hs
 exact wpIn_region (region_sound ok (h (fun σ' => Q .normal (pr lv id σ')) fun _ _ h1 h2 => by subst h1; exact h2) hs fun σ' φ' a' w' h1 h2 => ⟨Go.Proofs.YtfmjgoeclilcnaaGreatDoor.pr lv id σ', φ', h1.pr lv id, h2⟩)
theorem W_drawn_l {E : Env} (ok : EnvOk P E) (hm : P.follows .mixedOrders = true) (lv : List (List Nat)) {id : Nat} {ops : Array Oper} (h : ∀ K : Sg → Prop, (∀ σ' σ'', pr lv id σ' = σ'' → Q .normal σ'' → K σ') → goOpsD E B.N B.m ops.toList ops.toList σ [] K) : W P B (.region id ops true) σ Q := by
 intro φ a w hs
 exact wpIn_region_any hm (drawn_sound ok (h (fun σ' => Q .normal (pr lv id σ')) fun _ _ h1 h2 => by subst h1; exact h2) hs.drawn fun σ' φ' a' w' h1 h2 => ⟨Go.Proofs.YtfmjgoeclilcnaaGreatDoor.pr lv id σ', φ', h1.pr lv id, h2⟩)
def goX (dr : Bool) (E : Env) (n m : Nat) (ops : List Oper) (σ : Sg) (K : Sg → Prop) : Prop := if dr then goOpsD E n m ops ops σ [] K else goOps E n m ops ops σ K
theorem blockG_x {id : Nat} (h : Q .normal σ) : blockG id Q (.exit id) σ := by simp only [blockG, if_true]; exact h
theorem blockG_o {id id' : Nat} (hne : ¬ id' = id) (h : Q (.exit id') σ) : blockG id Q (.exit id') σ := by simp only [blockG, if_neg hne]; exact h
end
theorem mixed : Tryz.prog.follows .mixedOrders = true := by kernel_rfl
theorem W_reg {B : Beg} {σ : Sg} {Q : Exit → Sg → Prop} {E : Env} (ok : EnvOk Tryz.prog E) (lv : List (List Nat)) {id : Nat} {ops : Array Oper} {dr : Bool} (h : ∀ K : Sg → Prop, (∀ {σ' σ'' : Sg}, Q .normal σ'' → (e : pr lv id σ' = σ'' := by (simp only [go_sem, pr, keepSl, ↓reduceIte, Nat.reduceEqDiff]; try with_unfolding_all rfl)) → K σ') → goX dr E B.N B.m ops.toList σ K) : W Tryz.prog B (.region id ops dr) σ Q := by
 cases dr with
 | true => exact W_drawn_l ok mixed lv fun K hK => h K fun h2 h1 => hK _ _ h1 h2
 | false => exact W_region_l ok lv fun K hK => h K fun h2 h1 => hK _ _ h1 h2
theorem shut6 {p : Prop} (h : p := by first | omega | (with_reducible refine drawOk_k ?_; kernel_rfl) | assumption | refine Eq.refl _ | exact fun h => ⟨h, fun k => ⟨h, k⟩⟩ | (intro _; (repeat' refine And.intro ?_ ?_) <;> first | omega | assumption) | exact fun h => h.elim | (simp only [List.length_append, List.length_cons, List.length_nil] <;> omega)) : p := h
theorem shut7 {p : Prop} (h : p := by first | rfl | trivial | omega | (rw [wrap_id] <;> omega)) : p := h
class Red (p : outParam Prop) (q : Prop) : Prop where
 of : p → q
section
variable {P : Program} {B : Beg} {σ : Sg} {Q : Exit → Sg → Prop}
instance red_skip : Red (Q .normal σ) (W P B .skip σ Q) := ⟨W_skip⟩
instance red_exit {id : Nat} : Red (Q (.exit id) σ) (W P B (.exit id) σ Q) := ⟨W_exit⟩
instance red_ret : Red (Q .ret σ) (W P B .ret σ Q) := ⟨W_ret⟩
instance red_seq {x y : Code} : Red (W P B x σ (thenG (fun σ' => W P B y σ' Q) Q)) (W P B (.seq x y) σ Q) := ⟨W_seq⟩
instance red_block {id : Nat} {c : Code} : Red (W P B c σ (blockG id Q)) (W P B (.block id c) σ Q) := ⟨W_block⟩
instance red_tn {next : Sg → Prop} : Red (next σ) (thenG next Q .normal σ) := ⟨id⟩
instance red_tx {next : Sg → Prop} {i : Nat} : Red (Q (.exit i) σ) (thenG next Q (.exit i) σ) := ⟨id⟩
instance red_tr {next : Sg → Prop} : Red (Q .ret σ) (thenG next Q .ret σ) := ⟨id⟩
instance red_bn {i : Nat} : Red (Q .normal σ) (blockG i Q .normal σ) := ⟨id⟩
instance red_br {i : Nat} : Red (Q .ret σ) (blockG i Q .ret σ) := ⟨id⟩
instance (priority := high) red_bx {i : Nat} : Red (Q .normal σ) (blockG i Q (.exit i) σ) := ⟨blockG_x⟩
theorem red {p q : Prop} [h : Red p q] (hp : p) : q := h.of hp
theorem W_cnd {c : Operand} {x y : Code} {b : Bool} (h1 : b = true → W P B x σ Q) (h2 : b = false → W P B y σ Q) (hb : opd σ.sl c = .one (.val (.bool b)) := by exact rfl) (hu : under true σ.sl c := by exact trivial) : W P B (.cond c x y) σ Q := W_cond b hb hu h1 h2
end
@[go_sem] theorem goX_t (E : Env) (n m : Nat) (ops : List Oper) (σ : Sg) (K : Sg → Prop) : goX true E n m ops σ K = goOpsD E n m ops ops σ [] K := rfl
@[go_sem] theorem goX_f (E : Env) (n m : Nat) (ops : List Oper) (σ : Sg) (K : Sg → Prop) : goX false E n m ops σ K = goOps E n m ops ops σ K := rfl
@[go_sem] theorem goOps_nil (E : Env) (n m : Nat) (ops : List Oper) (σ : Sg) (K : Sg → Prop) : goOps E n m ops [] σ K = K σ := rfl
@[go_sem] theorem goOps_cons (E : Env) (n m : Nat) (ops : List Oper) (o : Oper) (r : List Oper) (σ : Sg) (K : Sg → Prop) : goOps E n m ops (o :: r) σ K = ((stepR E n m ops o σ).1 ∧ goOps E n m ops r (stepR E n m ops o σ).2.1 K) :=
  propext (stepv_iff E n m ops o σ fun σ' _ => goOps E n m ops r σ' K)
@[go_sem] theorem goOpsD_nil (E : Env) (n m : Nat) (ops : List Oper) (σ : Sg) (log : List (List Nat × List Nat)) (K : Sg → Prop) : goOpsD E n m ops [] σ log K = (drawOk ops log.reverse = true ∧ K σ) := rfl
@[go_sem] theorem goOpsD_cons (E : Env) (n m : Nat) (ops : List Oper) (o : Oper) (r : List Oper) (σ : Sg) (log : List (List Nat × List Nat)) (K : Sg → Prop) :
  goOpsD E n m ops (o :: r) σ log K = ((stepR E n m ops o σ).1 ∧ goOpsD E n m ops r (stepR E n m ops o σ).2.1 ((foot E (rdT σ.tab) σ.sl o.op, (stepR E n m ops o σ).2.2) :: log) K) :=
  propext (stepv_iff E n m ops o σ fun σ' ws => goOpsD E n m ops r σ' ((foot E (rdT σ.tab) σ.sl o.op, ws) :: log) K)
attribute [go_sem] reads passed stepR opv opd look strip constV initSl keepSl putS setT touch rdT underAll under operandsOf isPick dstOk gcond is ifp no vb vi vs binOpw binOpv binv eqop eqv ET.kinds kindsOk unv lohi content contentV cellsStr cellsPtr cellsE part lay layV asVal loadv storable allStorable oneCell storev fieldAt fieldv fieldOf indexv indexOf slicev boxv appendv makev elems litv fills placeOf knownAll buildv caps lenv convv zeroOf asI plain tcv TV.cells TV.isAgg minv builtinv callv callWith capArgs handed addNew idxOf refsC refsV refsO mapO viewCap viewC viewCs viewV viewVs viewO ren renC renV renV.renVs renO freeC freeV freeV.freeVs freeO foot footV footCall Known.nil Known.cons Op.operands ET.cells ET.ofCells ET.at cell Value.num Value.str Value.boo ptrOf Ptr.cells ET.sz
attribute [go_sem] ti_3 ti_4 ti_5 ti_9 ti_22 ti_23 ti_24 ti_26 ti_27 ti_28 ti_29 ti_30 ti_32 ti_34 ti_36 ti_38 ti_39 ti_40 ti_41 ti_43 ti_45 ti_71 ti_91 ti_93 ti_117 ti_122 ti_131 ti_134 ti_142 ti_144 ti_148 ti_151 ti_156 ti_159 ti_171 ti_182 ti_183 ti_185 ti_188 ti_197 ti_199 ti_207 ti_215 ti_216 ti_223 ti_225 ti_238 ti_264 ti_266 ti_268
attribute [go_sem] List.length_cons List.length_nil List.map_cons List.map_nil List.append_nil List.nil_append List.cons_append List.getElem?_cons_zero List.getElem?_cons_succ List.getElem?_nil List.getD_cons_zero List.getD_cons_succ List.getD_nil List.set_cons_zero List.set_cons_succ List.set_nil List.drop_zero List.drop_succ_cons List.drop_nil List.take_succ_cons List.take_zero List.take_nil List.foldl_cons List.foldl_nil List.flatMap_cons List.flatMap_nil List.all_cons List.all_nil List.any_cons List.any_nil List.contains_cons List.contains_nil List.filterMap_cons List.filterMap_nil List.headD_cons List.headD_nil List.reverse_cons List.reverse_nil List.range_zero List.replicate_zero List.toList_toArray List.size_toArray List.getElem?_toArray Array.toList_append Array.toList_empty Option.map_some Option.map_none Option.getD_some Option.getD_none Option.bind_some Option.bind_none Option.toList_some Option.toList_none Option.isSome_some Option.isSome_none Option.some.injEq TC.val.injEq if_true if_false dif_pos ite_true ite_false and_true true_and and_false false_and imp_self implies_true true_implies forall_const not_true_eq_false not_false_eq_true Bool.false_eq_true Bool.true_eq_false Bool.not_true Bool.not_false Bool.and_true Bool.true_and Bool.and_false Bool.false_and Bool.or_false Bool.false_or Bool.or_true Bool.true_or Bool.and_eq_true decide_true decide_false decide_eq_true_eq eq_self ne_eq Nat.zero_add Nat.add_zero Nat.lt_irrefl Nat.le_refl Int.toNat_natCast
attribute [go_sem] and_self bne_self_eq_false beq_self_eq_true Int.cast_ofNat_Int List.take_length List.length_append List.length_set
@[go_sem] theorem u8_wrap (x : Int) : (((UInt8.ofNat (IntKind.u8.wrap x).toNat).toNat : Nat) : Int) = IntKind.u8.wrap x := by
  have h : 0 ≤ IntKind.u8.wrap x ∧ IntKind.u8.wrap x < 256 := by
   have h1 : IntKind.u8.wrap x = x % 256 := by simp [IntKind.wrap, IntKind.bits, IntKind.signed]
   rw [h1]; omega
  rw [UInt8.toNat_ofNat']
  omega
@[go_sem] theorem take_data (s : ByteArray) (i : Nat) (v : UInt8) : (s.data.toList.set i v).take s.size = s.data.toList.set i v :=
  List.take_of_length_le (by rw [List.length_set, Array.length_toList]; exact Nat.le_refl _)
@[go_sem] theorem take_snoc1 {α : Type} (l : List α) (x : α) : (l ++ [x]).take (l.length + 1) = l ++ [x] := List.take_of_length_le (by simp)
@[go_sem] theorem take_app2 {α : Type} (l k : List α) : (l ++ k).take (l.length + k.length) = l ++ k := List.take_of_length_le (by simp)
@[go_sem] theorem gl_nil {α : Type} (g : Bool) : gl g ([] : List α) = [] := by cases g <;> rfl
@[go_sem] theorem gl_true {α : Type} (l : List α) : gl true l = l := rfl
@[go_sem] theorem gl_false {α : Type} (l : List α) : gl false l = [] := rfl
@[go_sem] theorem optArr_some {α : Type} (x : α) : (some x).toArray = #[x] := rfl
@[go_sem] theorem optArr_none {α : Type} : (none : Option α).toArray = #[] := rfl
attribute [go_sem] bytesMax Call.operands Array.append_eq_append Array.toList_append List.append_toArray Array.toList_map Array.toList_flatMap Array.flatMap_toArray List.map_toArray List.flatMap_toArray
attribute [go_sem] leV leVs leS leSl leTab leO leC leCs leCap nodupS headOk packV resV resP
noncomputable def same {α : Type} (a b : α) : Bool := @decide (a = b) (Classical.propDecidable _)
theorem same_true {α : Type} {a b : α} : same a b = true ↔ a = b := by simp [same]
theorem same_false {α : Type} {a b : α} : same a b = false ↔ a ≠ b := by simp [same]
@[go_sem] theorem toList_same (a b : ByteArray) : (a.toList == b.toList) = same a b := by
  rw [Bool.eq_iff_iff, same_true, beq_iff_eq]
  constructor
  ·intro h
   obtain ⟨⟨a⟩⟩ := a
   obtain ⟨⟨b⟩⟩ := b
   rw [ByteArray.toList_eq, ByteArray.toList_eq] at h
   simpa using h
  ·rintro rfl; rfl
@[go_sem] theorem valsEq_late (a b a' b' : Int) (t t' : ByteArray) : valsEq [.int .i64 a, .int .i64 b, .string t] [.int .i64 a', .int .i64 b', .string t'] = same (Late.mk a b t) (Late.mk a' b' t') := by
  rw [Bool.eq_iff_iff, same_true]
  simp only [valsEq, toList_same, Bool.and_eq_true, beq_iff_eq, same_true, Late.mk.injEq]
  simp
@[go_sem] theorem valsEq_ptr (a b c a' b' c' : Int) : valsEq [.int .i64 a, .int .i64 b, .int .i64 c] [.int .i64 a', .int .i64 b', .int .i64 c'] = same (Ptr.mk a b c) (Ptr.mk a' b' c') := by
  rw [Bool.eq_iff_iff, same_true]
  simp only [valsEq, Bool.and_eq_true, beq_iff_eq, Ptr.mk.injEq]
  simp
theorem cnd_r : (∀ (p : Prop) [Decidable p] (f : Bool), (if p then true else f) = (decide p || f)) ∧ (∀ (p : Prop) [Decidable p] (t : Bool), (if p then t else false) = (decide p && t)) ∧ (∀ (p : Prop) [Decidable p] (f : Bool), (if p then f else true) = (!decide p || f)) ∧ (∀ (p : Prop) [Decidable p] (f : Bool), (if p then false else f) = (!decide p && f)) ∧
  (∀ b : Bool, decide (b = true) = b) ∧ (∀ a b c : Bool, ((a || b) || c) = (a || (b || c))) ∧ (∀ a b c : Bool, ((a && b) && c) = (a && (b && c))) ∧ (∀ b : Bool, (b && true) = b) ∧ (∀ b : Bool, (b || false) = b) ∧ (∀ b : Bool, (true && b) = b) ∧ (∀ b : Bool, (false || b) = b) ∧
  (∀ (p : Prop) [Decidable p], (decide p = true) = p) ∧ (∀ (p : Prop) [Decidable p], decide p = false ↔ ¬ p) ∧ (∀ p q : Prop, (¬ (p ∧ q)) = (p → ¬ q)) ∧ (∀ p q : Prop, ¬ (p ∨ q) ↔ ¬ p ∧ ¬ q) ∧ (∀ p : Prop, ¬ ¬ p ↔ p) ∧
  (∀ a b : Bool, ((a && b) = true) = (a = true ∧ b = true)) ∧ (∀ a b : Bool, ((a || b) = true) = (a = true ∨ b = true)) ∧ (∀ b : Bool, ((!b) = true) = (b = false)) ∧ (∀ b : Bool, ((!b) = false) = (b = true)) ∧ (∀ a b : Bool, ((a || b) = false) = (a = false ∧ b = false)) ∧ (∀ a b : Bool, ((a && b) = false) = (a = false ∨ b = false)) ∧
  (∀ {α : Type} [BEq α] [LawfulBEq α] (a b : α), (a != b) = true ↔ a ≠ b) ∧ (∀ {α : Type} (a b : α), (a ≠ b) = ¬ (a = b)) ∧ (∀ {α : Type} [BEq α] [LawfulBEq α] (a b : α), (a == b) = true ↔ a = b) ∧ (∀ {α : Type} [BEq α] [LawfulBEq α] (a b : α), (a != b) = false ↔ a = b) ∧
  (∀ {α : Type} (a b : α), same a b = true ↔ a = b) ∧ (∀ {α : Type} (a b : α), same a b = false ↔ a ≠ b) ∧ (∀ m n : Nat, ((m : Int) = n) ↔ m = n) :=
 ⟨fun p _ f => by by_cases h : p <;> simp [h], fun p _ f => by by_cases h : p <;> simp [h], fun p _ f => by by_cases h : p <;> simp [h], fun p _ f => by by_cases h : p <;> simp [h], fun b => by simp, Bool.or_assoc, Bool.and_assoc, Bool.and_true, Bool.or_false, Bool.true_and, Bool.false_or, fun p _ => by simp, fun p _ => by simp, fun p q => by simp, fun p q => not_or, fun p => Classical.not_not, fun a b => by simp, fun a b => by simp, fun b => by simp, fun b => by simp, fun a b => by simp, fun a b => by cases a <;> cases b <;> simp, fun a b => by simp, fun a b => rfl, fun a b => by simp, fun a b => by simp, fun a b => same_true, fun a b => same_false, fun m n => by omega⟩
theorem inj_r : (∀ a b : Value, (TC.val a = TC.val b) = (a = b)) ∧ (∀ a b : Bool, (Value.bool a = Value.bool b) = (a = b)) ∧ (∀ (k k' : IntKind) (a b : Int), (Value.int k a = Value.int k' b) = (k = k' ∧ a = b)) ∧ (∀ a b : ByteArray, (Value.string a = Value.string b) = (a = b)) ∧ (∀ a b : TC, (TV.one a = TV.one b) = (a = b)) :=
 ⟨fun _ _ => by simp, fun _ _ => by simp, fun _ _ _ _ => by simp, fun _ _ => by simp, fun _ _ => by simp⟩
def Lives (_ : List (List Nat)) : Prop := True
theorem W_rg {B : Beg} {σ : Sg} {Q : Exit → Sg → Prop} {E : Env} {lv : List (List Nat)} (ok : EnvOk Tryz.prog E) (_ : Lives lv) {id : Nat} {ops : Array Oper} {dr : Bool} (h : ∀ K : Sg → Prop, (∀ {σ' σ'' : Sg}, Q .normal σ'' → (e : pr lv id σ' = σ'' := by (simp only [go_sem, pr, keepSl, ↓reduceIte, Nat.reduceEqDiff]; try with_unfolding_all rfl)) → K σ') → goX dr E B.N B.m ops.toList σ K) : W Tryz.prog B (.region id ops dr) σ Q := W_reg ok lv h
structure Away (q : Prop) : Prop where
 out : q
theorem goh {p q X : Prop} (hx : X) (hq : q) (h : X → Away q → p := by
  intro hx hq
  repeat' first
   | with_reducible refine red ?_
   | refine W_seq ?_
   | (refine W_rg ke kl fun K' hK' => ?_
      simp only [go_sem, hx, ↓reduceIte, ↓reduceDIte, reduceCtorEq, Nat.reduceAdd, Nat.reduceMul, Nat.reduceSub, Nat.reduceDiv, Nat.reduceMod, Nat.reduceLT, Nat.reduceLeDiff, Nat.reduceEqDiff, Nat.reduceBEq, Int.reduceToNat, Int.reduceLE, Int.reduceLT, Int.reduceEq, Int.reduceNe, Int.reduceNeg]
      (repeat' refine And.intro ?_ ?_) <;> try first | with_reducible refine hK' ?_ | exact shut6)
   | with_reducible refine blockG_o (by decide) ?_
  exact hq.out) : p := h hx ⟨hq⟩
theorem leh {p X : Prop} (hx : X) (h : X → p := by
  intro hx
  simp only [go_sem, hx, inj_r, ↓reduceIte, reduceCtorEq, Nat.reduceAdd, Nat.reduceLT, Nat.reduceLeDiff, Nat.reduceEqDiff, Int.reduceEq]
  all_goals (repeat' refine And.intro ?_ ?_) <;> try exact shut7) : p := h hx
theorem finh {a X : Prop} {b : List (Option Nat) → Prop} (π : List (Option Nat)) (hx : X) (h1 : X → a := by
  intro hx
  (simp only [go_sem, hx, ↓reduceIte, reduceCtorEq, Nat.reduceAdd, Nat.reduceLT, Nat.reduceLeDiff, Nat.reduceEqDiff]) <;> trivial) (h2 : X → b π := by
  intro hx
  all_goals try simp only [go_sem, hx, inj_r, ↓reduceIte, reduceCtorEq, Nat.reduceAdd, Nat.reduceLT, Nat.reduceLeDiff, Nat.reduceEqDiff, Int.reduceEq]
  all_goals (repeat' refine And.intro ?_ ?_) <;> try exact shut7) : a ∧ ∃ π, b π := ⟨h1 hx, π, h2 hx⟩
theorem W_for {P : Program} {B : Beg} {σ : Sg} {Q : Exit → Sg → Prop} {c : Code} (n : Nat) (I : Nat → Prop) (sg : Nat → Sg) (π0 : List (Option Nat)) (hle : leS B.m π0 σ (sg 0)) (h0 : I 0)
  (h : ∀ i, i ≤ n → I i → W P B c (sg i) (thenG (fun σ' => ∃ π, i < n ∧ leS B.m π σ' (sg (i + 1)) ∧ I (i + 1)) Q)) : W P B (.loop c) σ Q :=
 W_le (σ' := sg 0) π0 hle (W_loop (fun q σ => ∃ i, i ≤ n ∧ q = n - i ∧ I i ∧ σ = sg i) n ⟨0, Nat.zero_le _, rfl, h0, rfl⟩ (by
  rintro q σ ⟨i, hi, rfl, hI, rfl⟩
  refine (h i hi hI).mono fun e σ hx => ?_
  cases e with
  | normal =>
    obtain ⟨π, h1, h2, h3⟩ := hx
    exact ⟨n - (i + 1), π, sg (i + 1), by omega, h2, i + 1, h1, rfl, h3, rfl⟩
  | _ => exact hx))
end Go.Proofs.YtfmjgoeclilcnaaGreatDoor
namespace Go.Proofs.YtfmjgoeclilcnaaGreatDoor
open Go.RowKit
def plainV (vals : List Value) : List TV := vals.map fun v => .one (.val v)
theorem plainV_R {φ : Phi} {T : Tab} {w : World} : ∀ {vals rs : List Value}, VRs φ T w (plainV vals) rs → rs = vals
 | [], [], _ => rfl
 | [], _ :: _, h => by simp [plainV, VRs] at h
 | v :: vs, [], h => by simp [plainV, VRs] at h
 | v :: vs, r :: rs, h => by
   simp only [plainV, List.map_cons, VRs, VR, CR] at h
   obtain ⟨rfl, h2⟩ := h
   rw [plainV_R (vals := vs) (rs := rs) h2]
theorem sound_plain {P : Program} {f : FuncId} {ct : Ct} (h : ∀ args os, (ct.spec args os).pre → os = [] ∧ ∃ (vals : List Value) (r : Value), args = plainV vals ∧ ct.spec args os = ⟨(ct.spec args os).pre, .one (.val r), [], []⟩ ∧
  ∀ w, GloOk0 w → Calls P f vals.toArray w fun e w' => e = .returned r ∧ Below w.heap.size w w') : Sound P f ct := by
 intro args os hp φ w rargs hrel hv hn
 obtain ⟨rfl, vals, r, rfl, hs, hc⟩ := h args os hp
 obtain rfl := plainV_R hv
 refine (hc w fun q hq => (hrel.glo q hq).2).mono ?_
 rintro e w' ⟨rfl, hb⟩
 rw [hs]
 have hT : newT (tabOf []) ([] : List Obj).length ⟨(ct.spec (plainV rargs) []).pre, .one (.val r), [], []⟩ = tabOf [] := by
  funext k; simp [newT, addT, updT]
 have no : ∀ b, ¬ Own φ (tabOf []) b := fun b ⟨k, base, h1, _⟩ => by simp [tabOf] at h1
 have old : ∀ b, b < w.heap.size → w'.heap[b]? = w.heap[b]? := fun b hb' => hb.block b hb'
 refine ⟨r, φ, rfl, by simp only [VR, CR], ?_, ?_, fun k hk => .inl hk, fun b hb' _ => old b hb'⟩
 ·rw [hT]
  exact ⟨fun k o h => by simp [tabOf] at h, fun k _ _ _ _ h _ _ _ => by simp [tabOf] at h, fun b h => ⟨Nat.lt_of_lt_of_le (hrel.frd b h).1 hb.size, no b⟩, fun q hq => by
   obtain ⟨-, c, e, f, h2, h3⟩ := hrel.glo q hq
   exact ⟨no _, c, e, f, (old _ (Array.getElem?_eq_some_iff.1 h2).1).trans h2, h3⟩⟩
 ·rw [hT]
  exact ⟨hb.os, hb.tape, hb.output, hb.size, fun _ _ h => h, fun b hb' _ => old b hb', fun b _ h => h, fun b hb' => by unfold sizeAt; rw [old b hb'], fun _ => Iff.rfl⟩
end Go.Proofs.YtfmjgoeclilcnaaGreatDoor
namespace Go.Proofs.YtfmjgoeclilcnaaGreatDoor
def szW : List Nat → Int → Int
 | [], n => n
 | x :: r, n => if n - x < 0 then -1 else szW r (n - x)
theorem szW_in : ∀ (ws : List Nat) (n : Int), 0 ≤ n → szW ws n = -1 ∨ (0 ≤ szW ws n ∧ szW ws n ≤ n)
 | [], n, h => .inr ⟨h, Int.le_refl _⟩
 | x :: r, n, h => by
   unfold szW
   split
   ·exact .inl rfl
   ·rcases szW_in r (n - x) (by omega) with h1 | ⟨h1, h2⟩
    ·exact .inl h1
    ·exact .inr ⟨h1, by omega⟩
theorem szW_app : ∀ (ws vs : List Nat) (n : Int), 0 ≤ n → szW (ws ++ vs) n = if szW ws n < 0 then -1 else szW vs (szW ws n)
 | [], vs, n, h => by rw [List.nil_append, show szW [] n = n from rfl, if_neg (by omega)]
 | x :: r, vs, n, h => by
   rw [List.cons_append]
   show (if n - x < 0 then -1 else szW (r ++ vs) (n - x)) = if (if n - x < 0 then -1 else szW r (n - x)) < 0 then -1 else szW vs (if n - x < 0 then -1 else szW r (n - x))
   by_cases hc : n - x < 0
   ·rw [if_pos hc, if_pos hc, if_pos (by decide)]
   ·rw [if_neg hc, if_neg hc]
    exact szW_app r vs (n - x) (by omega)
theorem szW_sum : ∀ (ws : List Nat) (n : Int), 0 ≤ szW ws n → ws.sum ≤ n
 | [], n, h => h
 | x :: r, n, h => by
   unfold szW at h
   split at h
   ·omega
   ·have := szW_sum r _ h
    rw [List.sum_cons]; omega
theorem le_sum : ∀ {ws : List Nat} {x : Nat}, x ∈ ws → x ≤ ws.sum
 | y :: r, x, h => by
   rw [List.sum_cons]
   rcases List.mem_cons.1 h with rfl | h
   ·omega
   ·have := le_sum h; omega
theorem szW_mem {ws : List Nat} {n : Int} (h : 0 ≤ szW ws n) {x : Nat} (hx : x ∈ ws) : x ≤ n := by
 have h1 := szW_sum ws n h
 have h2 : x ≤ ws.sum := le_sum hx
 omega
def wS (xs : List ByteArray) : List Nat := xs.length :: xs.map (·.size)
def wL (xs : List Late) : List Nat := xs.length :: xs.map (·.text.size)
def digs : Nat → Int → ByteArray → ByteArray
 | 0, _, out => out
 | f + 1, k, out => if k > 0 then digs f (k.tdiv 10) (⟨#[UInt8.ofNat (IntKind.u8.wrap (IntKind.i64.wrap (48 + k.tmod 10))).toNat]⟩ ++ out) else out
def markT (k : Int) : ByteArray := if k ≤ 0 then ⟨#[109, 48]⟩ else ⟨#[109]⟩ ++ digs 64 k ⟨#[]⟩
def markS (n : Nat) (k : Int) : List ByteArray := (List.range n).map fun i : Nat => markT (k + (i : Int))
def markL (n : Nat) (k : Int) : List Late := (List.range n).map fun i : Nat => ⟨k + 3 * (i : Int), k + 3 * (i : Int) + 1, markT (k + 3 * (i : Int) + 2)⟩
def markI (n : Nat) (k : Int) : List Int := (List.range n).map fun i : Nat => k + (i : Int)
@[go_sem] theorem markS_len (n : Nat) (k : Int) : (markS n k).length = n := by simp [markS]
@[go_sem] theorem markL_len (n : Nat) (k : Int) : (markL n k).length = n := by simp [markL]
@[go_sem] theorem markI_len (n : Nat) (k : Int) : (markI n k).length = n := by simp [markI]
@[go_sem] theorem markS_take (n : Nat) (k : Int) : (markS n k).take n = markS n k := List.take_of_length_le (by simp [markS])
@[go_sem] theorem markL_take (n : Nat) (k : Int) : (markL n k).take n = markL n k := List.take_of_length_le (by simp [markL])
@[go_sem] theorem markI_take (n : Nat) (k : Int) : (markI n k).take n = markI n k := List.take_of_length_le (by simp [markI])
theorem markS_get {n : Nat} {k : Int} {i : Nat} (h : i < n) (d : ByteArray) : (markS n k).getD i d = markT (k + i) := by simp [markS, h]
theorem markL_get {n : Nat} {k : Int} {i : Nat} (h : i < n) (d : Late) : (markL n k).getD i d = ⟨k + 3 * i, k + 3 * i + 1, markT (k + 3 * i + 2)⟩ := by simp [markL, h]
theorem markI_get {n : Nat} {k : Int} {i : Nat} (h : i < n) (d : Int) : (markI n k).getD i d = k + i := by simp [markI, h]
def mix {α : Type} (a b : List α) (i : Nat) : List α := a.take i ++ b.drop i
theorem mix_len {α : Type} (a b : List α) (i : Nat) (h : a.length = b.length) : (mix a b i).length = b.length := by
 unfold mix; simp; omega
theorem mix_zero {α : Type} (a b : List α) : mix a b 0 = b := by simp [mix]
theorem mix_all {α : Type} (a b : List α) (i : Nat) (h : a.length = b.length) (hi : i = b.length) : mix a b i = a := by
 unfold mix; rw [List.take_of_length_le (by omega), List.drop_of_length_le (by omega), List.append_nil]
theorem mix_set {α : Type} (a b : List α) (i : Nat) (d : α) (h : a.length = b.length) (hi : i < b.length) {x : α} (hx : x = a.getD i d) : (mix a b i).set i x = mix a b (i + 1) := by
 subst hx
 unfold mix
 apply List.ext_getElem?
 intro j
 rw [List.getElem?_set]
 have ha : i < a.length := by omega
 simp only [List.length_append, List.length_take, List.length_drop, List.getElem?_append, List.getElem?_take, List.getElem?_drop]
 rcases Nat.lt_trichotomy j i with hj | hj | hj
 ·simp [show i ≠ j by omega, show j < min i a.length by omega, show j < min (i + 1) a.length by omega, hj, show j < i + 1 by omega]
 ·subst hj
  simp [ha, show j < min (j + 1) a.length by omega, show j < min j a.length + (b.length - j) by omega]
 ·simp [show i ≠ j by omega, show ¬ j < min i a.length by omega, show ¬ j < min (i + 1) a.length by omega]
  congr 1; omega
end Go.Proofs.YtfmjgoeclilcnaaGreatDoor
namespace Go.Proofs.YtfmjgoeclilcnaaGreatDoor
open Go.RowKit
@[go_sem] def ctWithin : Ct := ⟨false, [], fun args os => match args, os with
  | [.one (.val (.int .i64 n)), .one (.val (.int .i64 lo)), .one (.val (.int .i64 hi))], [] => is (vb (decide (lo ≤ n) && decide (n ≤ hi)))
  | _, _ => no⟩
theorem s_within_e : EnterOk Tryz.prog 123 := ⟨_, Tryz.func123, rfl, by decide⟩
@[go_sem] def s_within_lv : List (List Nat) := [[0, 1, 2], [6]]
@[go_sem] noncomputable def s_within_K : Known := Known.nil
set_option maxHeartbeats 8000000 in
theorem s_within : Sound Tryz.prog 123 ctWithin := by
 have ke := s_within_K.env []
 have kl : Lives s_within_lv := trivial
 refine sound_intro (E := ⟨ti, s_within_K.Γ, []⟩) ke Tryz.func123 Tryz.ntmps123 rfl (rs := [.tmp 6]) rfl ?_
 intro args os hp
 unfold ctWithin at hp ⊢
 dsimp only at hp ⊢
 split at hp
 ·rename_i n lo hi
  refine ⟨by simp, fun φ0 w0 => ?_⟩
  clear hp
  refine goh trivial ?_
  refine ⟨by (simp only [go_sem, ↓reduceIte, reduceCtorEq, Nat.reduceAdd, Nat.reduceLT, Nat.reduceLeDiff, Nat.reduceEqDiff]) <;> trivial, [], ?_⟩
  all_goals try simp only [go_sem, inj_r, ↓reduceIte, reduceCtorEq, Nat.reduceAdd, Nat.reduceLT, Nat.reduceLeDiff, Nat.reduceEqDiff, Int.reduceEq]
  all_goals (repeat' refine And.intro ?_ ?_) <;> try exact shut7
  by_cases h : lo ≤ n <;> simp [h]
 ·simp [no] at hp
def long (s : ByteArray) : Bool := decide (420 < s.size)
@[go_sem] def ctIsLong : Ct := ⟨false, [], fun args os => match args, os with
  | [.one (.val (.string s))], [] => is (vb (long s))
  | _, _ => no⟩
theorem s_isLong_e : EnterOk Tryz.prog 125 := ⟨_, Tryz.func125, rfl, by decide⟩
@[go_sem] def s_isLong_lv : List (List Nat) := [[0], [2]]
@[go_sem] noncomputable def s_isLong_K : Known := Known.nil
set_option maxHeartbeats 8000000 in
theorem s_isLong : Sound Tryz.prog 125 ctIsLong := by
 have ke := s_isLong_K.env []
 have kl : Lives s_isLong_lv := trivial
 refine sound_intro (E := ⟨ti, s_isLong_K.Γ, []⟩) ke Tryz.func125 Tryz.ntmps125 rfl (rs := [.tmp 2]) rfl ?_
 intro args os hp
 unfold ctIsLong at hp ⊢
 dsimp only at hp ⊢
 split at hp
 ·rename_i s
  refine ⟨by simp, fun φ0 w0 => ?_⟩
  clear hp
  refine goh trivial ?_
  refine ⟨by (simp only [go_sem, ↓reduceIte, reduceCtorEq, Nat.reduceAdd, Nat.reduceLT, Nat.reduceLeDiff, Nat.reduceEqDiff]) <;> trivial, [], ?_⟩
  all_goals try simp only [go_sem, inj_r, ↓reduceIte, reduceCtorEq, Nat.reduceAdd, Nat.reduceLT, Nat.reduceLeDiff, Nat.reduceEqDiff, Int.reduceEq]
  all_goals (repeat' refine And.intro ?_ ?_) <;> try exact shut7
  simp only [long]; congr 1; apply propext; omega
 ·simp [no] at hp
def firstAt {α : Type} (p : α → Bool) (xs : List α) : Int := match xs.findIdx? p with | some i => i | none => -1
theorem firstAt_some {α : Type} {p : α → Bool} {xs : List α} {i : Nat} {d : α} (hi : i < xs.length) (hb : ∀ j, j < i → p (xs.getD j d) = false) (hp : p (xs.getD i d) = true) : firstAt p xs = i := by
 have : xs.findIdx? p = some i := by
  rw [List.findIdx?_eq_some_iff_getElem]
  refine ⟨hi, by simpa [List.getD_eq_getElem?_getD, List.getElem?_eq_getElem hi] using hp, fun j hj => ?_⟩
  have := hb j hj
  simpa [List.getD_eq_getElem?_getD, List.getElem?_eq_getElem (Nat.lt_trans hj hi)] using this
 simp [firstAt, this]
theorem firstAt_none {α : Type} {p : α → Bool} {xs : List α} {d : α} (hb : ∀ j, j < xs.length → p (xs.getD j d) = false) : firstAt p xs = -1 := by
 have : xs.findIdx? p = none := by
  rw [List.findIdx?_eq_none_iff]
  intro x hx
  obtain ⟨j, hj, rfl⟩ := List.getElem_of_mem hx
  have := hb j hj
  simpa [List.getD_eq_getElem?_getD, List.getElem?_eq_getElem hj] using this
 simp [firstAt, this]
@[go_sem] def ctIndexLong : Ct := ⟨false, [[some .str]], fun args os => match args, os with
  | [.one (.isl .str xs), .one (.fn 125 [])], [] => ifp (xs.length ≤ 4000000) (vi (firstAt long xs))
  | _, _ => no⟩
@[go_sem] def sgIndexLong (xs : List ByteArray) (i : Nat) : Sg := ⟨[(8, vi i), (7, vi xs.length), (0, .one (.isl .str xs)), (1, .one (.fn 125 []))], [], []⟩
theorem s_indexLong_e : EnterOk Tryz.prog 186 := ⟨_, Tryz.func186, rfl, by decide⟩
@[go_sem] def s_indexLong_lv : List (List Nat) := [[0, 1], [0, 1, 7, 8], [0, 1, 7, 8, 9], [0, 1, 5, 7, 8], [0, 1, 5, 7, 8, 16], [4], [0, 1, 7, 8], [4]]
@[go_sem] noncomputable def s_indexLong_K : Known := (Known.nil).cons 125 ctIsLong s_isLong s_isLong_e
set_option maxHeartbeats 8000000 in
theorem s_indexLong : Sound Tryz.prog 186 ctIndexLong := by
 have ke := s_indexLong_K.env []
 have kl : Lives s_indexLong_lv := trivial
 refine sound_intro (E := ⟨ti, s_indexLong_K.Γ, []⟩) ke Tryz.func186 Tryz.ntmps186 rfl (rs := [.tmp 4]) rfl ?_
 intro args os hp
 unfold ctIndexLong at hp ⊢
 dsimp only at hp ⊢
 split at hp
 ·rename_i xs
  refine ⟨by simp, fun φ0 w0 => ?_⟩
  have hlen : xs.length ≤ 4000000 := hp
  clear hp
  refine goh trivial ?_
  refine W_le (σ' := sgIndexLong xs 0) [] (by
   simp only [go_sem, inj_r, ↓reduceIte, reduceCtorEq, Nat.reduceAdd, Nat.reduceLT, Nat.reduceLeDiff, Nat.reduceEqDiff, Int.reduceEq]
   all_goals (repeat' refine And.intro ?_ ?_) <;> try exact shut7
   ) ?_
  refine W_loop (fun n σ => ∃ i : Nat, i ≤ xs.length ∧ n = xs.length - i ∧ (∀ j, j < i → long (xs.getD j ET.str.dflt) = false) ∧ σ = sgIndexLong xs i) xs.length ⟨0, by omega, by omega, by omega, rfl⟩ ?_
  rintro n σ ⟨i, hi, rfl, hbef, rfl⟩
  unfold sgIndexLong
  refine goh trivial ?_
  refine W_cnd ?_ ?_ <;> (try simp only [cnd_r]) <;> intro hlt
  ·refine goh trivial ?_
   refine W_cnd ?_ ?_ <;> (try simp only [cnd_r]) <;> intro hl
   ·refine goh trivial ?_
    refine ⟨by (simp only [go_sem, ↓reduceIte, reduceCtorEq, Nat.reduceAdd, Nat.reduceLT, Nat.reduceLeDiff, Nat.reduceEqDiff]) <;> trivial, [], ?_⟩
    all_goals try simp only [go_sem, inj_r, ↓reduceIte, reduceCtorEq, Nat.reduceAdd, Nat.reduceLT, Nat.reduceLeDiff, Nat.reduceEqDiff, Int.reduceEq]
    all_goals (repeat' refine And.intro ?_ ?_) <;> try exact shut7
    exact (firstAt_some (by omega) hbef hl).symm
   ·refine goh trivial ?_
    refine ⟨xs.length - (i + 1), [], sgIndexLong xs (i + 1), by omega, ?_, i + 1, by omega, rfl, fun j hj => ?_, rfl⟩
    ·exact leh trivial
    ·rcases Nat.lt_succ_iff_lt_or_eq.1 hj with h | rfl
     ·exact hbef j h
     ·exact hl
  ·refine goh trivial ?_
   refine ⟨by (simp only [go_sem, ↓reduceIte, reduceCtorEq, Nat.reduceAdd, Nat.reduceLT, Nat.reduceLeDiff, Nat.reduceEqDiff]) <;> trivial, [], ?_⟩
   all_goals try simp only [go_sem, inj_r, ↓reduceIte, reduceCtorEq, Nat.reduceAdd, Nat.reduceLT, Nat.reduceLeDiff, Nat.reduceEqDiff, Int.reduceEq]
   all_goals (repeat' refine And.intro ?_ ?_) <;> try exact shut7
   exact (firstAt_none fun j hj => hbef j (by omega)).symm
 ·simp [no, ifp] at hp
theorem firstAt_ge {α : Type} (p : α → Bool) (xs : List α) : decide (firstAt p xs ≥ 0) = xs.any p := by
 unfold firstAt
 cases h : xs.findIdx? p with
 | some i =>
   rw [List.findIdx?_eq_some_iff_getElem] at h
   obtain ⟨hi, hp, -⟩ := h
   have : xs.any p = true := List.any_eq_true.2 ⟨_, List.getElem_mem hi, hp⟩
   simp [this]
 | none =>
   rw [List.findIdx?_eq_none_iff] at h
   have : xs.any p = false := by simpa [List.any_eq_false] using h
   rw [this]; decide
@[go_sem] def ctHasLong : Ct := ⟨false, [[some .str]], fun args os => match args, os with
  | [.one (.isl .str xs), .one (.fn 125 [])], [] => ifp (xs.length ≤ 4000000) (vb (xs.any long))
  | _, _ => no⟩
theorem s_hasLong_e : EnterOk Tryz.prog 124 := ⟨_, Tryz.func124, rfl, by decide⟩
@[go_sem] def s_hasLong_lv : List (List Nat) := [[0, 1], [4]]
@[go_sem] noncomputable def s_hasLong_K : Known := (Known.nil).cons 186 ctIndexLong s_indexLong s_indexLong_e
set_option maxHeartbeats 8000000 in
theorem s_hasLong : Sound Tryz.prog 124 ctHasLong := by
 have ke := s_hasLong_K.env []
 have kl : Lives s_hasLong_lv := trivial
 refine sound_intro (E := ⟨ti, s_hasLong_K.Γ, []⟩) ke Tryz.func124 Tryz.ntmps124 rfl (rs := [.tmp 4]) rfl ?_
 intro args os hp
 unfold ctHasLong at hp ⊢
 dsimp only at hp ⊢
 split at hp
 ·rename_i xs
  refine ⟨by simp, fun φ0 w0 => ?_⟩
  have hlen : xs.length ≤ 4000000 := hp
  clear hp
  refine goh trivial ?_
  refine ⟨by (simp only [go_sem, ↓reduceIte, reduceCtorEq, Nat.reduceAdd, Nat.reduceLT, Nat.reduceLeDiff, Nat.reduceEqDiff]) <;> trivial, [], ?_⟩
  all_goals try simp only [go_sem, inj_r, ↓reduceIte, reduceCtorEq, Nat.reduceAdd, Nat.reduceLT, Nat.reduceLeDiff, Nat.reduceEqDiff, Int.reduceEq]
  all_goals (repeat' refine And.intro ?_ ?_) <;> try exact shut7
  exact firstAt_ge _ _
 ·simp [no, ifp] at hp
@[go_sem] def ctCloneStr : Ct := ⟨false, [[some .str]], fun args os => match args, os with
  | [.one (.isl .str xs)], [] => ⟨xs.length ≤ 4000000, .one (.osl .str 0 0 xs.length), [], [.arr .str xs]⟩
  | _, _ => no⟩
theorem s_cloneStr_e : EnterOk Tryz.prog 163 := ⟨_, Tryz.func163, rfl, by decide⟩
@[go_sem] def s_cloneStr_lv : List (List Nat) := [[0], [0, 4], [2], [2]]
@[go_sem] noncomputable def s_cloneStr_K : Known := Known.nil
set_option maxHeartbeats 8000000 in
theorem s_cloneStr : Sound Tryz.prog 163 ctCloneStr := by
 have ke := s_cloneStr_K.env []
 have kl : Lives s_cloneStr_lv := trivial
 refine sound_intro (E := ⟨ti, s_cloneStr_K.Γ, []⟩) ke Tryz.func163 Tryz.ntmps163 rfl (rs := [.tmp 2]) rfl ?_
 intro args os hp
 unfold ctCloneStr at hp ⊢
 dsimp only at hp ⊢
 split at hp
 ·rename_i xs
  refine ⟨by simp, fun φ0 w0 => ?_⟩
  have hlen : xs.length ≤ 4000000 := hp
  clear hp
  refine goh trivial ?_
  refine W_cond_nb _ _ (by exact rfl) (by exact trivial) ?_ ?_ <;> intro hx
  ·refine goh trivial ?_
   subst hx
   exact finh [none] trivial
  ·refine goh trivial ?_
   exact finh [some 1] trivial
 ·simp [no, ifp] at hp
end Go.Proofs.YtfmjgoeclilcnaaGreatDoor
namespace Go.Proofs.YtfmjgoeclilcnaaGreatDoor
open Go.RowKit
def sector (n : Nat) (side at_ : Int) : Bool := (decide (0 ≤ side) && decide (side ≤ 1)) && (decide (0 ≤ at_) && decide (at_ ≤ (n : Int) - 1))
@[go_sem] def ctIsSector : Ct := ⟨false, [[some .str, some .str, some .late]], fun args os => match args, os with
  | [.agg [.isl .str a, .isl .str b, .isl .late l], .one (.val (.int .i64 s)), .one (.val (.int .i64 k))], [] => ifp (a.length ≤ 4000000) (vb (sector a.length s k))
  | _, _ => no⟩
theorem s_isSector_e : EnterOk Tryz.prog 128 := ⟨_, Tryz.func128, rfl, by decide⟩
@[go_sem] def s_isSector_lv : List (List Nat) := [[1, 2, 3], [6]]
@[go_sem] noncomputable def s_isSector_K : Known := (Known.nil).cons 123 ctWithin s_within s_within_e
set_option maxHeartbeats 8000000 in
theorem s_isSector : Sound Tryz.prog 128 ctIsSector := by
 have ke := s_isSector_K.env []
 have kl : Lives s_isSector_lv := trivial
 refine sound_intro (E := ⟨ti, s_isSector_K.Γ, []⟩) ke Tryz.func128 Tryz.ntmps128 rfl (rs := [.tmp 6]) rfl ?_
 intro args os hp
 unfold ctIsSector at hp ⊢
 dsimp only at hp ⊢
 split at hp
 ·rename_i a b l s k
  refine ⟨by simp, fun φ0 w0 => ?_⟩
  have hlen : a.length ≤ 4000000 := hp
  clear hp
  refine goh trivial ?_
  refine ⟨by (simp only [go_sem, ↓reduceIte, reduceCtorEq, Nat.reduceAdd, Nat.reduceLT, Nat.reduceLeDiff, Nat.reduceEqDiff]) <;> trivial, [], ?_⟩
  all_goals try simp only [go_sem, inj_r, ↓reduceIte, reduceCtorEq, Nat.reduceAdd, Nat.reduceLT, Nat.reduceLeDiff, Nat.reduceEqDiff, Int.reduceEq]
  all_goals (repeat' refine And.intro ?_ ?_) <;> try exact shut7
  rw [wrap_id _ (by omega) (by omega)]
  unfold sector
  by_cases h : 0 ≤ s ∧ s ≤ 1
  ·rw [if_pos h]; simp [h.1, h.2]
  ·rw [if_neg h]
   by_cases h1 : 0 ≤ s
   ·have : ¬ s ≤ 1 := fun h2 => h ⟨h1, h2⟩
    simp [this]
   ·simp [h1]
 ·simp [no, ifp] at hp
def badLate (n : Nat) (w : Late) : Bool := !(sector n w.side w.at_) || long w.text
@[go_sem] def ctBadLate : Ct := ⟨true, [], fun args os => match args, os with
  | [.agg [.val (.int .i64 s), .val (.int .i64 k), .val (.string t)], .one (.ptr 0 0)], [.cells [.isl .str a, .isl .str b, .isl .late l]] => ifp (a.length ≤ 4000000) (vb (badLate a.length ⟨s, k, t⟩))
  | _, _ => no⟩
theorem s_badLate_e : EnterOk Tryz.prog 127 := ⟨_, Tryz.func127, rfl, by decide⟩
@[go_sem] def s_badLate_lv : List (List Nat) := [[1, 2], [3]]
@[go_sem] noncomputable def s_badLate_K : Known := ((Known.nil).cons 128 ctIsSector s_isSector s_isSector_e).cons 125 ctIsLong s_isLong s_isLong_e
set_option maxHeartbeats 8000000 in
theorem s_badLate : Sound Tryz.prog 127 ctBadLate := by
 have ke := s_badLate_K.env []
 have kl : Lives s_badLate_lv := trivial
 refine sound_intro (E := ⟨ti, s_badLate_K.Γ, []⟩) ke Tryz.func127 Tryz.ntmps127 rfl (rs := [.tmp 3]) rfl ?_
 intro args os hp
 unfold ctBadLate at hp ⊢
 dsimp only at hp ⊢
 split at hp
 ·rename_i s k t a b l
  refine ⟨by simp, fun φ0 w0 => ?_⟩
  have hlen : a.length ≤ 4000000 := hp
  clear hp
  refine goh trivial ?_
  refine ⟨by (simp only [go_sem, ↓reduceIte, reduceCtorEq, Nat.reduceAdd, Nat.reduceLT, Nat.reduceLeDiff, Nat.reduceEqDiff]) <;> trivial, [some 0], ?_⟩
  all_goals try simp only [go_sem, inj_r, ↓reduceIte, reduceCtorEq, Nat.reduceAdd, Nat.reduceLT, Nat.reduceLeDiff, Nat.reduceEqDiff, Int.reduceEq]
  all_goals (repeat' refine And.intro ?_ ?_) <;> try exact shut7
  unfold badLate
  cases sector a.length s k <;> simp
 ·simp [no, ifp] at hp
@[go_sem] def ctIndexLate : Ct := ⟨true, [[some .late]], fun args os => match args, os with
  | [.one (.isl .late xs), .one (.fn 127 [(0, 0)])], [.cells [.isl .str a, .isl .str b, .isl .late l]] => ifp (xs.length ≤ 4000000 ∧ a.length ≤ 4000000) (vi (firstAt (badLate a.length) xs))
  | _, _ => no⟩
@[go_sem] def sgIndexLate (a b : List ByteArray) (l : List Late) (xs : List Late) (i : Nat) : Sg := ⟨[(8, vi i), (7, vi xs.length), (0, .one (.isl .late xs)), (1, .one (.fn 127 [(0, 0)]))], [some (.cells [.isl .str a, .isl .str b, .isl .late l])], []⟩
theorem s_indexLate_e : EnterOk Tryz.prog 187 := ⟨_, Tryz.func187, rfl, by decide⟩
@[go_sem] def s_indexLate_lv : List (List Nat) := [[0, 1], [0, 1, 7, 8], [0, 1, 7, 8, 9], [0, 1, 5, 7, 8], [0, 1, 5, 7, 8, 16], [4], [0, 1, 7, 8], [4]]
@[go_sem] noncomputable def s_indexLate_K : Known := (Known.nil).cons 127 ctBadLate s_badLate s_badLate_e
set_option maxHeartbeats 8000000 in
theorem s_indexLate : Sound Tryz.prog 187 ctIndexLate := by
 have ke := s_indexLate_K.env []
 have kl : Lives s_indexLate_lv := trivial
 refine sound_intro (E := ⟨ti, s_indexLate_K.Γ, []⟩) ke Tryz.func187 Tryz.ntmps187 rfl (rs := [.tmp 4]) rfl ?_
 intro args os hp
 unfold ctIndexLate at hp ⊢
 dsimp only at hp ⊢
 split at hp
 ·rename_i xs a b l
  refine ⟨by simp, fun φ0 w0 => ?_⟩
  obtain ⟨hlen, hla⟩ : xs.length ≤ 4000000 ∧ a.length ≤ 4000000 := hp
  refine goh trivial ?_
  refine W_le (σ' := sgIndexLate a b l xs 0) [some 0] (by
   simp only [go_sem, inj_r, ↓reduceIte, reduceCtorEq, Nat.reduceAdd, Nat.reduceLT, Nat.reduceLeDiff, Nat.reduceEqDiff, Int.reduceEq]
   all_goals (repeat' refine And.intro ?_ ?_) <;> try exact shut7
   ) ?_
  refine W_loop (fun n σ => ∃ i : Nat, i ≤ xs.length ∧ n = xs.length - i ∧ (∀ j, j < i → badLate a.length (xs.getD j ET.late.dflt) = false) ∧ σ = sgIndexLate a b l xs i) xs.length ⟨0, by omega, by omega, by omega, rfl⟩ ?_
  rintro n σ ⟨i, hi, rfl, hbef, rfl⟩
  unfold sgIndexLate
  refine goh trivial ?_
  refine W_cnd ?_ ?_ <;> (try simp only [cnd_r]) <;> intro hlt
  ·refine goh trivial ?_
   refine W_cnd ?_ ?_ <;> (try simp only [cnd_r]) <;> intro hl
   ·refine goh trivial ?_
    refine ⟨by (simp only [go_sem, ↓reduceIte, reduceCtorEq, Nat.reduceAdd, Nat.reduceLT, Nat.reduceLeDiff, Nat.reduceEqDiff]) <;> trivial, [some 0], ?_⟩
    all_goals try simp only [go_sem, inj_r, ↓reduceIte, reduceCtorEq, Nat.reduceAdd, Nat.reduceLT, Nat.reduceLeDiff, Nat.reduceEqDiff, Int.reduceEq]
    all_goals (repeat' refine And.intro ?_ ?_) <;> try exact shut7
    exact (firstAt_some (by omega) hbef hl).symm
   ·refine goh trivial ?_
    refine ⟨xs.length - (i + 1), [some 0], sgIndexLate a b l xs (i + 1), by omega, ?_, i + 1, by omega, rfl, fun j hj => ?_, rfl⟩
    ·exact leh trivial
    ·rcases Nat.lt_succ_iff_lt_or_eq.1 hj with h | rfl
     ·exact hbef j h
     ·exact hl
  ·refine goh trivial ?_
   refine ⟨by (simp only [go_sem, ↓reduceIte, reduceCtorEq, Nat.reduceAdd, Nat.reduceLT, Nat.reduceLeDiff, Nat.reduceEqDiff]) <;> trivial, [some 0], ?_⟩
   all_goals try simp only [go_sem, inj_r, ↓reduceIte, reduceCtorEq, Nat.reduceAdd, Nat.reduceLT, Nat.reduceLeDiff, Nat.reduceEqDiff, Int.reduceEq]
   all_goals (repeat' refine And.intro ?_ ?_) <;> try exact shut7
   exact (firstAt_none fun j hj => hbef j (by omega)).symm
 ·simp [no, ifp] at hp
@[go_sem] def ctHasLate : Ct := ⟨true, [[some .late]], fun args os => match args, os with
  | [.one (.isl .late xs), .one (.fn 127 [(0, 0)])], [.cells [.isl .str a, .isl .str b, .isl .late l]] => ifp (xs.length ≤ 4000000 ∧ a.length ≤ 4000000) (vb (xs.any (badLate a.length)))
  | _, _ => no⟩
theorem s_hasLate_e : EnterOk Tryz.prog 126 := ⟨_, Tryz.func126, rfl, by decide⟩
@[go_sem] def s_hasLate_lv : List (List Nat) := [[0, 1], [4]]
@[go_sem] noncomputable def s_hasLate_K : Known := (Known.nil).cons 187 ctIndexLate s_indexLate s_indexLate_e
set_option maxHeartbeats 8000000 in
theorem s_hasLate : Sound Tryz.prog 126 ctHasLate := by
 have ke := s_hasLate_K.env []
 have kl : Lives s_hasLate_lv := trivial
 refine sound_intro (E := ⟨ti, s_hasLate_K.Γ, []⟩) ke Tryz.func126 Tryz.ntmps126 rfl (rs := [.tmp 4]) rfl ?_
 intro args os hp
 unfold ctHasLate at hp ⊢
 dsimp only at hp ⊢
 split at hp
 ·rename_i xs a b l
  refine ⟨by simp, fun φ0 w0 => ?_⟩
  obtain ⟨hlen, hla⟩ : xs.length ≤ 4000000 ∧ a.length ≤ 4000000 := hp
  refine goh trivial ?_
  refine ⟨by (simp only [go_sem, ↓reduceIte, reduceCtorEq, Nat.reduceAdd, Nat.reduceLT, Nat.reduceLeDiff, Nat.reduceEqDiff]) <;> trivial, [some 0], ?_⟩
  all_goals try simp only [go_sem, inj_r, ↓reduceIte, reduceCtorEq, Nat.reduceAdd, Nat.reduceLT, Nat.reduceLeDiff, Nat.reduceEqDiff, Int.reduceEq]
  all_goals (repeat' refine And.intro ?_ ?_) <;> try exact shut7
  exact firstAt_ge _ _
 ·simp [no, ifp] at hp
@[go_sem] def ctCloneLate : Ct := ⟨false, [[some .late]], fun args os => match args, os with
  | [.one (.isl .late xs)], [] => ⟨xs.length ≤ 4000000, .one (.osl .late 0 0 xs.length), [], [.arr .late xs]⟩
  | _, _ => no⟩
theorem s_cloneLate_e : EnterOk Tryz.prog 164 := ⟨_, Tryz.func164, rfl, by decide⟩
@[go_sem] def s_cloneLate_lv : List (List Nat) := [[0], [0, 4], [2], [2]]
@[go_sem] noncomputable def s_cloneLate_K : Known := Known.nil
set_option maxHeartbeats 8000000 in
theorem s_cloneLate : Sound Tryz.prog 164 ctCloneLate := by
 have ke := s_cloneLate_K.env []
 have kl : Lives s_cloneLate_lv := trivial
 refine sound_intro (E := ⟨ti, s_cloneLate_K.Γ, []⟩) ke Tryz.func164 Tryz.ntmps164 rfl (rs := [.tmp 2]) rfl ?_
 intro args os hp
 unfold ctCloneLate at hp ⊢
 dsimp only at hp ⊢
 split at hp
 ·rename_i xs
  refine ⟨by simp, fun φ0 w0 => ?_⟩
  have hlen : xs.length ≤ 4000000 := hp
  clear hp
  refine goh trivial ?_
  refine W_cond_nb _ _ (by exact rfl) (by exact trivial) ?_ ?_ <;> intro hx
  ·refine goh trivial ?_
   subst hx
   exact finh [none] trivial
  ·refine goh trivial ?_
   exact finh [some 1] trivial
 ·simp [no, ifp] at hp
structure Dk where
 a : List ByteArray
 b : List ByteArray
 l : List Late
@[go_sem] def Dk.small (d : Dk) : Prop := d.a.length ≤ 4000000 ∧ d.b.length ≤ 4000000 ∧ d.l.length ≤ 4000000
def Dk.ok (d : Dk) : Bool :=
 (decide (1 ≤ (d.a.length : Int)) && decide ((d.a.length : Int) ≤ 120)) && decide (d.b.length = d.a.length) && !d.a.any long && !d.b.any long && decide (d.l.length ≤ 600) && !d.l.any (badLate d.a.length)
theorem diskOk_aux (a b : List ByteArray) (l : List Late) :
  ((if (if (if (!(decide (1 ≤ (a.length : Int)) && decide ((a.length : Int) ≤ 120))) = true then true else (b.length : Int) != (a.length : Int)) = true then true else a.any long) = true then true else b.any long) = true → (Dk.mk a b l).ok = false) ∧
  ((if (if (if (!(decide (1 ≤ (a.length : Int)) && decide ((a.length : Int) ≤ 120))) = true then true else (b.length : Int) != (a.length : Int)) = true then true else a.any long) = true then true else b.any long) = false →
    (if (l.length : Int) ≤ 600 then !l.any (badLate a.length) else false) = (Dk.mk a b l).ok) := by
 unfold Dk.ok
 have hl : ((l.length : Int) ≤ 600) = (l.length ≤ 600) := by apply propext; omega
 have hb : ((b.length : Int) != (a.length : Int)) = !decide (b.length = a.length) := by
  rw [Bool.eq_iff_iff]; simp; omega
 rw [hb]
 simp only [hl]
 generalize a.any long = p
 generalize b.any long = q
 generalize l.any (badLate a.length) = r
 by_cases e1 : 1 ≤ (a.length : Int) <;> by_cases e2 : (a.length : Int) ≤ 120 <;> by_cases e3 : b.length = a.length <;> by_cases e4 : l.length ≤ 600 <;> cases p <;> cases q <;> cases r <;> simp [e1, e2, e3, e4]
@[go_sem] def ctDiskOk : Ct := ⟨false, [[some .str, some .str, some .late]], fun args os => match args, os with
  | [.agg [.isl .str a, .isl .str b, .isl .late l]], [] => ifp ((Dk.mk a b l).small) (vb (Dk.mk a b l).ok)
  | _, _ => no⟩
theorem s_diskOk_e : EnterOk Tryz.prog 56 := ⟨_, Tryz.func56, rfl, by decide⟩
@[go_sem] def s_diskOk_lv : List (List Nat) := [[1], [1, 3], [1, 30], [2], [2]]
@[go_sem] noncomputable def s_diskOk_K : Known := ((((Known.nil).cons 123 ctWithin s_within s_within_e).cons 124 ctHasLong s_hasLong s_hasLong_e).cons 125 ctIsLong s_isLong s_isLong_e).cons 126 ctHasLate s_hasLate s_hasLate_e
set_option maxHeartbeats 8000000 in
theorem s_diskOk : Sound Tryz.prog 56 ctDiskOk := by
 have ke := s_diskOk_K.env []
 have kl : Lives s_diskOk_lv := trivial
 refine sound_intro (E := ⟨ti, s_diskOk_K.Γ, []⟩) ke Tryz.func56 Tryz.ntmps56 rfl (rs := [.tmp 2]) rfl ?_
 intro args os hp
 unfold ctDiskOk at hp ⊢
 dsimp only at hp ⊢
 split at hp
 ·rename_i a b l
  refine ⟨by simp, fun φ0 w0 => ?_⟩
  obtain ⟨h1, h2, h3⟩ : a.length ≤ 4000000 ∧ b.length ≤ 4000000 ∧ l.length ≤ 4000000 := hp
  refine goh trivial ?_
  refine W_cond _ (by exact rfl) (by exact trivial) ?_ ?_ <;> intro hc
  ·refine goh trivial ?_
   refine ⟨by (simp only [go_sem, ↓reduceIte, reduceCtorEq, Nat.reduceAdd, Nat.reduceLT, Nat.reduceLeDiff, Nat.reduceEqDiff]) <;> trivial, [], ?_⟩
   all_goals try simp only [go_sem, inj_r, ↓reduceIte, reduceCtorEq, Nat.reduceAdd, Nat.reduceLT, Nat.reduceLeDiff, Nat.reduceEqDiff, Int.reduceEq]
   all_goals (repeat' refine And.intro ?_ ?_) <;> try exact shut7
   exact ((diskOk_aux a b l).1 hc).symm
  ·refine goh trivial ?_
   refine ⟨by (simp only [go_sem, ↓reduceIte, reduceCtorEq, Nat.reduceAdd, Nat.reduceLT, Nat.reduceLeDiff, Nat.reduceEqDiff]) <;> trivial, [], ?_⟩
   all_goals try simp only [go_sem, inj_r, ↓reduceIte, reduceCtorEq, Nat.reduceAdd, Nat.reduceLT, Nat.reduceLeDiff, Nat.reduceEqDiff, Int.reduceEq]
   all_goals (repeat' refine And.intro ?_ ?_) <;> try exact shut7
   exact (diskOk_aux a b l).2 hc
 ·simp [no, ifp] at hp
end Go.Proofs.YtfmjgoeclilcnaaGreatDoor
namespace Go.Proofs.YtfmjgoeclilcnaaGreatDoor
open Go.RowKit
@[go_sem] def Dk.v (d : Dk) (n : Nat) : TV := .agg [.osl .str n 0 d.a.length, .osl .str (n + 1) 0 d.b.length, .osl .late (n + 2) 0 d.l.length]
@[go_sem] def Dk.objs (d : Dk) : List Obj := [.arr .str d.a, .arr .str d.b, .arr .late d.l]
@[go_sem] def ctOwn : Ct := ⟨false, [[some .str, some .str, some .late]], fun args os => match args, os with
  | [.agg [.isl .str a, .isl .str b, .isl .late l]], [] => ⟨(Dk.mk a b l).small, (Dk.mk a b l).v 0, [], (Dk.mk a b l).objs⟩
  | _, _ => no⟩
theorem s_own_e : EnterOk Tryz.prog 95 := ⟨_, Tryz.func95, rfl, by decide⟩
@[go_sem] def s_own_lv : List (List Nat) := [[1, 2], [2]]
@[go_sem] noncomputable def s_own_K : Known := ((Known.nil).cons 163 ctCloneStr s_cloneStr s_cloneStr_e).cons 164 ctCloneLate s_cloneLate s_cloneLate_e
set_option maxHeartbeats 8000000 in
theorem s_own : Sound Tryz.prog 95 ctOwn := by
 have ke := s_own_K.env []
 have kl : Lives s_own_lv := trivial
 refine sound_intro (E := ⟨ti, s_own_K.Γ, []⟩) ke Tryz.func95 Tryz.ntmps95 rfl (rs := [.cell 2 38]) rfl ?_
 intro args os hp
 unfold ctOwn at hp ⊢
 dsimp only at hp ⊢
 split at hp
 ·rename_i a b l
  refine ⟨by simp, fun φ0 w0 => ?_⟩
  obtain ⟨h1, h2, h3⟩ : a.length ≤ 4000000 ∧ b.length ≤ 4000000 ∧ l.length ≤ 4000000 := hp
  refine goh trivial ?_
  exact finh [some 2, some 3, some 4] trivial
 ·simp [no] at hp
noncomputable def Dk.eqv (d e : Dk) : Bool := same d.a e.a && same d.b e.b && same d.l e.l
end Go.Proofs.YtfmjgoeclilcnaaGreatDoor
namespace Go.Proofs.YtfmjgoeclilcnaaGreatDoor
open Go.RowKit
structure inS (xs : List ByteArray) : Prop where
 len : xs.length ≤ 9223372036854775807
 all : ∀ i : Nat, (xs.getD i ET.str.dflt).size ≤ 9223372036854775807
structure inL (xs : List Late) : Prop where
 len : xs.length ≤ 9223372036854775807
 all : ∀ i : Nat, (xs.getD i ET.late.dflt).text.size ≤ 9223372036854775807
theorem drop_map {α : Type} (f : α → Nat) (xs : List α) (i : Nat) (d : α) (h : i < xs.length) : (xs.map f).drop i = f (xs.getD i d) :: (xs.map f).drop (i + 1) := by
 rw [List.drop_eq_getElem_cons (by simpa using h)]
 simp [h]
@[go_sem] def ctSzS : Ct := ⟨false, [[some .str]], fun args os => match args, os with
  | [.one (.isl .str xs), .one (.val (.int .i64 n))], [] => ifp (inS xs ∧ 0 ≤ n ∧ n ≤ 1048576) (vi (szW (wS xs) n))
  | _, _ => no⟩
@[go_sem] def sgSzS (xs : List ByteArray) (n : Int) (i : Nat) : Sg := ⟨[(0, .one (.isl .str xs)), (1, vi n), (5, vi i)], [], []⟩
theorem s_szS_e : EnterOk Tryz.prog 101 := ⟨_, Tryz.func101, rfl, by decide⟩
@[go_sem] def s_szS_lv : List (List Nat) := [[0, 1], [0, 1], [0, 1, 11], [4], [0, 1, 5], [0, 1, 5, 15], [0, 1, 5], [0, 1, 5], [0, 1, 5, 26], [4], [4]]
@[go_sem] noncomputable def s_szS_K : Known := Known.nil
set_option maxHeartbeats 8000000 in
theorem s_szS : Sound Tryz.prog 101 ctSzS := by
 have ke := s_szS_K.env []
 have kl : Lives s_szS_lv := trivial
 refine sound_intro (E := ⟨ti, s_szS_K.Γ, []⟩) ke Tryz.func101 Tryz.ntmps101 rfl (rs := [.tmp 4]) rfl ?_
 intro args os hp
 unfold ctSzS at hp ⊢
 dsimp only at hp ⊢
 split at hp
 ·rename_i xs n
  refine ⟨by simp, fun φ0 w0 => ?_⟩
  obtain ⟨⟨h1, h2⟩, h3, h4⟩ : inS xs ∧ 0 ≤ n ∧ n ≤ 1048576 := hp
  have e1 : IntKind.i64.wrap (n - xs.length) = n - xs.length := wrap_id _ (by omega) (by omega)
  refine goh e1 ?_
  refine W_cnd ?_ ?_ <;> (try simp only [cnd_r]) <;> intro hc
  ·have e2 : szW (wS xs) n = -1 := by unfold wS szW; rw [if_pos hc]
   refine goh trivial ?_
   exact finh [] e2
  ·obtain ⟨R, hR⟩ : ∃ R, szW (wS xs) n = R := ⟨_, rfl⟩
   have e2 : szW ((xs.map (·.size)).drop 0) (n - xs.length) = R := by rw [← hR]; show _ = szW (xs.length :: _) n; conv => rhs; unfold szW
                                                                      rw [if_neg hc]; rfl
   refine goh trivial ?_
   refine W_le (σ' := sgSzS xs (n - xs.length) 0) [] (by
    simp only [go_sem, inj_r, ↓reduceIte, reduceCtorEq, Nat.reduceAdd, Nat.reduceLT, Nat.reduceLeDiff, Nat.reduceEqDiff, Int.reduceEq]
    all_goals (repeat' refine And.intro ?_ ?_) <;> try exact shut7
    ) ?_
   refine W_loop (fun q σ => ∃ (i : Nat) (m : Int), i ≤ xs.length ∧ q = xs.length - i ∧ 0 ≤ m ∧ m ≤ 1048576 ∧ szW ((xs.map (·.size)).drop i) m = R ∧ σ = sgSzS xs m i) xs.length ⟨0, _, by omega, by omega, by omega, by omega, e2, rfl⟩ ?_
   rintro q σ ⟨i, m, hi, rfl, hm1, hm2, hs, rfl⟩
   unfold sgSzS
   refine goh trivial ?_
   refine W_cnd ?_ ?_ <;> (try simp only [cnd_r]) <;> intro hlt
   ·have hli : i < xs.length := by omega
    have h5 := h2 i
    have e3 : IntKind.i64.wrap (m - (xs.getD i ET.str.dflt).size) = m - (xs.getD i ET.str.dflt).size := wrap_id _ (by omega) (by omega)
    rw [drop_map _ _ _ ET.str.dflt hli] at hs
    unfold szW at hs
    refine goh e3 ?_
    refine W_cnd ?_ ?_ <;> (try simp only [cnd_r]) <;> intro hn
    ·rw [if_pos hn] at hs
     refine goh trivial ?_
     exact finh [] (And.intro hR hs)
    ·rw [if_neg hn] at hs
     refine goh trivial ?_
     refine ⟨xs.length - (i + 1), [], sgSzS xs (m - (xs.getD i ET.str.dflt).size) (i + 1), by omega, ?_, i + 1, _, by omega, rfl, by omega, by omega, hs, rfl⟩
     exact leh trivial
   ·rw [List.drop_of_length_le (by simp; omega)] at hs
    refine goh trivial ?_
    exact finh [] (And.intro hR hs)
 ·simp [no, ifp] at hp
@[go_sem] def ctSzS2 : Ct := ⟨false, [[some .str, some .str]], fun args os => match args, os with
  | [.agg [.isl .str a, .isl .str b], .one (.val (.int .i64 n))], [] => ifp (inS a ∧ inS b ∧ 0 ≤ n ∧ n ≤ 1048576) (vi (szW (wS a ++ wS b) n))
  | _, _ => no⟩
@[go_sem] def sgSzS2 (a b : List ByteArray) (n i : Int) : Sg := ⟨[(1, vi n), (2, .one (.ptr 0 0)), (5, vi i)], [some (.cells [.isl .str a, .isl .str b])], []⟩
theorem s_szS2_e : EnterOk Tryz.prog 43 := ⟨_, Tryz.func43, rfl, by decide⟩
@[go_sem] def s_szS2_lv : List (List Nat) := [[1, 2], [1, 2, 5], [1, 2, 5, 7], [1, 2, 5], [1, 2, 5], [1, 2, 5, 16], [4], [4]]
@[go_sem] noncomputable def s_szS2_K : Known := (Known.nil).cons 101 ctSzS s_szS s_szS_e
set_option maxHeartbeats 8000000 in
theorem s_szS2 : Sound Tryz.prog 43 ctSzS2 := by
 have ke := s_szS2_K.env []
 have kl : Lives s_szS2_lv := trivial
 refine sound_intro (E := ⟨ti, s_szS2_K.Γ, []⟩) ke Tryz.func43 Tryz.ntmps43 rfl (rs := [.tmp 4]) rfl ?_
 intro args os hp
 unfold ctSzS2 at hp ⊢
 dsimp only at hp ⊢
 split at hp
 ·rename_i a b n
  refine ⟨by simp, fun φ0 w0 => ?_⟩
  obtain ⟨h1, h2, h3, h4⟩ : inS a ∧ inS b ∧ 0 ≤ n ∧ n ≤ 1048576 := hp
  obtain ⟨R, hR⟩ : ∃ R, szW (wS a ++ wS b) n = R := ⟨_, rfl⟩
  refine goh trivial ?_
  refine W_le (σ' := sgSzS2 a b n 0) [some 0] (by
   simp only [go_sem, inj_r, ↓reduceIte, reduceCtorEq, Nat.reduceAdd, Nat.reduceLT, Nat.reduceLeDiff, Nat.reduceEqDiff, Int.reduceEq]
   all_goals (repeat' refine And.intro ?_ ?_) <;> try exact shut7
   ) ?_
  refine W_loop (fun q σ => ∃ (i m : Int), 0 ≤ m ∧ m ≤ 1048576 ∧ ((i = 0 ∧ q = 2 ∧ szW (wS a ++ wS b) m = R) ∨ (i = 1 ∧ q = 1 ∧ szW (wS b) m = R) ∨ (i = 2 ∧ q = 0 ∧ m = R)) ∧ σ = sgSzS2 a b m i) 2 ⟨0, n, h3, h4, .inl ⟨rfl, rfl, hR⟩, rfl⟩ ?_
  rintro q σ ⟨i, m, hm1, hm2, ⟨rfl, rfl, hs⟩ | ⟨rfl, rfl, hs⟩ | ⟨rfl, rfl, rfl⟩, rfl⟩
  ·unfold sgSzS2
   refine goh trivial ?_
   refine W_cnd ?_ ?_ <;> intro hlit <;> try (cases hlit; done)
   rw [szW_app _ _ _ hm1] at hs
   refine goh trivial ?_
   refine W_cnd ?_ ?_ <;> (try simp only [cnd_r]) <;> intro hn
   ·rw [if_pos hn] at hs
    have hs2 : szW (wS a ++ wS b) n = -1 := by rw [hR, ← hs]
    refine goh trivial ?_
    exact finh [] hs2
   ·rw [if_neg hn] at hs
    have hi := szW_in (wS a) m hm1
    refine goh trivial ?_
    refine ⟨1, [some 0], sgSzS2 a b (szW (wS a) m) 1, by omega, ?_, 1, _, by omega, by omega, .inr (.inl ⟨rfl, rfl, hs⟩), rfl⟩
    exact leh trivial
  ·unfold sgSzS2
   refine goh trivial ?_
   refine W_cnd ?_ ?_ <;> intro hlit <;> try (cases hlit; done)
   refine goh trivial ?_
   refine W_cnd ?_ ?_ <;> (try simp only [cnd_r]) <;> intro hn
   ·have hi := szW_in (wS b) m hm1
    have hs2 : szW (wS a ++ wS b) n = -1 := by rw [hR, ← hs]; omega
    refine goh trivial ?_
    exact finh [] hs2
   ·have hi := szW_in (wS b) m hm1
    refine goh trivial ?_
    refine ⟨0, [some 0], sgSzS2 a b (szW (wS b) m) 2, by omega, ?_, 2, _, by omega, by omega, .inr (.inr ⟨rfl, rfl, hs⟩), rfl⟩
    exact leh trivial
  ·unfold sgSzS2
   refine goh trivial ?_
   refine W_cnd ?_ ?_ <;> intro hlit <;> try (cases hlit; done)
   refine goh trivial ?_
   exact finh [] hR
 ·simp [no, ifp] at hp
@[go_sem] def ctSzLate : Ct := ⟨false, [], fun args os => match args, os with
  | [.agg [.val (.int .i64 x), .val (.int .i64 y), .val (.string t)], .one (.val (.int .i64 n))], [] => ifp (t.size ≤ 9223372036854775807 ∧ 0 ≤ n ∧ n ≤ 1048576) (vi (szW [t.size] n))
  | _, _ => no⟩
theorem s_szLate_e : EnterOk Tryz.prog 102 := ⟨_, Tryz.func102, rfl, by decide⟩
@[go_sem] def s_szLate_lv : List (List Nat) := [[1, 2], [1], [1, 11], [4], [4]]
@[go_sem] noncomputable def s_szLate_K : Known := Known.nil
set_option maxHeartbeats 8000000 in
theorem s_szLate : Sound Tryz.prog 102 ctSzLate := by
 have ke := s_szLate_K.env []
 have kl : Lives s_szLate_lv := trivial
 refine sound_intro (E := ⟨ti, s_szLate_K.Γ, []⟩) ke Tryz.func102 Tryz.ntmps102 rfl (rs := [.tmp 4]) rfl ?_
 intro args os hp
 unfold ctSzLate at hp ⊢
 dsimp only at hp ⊢
 split at hp
 ·rename_i x y t n
  refine ⟨by simp, fun φ0 w0 => ?_⟩
  obtain ⟨h1, h3, h4⟩ : t.size ≤ 9223372036854775807 ∧ 0 ≤ n ∧ n ≤ 1048576 := hp
  have e1 : IntKind.i64.wrap (n - t.size) = n - t.size := wrap_id _ (by omega) (by omega)
  refine goh e1 ?_
  refine W_cnd ?_ ?_ <;> (try simp only [cnd_r]) <;> intro hc
  ·have e2 : szW [t.size] n = -1 := by unfold szW; rw [if_pos hc]
   refine goh trivial ?_
   exact finh [] e2
  ·have e2 : szW [t.size] n = n - t.size := by unfold szW; rw [if_neg hc]; rfl
   refine goh trivial ?_
   exact finh [] e2
 ·simp [no, ifp] at hp
@[go_sem] def ctSzL : Ct := ⟨false, [[some .late]], fun args os => match args, os with
  | [.one (.isl .late xs), .one (.val (.int .i64 n))], [] => ifp (inL xs ∧ 0 ≤ n ∧ n ≤ 1048576) (vi (szW (wL xs) n))
  | _, _ => no⟩
@[go_sem] def sgSzL (xs : List Late) (n : Int) (i : Nat) : Sg := ⟨[(0, .one (.isl .late xs)), (1, vi n), (5, vi i)], [], []⟩
theorem s_szL_e : EnterOk Tryz.prog 44 := ⟨_, Tryz.func44, rfl, by decide⟩
@[go_sem] def s_szL_lv : List (List Nat) := [[0, 1], [0, 1], [0, 1, 11], [4], [0, 1, 5], [0, 1, 5, 15], [0, 1, 5], [0, 1, 5], [0, 1, 5, 25], [4], [4]]
@[go_sem] noncomputable def s_szL_K : Known := (Known.nil).cons 102 ctSzLate s_szLate s_szLate_e
set_option maxHeartbeats 8000000 in
theorem s_szL : Sound Tryz.prog 44 ctSzL := by
 have ke := s_szL_K.env []
 have kl : Lives s_szL_lv := trivial
 refine sound_intro (E := ⟨ti, s_szL_K.Γ, []⟩) ke Tryz.func44 Tryz.ntmps44 rfl (rs := [.tmp 4]) rfl ?_
 intro args os hp
 unfold ctSzL at hp ⊢
 dsimp only at hp ⊢
 split at hp
 ·rename_i xs n
  refine ⟨by simp, fun φ0 w0 => ?_⟩
  obtain ⟨⟨h1, h2⟩, h3, h4⟩ : inL xs ∧ 0 ≤ n ∧ n ≤ 1048576 := hp
  have e1 : IntKind.i64.wrap (n - xs.length) = n - xs.length := wrap_id _ (by omega) (by omega)
  refine goh e1 ?_
  refine W_cnd ?_ ?_ <;> (try simp only [cnd_r]) <;> intro hc
  ·have e2 : szW (wL xs) n = -1 := by unfold wL szW; rw [if_pos hc]
   refine goh trivial ?_
   exact finh [] e2
  ·obtain ⟨R, hR⟩ : ∃ R, szW (wL xs) n = R := ⟨_, rfl⟩
   have e2 : szW ((xs.map (·.text.size)).drop 0) (n - xs.length) = R := by rw [← hR]; show _ = szW (xs.length :: _) n; conv => rhs; unfold szW
                                                                           rw [if_neg hc]; rfl
   refine goh trivial ?_
   refine W_le (σ' := sgSzL xs (n - xs.length) 0) [] (by
    simp only [go_sem, inj_r, ↓reduceIte, reduceCtorEq, Nat.reduceAdd, Nat.reduceLT, Nat.reduceLeDiff, Nat.reduceEqDiff, Int.reduceEq]
    all_goals (repeat' refine And.intro ?_ ?_) <;> try exact shut7
    ) ?_
   refine W_loop (fun q σ => ∃ (i : Nat) (m : Int), i ≤ xs.length ∧ q = xs.length - i ∧ 0 ≤ m ∧ m ≤ 1048576 ∧ szW ((xs.map (·.text.size)).drop i) m = R ∧ σ = sgSzL xs m i) xs.length ⟨0, _, by omega, by omega, by omega, by omega, e2, rfl⟩ ?_
   rintro q σ ⟨i, m, hi, rfl, hm1, hm2, hs, rfl⟩
   unfold sgSzL
   refine goh trivial ?_
   refine W_cnd ?_ ?_ <;> (try simp only [cnd_r]) <;> intro hlt
   ·have hli : i < xs.length := by omega
    have h5 := h2 i
    rw [drop_map _ _ _ ET.late.dflt hli] at hs
    have e3 := szW_app [(xs.getD i ET.late.dflt).text.size] ((xs.map (·.text.size)).drop (i + 1)) m hm1
    rw [List.singleton_append, hs] at e3
    have hin := szW_in [(xs.getD i ET.late.dflt).text.size] m hm1
    refine goh trivial ?_
    refine W_cnd ?_ ?_ <;> (try simp only [cnd_r]) <;> intro hn
    ·rw [if_pos hn] at e3
     refine goh trivial ?_
     exact finh [] (And.intro hR e3)
    ·rw [if_neg hn] at e3
     refine goh trivial ?_
     refine ⟨xs.length - (i + 1), [], sgSzL xs (szW [(xs.getD i ET.late.dflt).text.size] m) (i + 1), by omega, ?_, i + 1, _, by omega, rfl, by omega, by omega, e3.symm, rfl⟩
     exact leh trivial
   ·rw [List.drop_of_length_le (by simp; omega)] at hs
    refine goh trivial ?_
    exact finh [] (And.intro hR hs)
 ·simp [no, ifp] at hp
def Dk.wt (d : Dk) : List Nat := (wS d.a ++ wS d.b) ++ wL d.l
structure Dk.inn (d : Dk) : Prop where
 a : inS d.a
 b : inS d.b
 l : inL d.l
@[go_sem] def ctSzDisk : Ct := ⟨false, [[some .str, some .str, some .late]], fun args os => match args, os with
  | [.agg [.isl .str a, .isl .str b, .isl .late l], .one (.val (.int .i64 n))], [] => ifp ((Dk.mk a b l).inn ∧ 0 ≤ n ∧ n ≤ 1048576) (vi (szW (Dk.mk a b l).wt n))
  | _, _ => no⟩
theorem s_szDisk_e : EnterOk Tryz.prog 14 := ⟨_, Tryz.func14, rfl, by decide⟩
@[go_sem] def s_szDisk_lv : List (List Nat) := [[1, 2], [1, 2], [1, 2, 10], [4], [1], [1, 16], [4], [4]]
@[go_sem] noncomputable def s_szDisk_K : Known := ((Known.nil).cons 43 ctSzS2 s_szS2 s_szS2_e).cons 44 ctSzL s_szL s_szL_e
set_option maxHeartbeats 8000000 in
theorem s_szDisk : Sound Tryz.prog 14 ctSzDisk := by
 have ke := s_szDisk_K.env []
 have kl : Lives s_szDisk_lv := trivial
 refine sound_intro (E := ⟨ti, s_szDisk_K.Γ, []⟩) ke Tryz.func14 Tryz.ntmps14 rfl (rs := [.tmp 4]) rfl ?_
 intro args os hp
 unfold ctSzDisk at hp ⊢
 dsimp only at hp ⊢
 split at hp
 ·rename_i a b l n
  refine ⟨by simp, fun φ0 w0 => ?_⟩
  obtain ⟨⟨h1, h2, h3⟩, h4, h5⟩ : (Dk.mk a b l).inn ∧ 0 ≤ n ∧ n ≤ 1048576 := hp
  simp only at h1 h2 h3
  have e1 := szW_app (wS a ++ wS b) (wL l) n h4
  have e2 : szW (Dk.mk a b l).wt n = szW ((wS a ++ wS b) ++ wL l) n := rfl
  have i1 := szW_in (wS a ++ wS b) n h4
  refine goh trivial ?_
  refine W_cnd ?_ ?_ <;> (try simp only [cnd_r]) <;> intro hc
  ·rw [if_pos hc] at e1
   refine goh trivial ?_
   exact finh [] (And.intro e2 e1)
  ·rw [if_neg hc] at e1
   have i2 := szW_in (wL l) (szW (wS a ++ wS b) n) (by omega)
   refine goh trivial ?_
   refine W_cnd ?_ ?_ <;> (try simp only [cnd_r]) <;> intro hd
   ·have e3 : szW ((wS a ++ wS b) ++ wL l) n = -1 := by omega
    refine goh trivial ?_
    exact finh [] (And.intro e2 e3)
   ·refine goh trivial ?_
    exact finh [] (And.intro e2 e1)
 ·simp [no, ifp] at hp
theorem wt_small {d : Dk} {n : Int} (h : 0 ≤ szW d.wt n) : d.a.length ≤ n ∧ d.b.length ≤ n ∧ d.l.length ≤ n :=
 ⟨szW_mem h (by simp [Dk.wt, wS]), szW_mem h (by simp [Dk.wt, wS]), szW_mem h (by simp [Dk.wt, wL])⟩
end Go.Proofs.YtfmjgoeclilcnaaGreatDoor
