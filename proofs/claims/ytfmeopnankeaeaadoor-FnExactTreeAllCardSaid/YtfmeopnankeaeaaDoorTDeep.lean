/- Structs and arrays of plain things, compared cell by cell. -/
import Derived.Test.YtfmeopnankeaeaaDoorTOp
import Derived.ChangeKeysEq
set_option linter.unusedSimpArgs false
set_option linter.unusedVariables false
set_option linter.unusedSectionVars false
namespace Go.Proofs.YtfmeopnankeaeaaDoor
open Go.ChangeShapes Go.WideShapes

def EK.tk : EK → TK
  | .int k => .int k
  | .str => .str
  | .bool => .bool
def kOk : List EK → List Value → Bool
  | [], [] => true
  | .int k :: ks, .int k' _ :: vs => decide (k' = k) && kOk ks vs
  | .str :: ks, .string _ :: vs => kOk ks vs
  | .bool :: ks, .bool _ :: vs => kOk ks vs
  | _, _ => false
theorem kOk_cons {k : EK} {ks : List EK} {vs : List Value} (h : kOk (k :: ks) vs = true) : ∃ v r, vs = v :: r ∧ kOk [k] [v] = true ∧ kOk ks r = true := by
  cases vs with
  | nil => cases k <;> simp [kOk] at h
  | cons v r =>
    refine ⟨v, r, rfl, ?_⟩
    cases k <;> cases v <;> simp [kOk] at h ⊢ <;> exact h
theorem kOk_nil {vs : List Value} (h : kOk [] vs = true) : vs = [] := by
  cases vs with
  | nil => rfl
  | cons v r => simp [kOk] at h
theorem kOk_len : ∀ {ks : List EK} {vs : List Value}, kOk ks vs = true → vs.length = ks.length
  | [], vs, h => by rw [kOk_nil h]; rfl
  | k :: ks, vs, h => by
    obtain ⟨v, r, rfl, -, h2⟩ := kOk_cons h
    simp [kOk_len h2]
theorem kOk_split : ∀ (s ss : List EK) (cs : List Value), kOk (s ++ ss) cs = true → kOk s (cs.take s.length) = true ∧ kOk ss (cs.drop s.length) = true
  | [], ss, cs, h => ⟨rfl, h⟩
  | k :: s, ss, cs, h => by
    rw [List.cons_append] at h
    obtain ⟨v, r, rfl, h1, h2⟩ := kOk_cons h
    obtain ⟨h3, h4⟩ := kOk_split s ss r h2
    refine ⟨?_, by simpa using h4⟩
    rw [List.length_cons, List.take_succ_cons]
    cases k <;> cases v <;> simp [kOk] at h1 ⊢
    · exact ⟨h1, h3⟩
    · exact h3
    · exact h3
theorem valsEq_app : ∀ (s : List EK) (a b a' b' : List Value), kOk s a = true → kOk s b = true → valsEq (a ++ a') (b ++ b') = (valsEq a b && valsEq a' b')
  | [], a, b, a', b', h1, h2 => by rw [kOk_nil h1, kOk_nil h2]; rfl
  | k :: s, a, b, a', b', h1, h2 => by
    obtain ⟨v, r, rfl, h3, h4⟩ := kOk_cons h1
    obtain ⟨u, q, rfl, h5, h6⟩ := kOk_cons h2
    have ih := valsEq_app s r q a' b' h4 h6
    cases k <;> cases v <;> simp [kOk] at h3 <;> cases u <;> simp [kOk] at h5 <;> simp only [List.cons_append, valsEq, ih, Bool.and_assoc]
/-- The kinds of the cells of a plain type, all that its comparison wants seen to. -/
def shapeK (P : Program) : Nat → TypeId → Option (List EK)
  | 0, _ => none
  | n + 1, t => match P.underlying t with
    | some .bool => if P.cellsOf t = 1 then some [.bool] else none
    | some (.int k) => if P.cellsOf t = 1 then some [.int k] else none
    | some .string => if P.cellsOf t = 1 then some [.str] else none
    | some (.struct fs) => if (fs.toList.all (fun f => f.name != "_") && !P.stoodInHeld t) = true then (match fieldsK (shapeK P n) 0 fs.toList with
      | some ss => if ss.length = P.cellsOf t then some ss else none
      | none => none) else none
    | some (.array m e) => match shapeK P n e with
      | some s => if s.length = P.cellsOf e ∧ m * s.length = P.cellsOf t then some ((List.replicate m s).flatten) else none
      | none => none
    | _ => none
theorem shapeK_len {P : Program} : ∀ (n : Nat) (t : TypeId) (ks : List EK), shapeK P n t = some ks → ks.length = P.cellsOf t
  | 0, t, ks, h => by simp [shapeK] at h
  | n + 1, t, ks, h => by
    unfold shapeK at h
    split at h
    · split at h <;> simp_all
      rw [← h]; rfl
    · split at h <;> simp_all
      rw [← h]; rfl
    · split at h <;> simp_all
      rw [← h]; rfl
    · split at h
      · split at h
        · split at h
          · rename_i hl
            simp only [Option.some.injEq] at h; subst h; exact hl
          · cases h
        · cases h
      · cases h
    · split at h
      · split at h
        · rename_i hl
          simp only [Option.some.injEq] at h; subst h
          rw [List.length_flatten]; simp; exact hl.2
        · cases h
      · cases h
    · cases h
section
variable {P : Program} (w : World)
theorem run_part_k {n : Nat} {e : TypeId} {ks : List EK} (hs : shapeK P n e = some ks) {xs : Array Value} {off : Nat} (hk : kOk ks ((xs.toList.drop off).take (P.cellsOf e)) = true) :
    ∃ a, (Go.part e xs off).run P w = .ok a w ∧ a.formed P e = true ∧ a.cells.toList = (xs.toList.drop off).take (P.cellsOf e) := by
  cases n with
  | zero => simp [shapeK] at hs
  | succ n =>
    have hlen0 := shapeK_len _ _ _ hs
    have hlen : ((xs.toList.drop off).take (P.cellsOf e)).length = P.cellsOf e := by rw [kOk_len hk, hlen0]
    have agg : (∃ n e', P.underlying e = some (.array n e')) ∨ (∃ fs, P.underlying e = some (.struct fs)) → ∃ a, (Go.part e xs off).run P w = .ok a w ∧ a.formed P e = true ∧ a.cells.toList = (xs.toList.drop off).take (P.cellsOf e) := by
      intro hkd
      have hl : (xs.extract off (off + P.cellsOf e)).toList = (xs.toList.drop off).take (P.cellsOf e) := by
        rw [Array.toList_extract]
        simp [List.extract]
      have hsz : (xs.extract off (off + P.cellsOf e)).size = P.cellsOf e := by rw [← Array.length_toList, hl, hlen]
      rcases hkd with ⟨n, e', hu⟩ | ⟨fs, hu⟩
      · obtain ⟨i, hi⟩ := info_of_underlying hu
        exact ⟨.agg (xs.extract off (off + P.cellsOf e)), by simp [Go.part, isAgg, run_underlying hu, run_sizeOf w hi], by simp [Value.formed, hu, hsz], hl⟩
      · obtain ⟨i, hi⟩ := info_of_underlying hu
        exact ⟨.agg (xs.extract off (off + P.cellsOf e)), by simp [Go.part, isAgg, run_underlying hu, run_sizeOf w hi], by simp [Value.formed, hu, hsz], hl⟩
    unfold shapeK at hs
    split at hs
    · rename_i hu
      split at hs
      · simp only [Option.some.injEq] at hs; subst hs
        obtain ⟨v, r, hv, h1, h2⟩ := kOk_cons hk
        rw [kOk_nil h2] at hv
        rw [hv]
        refine ⟨v, run_part_plain w (by simp [Program.plainKey, hu]) (getElem?_of_chunk hv), ?_, ?_⟩
        · cases v <;> simp [kOk] at h1; simp [Value.formed, hu]
        · cases v <;> simp [kOk] at h1; rfl
      · cases hs
    · rename_i k hu
      split at hs
      · simp only [Option.some.injEq] at hs; subst hs
        obtain ⟨v, r, hv, h1, h2⟩ := kOk_cons hk
        rw [kOk_nil h2] at hv
        rw [hv]
        refine ⟨v, run_part_plain w (by simp [Program.plainKey, hu]) (getElem?_of_chunk hv), ?_, ?_⟩
        · cases v <;> simp [kOk] at h1; simp [Value.formed, hu, h1]
        · cases v <;> simp [kOk] at h1; rfl
      · cases hs
    · rename_i hu
      split at hs
      · simp only [Option.some.injEq] at hs; subst hs
        obtain ⟨v, r, hv, h1, h2⟩ := kOk_cons hk
        rw [kOk_nil h2] at hv
        rw [hv]
        refine ⟨v, run_part_plain w (by simp [Program.plainKey, hu]) (getElem?_of_chunk hv), ?_, ?_⟩
        · cases v <;> simp [kOk] at h1; simp [Value.formed, hu]
        · cases v <;> simp [kOk] at h1; rfl
      · cases hs
    · rename_i fs hu; exact agg (.inr ⟨fs, hu⟩)
    · rename_i m e' hu; exact agg (.inl ⟨m, e', hu⟩)
    · cases hs
def EqAtK (P : Program) (dd : Nat) (e : TypeId) (ks : List EK) : Prop :=
  ∀ (w : World) (a b : Value), a.formed P e = true → b.formed P e = true → kOk ks a.cells.toList = true → kOk ks b.cells.toList = true →
    (Op.equalIn dd e a b).run P w = .ok (valsEq a.cells.toList b.cells.toList) w
theorem run_step_k {n : Nat} {e : TypeId} {ks : List EK} (hs : shapeK P n e = some ks) {dd : Nat} (IH : EqAtK P dd e ks) {off : Nat} {xs ys : Array Value}
    (ha : kOk ks ((xs.toList.drop off).take (P.cellsOf e)) = true) (hb : kOk ks ((ys.toList.drop off).take (P.cellsOf e)) = true) :
    ∃ a b, (Go.part e xs off).run P w = .ok a w ∧ (Go.part e ys off).run P w = .ok b w ∧ (Op.equalIn dd e a b).run P w = .ok (valsEq ((xs.toList.drop off).take (P.cellsOf e)) ((ys.toList.drop off).take (P.cellsOf e))) w := by
  obtain ⟨a, p1, f1, c1⟩ := run_part_k w hs ha
  obtain ⟨b, p2, f2, c2⟩ := run_part_k w hs hb
  have := IH w a b f1 f2 (by rw [c1]; exact ha) (by rw [c2]; exact hb)
  rw [c1, c2] at this
  exact ⟨a, b, p1, p2, this⟩
theorem run_eqFields_k {n : Nat} (dd : Nat) (xs ys : Array Value) : ∀ (fs : List Field) (off : Nat) (ss : List EK), fieldsK (shapeK P n) off fs = some ss →
    (∀ f ∈ fs, f.name ≠ "_" ∧ ∀ s, shapeK P n f.type = some s → EqAtK P dd f.type s) → kOk ss ((xs.toList.drop off).take ss.length) = true → kOk ss ((ys.toList.drop off).take ss.length) = true →
    (Op.eqFields dd xs ys fs).run P w = .ok (valsEq ((xs.toList.drop off).take ss.length) ((ys.toList.drop off).take ss.length)) w
  | [], off, ss, h, _, hx, hy => by
    simp only [fieldsK, Option.some.injEq] at h
    subst h
    simp [Op.eqFields, valsEq]
  | f :: r, off, ss, h, hf, hx, hy => by
    simp only [fieldsK] at h
    split at h
    · rename_i s hs
      split at h
      · rename_i ts hts
        split at h
        · rename_i ho
          simp only [Option.some.injEq] at h
          subst h
          obtain ⟨hn, hq⟩ := hf f (by simp)
          have hl := shapeK_len _ _ _ hs
          have sx : (xs.toList.drop off).take (s ++ ts).length = (xs.toList.drop off).take s.length ++ (xs.toList.drop (off + s.length)).take ts.length := by
            rw [List.length_append, List.take_add, List.drop_drop]
          have sy : (ys.toList.drop off).take (s ++ ts).length = (ys.toList.drop off).take s.length ++ (ys.toList.drop (off + s.length)).take ts.length := by
            rw [List.length_append, List.take_add, List.drop_drop]
          have lx := kOk_len hx
          have ly := kOk_len hy
          obtain ⟨hx1, hx2⟩ := kOk_split s ts _ hx
          obtain ⟨hy1, hy2⟩ := kOk_split s ts _ hy
          have tx : ((xs.toList.drop off).take (s ++ ts).length).take s.length = (xs.toList.drop off).take s.length := by
            rw [List.take_take]; congr 1; simp
          have ty : ((ys.toList.drop off).take (s ++ ts).length).take s.length = (ys.toList.drop off).take s.length := by
            rw [List.take_take]; congr 1; simp
          have ux : ((xs.toList.drop off).take (s ++ ts).length).drop s.length = (xs.toList.drop (off + s.length)).take ts.length := by
            rw [List.drop_take, List.drop_drop]; congr 1; simp
          have uy : ((ys.toList.drop off).take (s ++ ts).length).drop s.length = (ys.toList.drop (off + s.length)).take ts.length := by
            rw [List.drop_take, List.drop_drop]; congr 1; simp
          rw [tx] at hx1
          rw [ty] at hy1
          rw [ux] at hx2
          rw [uy] at hy2
          rw [sx, sy, valsEq_app s _ _ _ _ hx1 hy1]
          have ih := run_eqFields_k dd xs ys r (off + s.length) ts hts (fun g hg => hf g (by simp [hg])) hx2 hy2
          rw [hl] at hx1 hy1
          obtain ⟨a, b, p1, p2, p3⟩ := run_step_k w hs (hq s hs) hx1 hy1
          rw [← hl] at p3
          rw [← ho] at p1 p2 p3 ⊢
          simp only [Op.eqFields, hn, ne_eq, not_false_eq_true, if_true, Sem.run_bind, p1, p2, p3, Result.andThen_ok]
          rw [← ho] at ih
          cases valsEq (List.take s.length (List.drop f.offset xs.toList)) (List.take s.length (List.drop f.offset ys.toList))
          · simp
          · simpa using ih
        · cases h
      · cases h
    · cases h
theorem run_eqItems_k {n : Nat} (dd : Nat) {e : TypeId} {s : List EK} (hs : shapeK P n e = some s) (IH : EqAtK P dd e s) (xs ys : Array Value) : ∀ (m j : Nat),
    kOk ((List.replicate m s).flatten) ((xs.toList.drop (j * P.cellsOf e)).take (m * P.cellsOf e)) = true → kOk ((List.replicate m s).flatten) ((ys.toList.drop (j * P.cellsOf e)).take (m * P.cellsOf e)) = true →
    (Op.eqItems dd e (P.cellsOf e) xs ys (List.range' j m)).run P w = .ok (valsEq ((xs.toList.drop (j * P.cellsOf e)).take (m * P.cellsOf e)) ((ys.toList.drop (j * P.cellsOf e)).take (m * P.cellsOf e))) w
  | 0, j, hx, hy => by simp [Op.eqItems, valsEq]
  | m + 1, j, hx, hy => by
    have hl := shapeK_len _ _ _ hs
    rw [List.replicate_succ, List.flatten_cons] at hx hy
    have e1 : (m + 1) * P.cellsOf e = P.cellsOf e + m * P.cellsOf e := by rw [Nat.add_mul, Nat.one_mul, Nat.add_comm]
    have e2 : (j + 1) * P.cellsOf e = j * P.cellsOf e + P.cellsOf e := by rw [Nat.add_mul, Nat.one_mul]
    obtain ⟨hx1, hx2⟩ := kOk_split s _ _ hx
    obtain ⟨hy1, hy2⟩ := kOk_split s _ _ hy
    have cut : ∀ zs : List Value, (zs.take ((m + 1) * P.cellsOf e)).take s.length = zs.take (P.cellsOf e) ∧ (zs.take ((m + 1) * P.cellsOf e)).drop s.length = (zs.drop (P.cellsOf e)).take (m * P.cellsOf e) ∧ zs.take ((m + 1) * P.cellsOf e) = zs.take (P.cellsOf e) ++ (zs.drop (P.cellsOf e)).take (m * P.cellsOf e) := by
      intro zs
      rw [e1, hl]
      refine ⟨?_, ?_, by rw [List.take_add]⟩
      · rw [List.take_take]; congr 1; omega
      · rw [List.drop_take]; congr 1; omega
    rw [(cut _).1] at hx1 hy1
    rw [(cut _).2.1] at hx2 hy2
    rw [List.drop_drop, ← e2] at hx2 hy2
    have ih := run_eqItems_k dd hs IH xs ys m (j + 1) hx2 hy2
    obtain ⟨a, b, p1, p2, p3⟩ := run_step_k w hs IH hx1 hy1
    rw [(cut (xs.toList.drop (j * P.cellsOf e))).2.2, (cut (ys.toList.drop (j * P.cellsOf e))).2.2, valsEq_app s _ _ _ _ hx1 hy1, List.drop_drop, List.drop_drop, ← e2]
    rw [List.range'_succ]
    simp only [Op.eqItems, Sem.run_bind, p1, p2, p3, Result.andThen_ok]
    cases valsEq (List.take (P.cellsOf e) (List.drop (j * P.cellsOf e) xs.toList)) (List.take (P.cellsOf e) (List.drop (j * P.cellsOf e) ys.toList))
    · simp
    · simpa using ih
theorem run_equalIn_k (d : Nat) : ∀ (n : Nat) (t : TypeId) (ks : List EK), shapeK P n t = some ks → EqAtK P (d + n) t ks
  | 0, t, ks, h => by simp [shapeK] at h
  | n + 1, t, ks, h => by
    intro w a b fa fb ka kb
    have hlen := shapeK_len _ _ _ h
    unfold shapeK at h
    split at h
    · rename_i hu
      split at h
      · simp only [Option.some.injEq] at h; subst h
        cases a <;> (try simp [Value.formed, hu] at fa) <;> (try simp [Value.cells, kOk] at ka)
        cases b <;> (try simp [Value.formed, hu] at fb) <;> (try simp [Value.cells, kOk] at kb)
        rw [show d + (n + 1) = (d + n) + 1 from rfl, run_equalIn_bool' w (d + n) t _ _ hu]
        simp [Value.cells, valsEq]
      · cases h
    · rename_i k hu
      split at h
      · simp only [Option.some.injEq] at h; subst h
        cases a <;> (try simp [Value.formed, hu] at fa) <;> (try simp [Value.cells, kOk] at ka)
        cases b <;> (try simp [Value.formed, hu] at fb) <;> (try simp [Value.cells, kOk] at kb)
        subst ka; subst kb
        rw [show d + (n + 1) = (d + n) + 1 from rfl, run_equalIn_int w (d + n) t _ _ _ _ hu]
        simp [Value.cells, valsEq]
      · cases h
    · rename_i hu
      split at h
      · simp only [Option.some.injEq] at h; subst h
        cases a <;> (try simp [Value.formed, hu] at fa) <;> (try simp [Value.cells, kOk] at ka)
        cases b <;> (try simp [Value.formed, hu] at fb) <;> (try simp [Value.cells, kOk] at kb)
        rw [show d + (n + 1) = (d + n) + 1 from rfl, run_equalIn_string w (d + n) t _ _ hu]
        simp [Value.cells, valsEq]
      · cases h
    · rename_i fs hu
      split at h
      · rename_i hb
        simp only [Bool.and_eq_true, Bool.not_eq_true'] at hb
        split at h
        · rename_i ss hss
          split at h
          · simp only [Option.some.injEq] at h; subst h
            cases a <;> simp only [Value.formed, hu, Bool.false_eq_true] at fa
            cases b <;> simp only [Value.formed, hu, Bool.false_eq_true] at fb
            rename_i xs ys
            have hfs : P.fieldsOf t = fs := by simp [Program.fieldsOf, hu]
            have hcx : (Value.agg xs).cells.toList = xs.toList := rfl
            have hcy : (Value.agg ys).cells.toList = ys.toList := rfl
            rw [hcx] at ka ⊢
            rw [hcy] at kb ⊢
            have lx := kOk_len ka
            have ly := kOk_len kb
            have ex : (xs.toList.drop 0).take ss.length = xs.toList := by rw [List.drop_zero, List.take_of_length_le (by omega)]
            have ey : (ys.toList.drop 0).take ss.length = ys.toList := by rw [List.drop_zero, List.take_of_length_le (by omega)]
            have := run_eqFields_k w (d + n) xs ys fs.toList 0 ss hss (fun f hf => by
              have := List.all_eq_true.1 hb.1 f hf
              exact ⟨by simpa using this, fun s hs => run_equalIn_k d n f.type s hs⟩) (by rw [ex]; exact ka) (by rw [ey]; exact kb)
            rw [ex, ey] at this
            rw [show d + (n + 1) = (d + n) + 1 from rfl, run_equalIn_struct w (d + n) t xs ys (by rw [hfs]; exact hu) hb.2, hfs]
            exact this
          · cases h
        · cases h
      · cases h
    · rename_i m e hu
      split at h
      · rename_i s hs
        split at h
        · rename_i hc
          simp only [Option.some.injEq] at h; subst h
          cases a <;> simp only [Value.formed, hu, Bool.false_eq_true] at fa
          cases b <;> simp only [Value.formed, hu, Bool.false_eq_true] at fb
          rename_i xs ys
          obtain ⟨i, hi⟩ : ∃ i, P.info? e = some i := by
            cases n with
            | zero => simp [shapeK] at hs
            | succ n =>
              cases hue : P.underlying e with
              | none => simp [shapeK, hue] at hs
              | some d => exact info_of_underlying hue
          have hcx : (Value.agg xs).cells.toList = xs.toList := rfl
          have hcy : (Value.agg ys).cells.toList = ys.toList := rfl
          rw [hcx] at ka ⊢
          rw [hcy] at kb ⊢
          have lx := kOk_len ka
          have ly := kOk_len kb
          have l1 : m * P.cellsOf e = P.cellsOf t := by rw [← hc.1]; exact hc.2
          have ex : (xs.toList.drop (0 * P.cellsOf e)).take (m * P.cellsOf e) = xs.toList := by rw [Nat.zero_mul, List.drop_zero, List.take_of_length_le (by omega)]
          have ey : (ys.toList.drop (0 * P.cellsOf e)).take (m * P.cellsOf e) = ys.toList := by rw [Nat.zero_mul, List.drop_zero, List.take_of_length_le (by omega)]
          have := run_eqItems_k w (d + n) hs (run_equalIn_k d n e s hs) xs ys m 0 (by rw [ex]; exact ka) (by rw [ey]; exact kb)
          rw [ex, ey] at this
          rw [show d + (n + 1) = (d + n) + 1 from rfl, run_equalIn_array w (d + n) xs ys hu hi, List.range_eq_range']
          exact this
        · cases h
      · cases h
    · cases h
end
theorem kinds_kOk : ∀ (ks : List EK) (vs : List Value), kindsOk (ks.map EK.tk) vs = true → kOk ks vs = true
  | [], [], _ => rfl
  | [], v :: vs, h => by simp [kindsOk] at h
  | k :: ks, [], h => by cases k <;> simp [kindsOk, EK.tk] at h
  | k :: ks, v :: vs, h => by
    cases k with
    | int q => cases v with
      | int q' n =>
        cases q <;> cases q' <;> simp [kindsOk, EK.tk] at h
        simpa [kOk] using kinds_kOk ks vs h
      | _ => cases q <;> simp [kindsOk, EK.tk] at h
    | str => cases v <;> simp [kindsOk, EK.tk] at h; simpa [kOk] using kinds_kOk ks vs h
    | bool => cases v <;> simp [kindsOk, EK.tk] at h; simpa [kOk] using kinds_kOk ks vs h
/-- Two values of a plain struct are compared cell by cell. -/
theorem eqOk_deep {P : Program} {t : TypeId} {tks : List TK} (ks : List EK) (hks : tks = ks.map EK.tk) (hs : shapeK P 8 t = some ks) (hagg : (match P.underlying t with | some (.struct _) => true | _ => false) = true) (hg : P.eqGuardType P.depth t = false) : EqOk P t tks := by
  subst hks
  refine ⟨hg, fun w xs ys hx hy => ?_⟩
  have kx := kinds_kOk ks xs hx
  have ky := kinds_kOk ks ys hy
  have hl := shapeK_len _ _ _ hs
  have fx : ∀ zs : List Value, kOk ks zs = true → (Value.agg zs.toArray).formed P t = true := fun zs hz => by
    have := kOk_len hz
    split at hagg
    · rename_i fs hu
      simp [Value.formed, hu]; omega
    · cases hagg
  exact run_equalIn_k 9992 8 t ks hs w (.agg xs.toArray) (.agg ys.toArray) (fx xs kx) (fx ys ky) kx ky
end Go.Proofs.YtfmeopnankeaeaaDoor
