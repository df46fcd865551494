/- One operation, whichever it is. -/
import Derived.Test.YtjdpppbegjnpaaaTCall2
set_option linter.unusedSimpArgs false
set_option linter.unusedVariables false
set_option linter.unusedSectionVars false
namespace Go.Proofs.Ytjdpppbegjnpaaa
open Go.RowKit

def EnterOk (P : Program) (g : FuncId) : Prop := ∃ fn, P.funcs[g]? = some fn ∧ fn.body.isSome = true ∧ (fn.name == "runtime.NumGoroutine") = false
structure EnvOk (P : Program) (E : Env) : Prop where
  ti : ∀ t, ((E.ti t).k ≠ .other ∨ 0 < (E.ti t).sz) → TIok P t (E.ti t)
  fn : ∀ g ct, E.Γ g = some ct → Sound P g ct ∧ EnterOk P g

/-- What an operation does, as the machine's rule wants it. -/
def OpDoes (P : Program) (o : Oper) (a : Act) (φ : Phi) (T : Tab) (w : World) (n : Nat) (s : St) : Prop :=
  ∀ (next : Act → World → Prop) (Q : Exit → Act → World → Prop),
    (∀ r w' φ', VR φ' (newT T n s) w' s.v r → Rel φ' (newT T n s) w' → Ge φ T w φ' (newT T n s) w' → Dom φ φ' n s.news.length → Kept φ T (fun k => ∃ o, (k, o) ∈ s.upd) w w' → next (a.put o.dst r) w') →
    o.wp P a w next Q

def SlR (φ : Phi) (T : Tab) (w : World) (sl : List (Nat × TV)) (tmps : Array Value) : Prop := ∀ i, VR φ T w (look sl i) (tmps.getD i undef)

theorem constV_R (φ : Phi) (T : Tab) (w : World) (v : Value) : VR φ T w (constV v) v := by
  unfold constV
  split
  · rename_i cs
    simp only [VR]
    refine ⟨cs, rfl, All2.of_get (by simp) fun i a b ha hb => ?_⟩
    simp only [List.getElem?_map, Option.map_eq_some_iff] at ha
    obtain ⟨u, hu, rfl⟩ := ha
    rw [hu] at hb; cases hb; rfl
  · simp only [VR]; rfl
/-- The slots that some operands name. -/
def SlOn (φ : Phi) (T : Tab) (w : World) (sl : List (Nat × TV)) (tmps : Array Value) (xs : List Operand) : Prop := ∀ t, Operand.tmp t ∈ xs → VR φ T w (look sl t) (tmps.getD t undef)
theorem SlOn.sub {φ : Phi} {T : Tab} {w : World} {sl : List (Nat × TV)} {tmps : Array Value} {xs ys : List Operand} (h : SlOn φ T w sl tmps xs) (hs : ∀ y ∈ ys, y ∈ xs) : SlOn φ T w sl tmps ys := fun t ht => h t (hs _ ht)
theorem opd_R {φ : Phi} {T : Tab} {w : World} {sl : List (Nat × TV)} {a : Act} {x : Operand} (h : SlOn φ T w sl a.tmps [x]) (hu : under true sl x) : VR φ T w (opd sl x) (a.eval x) := by
  cases x with
  | tmp t =>
    simp only [opd, Act.eval]
    have := h t (by simp)
    unfold under at hu
    simp only at hu
    cases hl : look sl t with
    | gd c u =>
      rw [hl] at this hu
      simp only [VR] at this
      simp only [strip]
      exact this.1 (hu trivial)
    | one c => rw [hl] at this; exact this
    | agg cs => rw [hl] at this; exact this
    | tup l => rw [hl] at this; exact this
  | const v => exact constV_R φ T w v
  | global g => simp only [opd, VR]; trivial
  | func f => simp only [opd, VR]; exact ⟨#[], rfl, trivial⟩
theorem opds_R {φ : Phi} {T : Tab} {w : World} {sl : List (Nat × TV)} {a : Act} : ∀ {xs : List Operand}, SlOn φ T w sl a.tmps xs → underAll true sl xs → VRs φ T w (xs.map (opd sl)) (xs.map a.eval)
  | [], _, _ => by simp [VRs]
  | x :: xs, h, hu => by simp only [List.map_cons, VRs]; exact ⟨opd_R (h.sub (by simp)) hu.1, opds_R (h.sub fun y hy => by simp [hy]) hu.2⟩
theorem underAll_mem {g : Bool} {sl : List (Nat × TV)} : ∀ {xs : List Operand}, underAll g sl xs → ∀ x ∈ xs, under g sl x
  | [], _, x, h => by simp at h
  | y :: ys, hu, x, h => by
    rcases List.mem_cons.1 h with rfl | h
    · exact hu.1
    · exact underAll_mem hu.2 x h
theorem VRs.append {φ : Phi} {T : Tab} {w : World} : ∀ {xs ys : List TV} {us vs : List Value}, VRs φ T w xs us → VRs φ T w ys vs → VRs φ T w (xs ++ ys) (us ++ vs)
  | [], _, [], _, _, h => h
  | _ :: _, _, _ :: _, _, h, k => by simp only [VRs, List.cons_append] at h ⊢; exact ⟨h.1, VRs.append h.2 k⟩
  | [], _, _ :: _, _, h, _ => by simp [VRs] at h
  | _ :: _, _, [], _, h, _ => by simp [VRs] at h

section
variable {P : Program} {o : Oper} {a : Act} {φ : Phi} {T : Tab} {w : World} {n : Nat} {s : St}

theorem does_value {m : Sem Value} (he : (execOp a.eval o).run P w = (m.run P w).andThen fun r w' => .ok (.value r) w') (hr : Ran P φ T w n s m) : OpDoes P o a φ T w n s := by
  intro next Q h
  obtain ⟨r, w', φ', h1, h2, h3, h4, h5, h6⟩ := hr
  unfold Oper.wp
  rw [he, h1]
  exact h r w' φ' h2 h3 h4 h5 h6
theorem does_unit {m : Sem Unit} (hv : s.v = .one .any) (he : (execOp a.eval o).run P w = (m.run P w).andThen fun _ w' => .ok .skip w') (hr : RanU P φ T w n s m) : OpDoes P o a φ T w n s := by
  intro next Q h
  obtain ⟨w', φ', h1, h3, h4, h5, h6⟩ := hr
  unfold Oper.wp
  rw [he, h1]
  exact h undef w' φ' (by rw [hv]; simp only [VR]; trivial) h3 h4 h5 h6

theorem parts_R {sl : List (Nat × TV)} : ∀ {ps : List (Nat × Operand)}, (∀ q ∈ ps, SlOn φ T w sl a.tmps [q.2]) → (∀ q ∈ ps, under true sl q.2) → PartsR φ T w (ps.map fun q => (q.1, opd sl q.2)) (ps.map fun q => (q.1, a.eval q.2))
  | [], _, _ => trivial
  | q :: ps, hsl, h => ⟨rfl, opd_R (hsl q (by simp)) (h q (by simp)), parts_R (fun q hq => hsl q (by simp [hq])) fun q hq => h q (by simp [hq])⟩
theorem opt_R {sl : List (Nat × TV)} {x : Option Operand} (hsl : ∀ y, x = some y → SlOn φ T w sl a.tmps [y]) (h : ∀ y, x = some y → under true sl y) : OptVR φ T w (x.map (opd sl)) (x.map a.eval) := by
  cases x with
  | none => trivial
  | some y => exact opd_R (hsl y rfl) (h y rfl)

theorem run_callFunc_enter {g : FuncId} {fn : Func} (hf : P.funcs[g]? = some fn) (hb : fn.body.isSome = true) (hname : (fn.name == "runtime.NumGoroutine") = false) (args : Array Value) (w : World) : (callFunc g args).run P w = .ok (.enter g args) w := by
  have hb' : fn.body.isNone = false := by cases h : fn.body <;> simp_all
  unfold callFunc
  simp only [Sem.run_bind, program, Sem.run, Result.andThen_ok, hf]
  rw [hname, hb']
  rfl

theorem call_does {E : Env} (ok : EnvOk P E) {rd : Nat → Option Obj} {sl : List (Nat × TV)} {c : Call} {f : Operand} (ho : o.op = .call c) (hc : c.callee = .value f) (hrel : Rel φ T w) (hsl : SlOn φ T w sl a.tmps o.op.operands.toList)
    (hu : underAll true sl o.op.operands.toList) (hrd : ∀ k, k ∈ foot E rd sl o.op → T k = rd k) (hp : (callv E.Γ rd n (opd sl f) (c.args.toList.map (opd sl))).pre)
    (hfresh : ∀ k, n ≤ k → k < n + (callv E.Γ rd n (opd sl f) (c.args.toList.map (opd sl))).news.length → φ k = none ∧ T k = none) :
    OpDoes P o a φ T w n (callv E.Γ rd n (opd sl f) (c.args.toList.map (opd sl))) := by
  have hops : o.op.operands.toList = f :: c.args.toList := by simp [ho, Op.operands, Call.operands, hc]
  rw [hops] at hu hsl
  have hf := opd_R (hsl.sub (by simp)) hu.1
  have hargs := opds_R (hsl.sub fun y hy => by simp [hy]) hu.2
  rw [ho] at hrd
  unfold foot at hrd
  simp only [reads, if_true] at hrd
  have hops' : (Op.call c).operands.toList = f :: c.args.toList := by rw [← ho]; exact hops
  rw [hops'] at hrd
  simp only [hc] at hrd
  unfold callv at hp hfresh ⊢
  unfold footCall at hrd
  cases hof : opd sl f with
  | one tc =>
    cases tc with
    | fn g cs =>
      simp only [hof] at hp hfresh hrd ⊢
      cases hg : E.Γ g with
      | none => simp only [hg] at hp; exact hp.elim
      | some ct =>
        simp only [hg] at hp hfresh hrd ⊢
        rw [hof] at hf
        simp only [VR, CR] at hf
        obtain ⟨vs, hfv, hcaps⟩ := hf
        obtain ⟨hsound, fn, hfn, hbody, hname⟩ := ok.fn g ct hg
        have hcapsR : VRs φ T w (capArgs cs) vs.toList := by
          have : ∀ (cs : List (Nat × Nat)) (us : List Value), All2 (CapR φ) cs us → VRs φ T w (capArgs cs) us := by
            intro cs
            induction cs with
            | nil => intro us h; match us, h with | [], _ => simp [VRs, capArgs]
            | cons q cs ih =>
              intro us h
              match us, h with
              | u :: us, h =>
                simp only [capArgs, List.map_cons, VRs, VR]
                exact ⟨h.1, ih us h.2⟩
          exact this cs vs.toList hcaps
        have hR : ∀ k, (k ∈ handed rd ct.own (c.args.toList.map (opd sl) ++ capArgs cs) ∨ ∃ x ∈ c.args.toList.map (opd sl) ++ capArgs cs, k ∈ refsV true x) → T k = rd k := by
          rintro k (hk | ⟨x, hx, hk⟩)
          · exact hrd k (by simp [hk])
          · refine hrd k ?_
            rw [List.mem_append]
            left
            simp only [footV, List.mem_flatMap]
            rw [List.mem_append] at hx
            rcases hx with hx | hx
            · simp only [List.mem_map] at hx
              obtain ⟨y, hy, rfl⟩ := hx
              exact ⟨y, by simp [hy], hk⟩
            · refine ⟨f, by simp, ?_⟩
              rw [hof]
              simp only [capArgs, List.mem_map] at hx
              obtain ⟨q, hq, rfl⟩ := hx
              simp only [refsV, refsC, List.mem_singleton] at hk
              subst hk
              simp only [refsV, refsC, List.mem_map]
              exact ⟨q, hq, rfl⟩
        have hcall := callWith_sound hsound hrel hR (VRs.append hargs hcapsR) hp hfresh
        intro next Q h
        have he : (execOp a.eval o).run P w = .ok (.enter g (c.args.map a.eval ++ vs)) w := by
          have h1 : (resolve a.eval c o.type).run P w = .ok { target := .fn (.func g) vs, args := #[] ++ c.args.map a.eval } w := by
            unfold resolve
            rw [hc]
            simp only [hfv, Deferred.ofValue]
            rfl
          have h2 : (invoke (.fn (.func g) vs) (#[] ++ c.args.map a.eval)).run P w = .ok (.enter g (c.args.map a.eval ++ vs)) w := by
            show (callFunc g (#[] ++ c.args.map a.eval ++ vs)).run P w = _
            rw [run_callFunc_enter hfn hbody hname]
            simp
          unfold execOp
          rw [ho]
          simp only [Sem.run_bind, h1, Result.andThen_ok]
          exact h2
        unfold Oper.wp
        rw [he]
        show Calls P g _ w _
        have hl : (c.args.toList.map a.eval ++ vs.toList).toArray = c.args.map a.eval ++ vs := by
          apply Array.ext'; simp
        rw [hl] at hcall
        refine hcall.mono ?_
        rintro e w' ⟨r, φ', rfl, h1, h2, h3, h4, h5⟩
        exact h r w' φ' h1 h2 h3 h4 h5
    | _ => simp only [hof] at hp; exact hp.elim
  | _ => simp only [hof] at hp; exact hp.elim
end
end Go.Proofs.Ytjdpppbegjnpaaa
