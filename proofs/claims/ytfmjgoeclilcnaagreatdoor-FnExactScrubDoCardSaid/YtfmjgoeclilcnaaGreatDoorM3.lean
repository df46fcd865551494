import Derived.OrdersIn
import Derived.ProofKit
import Derived.RangeFuncCalls
import Derived.RangeFuncLeaves
import Derived.Test.YtfmjgoeclilcnaaGreatDoorM1
set_option linter.unusedSimpArgs false
set_option linter.unusedVariables false
set_option linter.unusedSectionVars false
namespace Go.Proofs.YtfmjgoeclilcnaaGreatDoor
open Go.RowKit
def EnterOk (P : Program) (g : FuncId) : Prop := ∃ fn, P.funcs[g]? = some fn ∧ fn.body.isSome = true ∧ (fn.name == "runtime.NumGoroutine") = false
structure EnvOk (P : Program) (E : Env) : Prop where
 ti : ∀ t, ((E.ti t).k ≠ .other ∨ 0 < (E.ti t).sz) → TIok P t (E.ti t)
 fn : ∀ g ct, E.Γ g = some ct → Sound P g ct ∧ EnterOk P g
def fenceAt (rd : Option Nat) : Fence := { Fence.wide with round := rd }
theorem fenceAt_room (rd : Option Nat) (n : Nat) : (fenceAt rd).room n := fun _ h => by cases h
theorem fenceAt_deep (rd : Option Nat) {p : Prop} : (fenceAt rd).depth.isSome = true → p := fun h => by cases h
theorem calls_at {P : Program} {f : FuncId} {args : Array Value} {w : World} {R : Ending → World → Prop} {n : Nat} (rd : Option Nat) : CallsIn (fenceAt rd) n P f args w R ↔ Calls P f args w R :=
 ⟨fun h cs => let ⟨e, w', fr, r, s, x⟩ := h.2 cs (fenceAt_room _ _); ⟨e, w', fr, r, s.comes, x⟩,
  fun h => ⟨trivial, fun cs _ => let ⟨e, w', fr, r, s, x⟩ := h cs; ⟨e, w', fr, r, comesIn_wide.2 s, x⟩⟩⟩
theorem rows_at {P : Program} {row : String} {args : Array Value} {w : World} {R : Value → World → Prop} {n : Nat} (rd : Option Nat) (h : Rows P row args w R) : RowsIn (fenceAt rd) n P row args w R :=
 fun c cs _ => let ⟨v, w', r, s⟩ := h c cs; ⟨v, w', r, stepsIn_wide.2 s⟩
theorem wpIn_at {P : Program} {o : Oper} {a : Act} {w : World} {next : Act → World → Prop} {Q : Exit → Act → World → Prop} {n : Nat} (rd : Option Nat) (hnd : ∀ c, o.op ≠ .defer c) (h : o.wp P a w next Q) : o.wpIn (fenceAt rd) n P a w next Q := by
 refine ⟨fun _ _ => trivial, ?_⟩
 rw [Oper.semAt_eq _ _ _ hnd]
 unfold Oper.wp at h
 generalize (execOp a.eval o).run P w = r at *
 cases r with
 | ok x w' =>
   cases x with
   | enter f args => exact ⟨fenceAt_deep rd, (calls_at rd).2 h⟩
   | row row args => exact ⟨fenceAt_deep rd, rows_at rd h⟩
   | round => exact h.elim
   | _ => exact h
 | halt x w' => cases x <;> exact h
theorem opv_nd {E : Env} {rd : Nat → Option Obj} {n : Nat} {sl : List (Nat × TV)} {op : Op} (h : (opv E rd n sl op).pre) : ∀ c, op ≠ .defer c := by
 rintro c rfl
 exact h.elim
def Marks (w0 : World) (φ : Phi) (T : Tab) (w : World) (ds : List Deferred) : Prop :=
 ∃ rs : List Nat, ds = rs.map (fun r => ({ target := .collected r, args := #[] } : Deferred)) ∧ rs.Nodup ∧ ∀ r ∈ rs, w0.heap.size ≤ r ∧ w.heap[r]? = some (.deferred (some [])) ∧ ¬ Own φ T r
theorem Marks.nil {w0 : World} {φ : Phi} {T : Tab} {w : World} : Marks w0 φ T w [] := ⟨[], rfl, .nil, fun _ h => by cases h⟩
theorem Marks.ge {w0 : World} {φ φ' : Phi} {T T' : Tab} {w w' : World} {ds : List Deferred} (h : Marks w0 φ T w ds) (g : Ge φ T w φ' T' w') : Marks w0 φ' T' w' ds := by
 obtain ⟨rs, h1, h2, h3⟩ := h
 refine ⟨rs, h1, h2, fun r hr => ?_⟩
 obtain ⟨h4, h5, h6⟩ := h3 r hr
 have hlt : r < w.heap.size := (Array.getElem?_eq_some_iff.1 h5).1
 exact ⟨h4, (g.block r hlt h6).trans h5, fun ho => h6 (g.own r hlt ho)⟩
def OpDoes (P : Program) (o : Oper) (a : Act) (φ : Phi) (T : Tab) (w : World) (n : Nat) (s : St) : Prop :=
 ∀ (next : Act → World → Prop) (Q : Exit → Act → World → Prop),
   (∀ r w' φ', VR φ' (newT T n s) w' s.v r → Rel φ' (newT T n s) w' → Ge φ T w φ' (newT T n s) w' → Dom φ φ' n s.news.length → Kept φ T (fun k => ∃ o, (k, o) ∈ s.upd) w w' → next (a.put o.dst r) w') →
   o.wp P a w next Q
def SlR (φ : Phi) (T : Tab) (w : World) (sl : List (Nat × TV)) (tmps : Array Value) : Prop := ∀ i, VR φ T w (look sl i) (tmps.getD i undef)
theorem constV_R (φ : Phi) (T : Tab) (w : World) (v : Value) : VR φ T w (constV v) v := by
 unfold constV
 split
 ·rename_i cs
  simp only [VR]
  refine ⟨cs, rfl, All2.of_get (by simp) fun i a b ha hb => ?_⟩
  simp only [List.getElem?_map, Option.map_eq_some_iff] at ha
  obtain ⟨u, hu, rfl⟩ := ha
  rw [hu] at hb; cases hb; rfl
 ·simp only [VR]; rfl
def SlOn (φ : Phi) (T : Tab) (w : World) (sl : List (Nat × TV)) (tmps : Array Value) (xs : List Operand) : Prop := ∀ t, Operand.tmp t ∈ xs → VR φ T w (look sl t) (tmps.getD t undef)
theorem SlOn.sub {φ : Phi} {T : Tab} {w : World} {sl : List (Nat × TV)} {tmps : Array Value} {xs ys : List Operand} (h : SlOn φ T w sl tmps xs) (hs : ∀ y ∈ ys, y ∈ xs) : SlOn φ T w sl tmps ys := fun t ht => h t (hs _ ht)
theorem opd_R {φ : Phi} {T : Tab} {w : World} {sl : List (Nat × TV)} {a : Act} {x : Operand} (h : SlOn φ T w sl a.tmps [x]) (hu : under true sl x) : VR φ T w (opd sl x) (a.eval x) := by
 cases x with
 | tmp t =>
   simp only [opd, Act.eval]
   have := h t (by simp)
   unfold under at hu
   simp only at hu
   cases hl : look sl t with
   | gd c u =>
     rw [hl] at this hu
     simp only [VR] at this
     simp only [strip]
     exact this.1 (hu trivial)
   | one c => rw [hl] at this; exact this
   | agg cs => rw [hl] at this; exact this
   | tup l => rw [hl] at this; exact this
 | const v => exact constV_R φ T w v
 | global g => simp only [opd, VR]; trivial
 | func f => simp only [opd, VR]; exact ⟨#[], rfl, trivial⟩
theorem opds_R {φ : Phi} {T : Tab} {w : World} {sl : List (Nat × TV)} {a : Act} : ∀ {xs : List Operand}, SlOn φ T w sl a.tmps xs → underAll true sl xs → VRs φ T w (xs.map (opd sl)) (xs.map a.eval)
 | [], _, _ => by simp [VRs]
 | x :: xs, h, hu => by simp only [List.map_cons, VRs]; exact ⟨opd_R (h.sub (by simp)) hu.1, opds_R (h.sub fun y hy => by simp [hy]) hu.2⟩
theorem underAll_mem {g : Bool} {sl : List (Nat × TV)} : ∀ {xs : List Operand}, underAll g sl xs → ∀ x ∈ xs, under g sl x
 | [], _, x, h => by simp at h
 | y :: ys, hu, x, h => by
   rcases List.mem_cons.1 h with rfl | h
   ·exact hu.1
   ·exact underAll_mem hu.2 x h
theorem VRs.append {φ : Phi} {T : Tab} {w : World} : ∀ {xs ys : List TV} {us vs : List Value}, VRs φ T w xs us → VRs φ T w ys vs → VRs φ T w (xs ++ ys) (us ++ vs)
 | [], _, [], _, _, h => h
 | _ :: _, _, _ :: _, _, h, k => by simp only [VRs, List.cons_append] at h ⊢; exact ⟨h.1, VRs.append h.2 k⟩
 | [], _, _ :: _, _, h, _ => by simp [VRs] at h
 | _ :: _, _, [], _, h, _ => by simp [VRs] at h
section
variable {P : Program} {o : Oper} {a : Act} {φ : Phi} {T : Tab} {w : World} {n : Nat} {s : St}
theorem does_value {m : Sem Value} (he : (execOp a.eval o).run P w = (m.run P w).andThen fun r w' => .ok (.value r) w') (hr : Ran P φ T w n s m) : OpDoes P o a φ T w n s := by
 intro next Q h
 obtain ⟨r, w', φ', h1, h2, h3, h4, h5, h6⟩ := hr
 unfold Oper.wp
 rw [he, h1]
 exact h r w' φ' h2 h3 h4 h5 h6
theorem does_unit {m : Sem Unit} (hv : s.v = .one .any) (he : (execOp a.eval o).run P w = (m.run P w).andThen fun _ w' => .ok .skip w') (hr : RanU P φ T w n s m) : OpDoes P o a φ T w n s := by
 intro next Q h
 obtain ⟨w', φ', h1, h3, h4, h5, h6⟩ := hr
 unfold Oper.wp
 rw [he, h1]
 exact h undef w' φ' (by rw [hv]; simp only [VR]; trivial) h3 h4 h5 h6
theorem parts_R {sl : List (Nat × TV)} : ∀ {ps : List (Nat × Operand)}, (∀ q ∈ ps, SlOn φ T w sl a.tmps [q.2]) → (∀ q ∈ ps, under true sl q.2) → PartsR φ T w (ps.map fun q => (q.1, opd sl q.2)) (ps.map fun q => (q.1, a.eval q.2))
 | [], _, _ => trivial
 | q :: ps, hsl, h => ⟨rfl, opd_R (hsl q (by simp)) (h q (by simp)), parts_R (fun q hq => hsl q (by simp [hq])) fun q hq => h q (by simp [hq])⟩
theorem opt_R {sl : List (Nat × TV)} {x : Option Operand} (hsl : ∀ y, x = some y → SlOn φ T w sl a.tmps [y]) (h : ∀ y, x = some y → under true sl y) : OptVR φ T w (x.map (opd sl)) (x.map a.eval) := by
 cases x with
 | none => trivial
 | some y => exact opd_R (hsl y rfl) (h y rfl)
theorem run_callFunc_enter {g : FuncId} {fn : Func} (hf : P.funcs[g]? = some fn) (hb : fn.body.isSome = true) (hname : (fn.name == "runtime.NumGoroutine") = false) (args : Array Value) (w : World) : (callFunc g args).run P w = .ok (.enter g args) w := by
 have hb' : fn.body.isNone = false := by cases h : fn.body <;> simp_all
 unfold callFunc
 simp only [Sem.run_bind, program, Sem.run, Result.andThen_ok, hf]
 rw [hname, hb']
 rfl
theorem call_does {E : Env} (ok : EnvOk P E) {rd : Nat → Option Obj} {sl : List (Nat × TV)} {c : Call} {f : Operand} (ho : o.op = .call c) (hc : c.callee = .value f) (hrel : Rel φ T w) (hsl : SlOn φ T w sl a.tmps o.op.operands.toList)
  (hu : underAll true sl o.op.operands.toList) (hrd : ∀ k, k ∈ foot E rd sl o.op → T k = rd k) (hp : (callv E.Γ rd n (opd sl f) (c.args.toList.map (opd sl))).pre)
  (hfresh : ∀ k, n ≤ k → k < n + (callv E.Γ rd n (opd sl f) (c.args.toList.map (opd sl))).news.length → φ k = none ∧ T k = none) :
  OpDoes P o a φ T w n (callv E.Γ rd n (opd sl f) (c.args.toList.map (opd sl))) := by
 have hops : o.op.operands.toList = f :: c.args.toList := by simp [ho, Op.operands, Call.operands, hc]
 rw [hops] at hu hsl
 have hf := opd_R (hsl.sub (by simp)) hu.1
 have hargs := opds_R (hsl.sub fun y hy => by simp [hy]) hu.2
 rw [ho] at hrd
 unfold foot at hrd
 simp only [reads, if_true] at hrd
 have hops' : (Op.call c).operands.toList = f :: c.args.toList := by rw [← ho]; exact hops
 rw [hops'] at hrd
 simp only [hc] at hrd
 unfold callv at hp hfresh ⊢
 unfold footCall at hrd
 cases hof : opd sl f with
 | one tc =>
   cases tc with
   | fn g cs =>
     simp only [hof] at hp hfresh hrd ⊢
     cases hg : E.Γ g with
     | none => simp only [hg] at hp; exact hp.elim
     | some ct =>
       simp only [hg] at hp hfresh hrd ⊢
       rw [hof] at hf
       simp only [VR, CR] at hf
       obtain ⟨vs, hfv, hcaps⟩ := hf
       obtain ⟨hsound, fn, hfn, hbody, hname⟩ := ok.fn g ct hg
       have hcapsR : VRs φ T w (capArgs cs) vs.toList := by
        have : ∀ (cs : List (Nat × Nat)) (us : List Value), All2 (CapR φ) cs us → VRs φ T w (capArgs cs) us := by
         intro cs
         induction cs with
         | nil => intro us h; match us, h with | [], _ => simp [VRs, capArgs]
         | cons q cs ih =>
           intro us h
           match us, h with
           | u :: us, h =>
             simp only [capArgs, List.map_cons, VRs, VR]
             exact ⟨h.1, ih us h.2⟩
        exact this cs vs.toList hcaps
       have hR : ∀ k, (k ∈ handed rd ct.own (c.args.toList.map (opd sl) ++ capArgs cs) ∨ ∃ x ∈ c.args.toList.map (opd sl) ++ capArgs cs, k ∈ refsV true x) → T k = rd k := by
        rintro k (hk | ⟨x, hx, hk⟩)
        ·exact hrd k (by simp [hk])
        ·refine hrd k ?_
         rw [List.mem_append]
         left
         simp only [footV, List.mem_flatMap]
         rw [List.mem_append] at hx
         rcases hx with hx | hx
         ·simp only [List.mem_map] at hx
          obtain ⟨y, hy, rfl⟩ := hx
          exact ⟨y, by simp [hy], hk⟩
         ·refine ⟨f, by simp, ?_⟩
          rw [hof]
          simp only [capArgs, List.mem_map] at hx
          obtain ⟨q, hq, rfl⟩ := hx
          simp only [refsV, refsC, List.mem_singleton] at hk
          subst hk
          simp only [refsV, refsC, List.mem_map]
          exact ⟨q, hq, rfl⟩
       have hcall := callWith_sound hsound hrel hR (VRs.append hargs hcapsR) hp hfresh
       intro next Q h
       have he : (execOp a.eval o).run P w = .ok (.enter g (c.args.map a.eval ++ vs)) w := by
        have h1 : (resolve a.eval c o.type).run P w = .ok { target := .fn (.func g) vs, args := #[] ++ c.args.map a.eval } w := by
         unfold resolve
         rw [hc]
         simp only [hfv, Deferred.ofValue]
         rfl
        have h2 : (invoke (.fn (.func g) vs) (#[] ++ c.args.map a.eval)).run P w = .ok (.enter g (c.args.map a.eval ++ vs)) w := by
         show (callFunc g (#[] ++ c.args.map a.eval ++ vs)).run P w = _
         rw [run_callFunc_enter hfn hbody hname]
         simp
        unfold execOp
        rw [ho]
        simp only [Sem.run_bind, h1, Result.andThen_ok]
        exact h2
       unfold Oper.wp
       rw [he]
       show Calls P g _ w _
       have hl : (c.args.toList.map a.eval ++ vs.toList).toArray = c.args.map a.eval ++ vs := by
        apply Array.ext'; simp
       rw [hl] at hcall
       refine hcall.mono ?_
       rintro e w' ⟨r, φ', rfl, h1, h2, h3, h4, h5⟩
       exact h r w' φ' h1 h2 h3 h4 h5
   | _ => simp only [hof] at hp; exact hp.elim
 | _ => simp only [hof] at hp; exact hp.elim
end
end Go.Proofs.YtfmjgoeclilcnaaGreatDoor
namespace Go.Proofs.YtfmjgoeclilcnaaGreatDoor
open Go.RowKit
theorem foot_ref {E : Env} {rd : Nat → Option Obj} {sl : List (Nat × TV)} {op : Op} {x : Operand} (hr : reads op = true) (hx : x ∈ op.operands.toList) {k : Nat} (hk : k ∈ refsV true (opd sl x)) : k ∈ foot E rd sl op := by
 unfold foot
 rw [List.mem_append, if_pos hr]
 left
 simp only [footV, List.mem_flatMap]
 exact ⟨x, hx, hk⟩
theorem caps_R {φ : Phi} {T : Tab} {w : World} : ∀ {xs : List TV} {vs : List Value} {qs : List (Nat × Nat)}, VRs φ T w xs vs → caps xs = some qs → All2 (CapR φ) qs vs
 | [], [], qs, _, h => by simp [caps] at h; subst h; trivial
 | x :: xs, v :: vs, qs, hv, h => by
   simp only [VRs] at hv
   unfold caps at h
   split at h
   ·simp at *
   ·rename_i k off r heq
    cases heq
    simp only [Option.map_eq_some_iff] at h
    obtain ⟨qs', h1, rfl⟩ := h
    have := hv.1
    simp only [VR, CR] at this
    exact ⟨this, caps_R hv.2 h1⟩
   ·cases h
 | [], _ :: _, _, hv, _ => by simp [VRs] at hv
 | _ :: _, [], _, hv, _ => by simp [VRs] at hv
theorem VRs.get {φ : Phi} {T : Tab} {w : World} : ∀ {xs : List TV} {vs : List Value}, VRs φ T w xs vs → ∀ (i : Nat) (x : TV), xs[i]? = some x → ∃ v, vs[i]? = some v ∧ VR φ T w x v
 | [], [], _, i, x, h => by simp at h
 | a :: as, b :: bs, hv, 0, x, h => by simp only [VRs] at hv; simp at h; subst h; exact ⟨b, rfl, hv.1⟩
 | a :: as, b :: bs, hv, i + 1, x, h => by simp only [VRs] at hv; simpa using hv.2.get i x (by simpa using h)
 | [], _ :: _, hv, _, _, _ => by simp [VRs] at hv
 | _ :: _, [], hv, _, _, _ => by simp [VRs] at hv
theorem opv_sound {P : Program} {E : Env} (ok : EnvOk P E) {o : Oper} {a : Act} {φ : Phi} {T : Tab} {w : World} {n : Nat} {rd : Nat → Option Obj} {sl : List (Nat × TV)} (hrel : Rel φ T w) (hsl : SlOn φ T w sl a.tmps o.op.operands.toList)
  (hu : underAll true sl (operandsOf o.op)) (hrd : ∀ k, k ∈ foot E rd sl o.op → T k = rd k) (hp : (opv E rd n sl o.op).pre)
  (hfresh : ∀ k, n ≤ k → k < n + (opv E rd n sl o.op).news.length → φ k = none ∧ T k = none) : OpDoes P o a φ T w n (opv E rd n sl o.op) := by
 have hti := ok.ti
 have hmem : ∀ x ∈ operandsOf o.op, under true sl x := underAll_mem hu
 have hsub : ∀ x ∈ operandsOf o.op, x ∈ o.op.operands.toList := by
  intro x hx
  unfold operandsOf at hx
  split at hx
  ·simp at hx
  ·exact hx
 have hS : ∀ x ∈ o.op.operands.toList, SlOn φ T w sl a.tmps [x] := fun x hx => hsl.sub fun y hy => by
  simp only [List.mem_singleton] at hy; subst hy; exact hx
 have hR : ∀ x ∈ operandsOf o.op, VR φ T w (opd sl x) (a.eval x) := fun x hx => opd_R (hS x (hsub x hx)) (hmem x hx)
 have fresh1 : ∀ obj, (opv E rd n sl o.op).news = [obj] → φ n = none ∧ T n = none := fun obj h => hfresh n (Nat.le_refl _) (by rw [h]; simp)
 cases ho : o.op with
 | move x =>
   rw [ho] at hR
   refine does_value (m := pure (a.eval x)) (by simp [execOp, ho]) (Ran.pure hrel ⟨rfl, rfl⟩ ⟨_, rfl, hR x (by simp [operandsOf, isPick, Op.operands])⟩)
 | assign x =>
   rw [ho] at hR
   refine does_value (m := pure (a.eval x)) (by simp [execOp, ho]) (Ran.pure hrel ⟨rfl, rfl⟩ ⟨_, rfl, hR x (by simp [operandsOf, isPick, Op.operands])⟩)
 | pick c x y =>
   rw [ho] at hp hS
   have hsc := hS c (by simp [Op.operands])
   have hsx := hS x (by simp [Op.operands])
   have hsy := hS y (by simp [Op.operands])
   simp only [opv] at hp ⊢
   have key : ∀ b, opd sl c = .one (.val (.bool b)) → under true sl c → (execOp a.eval o).run P w = ((pure (if b then a.eval x else a.eval y) : Sem Value).run P w).andThen fun r w' => .ok (.value r) w' := by
    intro b hb hc
    have := opd_R hsc hc
    rw [hb] at this
    simp only [VR, CR] at this
    simp [execOp, ho, this, asBool]
   split at hp
   ·rename_i b p q hb hx hy
    obtain ⟨h1, h2, h3⟩ := hp
    refine does_value (key b hb h1) (Ran.pure hrel ⟨rfl, rfl⟩ ⟨_, rfl, ?_⟩)
    cases b with
    | true => have := opd_R hsx h2; rw [hx] at this; simpa [ifp, vb] using this
    | false => have := opd_R hsy h3; rw [hy] at this; simpa [ifp, vb] using this
   ·rename_i b hb _
    obtain ⟨h1, h2, h3⟩ := hp
    refine does_value (key b hb h1) (Ran.pure hrel ⟨rfl, rfl⟩ ⟨_, rfl, ?_⟩)
    cases b with
    | true => have := opd_R hsx h2; simpa [ifp] using this
    | false => have := opd_R hsy h3; simpa [ifp] using this
   ·exact hp.elim
 | alloc t =>
   rw [ho] at hp fresh1
   obtain ⟨h1, h2⟩ := fresh1 _ rfl
   exact does_value (by simp [execOp, ho]) (alloc_ran hti hrel h1 h2 hp)
 | box t x =>
   rw [ho] at hp fresh1 hR
   obtain ⟨h1, h2⟩ := fresh1 _ rfl
   exact does_value (by simp [execOp, ho]) (box_ran hti hrel h1 h2 (hR x (by simp [operandsOf, isPick, Op.operands])) hp)
 | build t ps =>
   rw [ho] at hp hmem
   refine does_value (m := Instr.build t (ps.map fun (i, x) => (i, a.eval x))) (by simp [execOp, ho]) (buildv_ran hti hrel ?_ hp)
   have := parts_R (a := a) (ps := ps.toList) (fun q hq => hS q.2 (by rw [ho]; simp [Op.operands]; exact ⟨q.1, by simpa using hq⟩)) fun q hq => hmem q.2 (by simp [operandsOf, isPick, Op.operands]; exact ⟨q.1, by simpa using hq⟩)
   simpa using this
 | buildSlice t len ps =>
   rw [ho] at hp hmem fresh1
   have hnews : ∃ obj, (opv E rd n sl (.buildSlice t len ps)).news = [obj] := by
    simp only [opv, litv] at hp ⊢
    split at hp
    ·split at hp
     ·split at hp
      ·exact ⟨_, rfl⟩
      ·exact hp.elim
     ·exact hp.elim
    ·exact hp.elim
   obtain ⟨obj, hobj⟩ := hnews
   obtain ⟨h1, h2⟩ := fresh1 obj hobj
   refine does_value (m := Instr.buildSlice t len (ps.map fun (i, x) => (i, a.eval x))) (by simp [execOp, ho]) (litv_ran hti hrel h1 h2 ?_ hp)
   have := parts_R (a := a) (ps := ps.toList) (fun q hq => hS q.2 (by rw [ho]; simp [Op.operands]; exact ⟨q.1, by simpa using hq⟩)) fun q hq => hmem q.2 (by simp [operandsOf, isPick, Op.operands]; exact ⟨q.1, by simpa using hq⟩)
   simpa using this
 | load t x =>
   rw [ho] at hp hR hrd
   exact does_value (by simp [execOp, ho]) (loadv_ran hti hrel (fun k hk => hrd k (foot_ref (x := x) rfl (by simp [Op.operands]) hk)) (hR x (by simp [operandsOf, isPick, Op.operands])) hp)
 | store t x y =>
   rw [ho] at hp hR hrd
   refine does_unit ?_ (by simp [execOp, ho]) (store_ran hti hrel (fun k hk => hrd k (foot_ref (x := x) rfl (by simp [Op.operands]) hk)) (hR x (by simp [operandsOf, isPick, Op.operands])) (hR y (by simp [operandsOf, isPick, Op.operands])) hp)
   simp only [opv, storev] at hp ⊢
   split at hp
   ·split at hp
    ·rfl
    ·exact hp.elim
   ·split at hp
    ·rfl
    ·exact hp.elim
   ·exact hp.elim
 | nilCheck x =>
   rw [ho] at hp hR
   have hx := hR x (by simp [operandsOf, isPick, Op.operands])
   simp only [opv] at hp ⊢
   split at hp
   ·rename_i k off hk
    rw [hk] at hx
    have hx' := hx
    simp only [VR, CR, CapR] at hx'
    obtain ⟨b, base, -, hv⟩ := hx'
    exact does_value (m := pure (a.eval x)) (by simp [execOp, ho, hv]) (Ran.pure hrel ⟨rfl, rfl⟩ ⟨_, rfl, hx⟩)
   ·rename_i k sz i j hk
    rw [hk] at hx
    have hx' := hx
    simp only [VR, CR, CapR] at hx'
    obtain ⟨b, base, -, hv⟩ := hx'
    exact does_value (m := pure (a.eval x)) (by simp [execOp, ho, hv]) (Ran.pure hrel ⟨rfl, rfl⟩ ⟨_, rfl, hx⟩)
   ·rename_i cs off hk
    rw [hk] at hx
    have hx' := hx
    simp only [VR, CR] at hx'
    obtain ⟨b, base, hv, -⟩ := hx'
    exact does_value (m := pure (a.eval x)) (by simp [execOp, ho, hv]) (Ran.pure hrel ⟨rfl, rfl⟩ ⟨_, rfl, hx⟩)
   ·rename_i f cs hk
    rw [hk] at hx
    have hx' := hx
    simp only [VR, CR] at hx'
    obtain ⟨vs, hv, -⟩ := hx'
    exact does_value (m := pure (a.eval x)) (by simp [execOp, ho, hv]) (Ran.pure hrel ⟨rfl, rfl⟩ ⟨_, rfl, hx⟩)
   ·exact hp.elim
 | binOp op t x y t' =>
   rw [ho] at hp hR
   exact does_value (m := do eqGuard op t x y (a.eval x) (a.eval y); binOp op t (a.eval x) (a.eval y)) (by
    simp only [execOp, ho, Sem.run_bind]
    cases (eqGuard op t x y (a.eval x) (a.eval y)).run P w <;> rfl) (binOpw_ran hti hrel (hR x (by simp [operandsOf, isPick, Op.operands])) (hR y (by simp [operandsOf, isPick, Op.operands])) hp)
 | unOp op t x =>
   rw [ho] at hp hR
   exact does_value (m := Op.unary op (a.eval x)) (by simp [execOp, ho]) (unv_ran hti hrel (hR x (by simp [operandsOf, isPick, Op.operands])) hp)
 | convert s d x =>
   rw [ho] at hp hR hrd hfresh
   refine does_value (by simp [execOp, ho]) (convv_ran hti hrel (fun hne => ?_) (fun k hk => hrd k (foot_ref (x := x) rfl (by simp [Op.operands]) hk)) (hR x (by simp [operandsOf, isPick, Op.operands])) hp)
   refine hfresh n (Nat.le_refl _) ?_
   have : 0 < (opv E rd n sl (.convert s d x)).news.length := List.length_pos_iff.2 hne
   omega
 | makeFunc f first cs =>
   rw [ho] at hp hmem
   cases f with
   | func f =>
     simp only [opv] at hp ⊢
     split at hp
     ·rename_i qs hfirst hcaps
      have hops := opds_R (a := a) (xs := cs.toList) (hsl.sub fun y hy => by rw [ho]; simp [Op.operands]; exact .inr (by simpa using hy)) (by
       have : ∀ (l : List Operand), (∀ x ∈ l, under true sl x) → underAll true sl l := by
        intro l
        induction l with
        | nil => intro _; trivial
        | cons x l ih => intro h; exact ⟨h x (by simp), ih fun y hy => h y (by simp [hy])⟩
       exact this _ fun x hx => hmem x (by simp [operandsOf, isPick, Op.operands]; exact .inr (by simpa using hx)))
      refine does_value (m := Instr.makeFunc (.func f) (first.map a.eval) (cs.map a.eval)) (by simp [execOp, ho]) (Ran.pure hrel ⟨rfl, rfl⟩ ⟨_, rfl, ?_⟩)
      simp only [is, VR, CR]
      have hf0 : first = #[] := by apply Array.ext'; simpa using hfirst
      refine ⟨cs.map a.eval, by rw [hf0]; simp, ?_⟩
      have := caps_R hops hcaps
      simpa using this
     ·exact hp.elim
   | _ => exact hp.elim
 | makeSlice t l c =>
   rw [ho] at hp hR fresh1
   have hnews : ∃ obj, (opv E rd n sl (.makeSlice t l c)).news = [obj] := by
    simp only [opv, makev] at hp ⊢
    split at hp
    ·split at hp
     ·exact ⟨_, rfl⟩
     ·exact hp.elim
    ·exact hp.elim
   obtain ⟨obj, hobj⟩ := hnews
   obtain ⟨h1, h2⟩ := fresh1 obj hobj
   exact does_value (by simp [execOp, ho]) (makev_ran hti hrel h1 h2 (hR l (by simp [operandsOf, isPick, Op.operands])) (hR c (by simp [operandsOf, isPick, Op.operands])) hp)
 | slice t x lo hi mx =>
   rw [ho] at hp hR hrd hmem
   cases mx with
   | some _ => exact hp.elim
   | none =>
     exact does_value (m := Instr.sliceAt t (a.eval x) (lo.map a.eval) (hi.map a.eval) none) (by simp [execOp, ho]) (slicev_ran hti hrel (fun k hk => hrd k (foot_ref (x := x) rfl (by simp [Op.operands]) hk)) (hR x (by simp [operandsOf, isPick, Op.operands]))
      (opt_R (fun y hy => hS y (by rw [ho]; simp [Op.operands, hy])) fun y hy => hmem y (by simp [operandsOf, isPick, Op.operands, hy])) (opt_R (fun y hy => hS y (by rw [ho]; simp [Op.operands, hy])) fun y hy => hmem y (by simp [operandsOf, isPick, Op.operands, hy])) hp)
 | fieldAddr s x f =>
   rw [ho] at hp hR
   exact does_value (by simp [execOp, ho]) (fieldv_ran hti hrel (hR x (by simp [operandsOf, isPick, Op.operands])) hp)
 | field s x f =>
   rw [ho] at hp hR
   exact does_value (by simp [execOp, ho]) (fieldOf_ran hti hrel (hR x (by simp [operandsOf, isPick, Op.operands])) hp)
 | indexAddr t x i =>
   rw [ho] at hp hR hrd
   exact does_value (by simp [execOp, ho]) (indexv_ran hti hrel (fun k hk => hrd k (foot_ref (x := x) rfl (by simp [Op.operands]) hk)) (hR x (by simp [operandsOf, isPick, Op.operands])) (hR i (by simp [operandsOf, isPick, Op.operands])) hp)
 | index t x i =>
   rw [ho] at hp hR
   exact does_value (by simp [execOp, ho]) (indexOf_ran hti hrel (hR x (by simp [operandsOf, isPick, Op.operands])) (hR i (by simp [operandsOf, isPick, Op.operands])) hp)
 | extract t i =>
   rw [ho] at hp hR
   have hx := hR t (by simp [operandsOf, isPick, Op.operands])
   simp only [opv] at hp ⊢
   split at hp
   ·rename_i vs hvs
    rw [hvs] at hx
    simp only [VR] at hx
    obtain ⟨us, hus, hr⟩ := hx
    split at hp
    ·rename_i v hv
     obtain ⟨u, h1, h2⟩ := hr.get i v hv
     refine does_value (m := Instr.extract (a.eval t) i) (by simp [execOp, ho]) (Ran.pure hrel ⟨rfl, rfl⟩ ⟨u, ?_, h2⟩)
     rw [Array.getElem?_toList] at h1
     simp [Instr.extract, hus, h1]
    ·exact hp.elim
   ·exact hp.elim
 | call c =>
   cases hc : c.callee with
   | value f =>
     have e : opv E rd n sl (.call c) = callv E.Γ rd n (opd sl f) (c.args.toList.map (opd sl)) := by simp only [opv, hc]
     rw [ho, e] at hp hfresh
     rw [e]
     exact call_does ok ho hc hrel hsl (by rw [ho] at hu ⊢; exact hu) hrd hp hfresh
   | builtin b =>
     have e : opv E rd n sl (.call c) = builtinv E rd n b c.argTypes.toList (c.args.toList.map (opd sl)) := by simp only [opv, hc]
     rw [ho, e] at hp hfresh
     rw [e]
     have hops : o.op.operands.toList = c.args.toList := by simp [ho, Op.operands, Call.operands, hc]
     have huc : underAll true sl c.args.toList := by rw [← hops]; rw [ho] at hu ⊢; exact hu
     have hargs := opds_R (by rw [← hops]; exact hsl) huc
     have he : ∀ m : Sem Value, (builtin b c.argTypes o.type (c.args.map fun | .const _ => true | _ => false) (c.args.map a.eval)) = (do pure (.value (← m))) → (execOp a.eval o).run P w = (m.run P w).andThen fun r w' => .ok (.value r) w' := by
      intro m hm
      have h1 : (resolve a.eval c o.type).run P w = .ok { target := .builtin b c.argTypes o.type (c.args.map fun | .const _ => true | _ => false), args := c.args.map a.eval } w := by
       unfold resolve; rw [hc]; rfl
      unfold execOp
      rw [ho]
      simp only [Sem.run_bind, h1, Result.andThen_ok]
      show (builtin b c.argTypes o.type _ (c.args.map a.eval)).run P w = _
      rw [hm]
      simp
     unfold builtinv at hp hfresh ⊢
     split at hp
     ·rename_i ts args t x hts hxs
      have hT : c.argTypes = #[t] := by apply Array.ext'; simpa using hts
      simp only [hxs] at hargs
      have hl := congrArg List.length hxs
      match hca : c.args.toList, hargs with
      | [y], hargs =>
        simp only [List.map_cons, List.map_nil, VRs] at hargs
        have hA : c.args.map a.eval = #[a.eval y] := by apply Array.ext'; simp [hca]
        refine does_value (m := Builtin.len_ c.argTypes o.type (c.args.map a.eval)) (he _ rfl) ?_
        rw [hT, hA]
        exact lenv_ran hti hrel hargs.1 hp
      | [], hargs => simp [hca] at hl
      | _ :: _ :: _, hargs => simp [hca] at hl
     ·rename_i ts args s t x y hts hxs
      have hT : c.argTypes = #[s, t] := by apply Array.ext'; simpa using hts
      have hl := congrArg List.length hxs
      simp only [hxs] at hargs
      match hca : c.args.toList, hargs with
      | [p, q], hargs =>
        simp only [List.map_cons, List.map_nil, VRs] at hargs
        have hpq : opd sl p = x ∧ opd sl q = y := by rw [hca] at hxs; simpa using hxs
        obtain ⟨rfl, rfl⟩ := hpq
        have hA : c.args.map a.eval = #[a.eval p, a.eval q] := by apply Array.ext'; simp [hca]
        have hnews : ∃ obj, (appendv E.ti rd n s t (opd sl p) (opd sl q)).news = [obj] := by
         revert hp
         unfold appendv
         intro hp
         split at hp
         ·split at hp
          ·split at hp
           ·split at hp
            ·exact ⟨_, rfl⟩
            ·exact hp.elim
           ·split at hp
            ·exact ⟨_, rfl⟩
            ·exact hp.elim
           ·exact hp.elim
          ·exact hp.elim
         ·exact hp.elim
        obtain ⟨obj, hobj⟩ := hnews
        obtain ⟨h1, h2⟩ := hfresh n (Nat.le_refl _) (by simp [hts, hxs, hobj])
        refine does_value (m := Builtin.append_ c.argTypes o.type (c.args.map a.eval)) (he _ rfl) ?_
        rw [hT, hA]
        refine appendv_ran hti hrel h1 h2 (fun k hk => ?_) hargs.1 hargs.2.1 hp
        rw [List.mem_append] at hk
        rcases hk with hk | hk
        ·exact hrd k (foot_ref (x := p) (by rw [ho]; rfl) (by rw [hops, hca]; simp) hk)
        ·exact hrd k (foot_ref (x := q) (by rw [ho]; rfl) (by rw [hops, hca]; simp) hk)
      | [], hargs => simp [hca] at hl
      | [_], hargs => simp [hca] at hl
      | _ :: _ :: _ :: _, hargs => simp [hca] at hl
     ·refine does_value (m := Builtin.min_ c.argTypes o.type (c.args.map a.eval)) (he _ rfl) ?_
      have := minv_ran (P := P) hti hrel (n := n) (ts := c.argTypes) (ty := o.type) hargs hp
      have hl : (c.args.toList.map a.eval).toArray = c.args.map a.eval := by apply Array.ext'; simp
      rwa [hl] at this
     ·exact hp.elim
   | invoke r m => rw [ho] at hp; simp only [opv, hc] at hp; exact hp.elim
 | _ => rw [ho] at hp; exact hp.elim
end Go.Proofs.YtfmjgoeclilcnaaGreatDoor
namespace Go.Proofs.YtfmjgoeclilcnaaGreatDoor
open Go.RowKit
structure Sim (φ0 : Phi) (T0 : Tab) (w0 : World) (N m : Nat) (φ : Phi) (σ : Sg) (a : Act) (w : World) : Prop where
 defers : Marks w0 φ (rdT σ.tab) w a.defers
 size : a.tmps.size = N
 sl : SlR φ (rdT σ.tab) w σ.sl a.tmps
 rel : Rel φ (rdT σ.tab) w
 ge : Ge φ0 T0 w0 φ (rdT σ.tab) w
 fresh : ∀ k, σ.tab.length ≤ k → φ k = none
 kept : Kept φ0 T0 (fun j => j ∈ σ.tch) w0 w
 link : ∀ k b base, rdT σ.tab k ≠ none → φ k = some (b, base) → b < w0.heap.size → ∃ j base', T0 j ≠ none ∧ φ0 j = some (b, base') ∧ (j = k ∨ j ∈ σ.tch)
 low : ∀ j, T0 j ≠ none → j < m
 long : m ≤ σ.tab.length
 low0 : ∀ j, φ0 j ≠ none → j < m
 base : ∀ k, k < m → φ k ≠ none → φ0 k ≠ none
theorem rdT_big {tab : List (Option Obj)} {k : Nat} (h : tab.length ≤ k) : rdT tab k = none := by simp [rdT, List.getElem?_eq_none h]
theorem rdT_set (tab : List (Option Obj)) (k : Nat) (o : Option Obj) (h : rdT tab k ≠ none) (j : Nat) : rdT (tab.set k o) j = if j = k then o else rdT tab j := by
 have hk : k < tab.length := by
  rcases Nat.lt_or_ge k tab.length with h' | h'
  ·exact h'
  ·exact absurd (rdT_big h') h
 unfold rdT
 rw [List.getElem?_set]
 by_cases hj : j = k
 ·subst hj; simp [hk]
 ·rw [if_neg (fun e => hj e.symm), if_neg hj]
theorem setT_len : ∀ (upd : List (Nat × Option Obj)) (tab : List (Option Obj)), (setT tab upd).length = tab.length
 | [], tab => rfl
 | (k, o) :: r, tab => by rw [setT, setT_len r]; split <;> simp
theorem setT_rd : ∀ (upd : List (Nat × Option Obj)) (tab : List (Option Obj)), rdT (setT tab upd) = updT (rdT tab) upd
 | [], tab => rfl
 | (k, o) :: r, tab => by
   rw [setT, setT_rd r, updT]
   congr 1
   funext j
   cases hk : rdT tab k with
   | none => simp [hk]
   | some ob =>
     simp only [Option.isSome_some, if_true]
     rw [rdT_set tab k o (by rw [hk]; simp)]
     simp
theorem rdT_append (tab : List (Option Obj)) (news : List Obj) : rdT (tab ++ news.map some) = addT (rdT tab) tab.length news := by
 funext k
 unfold addT rdT
 by_cases h : tab.length ≤ k
 ·rw [if_pos h, List.getElem?_append_right h, List.getElem?_eq_none h]
  simp only [List.getElem?_map]
  cases news[k - tab.length]? <;> rfl
 ·rw [if_neg h, List.getElem?_append_left (by omega)]
theorem newT_rd (tab : List (Option Obj)) (s : St) : rdT (setT tab s.upd ++ s.news.map some) = newT (rdT tab) tab.length s := by
 rw [rdT_append, setT_len, setT_rd]; rfl
theorem mem_touch (m : Nat) : ∀ (upd : List (Nat × Option Obj)) (tch : List Nat) (j : Nat), j ∈ touch m tch upd ↔ j ∈ tch ∨ (j < m ∧ ∃ o, (j, o) ∈ upd)
 | [], tch, j => by simp [touch]
 | (k, o) :: r, tch, j => by
   rw [touch, mem_touch m r]
   by_cases hk : k < m
   ·simp only [if_pos hk, List.mem_cons]
    constructor
    ·rintro ((rfl | h) | ⟨h1, o', h2⟩)
     ·exact .inr ⟨hk, o, .inl rfl⟩
     ·exact .inl h
     ·exact .inr ⟨h1, o', .inr h2⟩
    ·rintro (h | ⟨h1, o', h2 | h2⟩)
     ·exact .inl (.inr h)
     ·cases h2; exact .inl (.inl rfl)
     ·exact .inr ⟨h1, o', h2⟩
   ·simp only [if_neg hk, List.mem_cons]
    constructor
    ·rintro (h | ⟨h1, o', h2⟩)
     ·exact .inl h
     ·exact .inr ⟨h1, o', .inr h2⟩
    ·rintro (h | ⟨h1, o', h2 | h2⟩)
     ·exact .inl h
     ·cases h2; exact absurd h1 hk
     ·exact .inr ⟨h1, o', h2⟩
theorem look_put (sl : List (Nat × TV)) (d : Nat) (v : TV) (i : Nat) : look ((d, v) :: sl) i = if d = i then v else look sl i := rfl
theorem SlR.mono {φ φ' : Phi} {T T' : Tab} {w w' : World} {sl : List (Nat × TV)} {tmps : Array Value} (h : SlR φ T w sl tmps) (g : Ge φ T w φ' T' w') : SlR φ' T' w' sl tmps := fun i => (h i).mono g
theorem SlR.put {φ : Phi} {T : Tab} {w : World} {sl : List (Nat × TV)} {a : Act} {dst : Option Tmp} {v : TV} {r : Value} (h : SlR φ T w sl a.tmps) (hd : dstOk a.tmps.size dst) (hv : VR φ T w v r) : SlR φ T w (putS sl dst v) (a.put dst r).tmps := by
 cases dst with
 | none => exact h
 | some d =>
   intro i
   simp only [putS, look_put, Act.put]
   by_cases hi : d = i
   ·subst hi
    rw [if_pos rfl]
    have : d < a.tmps.size := hd
    simp [Array.getD_eq_getD_getElem?, this]; exact hv
   ·rw [if_neg hi]
    have : (a.tmps.setIfInBounds d r).getD i undef = a.tmps.getD i undef := by
     simp [Array.getD_eq_getD_getElem?, Array.getElem?_setIfInBounds, hi]
    rw [this]; exact h i
theorem Own.cells {φ : Phi} {T : Tab} {w : World} (h : Rel φ T w) {b : Nat} (ho : Own φ T b) : ∃ c e f, w.heap[b]? = some (.cells c e f) := by
 obtain ⟨k, base, hk, hφ⟩ := ho
 cases hT : T k with
 | none => exact absurd hT hk
 | some o =>
   have := h.obj k o hT
   cases o with
   | cells cs =>
     obtain ⟨b', base', c, hφ', ⟨e, f, hC, -⟩, -⟩ := this
     rw [hφ] at hφ'; cases hφ'; exact ⟨c, e, f, hC⟩
   | arr t xs =>
     rcases this with ⟨h1, -⟩ | ⟨b', base', c, hφ', ⟨e, f, hC, -⟩, -⟩
     ·rw [hφ] at h1; cases h1
     ·rw [hφ] at hφ'; cases hφ'; exact ⟨c, e, f, hC⟩
structure Sames (n0 : Nat) (w w' : World) : Prop where
 os : w'.os = w.os
 tape : w'.tape = w.tape
 output : w'.output = w.output
 size : w.heap.size ≤ w'.heap.size
 cells : ∀ (b : Nat) c e f, w.heap[b]? = some (Go.Obj.cells c e f) → w'.heap[b]? = some (Go.Obj.cells c e f)
 low : ∀ b : Nat, b < n0 → w'.heap[b]? = w.heap[b]?
section
variable {n0 : Nat} {w w' : World} {φ : Phi} {T : Tab}
theorem Sames.cell (g : Sames n0 w w') {a : Addr} {v : Value} (hv : w.cell? a = some v) : w'.cell? a = some v := by
 unfold World.cell? at hv ⊢
 cases hb : w.heap[a.block]? with
 | none => rw [hb] at hv; cases hv
 | some o =>
   rw [hb] at hv
   cases o with
   | cells c e f => rw [g.cells _ _ _ _ hb]; exact hv
   | _ => cases hv
theorem Sames.sz (g : Sames n0 w w') {b : Nat} (hp : 0 < sizeAt w b) : sizeAt w' b = sizeAt w b := by
 unfold sizeAt at hp ⊢
 cases hb : w.heap[b]? with
 | none => rw [hb] at hp; exact absurd hp (Nat.lt_irrefl 0)
 | some o =>
   rw [hb] at hp
   cases o with
   | cells c e f => rw [g.cells _ _ _ _ hb]
   | _ => exact absurd hp (Nat.lt_irrefl 0)
theorem CR.sames (g : Sames n0 w w') {c : TC} {v : Value} (h : CR φ T w c v) : CR φ T w' c v := by
 cases c with
 | osl t k off len =>
   obtain ⟨a, cap, h1, h2, h3, h4, h5⟩ := h
   refine ⟨a, cap, h1, h2, h3, h4, fun hc => ?_⟩
   obtain ⟨b, base, hk, ha, hs⟩ := h5 hc
   refine ⟨b, base, hk, ha, ?_⟩
   have hp : 0 < base + (off + cap) * t.sz := by have := Nat.mul_pos (show 0 < off + cap by omega) t.sz_pos; omega
   rw [g.sz (by omega)]; exact hs
 | isl t xs =>
   obtain ⟨a, cap, h1, h2, h3, h4, h5⟩ := h
   refine ⟨a, cap, h1, h2, h3, h4, fun hc => ?_⟩
   obtain ⟨b, o, ha, hi, hcs⟩ := h5 hc
   exact ⟨b, o, ha, ⟨Nat.lt_of_lt_of_le hi.1 g.size, hi.2⟩, fun i v hv => g.cell (hcs i v hv)⟩
 | ip cs off =>
   obtain ⟨b, o, hv, hi, hcs⟩ := h
   exact ⟨b, o, hv, ⟨Nat.lt_of_lt_of_le hi.1 g.size, hi.2⟩, fun i v hv => g.cell (hcs i v hv)⟩
 | _ => exact h
mutual
theorem VR.sames (g : Sames n0 w w') : ∀ {x : TV} {v : Value}, VR φ T w x v → VR φ T w' x v
 | .one c, v, h => by unfold VR at *; exact CR.sames g h
 | .agg cs, v, h => by
   unfold VR at *
   obtain ⟨vs, hv, ha⟩ := h
   exact ⟨vs, hv, ha.mono fun _ _ => CR.sames g⟩
 | .tup l, v, h => by
   unfold VR at *
   obtain ⟨vs, hv, ha⟩ := h
   exact ⟨vs, hv, VRs.sames g ha⟩
 | .gd c u, v, h => by
   unfold VR at *
   exact ⟨fun hc => VR.sames g (h.1 hc), h.2⟩
theorem VRs.sames (g : Sames n0 w w') : ∀ {x : List TV} {v : List Value}, VRs φ T w x v → VRs φ T w' x v
 | [], [], _ => by unfold VRs; trivial
 | _ :: _, _ :: _, h => by unfold VRs at *; exact ⟨VR.sames g h.1, VRs.sames g h.2⟩
 | [], _ :: _, h => by unfold VRs at h; exact h.elim
 | _ :: _, [], h => by unfold VRs at h; exact h.elim
end
theorem Cells.sames (g : Sames n0 w w') {b : Nat} {c : Array Value} (h : Cells w b c) : Cells w' b c :=
 let ⟨e, f, h1, h2⟩ := h
 ⟨e, f, g.cells _ _ _ _ h1, h2⟩
theorem ObjR.sames (g : Sames n0 w w') {k : Nat} {o : Obj} (h : ObjR φ T w k o) : ObjR φ T w' k o := by
 cases o with
 | cells cs =>
   obtain ⟨b, base, c, hφ, hC, hcs⟩ := h
   refine ⟨b, base, c, hφ, hC.sames g, fun i tc hi => ?_⟩
   obtain ⟨v, hv, hr⟩ := hcs i tc hi
   exact ⟨v, hv, hr.sames g⟩
 | arr t xs =>
   rcases h with h | ⟨b, base, c, hφ, hC, hcs⟩
   ·exact .inl h
   ·exact .inr ⟨b, base, c, hφ, hC.sames g, hcs⟩
theorem Rel.sames (g : Sames n0 w w') (h : Rel φ T w) : Rel φ T w' where
 obj := fun k o hk => (h.obj k o hk).sames g
 inj := h.inj
 frd := fun b hb => ⟨Nat.lt_of_lt_of_le (h.frd b hb).1 g.size, (h.frd b hb).2⟩
 glo := fun q hq => let ⟨h1, c, e, f, h2, h3⟩ := h.glo q hq; ⟨h1, c, e, f, g.cells _ _ _ _ h2, h3⟩
theorem Ge.sames {φ0 : Phi} {T0 : Tab} {w0 : World} (g : Sames n0 w w') (hn : w0.heap.size ≤ n0) (h : Ge φ0 T0 w0 φ T w) : Ge φ0 T0 w0 φ T w' where
 os := g.os.trans h.os
 tape := g.tape.trans h.tape
 output := g.output.trans h.output
 size := Nat.le_trans h.size g.size
 phi := h.phi
 block := fun b hb ho => (g.low b (Nat.lt_of_lt_of_le hb hn)).trans (h.block b hb ho)
 own := h.own
 sizes := fun b hb => by
  rw [← h.sizes b hb]
  unfold sizeAt
  rw [g.low b (Nat.lt_of_lt_of_le hb hn)]
 fr := h.fr
theorem Sim.sames {φ0 : Phi} {T0 : Tab} {w0 : World} {N m : Nat} {σ : Sg} {a a' : Act} (h : Sim φ0 T0 w0 N m φ σ a w) (g : Sames n0 w w') (hn : w0.heap.size ≤ n0) (ha : a'.tmps = a.tmps) (hd : Marks w0 φ (rdT σ.tab) w' a'.defers) : Sim φ0 T0 w0 N m φ σ a' w' where
 defers := hd
 size := by rw [ha]; exact h.size
 sl := fun i => by rw [ha]; exact (h.sl i).sames g
 rel := h.rel.sames g
 ge := h.ge.sames g hn
 fresh := h.fresh
 kept := fun b hb hU => (g.low b (Nat.lt_of_lt_of_le hb hn)).trans (h.kept b hb hU)
 link := h.link
 low := h.low
 long := h.long
 low0 := h.low0
 base := h.base
end
theorem sames_put {n0 : Nat} {w : World} {r : Nat} {o o' : Go.Obj} (hr : n0 ≤ r) (h : w.heap[r]? = some o) (ho : ∀ c e f, o ≠ .cells c e f) : Sames n0 w (w.putObj r o') where
 os := rfl
 tape := rfl
 output := rfl
 size := by rw [World.putObj_size]; exact Nat.le_refl _
 cells := fun b c e f hb => by
  rw [World.putObj_heap_other]
  ·exact hb
  ·rintro rfl; rw [h] at hb; cases hb; exact ho _ _ _ rfl
 low := fun b hb => World.putObj_heap_other (by omega)
theorem leaves_marks {P : Program} {F : Fence} {n : Nat} {fn : Func} {R : Ending → World → Prop} {φ0 : Phi} {T0 : Tab} {w0 : World} {N m : Nat} {φ : Phi} {σ : Sg} (hR : ∀ a w, Sim φ0 T0 w0 N m φ σ a w → ∃ v, (results fn a.tmps).run P w = .ok v w ∧ R (.returned v) w) :
  ∀ (rs : List Nat) (a : Act) (w : World), Sim φ0 T0 w0 N m φ σ a w → a.defers = rs.map (fun r => ({ target := .collected r, args := #[] } : Deferred)) → rs.Nodup → (∀ r ∈ rs, w0.heap.size ≤ r ∧ w.heap[r]? = some (.deferred (some [])) ∧ ¬ Own φ (rdT σ.tab) r) →
    LeavesInM F n P fn a.tmps R a.defers .returning w
 | [], a, w, hs, hd, _, _ => by
   rw [hd]
   exact hR a w hs
 | r :: rs, a, w, hs, hd, hnd, h => by
   obtain ⟨h1, h2, h3⟩ := h r (List.mem_cons_self ..)
   have hnr := (List.nodup_cons.1 hnd)
   have hrest : ∀ r' ∈ rs, w0.heap.size ≤ r' ∧ (w.putObj r (.deferred none)).heap[r']? = some (.deferred (some [])) ∧ ¬ Own φ (rdT σ.tab) r' := fun r' hr' => by
    obtain ⟨h4, h5, h6⟩ := h r' (List.mem_cons_of_mem _ hr')
    refine ⟨h4, ?_, h6⟩
    rw [World.putObj_heap_other]
    ·exact h5
    ·rintro rfl; exact hnr.1 hr'
   have hs' : Sim φ0 T0 w0 N m φ σ { a with defers := rs.map (fun r => ({ target := .collected r, args := #[] } : Deferred)) } (w.putObj r (.deferred none)) :=
    hs.sames (sames_put h1 h2 (by intro c e f hc; cases hc)) (Nat.le_refl _) rfl ⟨rs, rfl, hnr.2, hrest⟩
   rw [hd]
   exact ⟨by simp, .inl ⟨r, _, rfl, run_takeDeferred h2, leaves_marks hR rs _ _ hs' rfl hnr.2 hrest⟩⟩
theorem put_defers (a : Act) (dst : Option Tmp) (r : Value) : (a.put dst r).defers = a.defers := by cases dst <;> rfl
theorem put_size (a : Act) (dst : Option Tmp) (r : Value) : (a.put dst r).tmps.size = a.tmps.size := by cases dst <;> simp [Act.put]
section
variable {P : Program} {E : Env} (ok : EnvOk P E) {φ0 : Phi} {T0 : Tab} {w0 : World} {N m : Nat}
include ok
theorem Sim.next {φ φ' : Phi} {σ : Sg} {a : Act} {w w' : World} {s : St} {dst : Option Tmp} {r : Value} (h : Sim φ0 T0 w0 N m φ σ a w) (hd : dstOk N dst)
  (hv : VR φ' (newT (rdT σ.tab) σ.tab.length s) w' s.v r) (hrel : Rel φ' (newT (rdT σ.tab) σ.tab.length s) w') (hge : Ge φ (rdT σ.tab) w φ' (newT (rdT σ.tab) σ.tab.length s) w') (hdom : Dom φ φ' σ.tab.length s.news.length)
  (hkept : Kept φ (rdT σ.tab) (fun k => ∃ o, (k, o) ∈ s.upd) w w') :
  Sim φ0 T0 w0 N m φ' ⟨putS σ.sl dst s.v, setT σ.tab s.upd ++ s.news.map some, touch m σ.tch s.upd⟩ (a.put dst r) w' := by
 have hT := newT_rd σ.tab s
 refine {
  defers := by rw [put_defers]; simp only [hT]; exact h.defers.ge hge
  size := (put_size _ _ _).trans h.size
  sl := ?_, rel := ?_, ge := ?_, fresh := ?_, kept := ?_, link := ?_, low := h.low, long := ?_, low0 := h.low0, base := ?_ }
 ·simp only [hT]; exact (h.sl.mono hge).put (by rw [h.size]; exact hd) hv
 ·simp only [hT]; exact hrel
 ·simp only [hT]; exact h.ge.trans hge
 ·intro k hk
  simp only [List.length_append, setT_len, List.length_map] at hk
  cases hc : φ' k with
  | none => rfl
  | some q =>
    rcases hdom k (by rw [hc]; simp) with h1 | h1
    ·exact absurd (h.fresh k (by omega)) h1
    ·omega
 ·intro b hb hU
  have h1 : w.heap[b]? = w0.heap[b]? := h.kept b hb fun j base hj => hU j base ((mem_touch m s.upd σ.tch j).2 (.inl hj))
  rw [← h1]
  refine hkept b (Nat.lt_of_lt_of_le hb h.ge.size) ?_
  rintro k base ⟨o, ho⟩ hTk hφk
  obtain ⟨j, base', hj0, hφj, hjk⟩ := h.link k b base hTk hφk hb
  refine hU j base' ((mem_touch m s.upd σ.tch j).2 ?_) hj0 hφj
  rcases hjk with rfl | hjk
  ·exact .inr ⟨h.low j hj0, o, ho⟩
  ·exact .inl hjk
 ·intro k b base hk hφk hb
  simp only [hT] at hk
  by_cases hold : rdT σ.tab k ≠ none ∧ φ k = some (b, base)
  ·obtain ⟨j, base', h1, h2, h3⟩ := h.link k b base hold.1 hold.2 hb
   exact ⟨j, base', h1, h2, h3.imp id fun h => (mem_touch m s.upd σ.tch j).2 (.inl h)⟩
  ·
   obtain ⟨k2, base2, hk2, hφ2⟩ := hge.own b (Nat.lt_of_lt_of_le hb h.ge.size) ⟨k, base, hk, hφk⟩
   obtain ⟨j, base', h1, h2, h3⟩ := h.link k2 b base2 hk2 hφ2 hb
   refine ⟨j, base', h1, h2, ?_⟩
   rcases h3 with rfl | h3
   ·by_cases hjk : j = k
    ·exact .inl hjk
    ·right
     rw [mem_touch]
     right
     refine ⟨h.low j h1, ?_⟩
     by_cases hex : ∃ o, (j, o) ∈ s.upd
     ·exact hex
     ·exfalso
      have hjT : newT (rdT σ.tab) σ.tab.length s j ≠ none := by
       have h4 : updT (rdT σ.tab) s.upd j = rdT σ.tab j := updT_other _ _ _ fun o ho => hex ⟨o, ho⟩
       have h5 : j < σ.tab.length := by
        rcases Nat.lt_or_ge j σ.tab.length with h' | h'
        ·exact h'
        ·exact absurd (rdT_big h') hk2
       unfold newT addT
       rw [if_neg (by omega), h4]; exact hk2
      exact hjk (hrel.inj j k b base2 base hjT hk (hge.phi _ _ hφ2) hφk)
   ·exact .inr ((mem_touch m s.upd σ.tch j).2 (.inl h3))
 ·simp only [List.length_append, setT_len]; have := h.long; omega
 ·intro k hk hφ
  rcases hdom k hφ with h1 | h1
  ·exact h.base k hk h1
  ·have := h.long; omega
theorem gcond_wanted {ops : Array Oper} {φ : Phi} {T : Tab} {w : World} {sl : List (Nat × TV)} {a : Act} {o : Oper} {g : Bool} (hsl : ∀ j b d, o.guard = some (j, b) → (ops[j]?).bind (·.dst) = some d → VR φ T w (look sl d) (a.tmps.getD d undef)) (h : gcond ops.toList sl o = some g) : Region.wanted o (yielded ops a.tmps) = g := by
 unfold gcond at h
 unfold Region.wanted
 split at h
 ·rename_i hg; cases h; rw [hg]
 ·rename_i j want hg
  rw [hg]
  simp only
  split at h
  ·cases h
  ·rename_i d hd
   have hd' : (ops[j]?).bind (·.dst) = some d := by simpa using hd
   have hsld := hsl j want d hg hd'
   have key : ∀ b : Bool, a.tmps.getD d undef = .bool b → yielded ops a.tmps j = some b := by
    intro b hb
    unfold yielded
    rw [hd']
    simp only [Option.bind_some]
    rw [Array.getD_eq_getD_getElem?] at hb
    cases hx : a.tmps[d]? with
    | none => rw [hx] at hb; simp [undef] at hb
    | some v => rw [hx] at hb; simp only [Option.getD_some] at hb; subst hb; rfl
   split at h
   ·rename_i b hl
    cases h
    rw [hl] at hsld
    simp only [VR, CR] at hsld
    rw [key b hsld]
    cases b <;> cases want <;> rfl
   ·rename_i c b hl
    cases h
    rw [hl] at hsld
    simp only [VR, CR] at hsld
    cases c with
    | true =>
      rw [key b (hsld.1 rfl)]
      cases b <;> cases want <;> rfl
    | false =>
      have hund := hsld.2 rfl
      have : yielded ops a.tmps j = none := by
       unfold yielded
       rw [hd']
       simp only [Option.bind_some]
       rw [Array.getD_eq_getD_getElem?] at hund
       cases hx : a.tmps[d]? with
       | none => rfl
       | some v => rw [hx] at hund; simp only [Option.getD_some] at hund; subst hund; rfl
      rw [this]; rfl
   ·cases h
theorem goOps_sound {rd : Option Nat} {ops : Array Oper} {Q : Exit → Act → World → Prop} : ∀ (is : List Nat) (os : List Oper) (σ : Sg) (K : Sg → Prop) (φ : Phi) (a : Act) (w : World), is.length = os.length → (∀ (i : Nat) (k : Nat) (o : Oper), is[i]? = some k → os[i]? = some o → ops[k]? = some o) →
  goOps E N m ops.toList os σ K → Sim φ0 T0 w0 N m φ σ a w → (∀ σ' φ' a' w', Sim φ0 T0 w0 N m φ' σ' a' w' → K σ' → Q .normal a' w') → wpOpsIn (fenceAt rd) 0 P ops Q is a w
 | [], [], σ, K, φ, a, w, _, _, hg, hs, hK => by
   simp only [wpOpsIn]
   exact hK σ φ a w hs hg
 | i :: is, o :: os, σ, K, φ, a, w, hl, hio, hg, hs, hK => by
   have ho : ops[i]? = some o := hio 0 i o rfl rfl
   simp only [wpOpsIn, ho]
   unfold goOps stepv at hg
   have hrec : ∀ σ' φ' a' w', Sim φ0 T0 w0 N m φ' σ' a' w' → goOps E N m ops.toList os σ' K → wpOpsIn (fenceAt rd) 0 P ops Q is a' w' := fun σ' φ' a' w' hs' hg' =>
    goOps_sound is os σ' K φ' a' w' (by simpa using hl) (fun i k o h1 h2 => hio (i + 1) k o (by simpa using h1) (by simpa using h2)) hg' hs' hK
   have hfr : ∀ (s : St), ∀ k, σ.tab.length ≤ k → k < σ.tab.length + s.news.length → φ k = none ∧ rdT σ.tab k = none := fun s k hk _ => ⟨hs.fresh k hk, rdT_big hk⟩
   split at hg
   ·rename_i hgd
    have hw : Region.wanted o (yielded ops a.tmps) = true := by unfold Region.wanted; rw [hgd]
    rw [if_pos hw]
    cases hop : opv E (rdT σ.tab) σ.tab.length σ.sl o.op with
    | mk p v upd news =>
      rw [hop] at hg
      obtain ⟨hd, hu, hp, hk⟩ := hg
      refine wpIn_at rd (opv_nd (E := E) (rd := rdT σ.tab) (n := σ.tab.length) (sl := σ.sl) (by rw [hop]; exact hp)) (opv_sound ok (rd := rdT σ.tab) (n := σ.tab.length) (sl := σ.sl) hs.rel (fun t _ => hs.sl t) hu (fun _ _ => rfl) (by rw [hop]; exact hp) (hfr _) _ _ ?_)
      intro r w' φ' h1 h2 h3 h4 h5
      rw [hop] at h1 h2 h3 h4 h5
      exact hrec _ φ' _ w' (hs.next ok (s := ⟨p, v, upd, news⟩) hd h1 h2 h3 h4 h5) hk
   ·split at hg
    ·obtain ⟨hgc, hd, hk⟩ := hg
     have hw := gcond_wanted ok (fun _ _ d _ _ => hs.sl d) hgc
     rw [if_neg (by rw [hw]; simp)]
     have := hs.next ok (s := ⟨True, .gd false (.one .any), [], []⟩) (dst := o.dst) (r := undef) (φ' := φ) (w' := w) hd (by unfold VR; exact ⟨fun h => (by cases h), fun _ => rfl⟩)
      (by rw [newT_pure _ _ _ rfl rfl]; exact hs.rel) (by rw [newT_pure _ _ _ rfl rfl]; exact Ge.refl _ _ _) (fun k hk => .inl hk) (fun _ _ _ => rfl)
     simp only [setT, List.map_nil, List.append_nil, touch] at this
     exact ⟨fun _ _ => trivial, hrec _ φ _ w this hk⟩
    split at hg
    ·exact hg.elim
    ·rename_i g hgc
     have hw := gcond_wanted ok (fun _ _ d _ _ => hs.sl d) hgc
     cases hop : opv E (rdT σ.tab) σ.tab.length σ.sl o.op with
     | mk p v upd news =>
       rw [hop] at hg
       obtain ⟨hd, hgt, hk⟩ := hg
       cases g with
       | true =>
         obtain ⟨hu, hp⟩ := hgt rfl
         rw [if_pos hw]
         refine wpIn_at rd (opv_nd (E := E) (rd := rdT σ.tab) (n := σ.tab.length) (sl := σ.sl) (by rw [hop]; exact hp)) (opv_sound ok (rd := rdT σ.tab) (n := σ.tab.length) (sl := σ.sl) hs.rel (fun t _ => hs.sl t) hu (fun _ _ => rfl) (by rw [hop]; exact hp) (hfr _) _ _ ?_)
         intro r w' φ' h1 h2 h3 h4 h5
         rw [hop] at h1 h2 h3 h4 h5
         have := hs.next ok (s := ⟨p, .gd true v, upd, news⟩) (dst := o.dst) (r := r) hd (by unfold VR; exact ⟨fun _ => h1, fun h => by cases h⟩) h2 h3 h4 h5
         exact hrec _ φ' _ w' this hk
       | false =>
         rw [if_neg (by rw [hw]; simp)]
         have := hs.next ok (s := ⟨True, .gd false v, [], []⟩) (dst := o.dst) (r := undef) (φ' := φ) (w' := w) hd (by unfold VR; exact ⟨fun h => (by cases h), fun _ => rfl⟩)
          (by rw [newT_pure _ _ _ rfl rfl]; exact hs.rel) (by rw [newT_pure _ _ _ rfl rfl]; exact Ge.refl _ _ _) (fun k hk => .inl hk) (fun _ _ _ => rfl)
         exact ⟨fun _ _ => trivial, hrec _ φ _ w this hk⟩
 | [], _ :: _, _, _, _, _, _, hl, _, _, _, _ => by simp at hl
 | _ :: _, [], _, _, _, _, _, hl, _, _, _, _ => by simp at hl
theorem region_sound {rd : Option Nat} {ops : Array Oper} {Q : Exit → Act → World → Prop} {σ : Sg} {K : Sg → Prop} {φ : Phi} {a : Act} {w : World} (hg : goOps E N m ops.toList ops.toList σ K) (hs : Sim φ0 T0 w0 N m φ σ a w)
  (hK : ∀ σ' φ' a' w', Sim φ0 T0 w0 N m φ' σ' a' w' → K σ' → Q .normal a' w') : wpOpsIn (fenceAt rd) 0 P ops Q (List.range ops.size) a w :=
 goOps_sound ok _ ops.toList σ K φ a w (by simp) (fun i k o h1 h2 => by
  have hi : i < ops.size := by simpa using (List.getElem?_eq_some_iff.1 h1).1
  simp [hi] at h1
  subst h1
  simpa using h2) hg hs hK
end
end Go.Proofs.YtfmjgoeclilcnaaGreatDoor
namespace Go.Proofs.YtfmjgoeclilcnaaGreatDoor
open Go.RowKit
theorem mem_addNew {π : List Nat} {k x : Nat} : x ∈ addNew π k ↔ x ∈ π ∨ x = k := by
 unfold addNew
 cases h : idxOf π k with
 | some j =>
   simp only [Option.isSome_some, if_true]
   constructor
   ·exact .inl
   ·rintro (h' | rfl)
    ·exact h'
    ·exact List.mem_of_getElem? (idxOf_some h)
 | none => simp
theorem mem_foldl_addNew : ∀ (l π : List Nat) (x : Nat), x ∈ l.foldl addNew π ↔ x ∈ π ∨ x ∈ l
 | [], π, x => by simp
 | k :: l, π, x => by rw [List.foldl_cons, mem_foldl_addNew l, mem_addNew, List.mem_cons, or_assoc]
theorem mem_uni {ds : List Nat} {acc : List (List Nat)} {x : Nat} : x ∈ uni ds acc ↔ x ∈ ds ∨ ∃ d ∈ ds, x ∈ acc.getD d [] := by
 unfold uni
 rw [mem_foldl_addNew]
 simp only [List.not_mem_nil, false_or, List.mem_append, List.mem_flatMap]
theorem ancT_get : ∀ (ops : List Oper) (acc : List (List Nat)), (∀ i, i < acc.length → (ancT ops acc).getD i [] = acc.getD i []) ∧ (ancT ops acc).length = acc.length + ops.length ∧
  ∀ i o, ops[i]? = some o → (ancT ops acc).getD (acc.length + i) [] = uni (depsOf o) ((ancT ops acc).take (acc.length + i))
 | [], acc => ⟨fun _ _ => rfl, by simp [ancT], fun i o h => by simp at h⟩
 | o :: r, acc => by
   obtain ⟨h1, h2, h3⟩ := ancT_get r (acc ++ [uni (depsOf o) acc])
   have hpre : ∀ i, i < acc.length → (ancT (o :: r) acc).getD i [] = acc.getD i [] := by
    intro i hi
    rw [ancT, h1 i (by simp; omega)]
    simp [List.getD, List.getElem?_append_left hi]
   refine ⟨hpre, by rw [ancT, h2]; simp; omega, fun i o' ho' => ?_⟩
   cases i with
   | zero =>
     simp at ho'; subst ho'
     rw [Nat.add_zero, ancT, h1 acc.length (by simp)]
     have : (ancT r (acc ++ [uni (depsOf o) acc])).take acc.length = acc := by
      apply List.ext_getElem?
      intro i
      by_cases hi : i < acc.length
      ·have hl : i < (ancT r (acc ++ [uni (depsOf o) acc])).length := by rw [h2]; simp; omega
       have := h1 i (by simp; omega)
       simp only [List.getD, List.getElem?_append_left hi, List.getElem?_eq_getElem hl, List.getElem?_eq_getElem hi, Option.getD_some] at this
       rw [List.getElem?_take, if_pos hi, List.getElem?_eq_getElem hl, List.getElem?_eq_getElem hi, this]
      ·rw [List.getElem?_eq_none (by simp; omega), List.getElem?_eq_none (by omega)]
     rw [this]
     simp [List.getD]
   | succ i =>
     have := h3 i o' (by simpa using ho')
     rw [ancT]
     rw [show (acc ++ [uni (depsOf o) acc]).length + i = acc.length + (i + 1) by simp; omega] at this
     exact this
theorem apartL_spec {xs ys : List Nat} (h : apartL xs ys = true) {x : Nat} (hx : x ∈ xs) : x ∉ ys := by
 have := List.all_eq_true.1 h x hx
 simpa using this
theorem updT_congr : ∀ (upd : List (Nat × Option Obj)) (T T2 : Tab) (k : Nat), T k = T2 k → updT T upd k = updT T2 upd k
 | [], T, T2, k, h => h
 | (i, o) :: r, T, T2, k, h => by
   simp only [updT]
   refine updT_congr r _ _ k ?_
   by_cases hk : k = i
   ·subst hk; simp [h]
   ·simp [hk, h]
theorem newT_congr (T T2 : Tab) (n : Nat) (s : St) (k : Nat) (h : T k = T2 k) : newT T n s k = newT T2 n s k := by
 unfold newT addT
 rw [updT_congr s.upd T T2 k h]
theorem newT_out (T : Tab) (n : Nat) (s : St) (k : Nat) (h1 : ∀ o, (k, o) ∉ s.upd) (h2 : ¬ (n ≤ k ∧ k < n + s.news.length)) : newT T n s k = T k := by
 unfold newT addT
 rw [updT_other _ _ _ h1]
 split
 ·rw [List.getElem?_eq_none (by omega)]
 ·rfl
def stepR (E : Env) (n m : Nat) (ops : List Oper) (o : Oper) (σ : Sg) : Prop × Sg × List Nat :=
 match o.guard with
 | none => match opv E (rdT σ.tab) σ.tab.length σ.sl o.op with
   | ⟨p, v, upd, news⟩ => (dstOk n o.dst ∧ underAll true σ.sl (operandsOf o.op) ∧ p, ⟨putS σ.sl o.dst v, setT σ.tab upd ++ news.map some, touch m σ.tch upd⟩, upd.map (·.1) ++ (List.range news.length).map (σ.tab.length + ·))
 | some _ => if passed E.sk o.dst then (gcond ops σ.sl o = some false ∧ dstOk n o.dst, ⟨putS σ.sl o.dst (.gd false (.one .any)), σ.tab, σ.tch⟩, []) else match gcond ops σ.sl o with
   | none => (False, σ, [])
   | some g => match opv E (rdT σ.tab) σ.tab.length σ.sl o.op with
     | ⟨p, v, upd, news⟩ => (dstOk n o.dst ∧ (g = true → underAll g σ.sl (operandsOf o.op) ∧ p), ⟨putS σ.sl o.dst (.gd g v), setT σ.tab (gl g upd) ++ (gl g news).map some, touch m σ.tch (gl g upd)⟩, (gl g upd).map (·.1) ++ (List.range (gl g news).length).map (σ.tab.length + ·))
theorem stepv_iff (E : Env) (n m : Nat) (ops : List Oper) (o : Oper) (σ : Sg) (K : Sg → List Nat → Prop) : stepv E n m ops o σ K ↔ (stepR E n m ops o σ).1 ∧ K (stepR E n m ops o σ).2.1 (stepR E n m ops o σ).2.2 := by
 cases hop : opv E (rdT σ.tab) σ.tab.length σ.sl o.op with
 | mk p v upd news =>
   cases hg : o.guard with
   | none => simp only [stepv, stepR, hg, hop, and_assoc]
   | some q =>
     by_cases hps : passed E.sk o.dst = true
     ·simp only [stepv, stepR, hg, hps, if_true, and_assoc]
     simp only [stepv, stepR, hg, if_neg hps]
     cases hc : gcond ops σ.sl o with
     | none => simp only [false_and]
     | some g => simp only [hop, and_assoc]
def stAt (E : Env) (n m : Nat) (all : List Oper) : List Oper → Sg → Nat → Sg
 | _, σ, 0 => σ
 | [], σ, _ + 1 => σ
 | o :: r, σ, i + 1 => stAt E n m all r (stepR E n m all o σ).2.1 i
theorem goOpsD_trace {E : Env} {n m : Nat} {all : List Oper} {K : Sg → Prop} : ∀ (os : List Oper) (σ : Sg) (log : List (List Nat × List Nat)), goOpsD E n m all os σ log K →
  (∀ i o, os[i]? = some o → (stepR E n m all o (stAt E n m all os σ i)).1 ∧ stAt E n m all os σ (i + 1) = (stepR E n m all o (stAt E n m all os σ i)).2.1) ∧
  ∃ L, L.length = os.length ∧ (∀ i o, os[i]? = some o → L[i]? = some (foot E (rdT (stAt E n m all os σ i).tab) (stAt E n m all os σ i).sl o.op, (stepR E n m all o (stAt E n m all os σ i)).2.2)) ∧
    drawOk all (log.reverse ++ L) = true ∧ K (stAt E n m all os σ os.length)
 | [], σ, log, h => ⟨fun i o h => by simp at h, [], rfl, fun i o h => by simp at h, by simpa using h.1, h.2⟩
 | o :: r, σ, log, h => by
   unfold goOpsD at h
   rw [stepv_iff] at h
   obtain ⟨hp, hk⟩ := h
   obtain ⟨h1, L, h2, h3, h4, h5⟩ := goOpsD_trace r _ _ hk
   refine ⟨fun i o' ho' => ?_, (foot E (rdT σ.tab) σ.sl o.op, (stepR E n m all o σ).2.2) :: L, by simp [h2], fun i o' ho' => ?_, ?_, h5⟩
   ·cases i with
    | zero =>
      simp at ho'; subst ho'
      refine ⟨hp, ?_⟩
      cases r <;> rfl
    | succ i => exact h1 i o' (by simpa using ho')
   ·cases i with
    | zero => simp at ho'; subst ho'; rfl
    | succ i => exact h3 i o' (by simpa using ho')
   ·simpa [List.reverse_cons, List.append_assoc] using h4
structure KL (φ0 : Phi) (T0 : Tab) (w0 : World) (φ : Phi) (T : Tab) (w : World) (U : Nat → Prop) : Prop where
 kept : Kept φ0 T0 U w0 w
 link : ∀ k b base, T k ≠ none → φ k = some (b, base) → b < w0.heap.size → ∃ j base', T0 j ≠ none ∧ φ0 j = some (b, base') ∧ (j = k ∨ U j)
theorem KL.next {φ0 : Phi} {T0 : Tab} {w0 : World} {φ φ' : Phi} {T : Tab} {w w' : World} {U : Nat → Prop} {m n : Nat} {s : St} (h : KL φ0 T0 w0 φ T w U) (hsize : w0.heap.size ≤ w.heap.size) (low : ∀ j, T0 j ≠ none → j < m) (hmn : m ≤ n)
  (hrel : Rel φ' (newT T n s) w') (hge : Ge φ T w φ' (newT T n s) w') (hkept : Kept φ T (fun k => ∃ o, (k, o) ∈ s.upd) w w') :
  KL φ0 T0 w0 φ' (newT T n s) w' (fun j => U j ∨ (j < m ∧ ∃ o, (j, o) ∈ s.upd)) where
 kept := by
  intro b hb hU
  have h1 : w.heap[b]? = w0.heap[b]? := h.kept b hb fun j base hj => hU j base (.inl hj)
  rw [← h1]
  refine hkept b (Nat.lt_of_lt_of_le hb hsize) ?_
  rintro k base ⟨o, ho⟩ hTk hφk
  obtain ⟨j, base', hj0, hφj, hjk⟩ := h.link k b base hTk hφk hb
  refine hU j base' ?_ hj0 hφj
  rcases hjk with rfl | hjk
  ·exact .inr ⟨low j hj0, o, ho⟩
  ·exact .inl hjk
 link := by
  intro k b base hk hφk hb
  obtain ⟨k2, base2, hk2, hφ2⟩ := hge.own b (Nat.lt_of_lt_of_le hb hsize) ⟨k, base, hk, hφk⟩
  obtain ⟨j, base', h1, h2, h3⟩ := h.link k2 b base2 hk2 hφ2 hb
  refine ⟨j, base', h1, h2, ?_⟩
  rcases h3 with rfl | h3
  ·by_cases hjk : j = k
   ·exact .inl hjk
   ·right; right
    refine ⟨low j h1, ?_⟩
    by_cases hex : ∃ o, (j, o) ∈ s.upd
    ·exact hex
    ·exfalso
     have hjT : newT T n s j ≠ none := by
      rw [newT_out T n s j (fun o ho => hex ⟨o, ho⟩) (by have := low j h1; omega)]; exact hk2
     exact hjk (hrel.inj j k b base2 base hjT hk (hge.phi _ _ hφ2) hφk)
  ·exact .inr (.inl h3)
theorem KL.mono {φ0 : Phi} {T0 : Tab} {w0 : World} {φ : Phi} {T : Tab} {w : World} {U V : Nat → Prop} (h : KL φ0 T0 w0 φ T w U) (hUV : ∀ j, U j → V j) : KL φ0 T0 w0 φ T w V :=
 ⟨fun b hb hV => h.kept b hb fun j base hj => hV j base (hUV j hj), fun k b base h1 h2 h3 => by
  obtain ⟨j, base', k1, k2, k3⟩ := h.link k b base h1 h2 h3
  exact ⟨j, base', k1, k2, k3.imp id (hUV j)⟩⟩
section
variable {P : Program} {E : Env} (ok : EnvOk P E) {φ0 : Phi} {T0 : Tab} {w0 : World} {N m : Nat}
include ok
theorem stepR_does {ops : Array Oper} {i : Nat} {o : Oper} {σ : Sg} (ho : ops[i]? = some o) (hp : (stepR E N m ops.toList o σ).1) :
  ∃ s : St, dstOk N o.dst ∧ (stepR E N m ops.toList o σ).2.1 = ⟨putS σ.sl o.dst s.v, setT σ.tab s.upd ++ s.news.map some, touch m σ.tch s.upd⟩ ∧
    (stepR E N m ops.toList o σ).2.2 = s.upd.map (·.1) ++ (List.range s.news.length).map (σ.tab.length + ·) ∧
    ∀ {rd : Option Nat} {Q : Exit → Act → World → Prop} (φ : Phi) (T : Tab) (a : Act) (w : World) (K : Act → World → Prop), Rel φ T w → (∀ t ∈ namesOf ops.toList o, VR φ T w (look σ.sl t) (a.tmps.getD t undef)) →
      (∀ k ∈ foot E (rdT σ.tab) σ.sl o.op, T k = rdT σ.tab k) → (∀ k, σ.tab.length ≤ k → k < σ.tab.length + s.news.length → φ k = none ∧ T k = none) →
      (∀ φ' r w', VR φ' (newT T σ.tab.length s) w' s.v r → Rel φ' (newT T σ.tab.length s) w' → Ge φ T w φ' (newT T σ.tab.length s) w' → Dom φ φ' σ.tab.length s.news.length → Kept φ T (fun k => ∃ o, (k, o) ∈ s.upd) w w' → K (a.put o.dst r) w') →
      wpOpIn (fenceAt rd) 0 P ops Q i K a w := by
 cases hop : opv E (rdT σ.tab) σ.tab.length σ.sl o.op with
 | mk p v upd news =>
   have hnm : ∀ t, Operand.tmp t ∈ o.op.operands.toList → t ∈ namesOf ops.toList o := by
    intro t ht
    unfold namesOf
    have : ∀ l : List Operand, Operand.tmp t ∈ l → t ∈ tmpsOf l := by
     intro l
     induction l with
     | nil => intro h; simp at h
     | cons x r ih =>
       intro h
       rcases List.mem_cons.1 h with rfl | h'
       ·simp [tmpsOf]
       ·cases x <;> simp [tmpsOf, ih h']
    simp [this _ ht]
   have hdo : ∀ {rd : Option Nat} {Q : Exit → Act → World → Prop}, underAll true σ.sl (operandsOf o.op) → p → ∀ (φ : Phi) (T : Tab) (a : Act) (w : World) (K : Act → World → Prop), Rel φ T w → (∀ t ∈ namesOf ops.toList o, VR φ T w (look σ.sl t) (a.tmps.getD t undef)) →
     (∀ k ∈ foot E (rdT σ.tab) σ.sl o.op, T k = rdT σ.tab k) → (∀ k, σ.tab.length ≤ k → k < σ.tab.length + news.length → φ k = none ∧ T k = none) →
     (∀ φ' r w', VR φ' (newT T σ.tab.length ⟨p, v, upd, news⟩) w' v r → Rel φ' (newT T σ.tab.length ⟨p, v, upd, news⟩) w' → Ge φ T w φ' (newT T σ.tab.length ⟨p, v, upd, news⟩) w' → Dom φ φ' σ.tab.length news.length → Kept φ T (fun k => ∃ o, (k, o) ∈ upd) w w' → K (a.put o.dst r) w') →
     o.wpIn (fenceAt rd) 0 P a w K Q := by
    intro rd Q hu hpre φ T a w K hrel hsl hft hfr hK
    refine wpIn_at rd (opv_nd (E := E) (rd := rdT σ.tab) (n := σ.tab.length) (sl := σ.sl) (by rw [hop]; exact hpre)) (opv_sound ok (rd := rdT σ.tab) (n := σ.tab.length) (sl := σ.sl) hrel (fun t ht => hsl t (hnm t ht)) hu hft (by rw [hop]; exact hpre) (by rw [hop]; exact hfr) _ _ ?_)
    intro r w' φ' h1 h2 h3 h4 h5
    rw [hop] at h1 h2 h3 h4 h5
    exact hK φ' r w' h1 h2 h3 h4 h5
   cases hg : o.guard with
   | none =>
     simp only [stepR, hg, hop] at hp ⊢
     obtain ⟨hd, hu, hpre⟩ := hp
     refine ⟨⟨p, v, upd, news⟩, hd, rfl, rfl, ?_⟩
     intro rd Q φ T a w K hrel hsl hft hfr hK
     have hw : Region.wanted o (yielded ops a.tmps) = true := by unfold Region.wanted; rw [hg]
     simp only [wpOpIn, ho, hw, if_true]
     exact hdo hu hpre φ T a w K hrel hsl hft hfr hK
   | some q =>
     by_cases hps : passed E.sk o.dst = true
     ·simp only [stepR, hg, hps, if_true] at hp ⊢
      obtain ⟨hc, hd⟩ := hp
      refine ⟨⟨True, .gd false (.one .any), [], []⟩, hd, by simp [setT, touch], by simp, ?_⟩
      intro rd Q φ T a w K hrel hsl hft hfr hK
      have hw := gcond_wanted ok (ops := ops) (a := a) (fun j b d hj hd => hsl d (by unfold namesOf; rw [hj]; simp [show ops.toList[j]? = ops[j]? by simp, hd])) hc
      simp only [wpOpIn, ho, hw]
      simp only [Bool.false_eq_true, if_false]
      exact ⟨fun _ _ => trivial, hK φ undef w (by unfold VR; exact ⟨fun h => (by cases h), fun _ => rfl⟩) (by rw [newT_pure _ _ _ rfl rfl]; exact hrel) (by rw [newT_pure _ _ _ rfl rfl]; exact Ge.refl _ _ _) (fun k hk => .inl hk) (fun _ _ _ => rfl)⟩
     simp only [stepR, hg, if_neg hps] at hp ⊢
     cases hc : gcond ops.toList σ.sl o with
     | none => simp only [hc] at hp
     | some g =>
       simp only [hc, hop] at hp ⊢
       obtain ⟨hd, hgt⟩ := hp
       refine ⟨⟨p, .gd g v, gl g upd, gl g news⟩, hd, rfl, rfl, ?_⟩
       intro rd Q φ T a w K hrel hsl hft hfr hK
       have hw := gcond_wanted ok (ops := ops) (a := a) (fun j b d hj hd => hsl d (by unfold namesOf; rw [hj]; simp [show ops.toList[j]? = ops[j]? by simp, hd])) hc
       simp only [wpOpIn, ho, hw]
       cases g with
       | true =>
         obtain ⟨hu, hpre⟩ := hgt rfl
         rw [if_pos rfl]
         refine hdo hu hpre φ T a w K hrel hsl hft hfr ?_
         intro φ' r w' h1 h2 h3 h4 h5
         exact hK φ' r w' (by unfold VR; exact ⟨fun _ => h1, fun h => by cases h⟩) h2 h3 h4 h5
       | false =>
         simp only [Bool.false_eq_true, if_false]
         exact ⟨fun _ _ => trivial, hK φ undef w (by unfold VR; exact ⟨fun h => (by cases h), fun _ => rfl⟩) (by rw [newT_pure _ _ _ rfl rfl]; exact hrel) (by rw [newT_pure _ _ _ rfl rfl]; exact Ge.refl _ _ _) (fun k hk => .inl hk) (fun _ _ _ => rfl)⟩
structure DInv (ops : List Oper) (st : Nat → Sg) (W : Nat → List Nat) (φ0 : Phi) (T0 : Tab) (w0 : World) (N m : Nat) (L : Nat → Prop) (φ : Phi) (T : Tab) (a : Act) (w : World) : Prop where
 defers : Marks w0 φ T w a.defers
 size : a.tmps.size = N
 down : ∀ j o, L j → ops[j]? = some o → ∀ d ∈ depsOf o, L d
 dom : ∀ j, L j → j < ops.length
 sl : ∀ t i, i ≤ ops.length → (∀ j o, j < i → ops[j]? = some o → o.dst = some t → L j) → (∀ j o, i ≤ j → ops[j]? = some o → o.dst = some t → ¬ L j) → VR φ T w (look (st i).sl t) (a.tmps.getD t undef)
 tab : ∀ k i, i ≤ ops.length → (∀ j, j < i → k ∈ W j → L j) → (∀ j, i ≤ j → j < ops.length → k ∈ W j → ¬ L j) → T k = rdT (st i).tab k
 rel : Rel φ T w
 ge : Ge φ0 T0 w0 φ T w
 fresh : ∀ i, i < ops.length → ¬ L i → ∀ k, (st i).tab.length ≤ k → k < (st (i + 1)).tab.length → φ k = none
 past : ∀ k, (st ops.length).tab.length ≤ k → φ k = none
 base : ∀ k, k < m → φ k ≠ none → φ0 k ≠ none
 kl : KL φ0 T0 w0 φ T w (fun j => j ∈ (st 0).tch ∨ ∃ i, L i ∧ j < m ∧ j ∈ W i)
theorem drawOk_spec {ops : List Oper} {log : List (List Nat × List Nat)} (h : drawOk ops log = true) {j : Nat} {oj : Oper} (hj : ops[j]? = some oj) :
  (∀ d ∈ depsOf oj, d < j) ∧ ∀ i oi, i < j → ops[i]? = some oi → i ∈ (ancT ops []).getD j [] ∨ pairOk ops oi oj (log.getD i ([], [])) (log.getD j ([], [])) = true := by
 have hlt : j < ops.length := (List.getElem?_eq_some_iff.1 hj).1
 have := List.all_eq_true.1 h j (List.mem_range.2 hlt)
 simp only [hj, Option.map_some, Option.getD_some, Bool.and_eq_true, List.all_eq_true, decide_eq_true_eq, Bool.or_eq_true] at this
 refine ⟨this.1, fun i oi hi hoi => ?_⟩
 have h2 := this.2 i (List.mem_range.2 hi)
 simp only [hoi, Option.map_some, Option.getD_some] at h2
 exact h2.imp (fun h => by simpa using h) id
theorem anc_down {ops : List Oper} {log : List (List Nat × List Nat)} (h : drawOk ops log = true) {L : Nat → Prop} (hdown : ∀ j o, L j → ops[j]? = some o → ∀ d ∈ depsOf o, L d) :
  ∀ (n j : Nat) (oj : Oper), j < n → ops[j]? = some oj → (∀ d ∈ depsOf oj, L d) → ∀ x ∈ (ancT ops []).getD j [], L x
 | 0, j, oj, hn, _, _ => by omega
 | n + 1, j, oj, hn, hj, hd => by
   intro x hx
   obtain ⟨h1, h2, h3⟩ := ancT_get ops []
   have h4 := h3 j oj hj
   simp only [List.length_nil, Nat.zero_add] at h4
   rw [h4, mem_uni] at hx
   rcases hx with hx | ⟨d, hdm, hx⟩
   ·exact hd x hx
   ·have hdj := (drawOk_spec ok h hj).1 d hdm
    have hlt : j < ops.length := (List.getElem?_eq_some_iff.1 hj).1
    obtain ⟨od, hod⟩ : ∃ od, ops[d]? = some od := ⟨ops[d]'(by omega), List.getElem?_eq_getElem (by omega)⟩
    refine anc_down h hdown n d od (by omega) hod (hdown d od (hd d hdm) hod) x ?_
    have : ((ancT ops []).take j).getD d [] = (ancT ops []).getD d [] := by simp [List.getD, List.getElem?_take, hdj]
    rwa [this] at hx
theorem drawn_sound {rd : Option Nat} {ops : Array Oper} {Q : Exit → Act → World → Prop} {σ : Sg} {K : Sg → Prop} {φ : Phi} {a : Act} {w : World} (hg : goOpsD E N m ops.toList ops.toList σ [] K) (hs : Sim φ0 T0 w0 N m φ σ a w)
  (hK : ∀ σ' φ' a' w', Sim φ0 T0 w0 N m φ' σ' a' w' → K σ' → Q .normal a' w') : wpAnyIn (fenceAt rd) 0 P .any ops Q ops.size (Array.replicate ops.size false) a w := by
 obtain ⟨htr, log, hlen, hlog, hdraw, hfin⟩ := goOpsD_trace _ _ _ hg
 simp only [List.reverse_nil, List.nil_append] at hdraw
 generalize hst : stAt E N m ops.toList ops.toList σ = st at *
 have hst0 : st 0 = σ := by rw [← hst]; cases ops.toList <;> rfl
 let W : Nat → List Nat := fun i => (log.getD i ([], [])).2
 have hn : ops.toList.length = ops.size := by simp
 have hstep : ∀ i o, ops.toList[i]? = some o → ∃ s : St, dstOk N o.dst ∧ (st (i + 1)).sl = putS (st i).sl o.dst s.v ∧ rdT (st (i + 1)).tab = newT (rdT (st i).tab) (st i).tab.length s ∧ (st (i + 1)).tab.length = (st i).tab.length + s.news.length ∧ (st (i + 1)).tch = touch m (st i).tch s.upd ∧
   W i = s.upd.map (·.1) ++ (List.range s.news.length).map ((st i).tab.length + ·) ∧
   ∀ (φ : Phi) (T : Tab) (a : Act) (w : World) (K : Act → World → Prop), Rel φ T w → (∀ t ∈ namesOf ops.toList o, VR φ T w (look (st i).sl t) (a.tmps.getD t undef)) →
     (∀ k ∈ (log.getD i ([], [])).1, T k = rdT (st i).tab k) → (∀ k, (st i).tab.length ≤ k → k < (st i).tab.length + s.news.length → φ k = none ∧ T k = none) →
     (∀ φ' r w', VR φ' (newT T (st i).tab.length s) w' s.v r → Rel φ' (newT T (st i).tab.length s) w' → Ge φ T w φ' (newT T (st i).tab.length s) w' → Dom φ φ' (st i).tab.length s.news.length → Kept φ T (fun k => ∃ o, (k, o) ∈ s.upd) w w' → K (a.put o.dst r) w') →
     wpOpIn (fenceAt rd) 0 P ops Q i K a w := by
  intro i o ho
  obtain ⟨hp, hnx⟩ := htr i o ho
  have hl := hlog i o ho
  obtain ⟨s, hd, h1, h2, h3⟩ := stepR_does ok (show ops[i]? = some o by simpa using ho) hp
  have hlg : log.getD i ([], []) = (foot E (rdT (st i).tab) (st i).sl o.op, (stepR E N m ops.toList o (st i)).2.2) := by simp [List.getD, hl]
  refine ⟨s, hd, by rw [hnx, h1], ?_, ?_, by rw [hnx, h1], ?_, ?_⟩
  ·rw [hnx, h1]; exact newT_rd _ _
  ·rw [hnx, h1]; simp [setT_len]
  ·show (log.getD i ([], [])).2 = _
   rw [hlg]; exact h2
  ·rw [hlg]; exact fun φ T a w K => h3 φ T a w K
 have hmono : ∀ i, i < ops.toList.length → (st i).tab.length ≤ (st (i + 1)).tab.length := by
  intro i hi
  obtain ⟨s, _, _, _, h, _⟩ := hstep i _ (List.getElem?_eq_getElem hi)
  omega
 have hmono' : ∀ d i, i + d ≤ ops.toList.length → (st i).tab.length ≤ (st (i + d)).tab.length := by
  intro d
  induction d with
  | zero => intro i _; exact Nat.le_refl _
  | succ d ih => intro i hi; exact Nat.le_trans (ih i (by omega)) (hmono (i + d) (by omega))
 have hle : ∀ i j, i ≤ j → j ≤ ops.toList.length → (st i).tab.length ≤ (st j).tab.length := by
  intro i j hij hj
  obtain ⟨d, rfl⟩ : ∃ d, j = i + d := ⟨j - i, by omega⟩
  exact hmono' d i hj
 have hslsame : ∀ t d i, i + d ≤ ops.toList.length → (∀ j o, i ≤ j → j < i + d → ops.toList[j]? = some o → o.dst ≠ some t) → look (st (i + d)).sl t = look (st i).sl t := by
  intro t d
  induction d with
  | zero => intro i _ _; rfl
  | succ d ih =>
    intro i hi hno
    have hlt : i + d < ops.toList.length := by omega
    obtain ⟨s, _, h, _⟩ := hstep (i + d) _ (List.getElem?_eq_getElem hlt)
    rw [← ih i (by omega) (fun j o h1 h2 => hno j o h1 (by omega))]
    rw [show i + (d + 1) = i + d + 1 from rfl, h]
    have := hno (i + d) _ (by omega) (by omega) (List.getElem?_eq_getElem hlt)
    cases hd : (ops.toList[i + d]).dst with
    | none => rfl
    | some t' => rw [hd] at this; simp only [putS, look_put]; rw [if_neg (fun e => this (by rw [e]))]
 have htabsame : ∀ k d i, i + d ≤ ops.toList.length → (∀ j, i ≤ j → j < i + d → k ∉ W j) → rdT (st (i + d)).tab k = rdT (st i).tab k := by
  intro k d
  induction d with
  | zero => intro i _ _; rfl
  | succ d ih =>
    intro i hi hno
    have hlt : i + d < ops.toList.length := by omega
    obtain ⟨s, _, _, h, _, _, hW, _⟩ := hstep (i + d) _ (List.getElem?_eq_getElem hlt)
    rw [← ih i (by omega) (fun j h1 h2 => hno j h1 (by omega))]
    rw [show i + (d + 1) = i + d + 1 from rfl, h]
    have hk := hno (i + d) (by omega) (by omega)
    rw [hW] at hk
    simp only [List.mem_append, List.mem_map, List.mem_range, not_or] at hk
    refine newT_out _ _ _ _ (fun ob hob => hk.1 ⟨(k, ob), hob, rfl⟩) (fun ⟨h1, h2⟩ => hk.2 ⟨k - (st (i + d)).tab.length, by omega, by omega⟩)
 have hlow : ∀ j, T0 j ≠ none → j < m := hs.low
 have hm : ∀ i, i ≤ ops.toList.length → m ≤ (st i).tab.length := fun i hi => Nat.le_trans (by rw [hst0]; exact hs.long) (hle 0 i (Nat.zero_le _) hi)
 have htch : ∀ i, i ≤ ops.toList.length → ∀ j, (j ∈ (st 0).tch ∨ ∃ i', i' < i ∧ j < m ∧ j ∈ W i') → j ∈ (st i).tch := by
  intro i
  induction i with
  | zero => rintro _ j (h | ⟨i', h, _⟩)
            ·exact h
            ·omega
  | succ i ih =>
    rintro hi j hj
    obtain ⟨s, _, _, _, _, h, hW, _⟩ := hstep i _ (List.getElem?_eq_getElem (by omega))
    rw [h, mem_touch]
    rcases hj with hj | ⟨i', h1, h2, h3⟩
    ·exact .inl (ih (by omega) j (.inl hj))
    ·by_cases he : i' = i
     ·subst he
      rw [hW] at h3
      simp only [List.mem_append, List.mem_map, List.mem_range] at h3
      rcases h3 with ⟨⟨j', ob⟩, h3, rfl⟩ | ⟨x, _, h3⟩
      ·exact .inr ⟨h2, ob, h3⟩
      ·have := hm i' (by omega); omega
     ·exact .inl (ih (by omega) j (.inr ⟨i', by omega, h2, h3⟩))
 have hlast : ∀ (φ : Phi) (T : Tab) (a : Act) (w : World) (L : Nat → Prop), (∀ j, j < ops.toList.length → L j) → DInv ops.toList st W φ0 T0 w0 N m L φ T a w → Q .normal a w := by
  intro φ T a w L hall h
  have hT : T = rdT (st ops.toList.length).tab := by
   funext k
   exact h.tab k _ (Nat.le_refl _) (fun j hj _ => hall j hj) (fun j h1 h2 => absurd h2 (by omega))
  have hno : ∀ {t : Nat} (j : Nat) (o : Oper), ops.toList.length ≤ j → ops.toList[j]? = some o → o.dst = some t → ¬ L j := fun j o h1 h2 => by
   rw [List.getElem?_eq_none h1] at h2; cases h2
  refine hK (st ops.toList.length) φ a w ?_ hfin
  have hU : ∀ j, (j ∈ (st 0).tch ∨ ∃ i, L i ∧ j < m ∧ j ∈ W i) → j ∈ (st ops.toList.length).tch := by
   rintro j (hj | ⟨i, h1, h2, h3⟩)
   ·exact htch _ (Nat.le_refl _) j (.inl hj)
   ·exact htch _ (Nat.le_refl _) j (.inr ⟨i, h.dom i h1, h2, h3⟩)
  have hkl := h.kl.mono hU
  subst hT
  refine { defers := h.defers, size := h.size, sl := ?_, rel := h.rel, ge := h.ge, fresh := h.past, kept := hkl.kept, link := hkl.link, low := hs.low, long := hm _ (Nat.le_refl _), low0 := hs.low0, base := h.base }
  intro t
  exact h.sl t _ (Nat.le_refl _) (fun j o hj _ _ => hall j hj) hno
 have round : ∀ (fuel : Nat) (U : List Nat) (listed : Array Bool) (φ : Phi) (T : Tab) (a : Act) (w : World), listed.size = ops.size → U.length ≤ fuel → (∀ j, j < ops.size → listed.getD j false = false → j ∈ U) →
   DInv ops.toList st W φ0 T0 w0 N m (fun j => listed.getD j false = true) φ T a w → wpAnyIn (fenceAt rd) 0 P .any ops Q fuel listed a w := by
  intro fuel
  have hready : ∀ (listed : Array Bool), Region.ready .any ops listed = [] → listed.size = ops.size → ∀ n j, j < n → j < ops.size → listed.getD j false = true := by
   intro listed hr hsz n
   induction n with
   | zero => intro j hj; omega
   | succ n ih =>
     intro j hj hjs
     cases hc : listed.getD j false with
     | true => rfl
     | false =>
       exfalso
       have : j ∈ Region.ready .any ops listed := by
        rw [mem_ready]
        refine ⟨?_, ops[j], by simp [hjs], fun e he hb => ?_⟩
        ·simp only [Array.getD_eq_getD_getElem?] at hc ⊢
         have : j < listed.size := by omega
         simpa [this] using hc
        ·have hd : e.on ∈ depsOf ops[j] := by
          unfold depsOf
          rw [List.mem_filterMap]
          exact ⟨e, by simpa using he, by rw [if_pos hb]⟩
         have := (drawOk_spec ok hdraw (show ops.toList[j]? = some ops[j] by simp [hjs])).1 _ hd
         exact ih e.on (by omega) (by omega)
       rw [hr] at this; simp at this
  have hend : ∀ (listed : Array Bool) (φ : Phi) (T : Tab) (a : Act) (w : World), Region.ready .any ops listed = [] → listed.size = ops.size → DInv ops.toList st W φ0 T0 w0 N m (fun j => listed.getD j false = true) φ T a w → Q .normal a w := by
   intro listed φ T a w hr hsz h
   exact hlast φ T a w _ (fun j hj => hready listed hr hsz (j + 1) j (by omega) (by simpa using hj)) h
  induction fuel with
  | zero =>
    intro U listed φ T a w hsz hU hUm h
    have hr : Region.ready .any ops listed = [] := by
     apply List.eq_nil_iff_forall_not_mem.2
     intro j hj
     obtain ⟨h1, o, h2, _⟩ := mem_ready.1 hj
     have hjs : j < ops.size := (Array.getElem?_eq_some_iff.1 h2).1
     have : j ∈ U := hUm j hjs (by
      simp only [Array.getD_eq_getD_getElem?] at h1 ⊢
      have : j < listed.size := by omega
      simpa [this] using h1)
     have := List.length_pos_of_mem this
     omega
    exact ⟨hr, hend listed φ T a w hr hsz h⟩
  | succ fuel ih =>
    intro U listed φ T a w hsz hU hUm h
    refine ⟨fun hr => hend listed φ T a w hr hsz h, fun i hi => ?_⟩
    obtain ⟨h1, o, h2, h3⟩ := mem_ready.1 hi
    have his : i < ops.size := (Array.getElem?_eq_some_iff.1 h2).1
    have hil : i < ops.toList.length := by simpa using his
    have ho : ops.toList[i]? = some o := by simpa using h2
    have hnL : listed.getD i false = false := by
     simp only [Array.getD_eq_getD_getElem?] at h1 ⊢
     have : i < listed.size := by omega
     simpa [this] using h1
    have hLd : ∀ d ∈ depsOf o, listed.getD d false = true := by
     intro d hd
     unfold depsOf at hd
     rw [List.mem_filterMap] at hd
     obtain ⟨e, he, hb⟩ := hd
     by_cases hbb : Region.binds .any e = true
     ·rw [if_pos hbb] at hb; cases hb
      exact h3 e (by simpa using he) hbb
     ·rw [if_neg hbb] at hb; cases hb
    obtain ⟨s, hd, hsl, htab, hlen', htch', hW, hdo⟩ := hstep i o ho
    have hbefore : ∀ j oj, j < i → ops.toList[j]? = some oj → ¬ listed.getD j false = true → pairOk ops.toList oj o (log.getD j ([], [])) (log.getD i ([], [])) = true := by
     intro j oj hj hoj hnl
     rcases (drawOk_spec ok hdraw ho).2 j oj hj hoj with hc | hc
     ·exact absurd (anc_down ok hdraw h.down (i + 1) i o (by omega) ho hLd j hc) hnl
     ·exact hc
    have hafter : ∀ j oj, i < j → ops.toList[j]? = some oj → listed.getD j false = true → pairOk ops.toList o oj (log.getD i ([], [])) (log.getD j ([], [])) = true := by
     intro j oj hj hoj hl
     rcases (drawOk_spec ok hdraw hoj).2 i o hj ho with hc | hc
     ·have := anc_down ok hdraw h.down (j + 1) j oj (by omega) hoj (h.down j oj hl hoj) i hc
      rw [hnL] at this; cases this
     ·exact hc
    have hop : ∀ j, j < ops.toList.length → ∃ oj, ops.toList[j]? = some oj := fun j hj => ⟨_, List.getElem?_eq_getElem hj⟩
    have hnot : ¬ (listed.getD i false = true) := by rw [hnL]; simp
    have hslot : ∀ t ∈ namesOf ops.toList o, VR φ T w (look (st i).sl t) (a.tmps.getD t undef) := by
     intro t ht
     refine h.sl t i (by omega) (fun j oj hj hoj hdj => ?_) (fun j oj hj hoj hdj hl => ?_)
     ·apply Classical.byContradiction
      intro hnl
      have := hbefore j oj hj hoj hnl
      simp only [pairOk, Bool.and_eq_true] at this
      exact apartL_spec this.1.2 (by rw [hdj]; simp) ht
     ·rcases Nat.lt_or_ge i j with hij | hij
      ·have := hafter j oj hij hoj hl
       simp only [pairOk, Bool.and_eq_true] at this
       exact apartL_spec this.2 (by rw [hdj]; simp) ht
      ·have : j = i := by omega
       subst this; exact hnot hl
    have hdstfree : ∀ j oj t, i < j → ops.toList[j]? = some oj → listed.getD j false = true → oj.dst = some t → o.dst ≠ some t := by
     intro j oj t hij hoj hl hdj hdi
     have := hafter j oj hij hoj hl
     simp only [pairOk, Bool.and_eq_true] at this
     exact apartL_spec this.2 (by rw [hdj]; simp) (by unfold namesOf; rw [hdi]; simp : t ∈ _)
    have hmem : ∀ k, (k ∈ (log.getD i ([], [])).1 ∨ k ∈ W i) → T k = rdT (st i).tab k := by
     intro k hk
     refine h.tab k i (by omega) (fun j hj hkj => ?_) (fun j hj hjl hkj hl => ?_)
     ·apply Classical.byContradiction
      intro hnl
      obtain ⟨oj, hoj⟩ := hop j (by omega)
      have := hbefore j oj hj hoj hnl
      simp only [pairOk, Bool.and_eq_true] at this
      rcases hk with hk | hk
      ·exact apartL_spec this.1.1.1.1 hkj hk
      ·exact apartL_spec this.1.1.1.2 hkj hk
     ·rcases Nat.lt_or_ge i j with hij | hij
      ·obtain ⟨oj, hoj⟩ := hop j hjl
       have := hafter j oj hij hoj hl
       simp only [pairOk, Bool.and_eq_true] at this
       rcases hk with hk | hk
       ·exact apartL_spec this.1.1.2 hkj hk
       ·exact apartL_spec this.1.1.1.2 hk hkj
      ·have : j = i := by omega
       subst this; exact hnot hl
    have hwfree : ∀ j k, i < j → j < ops.toList.length → listed.getD j false = true → k ∈ W i → k ∉ W j := by
     intro j k hij hjl hl hki hkj
     obtain ⟨oj, hoj⟩ := hop j hjl
     have := hafter j oj hij hoj hl
     simp only [pairOk, Bool.and_eq_true] at this
     exact apartL_spec this.1.1.1.2 hki hkj
    have hnewW : ∀ k, (st i).tab.length ≤ k → k < (st i).tab.length + s.news.length → k ∈ W i := by
     intro k h1 h2
     rw [hW]
     simp only [List.mem_append, List.mem_map, List.mem_range]
     exact .inr ⟨k - (st i).tab.length, by omega, by omega⟩
    refine hdo φ T a w _ h.rel hslot (fun k hk => hmem k (.inl hk)) (fun k h1 h2 => ⟨h.fresh i hil hnot k h1 (by omega), ?_⟩) ?_
    ·rw [hmem k (.inr (hnewW k h1 h2))]; exact rdT_big h1
    intro φ' r w' hv hrel hge hdom hkept
    have hgetD : ∀ j, (listed.setIfInBounds i true).getD j false = true ↔ (listed.getD j false = true ∨ j = i) := by
     intro j
     simp only [Array.getD_eq_getD_getElem?, Array.getElem?_setIfInBounds]
     by_cases hj : i = j
     ·subst hj
      have : i < listed.size := by omega
      simp [this]
     ·simp only [if_neg hj]
      constructor
      ·exact .inl
      ·rintro (h | h)
       ·exact h
       ·exact absurd h.symm hj
    refine ih (U.erase i) _ φ' (newT T (st i).tab.length s) _ w' (by simpa using hsz) ?_ ?_ ?_
    ·have := List.length_erase_of_mem (hUm i his hnL)
     have := List.length_pos_of_mem (hUm i his hnL)
     omega
    ·intro j hj hjl
     have hji : j ≠ i := by
      intro he
      have := (hgetD j).2 (.inr he)
      rw [hjl] at this; cases this
     rw [List.mem_erase_of_ne hji]
     refine hUm j hj ?_
     cases hc : listed.getD j false with
     | false => rfl
     | true =>
       have := (hgetD j).2 (.inl hc)
       rw [hjl] at this; cases this
    ·refine {
      defers := by rw [put_defers]; exact h.defers.ge hge
      size := (put_size _ _ _).trans h.size
      down := ?_, dom := ?_, sl := ?_, tab := ?_, rel := hrel, ge := h.ge.trans hge, fresh := ?_, past := ?_, base := ?_, kl := ?_ }
     ·intro j oj hj hoj d hdd
      rw [hgetD] at hj ⊢
      left
      rcases hj with hj | rfl
      ·exact h.down j oj hj hoj d hdd
      ·rw [ho] at hoj; cases hoj; exact hLd d hdd
     ·intro j hj
      rcases (hgetD j).1 hj with hj | rfl
      ·exact h.dom j hj
      ·exact hil
     ·intro t i' hi' hb haf
      simp only [hgetD] at hb haf
      by_cases hdt : o.dst = some t
      ·have hii : i < i' := by
        rcases Nat.lt_or_ge i i' with h' | h'
        ·exact h'
        ·exact absurd (.inr rfl) (haf i o h' ho hdt)
       obtain ⟨d, rfl⟩ : ∃ d, i' = i + 1 + d := ⟨i' - (i + 1), by omega⟩
       rw [hslsame t d (i + 1) hi' (fun j oj h1 h2 hoj hdj => by
        rcases hb j oj h2 hoj hdj with hl | rfl
        ·exact hdstfree j oj t (by omega) hoj hl hdj hdt
        ·omega)]
       rw [hsl, hdt]
       simp only [putS, look_put, if_pos rfl, Act.put]
       rw [hdt] at hd
       have : t < a.tmps.size := by rw [h.size]; exact hd
       simp [Array.getD_eq_getD_getElem?, this]; exact hv
      ·have hget : ((a.put o.dst r).tmps.getD t undef) = a.tmps.getD t undef := by
        cases hdd : o.dst with
        | none => rfl
        | some t' =>
          rw [hdd] at hdt
          have : t' ≠ t := fun e => hdt (by rw [e])
          simp [Act.put, Array.getD_eq_getD_getElem?, Array.getElem?_setIfInBounds, this]
       rw [hget]
       refine (h.sl t i' hi' (fun j oj h1 hoj hdj => ?_) (fun j oj h1 hoj hdj hl => haf j oj h1 hoj hdj (.inl hl))).mono hge
       rcases hb j oj h1 hoj hdj with hl | rfl
       ·exact hl
       ·rw [ho] at hoj; cases hoj; exact absurd hdj hdt
     ·intro k i' hi' hb haf
      simp only [hgetD] at hb haf
      by_cases hk : k ∈ W i
      ·have hii : i < i' := by
        rcases Nat.lt_or_ge i i' with h' | h'
        ·exact h'
        ·exact absurd (.inr rfl) (haf i h' hil hk)
       obtain ⟨d, rfl⟩ : ∃ d, i' = i + 1 + d := ⟨i' - (i + 1), by omega⟩
       rw [htabsame k d (i + 1) hi' (fun j h1 h2 hkj => by
        rcases hb j h2 hkj with hl | rfl
        ·exact hwfree j k (by omega) (by omega) hl hk hkj
        ·omega), htab]
       exact newT_congr _ _ _ _ _ (hmem k (.inr hk))
      ·rw [newT_out _ _ _ _ (fun ob hob => hk (by rw [hW]; simp only [List.mem_append, List.mem_map]; exact .inl ⟨(k, ob), hob, rfl⟩)) (fun ⟨h1, h2⟩ => hk (hnewW k h1 h2))]
       refine h.tab k i' hi' (fun j h1 hkj => ?_) (fun j h1 h2 hkj hl => haf j h1 h2 hkj (.inl hl))
       rcases hb j h1 hkj with hl | rfl
       ·exact hl
       ·exact absurd hkj hk
     ·intro j hj hnl k h1 h2
      simp only [hgetD, not_or] at hnl
      cases hc : φ' k with
      | none => rfl
      | some q =>
        rcases hdom k (by rw [hc]; simp) with h4 | h4
        ·exact absurd (h.fresh j hj hnl.1 k h1 h2) h4
        ·exfalso
         rcases Nat.lt_or_ge j i with h' | h'
         ·have := hle (j + 1) i (by omega) (by omega); omega
         ·have := hle (i + 1) j (by have := hnl.2; omega) (by omega); omega
     ·intro k hk
      cases hc : φ' k with
      | none => rfl
      | some q =>
        rcases hdom k (by rw [hc]; simp) with h4 | h4
        ·exact absurd (h.past k hk) h4
        ·have := hle (i + 1) ops.toList.length (by omega) (Nat.le_refl _); omega
     ·intro k hk hφ
      rcases hdom k hφ with h1 | h1
      ·exact h.base k hk h1
      ·have := hm i (by omega); omega
     ·refine (h.kl.next h.ge.size hlow (hm i (by omega)) hrel hge hkept).mono ?_
      intro j hjj
      rcases hjj with ((hj | ⟨i', h1, h2, h3⟩) | ⟨h1, ob, h2⟩)
      ·exact .inl hj
      ·exact .inr ⟨i', (hgetD i').2 (.inl h1), h2, h3⟩
      ·refine .inr ⟨i, (hgetD i).2 (.inr rfl), h1, ?_⟩
       rw [hW]
       simp only [List.mem_append, List.mem_map]
       exact .inl ⟨(j, ob), h2, rfl⟩
 refine round ops.size (List.range ops.size) _ φ (rdT σ.tab) a w (by simp) (by simp) (fun j hj _ => by simpa using hj) ?_
 have hno : ∀ j, ¬ ((Array.replicate ops.size false).getD j false = true) := by
  intro j
  simp only [Array.getD_eq_getD_getElem?, Array.getElem?_replicate]
  split <;> simp
 refine {
  defers := hs.defers, size := hs.size, down := fun j _ hj => absurd hj (hno j), dom := fun j hj => absurd hj (hno j), sl := ?_, tab := ?_, rel := hs.rel, ge := hs.ge, fresh := ?_, past := ?_, base := hs.base, kl := ?_ }
 ·intro t i hi hb _
  have : look (st i).sl t = look (st 0).sl t := by
   have := hslsame t i 0 (by omega) (fun j o _ h1 h2 h3 => hno j (hb j o (by omega) h2 h3))
   simpa using this
  rw [this, hst0]; exact hs.sl t
 ·intro k i hi hb _
  have := htabsame k i 0 (by omega) (fun j _ h1 h2 => hno j (hb j (by omega) h2))
  rw [← hst0]
  simpa using this.symm
 ·intro i hi _ k h1 _
  exact hs.fresh k (by have := hle 0 i (by omega) (by omega); rw [hst0] at this; omega)
 ·intro k h1
  exact hs.fresh k (by have := hle 0 ops.toList.length (by omega) (Nat.le_refl _); rw [hst0] at this; omega)
 ·rw [hst0]
  exact KL.mono ⟨hs.kept, hs.link⟩ (fun j hj => .inl hj)
end
end Go.Proofs.YtfmjgoeclilcnaaGreatDoor
namespace Go.Proofs.YtfmjgoeclilcnaaGreatDoor
open Go.RowKit
def leCap (π : List (Option Nat)) : List (Nat × Nat) → List (Nat × Nat) → Prop
 | [], [] => True
 | p :: ps, q :: qs => π[q.1]? = some (some p.1) ∧ p.2 = q.2 ∧ leCap π ps qs
 | _, _ => False
def leC (rd : Nat → Option Obj) (π : List (Option Nat)) (c : TC) : TC → Prop
 | .any => True
 | .val u => c = .val u
 | .ptr j off => match c with
   | .ptr k off' => π[j]? = some (some k) ∧ off' = off
   | _ => False
 | .eptr j sz i o => match c with
   | .eptr k sz' i' o' => π[j]? = some (some k) ∧ sz' = sz ∧ i' = i ∧ o' = o
   | _ => False
 | .osl t j off len => match c with
   | .osl t' k off' len' => t' = t ∧ π[j]? = some (some k) ∧ off' = off ∧ len' = len
   | .val (.slice none 0 0) => len = 0
   | _ => False
 | .isl t xs => match c with
   | .osl t' k off len => π.contains (some k) = false ∧ content rd t (.osl t' k off len) = some xs
   | .isl t' ys => content rd t (.isl t' ys) = some xs
   | .val (.slice none 0 0) => xs = []
   | _ => False
 | .ip cs off => c = .ip cs off
 | .fn f caps => match c with
   | .fn f' caps' => f' = f ∧ leCap π caps' caps
   | _ => False
 | .ifc => c = .ifc
 | .nb p q => c = .nb p q
def leCs (rd : Nat → Option Obj) (π : List (Option Nat)) : List TC → List TC → Prop
 | [], [] => True
 | c :: cs, d :: ds => leC rd π c d ∧ leCs rd π cs ds
 | _, _ => False
mutual
def leV (rd : Nat → Option Obj) (π : List (Option Nat)) : TV → TV → Prop
 | .gd c v, d => c = true ∧ leV rd π v d
 | .one c, .one d => leC rd π c d
 | .agg cs, .agg ds => leCs rd π cs ds
 | .tup l, .tup l' => leVs rd π l l'
 | _, _ => False
def leVs (rd : Nat → Option Obj) (π : List (Option Nat)) : List TV → List TV → Prop
 | [], [] => True
 | c :: cs, d :: ds => leV rd π c d ∧ leVs rd π cs ds
 | _, _ => False
end
def leO (rd : Nat → Option Obj) (π : List (Option Nat)) (j : Nat) (o' : Obj) : Prop :=
 match π[j]? with
 | some (some k) => match rd k, o' with
   | some (.cells cs), .cells ds => leCs rd π cs ds
   | some (.arr t xs), .arr t' ys => Obj.arr t xs = Obj.arr t' ys
   | _, _ => False
 | some none => match o' with
   | .arr t ys => Obj.arr t ys = Obj.arr t []
   | _ => False
 | none => False
def leTab (rd : Nat → Option Obj) (π : List (Option Nat)) : Nat → List (Option Obj) → Prop
 | _, [] => True
 | j, none :: r => leTab rd π (j + 1) r
 | j, some o :: r => leO rd π j o ∧ leTab rd π (j + 1) r
def leSl (rd : Nat → Option Obj) (π : List (Option Nat)) (sl : List (Nat × TV)) : List (Nat × TV) → Prop
 | [] => True
 | (i, v) :: r => leV rd π (look sl i) v ∧ leSl rd π sl r
def nodupS : List (Option Nat) → Bool
 | [] => true
 | none :: r => nodupS r
 | some k :: r => !r.contains (some k) && nodupS r
def headOk : Nat → List (Option Nat) → Nat → Bool
 | _, _, 0 => true
 | j, some k :: r, m + 1 => k == j && headOk (j + 1) r m
 | _, _, _ => false
def leS (m : Nat) (π : List (Option Nat)) (σ σ' : Sg) : Prop :=
 π.length = σ'.tab.length ∧ nodupS π = true ∧ headOk 0 π m = true ∧ leSl (rdT σ.tab) π σ.sl σ'.sl ∧ leTab (rdT σ.tab) π 0 σ'.tab ∧ σ.tch.all (fun j => σ'.tch.contains j) = true
theorem nodupS_spec : ∀ {π : List (Option Nat)}, nodupS π = true → ∀ (i j k : Nat), π[i]? = some (some k) → π[j]? = some (some k) → i = j
 | [], _, i, j, k, h, _ => by simp at h
 | none :: r, h, i, j, k, hi, hj => by
   cases i with
   | zero => simp at hi
   | succ i => cases j with
     | zero => simp at hj
     | succ j => rw [nodupS_spec (π := r) h i j k (by simpa using hi) (by simpa using hj)]
 | some q :: r, h, i, j, k, hi, hj => by
   simp only [nodupS, Bool.and_eq_true, Bool.not_eq_true'] at h
   have hno : ∀ i, r[i]? ≠ some (some q) := fun i hi => by
    have := List.mem_of_getElem? hi
    have h1 := h.1
    simp only [List.contains_eq_mem, decide_eq_false_iff_not] at h1
    exact h1 this
   cases i with
   | zero => cases j with
     | zero => rfl
     | succ j =>
       simp at hi hj; subst hi
       exact absurd hj (hno j)
   | succ i => cases j with
     | zero =>
       simp at hi hj; subst hj
       exact absurd hi (hno i)
     | succ j => rw [nodupS_spec (π := r) h.2 i j k (by simpa using hi) (by simpa using hj)]
theorem headOk_spec : ∀ {m j : Nat} {π : List (Option Nat)}, headOk j π m = true → ∀ i, i < m → π[i]? = some (some (j + i))
 | 0, j, π, h, i, hi => by omega
 | m + 1, j, [], h, i, hi => by simp [headOk] at h
 | m + 1, j, none :: r, h, i, hi => by simp [headOk] at h
 | m + 1, j, some k :: r, h, i, hi => by
   simp only [headOk, Bool.and_eq_true, beq_iff_eq] at h
   cases i with
   | zero => simp [h.1]
   | succ i =>
     have := headOk_spec h.2 i (by omega)
     simp only [List.getElem?_cons_succ, this]
     congr 2; omega
theorem leTab_spec {rd : Nat → Option Obj} {π : List (Option Nat)} : ∀ {tab : List (Option Obj)} {j : Nat}, leTab rd π j tab → ∀ i o, tab[i]? = some (some o) → leO rd π (j + i) o
 | [], j, h, i, o, hi => by simp at hi
 | none :: r, j, h, i, o, hi => by
   cases i with
   | zero => simp at hi
   | succ i =>
     have := leTab_spec (j := j + 1) h i o (by simpa using hi)
     rwa [show j + 1 + i = j + (i + 1) by omega] at this
 | some o' :: r, j, h, i, o, hi => by
   cases i with
   | zero => simp at hi; subst hi; exact h.1
   | succ i =>
     have := leTab_spec (j := j + 1) h.2 i o (by simpa using hi)
     rwa [show j + 1 + i = j + (i + 1) by omega] at this
section
variable {φ : Phi} {T : Tab} {w : World} {π : List (Option Nat)} {T' : Tab}
def phiW (φ : Phi) (π : List (Option Nat)) : Phi := ⟨fun j => match π[j]? with | some (some k) => φ k | _ => none, φ.fr⟩
theorem phiW_at {j k : Nat} (h : π[j]? = some (some k)) : phiW φ π j = φ k := by simp [phiW, h]
variable (hrel : Rel φ T w) (hπ : nodupS π = true) (hT : ∀ j o, T' j = some o → leO T π j o)
include hrel hπ hT
theorem leO_src {j : Nat} {b base : Nat} (h : T' j ≠ none) (hφ : phiW φ π j = some (b, base)) : ∃ k, π[j]? = some (some k) ∧ T k ≠ none ∧ φ k = some (b, base) := by
 cases ho : T' j with
 | none => exact absurd ho h
 | some o =>
   have := hT j o ho
   unfold leO at this
   unfold phiW at hφ
   dsimp only at hφ
   split at hφ
   ·rename_i k hk
    refine ⟨k, hk, ?_, hφ⟩
    rw [hk] at this
    simp only at this
    intro hn
    rw [hn] at this
    exact this
   ·cases hφ
theorem ownW {b : Nat} (h : Own (phiW φ π) T' b) : ∃ (j k base : Nat), π[j]? = some (some k) ∧ T k ≠ none ∧ φ k = some (b, base) := by
 obtain ⟨j, base, hj, hφ⟩ := h
 obtain ⟨k, h1, h2, h3⟩ := leO_src hrel hπ hT hj hφ
 exact ⟨j, k, base, h1, h2, h3⟩
theorem ownW' {b : Nat} (h : Own (phiW φ π) T' b) : Own φ T b := by
 obtain ⟨j, k, base, -, h2, h3⟩ := ownW hrel hπ hT h
 exact ⟨k, base, h2, h3⟩
theorem immW {b : Nat} (h : Imm φ T w b) : Imm (phiW φ π) T' w b := ⟨h.1, fun ho => h.2.1 (ownW' hrel hπ hT ho), h.2.2⟩
theorem leCap_R : ∀ {ps qs : List (Nat × Nat)} {vs : List Value}, leCap π ps qs → All2 (CapR φ) ps vs → All2 (CapR (phiW φ π)) qs vs
 | [], [], vs, _, h => by
   cases vs with
   | nil => trivial
   | cons => exact h.elim
 | p :: ps, q :: qs, v :: vs, h, hv => by
   obtain ⟨h1, h2, h3⟩ := h
   refine ⟨?_, leCap_R h3 hv.2⟩
   obtain ⟨b, base, hφ, he⟩ := hv.1
   exact ⟨b, base, by rw [phiW_at h1]; exact hφ, by rw [he, h2]⟩
 | p :: ps, q :: qs, [], h, hv => hv.elim
 | [], _ :: _, _, h, _ => h.elim
 | _ :: _, [], _, h, _ => h.elim
theorem leC_R {c d : TC} {v : Value} (h : leC T π c d) (hv : CR φ T w c v) : CR (phiW φ π) T' w d v := by
 cases d with
 | any => trivial
 | val u => simp only [leC] at h; subst h; exact hv
 | ptr j off =>
   simp only [leC] at h
   split at h
   ·obtain ⟨h1, rfl⟩ := h
    obtain ⟨b, base, hφ, he⟩ := hv
    exact ⟨b, base, by rw [phiW_at h1]; exact hφ, he⟩
   ·exact h.elim
 | eptr j sz i o =>
   simp only [leC] at h
   split at h
   ·obtain ⟨h1, rfl, rfl, rfl⟩ := h
    obtain ⟨b, base, hφ, he⟩ := hv
    exact ⟨b, base, by rw [phiW_at h1]; exact hφ, he⟩
   ·exact h.elim
 | osl t j off len =>
   simp only [leC] at h
   split at h
   ·obtain ⟨rfl, h1, rfl, rfl⟩ := h
    obtain ⟨a, cap, k1, k2, k3, k4, k5⟩ := hv
    exact ⟨a, cap, k1, k2, k3, k4, fun hc => by rw [phiW_at h1]; exact k5 hc⟩
   ·subst h
    cases hv
    exact ⟨none, 0, rfl, Nat.le_refl _, fun _ => rfl, fun _ h => by simp at h, fun h => absurd rfl h⟩
   ·exact h.elim
 | isl t xs =>
   simp only [leC] at h
   split at h
   ·rename_i t' k off len
    obtain ⟨hno, hxs⟩ := h
    obtain ⟨a, cap, h1, h2, h3, h4, h5⟩ := content_at hrel (fun _ _ => rfl) hv hxs
    refine ⟨a, cap, h1, h2, h3, h4, fun hne => ?_⟩
    obtain ⟨b, o, hab, hcs⟩ := h5 hne
    refine ⟨b, o, hab, ?_, hcs⟩
    subst h1
    obtain ⟨a', cap', he, k2, k3, k4, k5⟩ := hv
    cases he
    have hcap : cap ≠ 0 := by
     intro h0
     have : xs.length = 0 := by omega
     exact hne (List.length_eq_zero_iff.1 this)
    obtain ⟨b', base, hφ, hab', hsz⟩ := k5 hcap
    rw [hab] at hab'; cases hab'
    have hTk : T k ≠ none := by
     intro hn
     simp [content, hn] at hxs
    refine ⟨Own.lt hrel ⟨k, base, hTk, hφ⟩, fun ho => ?_, fun hf => (hrel.frd b hf).2 ⟨k, base, hTk, hφ⟩⟩
    obtain ⟨j, k', base', hj, hT', hφ'⟩ := ownW hrel hπ hT ho
    have := hrel.inj k' k b base' base hT' hTk hφ' hφ
    subst this
    have hm := List.mem_of_getElem? hj
    simp only [List.contains_eq_mem, decide_eq_false_iff_not] at hno
    exact hno hm
   ·rename_i t' ys
    simp only [content] at h
    split at h
    ·rename_i htt
     subst htt
     cases h
     obtain ⟨a, cap, h1, h2, h3, h4, h5⟩ := hv
     exact ⟨a, cap, h1, h2, h3, h4, fun hne => by obtain ⟨b, o, hab, him, hcs⟩ := h5 hne; exact ⟨b, o, hab, immW hrel hπ hT him, hcs⟩⟩
    ·cases h
   ·subst h
    cases hv
    exact ⟨none, 0, rfl, Nat.le_refl _, fun _ => rfl, fun _ h => by simp at h, fun h => absurd rfl h⟩
   ·exact h.elim
 | ip cs off =>
   simp only [leC] at h; subst h
   obtain ⟨b, o, h1, him, hcs⟩ := hv
   exact ⟨b, o, h1, immW hrel hπ hT him, hcs⟩
 | fn f caps =>
   simp only [leC] at h
   split at h
   ·obtain ⟨rfl, h1⟩ := h
    obtain ⟨vs, hv, ha⟩ := hv
    exact ⟨vs, hv, leCap_R hrel hπ hT h1 ha⟩
   ·exact h.elim
 | ifc => simp only [leC] at h; subst h; exact hv
 | nb p q => simp only [leC] at h; subst h; exact hv
theorem leCs_R : ∀ {cs ds : List TC} {vs : List Value}, leCs T π cs ds → All2 (CR φ T w) cs vs → All2 (CR (phiW φ π) T' w) ds vs
 | [], [], vs, _, h => by
   cases vs with
   | nil => trivial
   | cons => exact h.elim
 | c :: cs, d :: ds, v :: vs, h, hv => ⟨leC_R hrel hπ hT h.1 hv.1, leCs_R h.2 hv.2⟩
 | c :: cs, d :: ds, [], h, hv => hv.elim
 | [], _ :: _, _, h, _ => h.elim
 | _ :: _, [], _, h, _ => h.elim
mutual
theorem leV_R : ∀ {x y : TV} {v : Value}, leV T π x y → VR φ T w x v → VR (phiW φ π) T' w y v
 | .gd c u, y, v, h, hv => by
   simp only [leV] at h
   obtain ⟨rfl, h⟩ := h
   have hv1 : VR φ T w u v := by
    unfold VR at hv
    exact hv.1 rfl
   exact leV_R h hv1
 | .one c, .one d, v, h, hv => by
   simp only [VR, leV] at h hv ⊢
   exact leC_R hrel hπ hT h hv
 | .agg cs, .agg ds, v, h, hv => by
   simp only [VR, leV] at h hv ⊢
   obtain ⟨vs, rfl, ha⟩ := hv
   exact ⟨vs, rfl, leCs_R hrel hπ hT h ha⟩
 | .tup l, .tup l', v, h, hv => by
   simp only [VR, leV] at h hv ⊢
   obtain ⟨vs, rfl, ha⟩ := hv
   exact ⟨vs, rfl, leVs_R h ha⟩
 | .one _, .agg _, _, h, _ => by simp [leV] at h
 | .one _, .tup _, _, h, _ => by simp [leV] at h
 | .one _, .gd _ _, _, h, _ => by simp [leV] at h
 | .agg _, .one _, _, h, _ => by simp [leV] at h
 | .agg _, .tup _, _, h, _ => by simp [leV] at h
 | .agg _, .gd _ _, _, h, _ => by simp [leV] at h
 | .tup _, .one _, _, h, _ => by simp [leV] at h
 | .tup _, .agg _, _, h, _ => by simp [leV] at h
 | .tup _, .gd _ _, _, h, _ => by simp [leV] at h
theorem leVs_R : ∀ {x y : List TV} {v : List Value}, leVs T π x y → VRs φ T w x v → VRs (phiW φ π) T' w y v
 | [], [], v, _, h => by
   cases v with
   | nil => simp [VRs]
   | cons => simp [VRs] at h
 | c :: cs, d :: ds, v :: vs, h, hv => by
   simp only [VRs, leVs] at h hv ⊢
   exact ⟨leV_R h.1 hv.1, leVs_R h.2 hv.2⟩
 | c :: cs, d :: ds, [], h, hv => by simp [VRs] at hv
 | [], _ :: _, _, h, _ => by simp [leVs] at h
 | _ :: _, [], _, h, _ => by simp [leVs] at h
end
theorem leCs_get : ∀ {cs ds : List TC}, leCs T π cs ds → ∀ (i : Nat) (d : TC), ds[i]? = some d → ∃ c, cs[i]? = some c ∧ leC T π c d
 | [], [], _, i, d, h => by simp at h
 | c :: cs, d :: ds, h, 0, e, he => by simp at he; subst he; exact ⟨c, rfl, h.1⟩
 | c :: cs, d :: ds, h, i + 1, e, he => by simpa using leCs_get h.2 i e (by simpa using he)
 | [], _ :: _, h, _, _, _ => h.elim
 | _ :: _, [], h, _, _, _ => h.elim
theorem relW : Rel (phiW φ π) T' w := by
 refine ⟨fun j o hj => ?_, fun i j b base base' hi hj hφi hφj => ?_, fun b hb => ⟨(hrel.frd b hb).1, fun ho => (hrel.frd b hb).2 (ownW' hrel hπ hT ho)⟩, fun q hq => ⟨fun ho => (hrel.glo q hq).1 (ownW' hrel hπ hT ho), (hrel.glo q hq).2⟩⟩
 ·have hle := hT j o hj
  unfold leO at hle
  split at hle
  ·rename_i k hk
   have hφ : phiW φ π j = φ k := phiW_at hk
   split at hle
   ·rename_i cs ds hTk
    obtain ⟨b, base, c, hφk, hC, hcells⟩ := hrel.obj k _ hTk
    refine ⟨b, base, c, by rw [hφ]; exact hφk, hC, fun i tc hi => ?_⟩
    obtain ⟨tc0, h3, h4⟩ := leCs_get hrel hπ hT hle i tc hi
    obtain ⟨v, hv, hr⟩ := hcells i tc0 h3
    exact ⟨v, hv, leC_R hrel hπ hT h4 hr⟩
   ·rename_i t xs t' ys hTk
    rw [← hle]
    rcases hrel.obj k _ hTk with ⟨h3, h4⟩ | ⟨b, base, c, hφk, hC, hcells⟩
    ·exact .inl ⟨by rw [hφ]; exact h3, h4⟩
    ·exact .inr ⟨b, base, c, by rw [hφ]; exact hφk, hC, hcells⟩
   ·exact hle.elim
  ·rename_i hk
   split at hle
   ·rw [hle]
    exact .inl ⟨by simp [phiW, hk], rfl⟩
   ·exact hle.elim
  ·exact hle.elim
 ·obtain ⟨k, hk, hTk, h1⟩ := leO_src hrel hπ hT hi hφi
  obtain ⟨k', hk', hTk', h2⟩ := leO_src hrel hπ hT hj hφj
  have := hrel.inj k k' b base base' hTk hTk' h1 h2
  subst this
  exact nodupS_spec hπ i j k hk hk'
end
theorem leSl_R {φ φ' : Phi} {T T' : Tab} {w : World} {π : List (Option Nat)} {sl : List (Nat × TV)} {tmps : Array Value} (hle : ∀ x y v, leV T π x y → VR φ T w x v → VR φ' T' w y v) (h : SlR φ T w sl tmps) : ∀ {sl' : List (Nat × TV)}, leSl T π sl sl' → SlR φ' T' w sl' tmps
 | [], _ => fun i => by simp only [look, VR, CR]
 | (j, v) :: r, hs => by
   intro i
   rw [look_put]
   split
   ·rename_i hji; subst hji; exact hle _ _ _ hs.1 (h j)
   ·exact leSl_R hle h hs.2 i
section
variable {φ0 : Phi} {T0 : Tab} {w0 : World} {N m : Nat}
theorem Sim.le {φ : Phi} {σ σ' : Sg} {a : Act} {w : World} {π : List (Option Nat)} (h : Sim φ0 T0 w0 N m φ σ a w) (hle : leS m π σ σ') : Sim φ0 T0 w0 N m (phiW φ π) σ' a w ∧ ∀ x y v, leV (rdT σ.tab) π x y → VR φ (rdT σ.tab) w x v → VR (phiW φ π) (rdT σ'.tab) w y v := by
 obtain ⟨hlen, hnd, hhead, hsl, htab, htch⟩ := hle
 have hT : ∀ j o, rdT σ'.tab j = some o → leO (rdT σ.tab) π j o := by
  intro j o hj
  have := leTab_spec htab j o (by
   unfold rdT at hj
   cases hc : σ'.tab[j]? with
   | none => rw [hc] at hj; cases hj
   | some x => rw [hc] at hj; simp at hj; rw [hj])
  simpa using this
 have hV : ∀ x y v, leV (rdT σ.tab) π x y → VR φ (rdT σ.tab) w x v → VR (phiW φ π) (rdT σ'.tab) w y v := fun x y v h1 h2 => leV_R h.rel hnd hT h1 h2
 have hid : ∀ k, k < m → phiW φ π k = φ k := fun k hk => phiW_at (by simpa using headOk_spec hhead k hk)
 have htch' : ∀ j, j ∈ σ.tch → j ∈ σ'.tch := fun j hj => by simpa using List.all_eq_true.1 htch j hj
 refine ⟨?_, hV⟩
 have hmk : Marks w0 (phiW φ π) (rdT σ'.tab) w a.defers := let ⟨rs, h1, h2, h3⟩ := h.defers; ⟨rs, h1, h2, fun r hr => let ⟨h4, h5, h6⟩ := h3 r hr; ⟨h4, h5, fun ho => h6 (ownW' h.rel hnd hT ho)⟩⟩
 refine { defers := hmk, size := h.size, sl := leSl_R hV h.sl hsl, rel := relW h.rel hnd hT, ge := ?_, fresh := ?_, kept := ?_, link := ?_, low := h.low, long := ?_, low0 := h.low0, base := ?_ }
 ·exact ⟨h.ge.os, h.ge.tape, h.ge.output, h.ge.size, fun k p hp => by rw [hid k (h.low0 k (by rw [hp]; simp))]; exact h.ge.phi k p hp, h.ge.block, fun b hb ho => h.ge.own b hb (ownW' h.rel hnd hT ho), h.ge.sizes, h.ge.fr⟩
 ·intro k hk
  unfold phiW
  dsimp only
  rw [List.getElem?_eq_none (by omega)]
 ·intro b hb hU
  exact h.kept b hb fun j base hj => hU j base (htch' j hj)
 ·intro k b base hk hφ hb
  obtain ⟨k0, h1, h2, h3⟩ := leO_src h.rel hnd hT hk hφ
  obtain ⟨j, base', h4, h5, h6⟩ := h.link k0 b base h2 h3 hb
  refine ⟨j, base', h4, h5, ?_⟩
  rcases h6 with rfl | h6
  ·left
   have := headOk_spec hhead j (h.low j h4)
   exact nodupS_spec hnd j k j (by simpa using this) h1
  ·exact .inr (htch' j h6)
 ·have : m ≤ π.length := by
   rcases Nat.eq_zero_or_pos m with h0 | h0
   ·omega
   ·have := headOk_spec hhead (m - 1) (by omega)
    have := (List.getElem?_eq_some_iff.1 this).1
    omega
  omega
 ·intro k hk hφ
  rw [hid k hk] at hφ
  exact h.base k hk hφ
end
end Go.Proofs.YtfmjgoeclilcnaaGreatDoor
namespace Go.Proofs.YtfmjgoeclilcnaaGreatDoor
open Go.RowKit
structure Beg where
 φ : Phi
 T : Tab
 w : World
 N : Nat
 m : Nat
 rd : Option Nat := none
def W (P : Program) (B : Beg) (c : Code) (σ : Sg) (Q : Exit → Sg → Prop) : Prop :=
 ∀ φ a w, Sim B.φ B.T B.w B.N B.m φ σ a w → c.wpIn (fenceAt B.rd) 0 P (fun e a' w' => ∃ σ' φ', Sim B.φ B.T B.w B.N B.m φ' σ' a' w' ∧ Q e σ') a w
def thenG (next : Sg → Prop) (Q : Exit → Sg → Prop) : Exit → Sg → Prop
 | .normal, σ => next σ
 | e, σ => Q e σ
def blockG (id : Nat) (Q : Exit → Sg → Prop) : Exit → Sg → Prop
 | .exit id', σ => if id' = id then Q .normal σ else Q (.exit id') σ
 | e, σ => Q e σ
section
variable {P : Program} {B : Beg} {σ : Sg} {Q : Exit → Sg → Prop}
theorem W.mono {c : Code} {Q' : Exit → Sg → Prop} (h : W P B c σ Q) (hq : ∀ e σ, Q e σ → Q' e σ) : W P B c σ Q' :=
 fun φ a w hs => wpIn_mono (h φ a w hs) fun e a' w' ⟨σ', φ', h1, h2⟩ => ⟨σ', φ', h1, hq _ _ h2⟩
theorem W_skip (h : Q .normal σ) : W P B .skip σ Q := fun φ a w hs => wpIn_skip ⟨σ, φ, hs, h⟩
theorem W_exit {id : Nat} (h : Q (.exit id) σ) : W P B (.exit id) σ Q := fun φ a w hs => wpIn_exit ⟨σ, φ, hs, h⟩
theorem W_ret (h : Q .ret σ) : W P B .ret σ Q := fun φ a w hs => wpIn_ret ⟨σ, φ, hs, h⟩
theorem W_seq {x y : Code} (h : W P B x σ (thenG (fun σ' => W P B y σ' Q) Q)) : W P B (.seq x y) σ Q := by
 intro φ a w hs
 refine wpIn_seq (wpIn_mono (h φ a w hs) ?_)
 rintro e a' w' ⟨σ', φ', h1, h2⟩
 cases e with
 | normal => exact h2 φ' a' w' h1
 | _ => exact ⟨σ', φ', h1, h2⟩
theorem W_block {id : Nat} {c : Code} (h : W P B c σ (blockG id Q)) : W P B (.block id c) σ Q := by
 intro φ a w hs
 refine wpIn_block (wpIn_mono (h φ a w hs) ?_)
 rintro e a' w' ⟨σ', φ', h1, h2⟩
 cases e with
 | exit id' =>
   simp only [blockG] at h2
   simp only [Exit.inBlock]
   split at h2
   ·rename_i he; rw [if_pos he]; exact ⟨σ', φ', h1, h2⟩
   ·rename_i he; rw [if_neg he]; exact ⟨σ', φ', h1, h2⟩
 | _ => exact ⟨σ', φ', h1, h2⟩
theorem W_le {c : Code} {σ' : Sg} (π : List (Option Nat)) (hle : leS B.m π σ σ') (h : W P B c σ' Q) : W P B c σ Q :=
 fun φ a w hs => h _ a w (hs.le hle).1
theorem W_cond {c : Operand} {x y : Code} (b : Bool) (hb : opd σ.sl c = .one (.val (.bool b))) (hu : under true σ.sl c) (h1 : b = true → W P B x σ Q) (h2 : b = false → W P B y σ Q) : W P B (.cond c x y) σ Q := by
 intro φ a w hs
 have hv : VR φ (rdT σ.tab) w (opd σ.sl c) (a.eval c) := opd_R (fun t _ => hs.sl t) hu
 rw [hb] at hv
 simp only [VR, CR] at hv
 refine wpIn_cond_split hv (fun hc => h1 hc φ a w hs) (fun hc => h2 hc φ a w hs)
theorem W_cond_nb {c : Operand} {x y : Code} (p q : Prop) (hb : opd σ.sl c = .one (.nb p q)) (hu : under true σ.sl c) (h1 : p → W P B x σ Q) (h2 : q → W P B y σ Q) : W P B (.cond c x y) σ Q := by
 intro φ a w hs
 have hv : VR φ (rdT σ.tab) w (opd σ.sl c) (a.eval c) := opd_R (fun t _ => hs.sl t) hu
 rw [hb] at hv
 simp only [VR, CR] at hv
 obtain ⟨b, hv, hp, hq⟩ := hv
 refine wpIn_cond_split hv (fun hc => h1 (hp hc) φ a w hs) (fun hc => h2 (hq hc) φ a w hs)
theorem Ge.drawn (φ : Phi) (T : Tab) (w : World) : Ge φ T w φ T { w with drawn := w.drawn + 1 } :=
 ⟨rfl, rfl, rfl, Nat.le_refl _, fun _ _ h => h, fun _ _ _ => rfl, fun _ _ h => h, fun _ _ => rfl, fun _ => Iff.rfl⟩
theorem Rel.heap {φ : Phi} {T : Tab} {w w' : World} (h : Rel φ T w) (hh : w'.heap = w.heap) (g : Ge φ T w φ T w') : Rel φ T w' := by
 refine ⟨fun k o hk => ?_, h.inj, fun b hb => by rw [hh]; exact h.frd b hb, Ge.glo h g⟩
 have := h.obj k o hk
 cases o with
 | cells cs =>
   obtain ⟨b, base, c, h1, ⟨e, fr, h2, h3⟩, h4⟩ := this
   exact ⟨b, base, c, h1, ⟨e, fr, by rw [hh]; exact h2, h3⟩, fun i tc hi => by obtain ⟨v, hv, hr⟩ := h4 i tc hi; exact ⟨v, hv, hr.mono g⟩⟩
 | arr t xs =>
   rcases this with h1 | ⟨b, base, c, h1, ⟨e, fr, h2, h3⟩, h4⟩
   ·exact .inl h1
   ·exact .inr ⟨b, base, c, h1, ⟨e, fr, by rw [hh]; exact h2, h3⟩, h4⟩
theorem Sim.drawn {φ0 : Phi} {T0 : Tab} {w0 : World} {N m : Nat} {φ : Phi} {a : Act} {w : World} (h : Sim φ0 T0 w0 N m φ σ a w) : Sim φ0 T0 w0 N m φ σ a { w with drawn := w.drawn + 1 } where
 defers := h.defers.ge (Ge.drawn _ _ _)
 size := h.size
 sl := h.sl.mono (Ge.drawn _ _ _)
 rel := h.rel.heap rfl (Ge.drawn _ _ _)
 ge := h.ge.trans (Ge.drawn _ _ _)
 fresh := h.fresh
 kept := h.kept
 link := h.link
 low := h.low
 long := h.long
 low0 := h.low0
 base := h.base
theorem least {J : Nat → Prop} : (∃ n, J n) → ∃ n, J n ∧ ∀ n', J n' → n ≤ n' := by
 rintro ⟨n, hn⟩
 induction n using Nat.strongRecOn with
 | _ n ih =>
   by_cases h : ∃ n', n' < n ∧ J n'
   ·obtain ⟨n', h1, h2⟩ := h; exact ih n' h1 h2
   ·exact ⟨n, hn, fun n' h' => Nat.le_of_not_lt fun hlt => h ⟨n', hlt, h'⟩⟩
def Back (m : Nat) (I : Nat → Sg → Prop) (n : Nat) (σ' : Sg) : Prop := ∃ n' π σ'', n' < n ∧ leS m π σ' σ'' ∧ I n' σ''
theorem W_loop {c : Code} (I : Nat → Sg → Prop) (n0 : Nat) (h0 : I n0 σ) (h : ∀ n σ, I n σ → W P B c σ (thenG (Back B.m I n) Q)) : W P B (.loop c) σ Q := by
 intro φ a w hs
 let J : Nat → Act → World → Prop := fun n a w => ∃ σ φ, Sim B.φ B.T B.w B.N B.m φ σ a w ∧ I n σ
 classical
 let μ : Act → World → Nat := fun a w => if hx : ∃ n, J n a w then Classical.choose (least hx) else 0
 refine wpIn_loop (fun a w => ∃ n, J n a w) μ ⟨n0, σ, φ, hs, h0⟩ ?_
 intro a w hx
 have hμ : μ a w = Classical.choose (least hx) := dif_pos hx
 obtain ⟨σ1, φ1, h1, h2⟩ := (Classical.choose_spec (least hx)).1
 refine wpIn_mono (h _ σ1 h2 φ1 a w h1) ?_
 rintro e a' w' ⟨σ', φ', h3, h4⟩
 cases e with
 | normal =>
   obtain ⟨n', π, σ'', h5, h6, h7⟩ := h4
   have hx' : ∃ n, J n a' w' := ⟨n', σ'', _, (h3.le h6).1, h7⟩
   refine ⟨hx', ?_⟩
   have : μ a' w' = Classical.choose (least hx') := dif_pos hx'
   rw [this, hμ]
   exact Nat.lt_of_le_of_lt ((Classical.choose_spec (least hx')).2 _ ⟨σ'', _, (h3.le h6).1, h7⟩) h5
 | _ => exact ⟨σ', φ', h3, h4⟩
end
def initSl : Nat → List TV → List (Nat × TV)
 | _, [] => []
 | i, v :: r => (i, v) :: initSl (i + 1) r
def resV (E : Env) (σ : Sg) : List ResultVar → List TV
 | [] => []
 | .tmp t :: r => look σ.sl t :: resV E σ r
 | .cell a t :: r => (match look σ.sl a with
   | .one (.ptr k off) => match rdT σ.tab k with
     | some (.cells cs) => asVal (E.ti t).agg (E.ti t).sz off cs
     | _ => .one .any
   | _ => .one .any) :: resV E σ r
def resP (E : Env) (σ : Sg) : List ResultVar → Prop
 | [] => True
 | .tmp t :: r => resP E σ r
 | .cell a t :: r => (match look σ.sl a with
   | .one (.ptr k off) => match rdT σ.tab k with
     | some (.cells cs) => off + (E.ti t).sz ≤ cs.length ∧ 0 < (E.ti t).sz
     | _ => False
   | _ => False) ∧ resP E σ r
def packV : List TV → TV
 | [v] => v
 | vs => .tup vs
def retOk (E : Env) (rs : List ResultVar) (os : List Obj) (s : St) (σ : Sg) : Prop :=
 resP E σ rs ∧ ∃ π, leV (rdT σ.tab) π (packV (resV E σ rs)) s.v ∧ leS os.length π ⟨[], σ.tab, σ.tch⟩ ⟨[], setT (os.map some) s.upd ++ s.news.map some, s.upd.map (·.1)⟩
def retG (E : Env) (rs : List ResultVar) (os : List Obj) (s : St) : Exit → Sg → Prop
 | .normal, σ => retOk E rs os s σ
 | .ret, σ => retOk E rs os s σ
 | _, _ => False
section
variable {P : Program} {E : Env} (ok : EnvOk P E)
include ok
theorem resV_R {φ : Phi} {σ : Sg} {w : World} {tmps : Array Value} (hrel : Rel φ (rdT σ.tab) w) (hsl : SlR φ (rdT σ.tab) w σ.sl tmps) : ∀ (rs : List ResultVar), resP E σ rs → ∃ vs,
  (List.mapM (fun r : ResultVar => match r with
   | .tmp t => (pure (tmps.getD t undef) : Sem Value)
   | .cell a t => do loadVar t (← asAddr (tmps.getD a undef))) rs).run P w = .ok vs w ∧ VRs φ (rdT σ.tab) w (resV E σ rs) vs
 | [], _ => ⟨[], by simp, by simp [resV, VRs]⟩
 | .tmp t :: r, h => by
   obtain ⟨vs, h1, h2⟩ := resV_R hrel hsl r h
   refine ⟨tmps.getD t undef :: vs, ?_, by simp only [resV, VRs]; exact ⟨hsl t, h2⟩⟩
   simp only [List.mapM_cons, Sem.run_bind, Sem.run_pure, Result.andThen_ok, h1]
 | .cell a t :: r, h => by
   simp only [resP] at h
   obtain ⟨h0, h⟩ := h
   obtain ⟨vs, h1, h2⟩ := resV_R hrel hsl r h
   have hsa := hsl a
   simp only [resV]
   split at h0
   ·rename_i k off hl
    split at h0
    ·rename_i cs hk
     rw [hl] at hsa
     simp only [VR, CR, CapR] at hsa
     obtain ⟨b, base, hφ, hv⟩ := hsa
     obtain ⟨b', base', c, hφ', hC, hcells⟩ := hrel.obj k _ hk
     rw [hφ] at hφ'; cases hφ'
     obtain ⟨v, hrun, hvr⟩ := run_loadVar (P := P) (w := w) (φ := φ) (T := rdT σ.tab) (b := b) (o := base) (cs := cs) (ok.ti t (.inr h0.2)) off h0.1 h0.2 (fun i tc hi => by
      obtain ⟨v, hv, hr⟩ := hcells i tc hi
      exact ⟨v, by rw [cell_of_Cells hC]; exact hv, hr⟩)
     refine ⟨v :: vs, ?_, ?_⟩
     ·have hA : asAddr (tmps.getD a undef) = pure ⟨b, base + off, none⟩ := by rw [hv]; rfl
      simp only [List.mapM_cons, Sem.run_bind, hA, Sem.run_pure, Result.andThen_ok, hrun, h1]
     ·simp only [hl, hk, VRs]; exact ⟨hvr, h2⟩
    ·exact h0.elim
   ·exact h0.elim
theorem retOk_post {fn : Func} {rs : List ResultVar} (hrs : fn.results = rs.toArray) {os : List Obj} {s : St} {φ0 : Phi} {w0 : World} {σ : Sg} {φ : Phi} {a : Act} {w : World} {N : Nat} (hs : Sim φ0 (tabOf os) w0 N os.length φ σ a w) (h : retOk E rs os s σ) :
  ∃ v, (results fn a.tmps).run P w = .ok v w ∧ Post φ0 (tabOf os) w0 os.length s (.returned v) w := by
 obtain ⟨hp, π, hv, hle⟩ := h
 obtain ⟨vs, hrun, hvs⟩ := resV_R ok hs.rel hs.sl rs hp
 have hs0 : Sim φ0 (tabOf os) w0 N os.length φ ⟨[], σ.tab, σ.tch⟩ a w := { hs with sl := fun i => by simp only [look, VR, CR] }
 obtain ⟨hs1, hV⟩ := hs0.le hle
 have hT : rdT (setT (os.map some) s.upd ++ s.news.map some) = newT (tabOf os) os.length s := by
  have := newT_rd (os.map some) s
  rw [this]
  simp only [List.length_map]
  congr 1
  funext k
  simp [rdT, tabOf]
  cases os[k]? <;> rfl
 have hpack : ∀ l : List TV, ∀ us : List Value, VRs φ (rdT σ.tab) w l us → VR φ (rdT σ.tab) w (packV l) (if h : us.toArray.size = 1 then us.toArray[0] else .tuple us.toArray) := by
  intro l us h
  match l, us, h with
  | [], [], h => simp only [packV, VR]; exact ⟨_, rfl, h⟩
  | [x], [u], h => simp only [packV]; simp only [VRs] at h; exact h.1
  | x :: y :: l, u :: v :: us, h =>
    simp only [packV, VR]
    refine ⟨#[u, v] ++ us.toArray, ?_, by simpa using h⟩
    rw [dif_neg (by simp)]; simp
  | [], _ :: _, h => simp [VRs] at h
  | [_], [], h => simp [VRs] at h
  | [_], _ :: _ :: _, h => simp [VRs] at h
  | _ :: _ :: _, [], h => simp [VRs] at h
  | _ :: _ :: _, [_], h => simp [VRs] at h
 refine ⟨if h : vs.toArray.size = 1 then vs.toArray[0] else .tuple vs.toArray, ?_, _, phiW φ π, rfl, ?_, ?_, ?_, ?_, ?_⟩
 ·unfold results
  rw [hrs]
  simp only [List.mapM_toArray, Sem.run_bind, Sem.run_map]
  exact congrArg (fun z => ((z.andThen fun (a : List Value) w' => .ok a.toArray w').andThen fun a w' => Sem.run P (pure (if h : a.size = 1 then a[0] else Value.tuple a)) w')) hrun
 ·have := hV _ _ _ hv (hpack _ _ hvs)
  rw [hT] at this; exact this
 ·have := hs1.rel; rw [hT] at this; exact this
 ·have := hs1.ge; rw [hT] at this; exact this
 ·intro k hk
  rcases Nat.lt_or_ge k os.length with h' | h'
  ·exact .inl (hs1.base k h' hk)
  ·right
   refine ⟨h', ?_⟩
   rcases Nat.lt_or_ge k (os.length + s.news.length) with h2 | h2
   ·exact h2
   ·exact absurd (hs1.fresh k (by simp [setT_len]; omega)) hk
 ·intro b hb hU
  refine hs1.kept b hb fun j base hj => hU j base ?_
  simp only [List.mem_map] at hj
  obtain ⟨⟨j', o⟩, h1, rfl⟩ := hj
  exact ⟨o, h1⟩
theorem initSl_R {φ : Phi} {T : Tab} {w : World} : ∀ {args : List TV} {rargs : List Value} (n : Nat) (tmps : Array Value), VRs φ T w args rargs → (∀ i v, rargs[i]? = some v → tmps[n + i]? = some v) → SlR φ T w (initSl n args) tmps
 | [], [], n, tmps, _, _ => fun i => by simp only [initSl, look, VR, CR]
 | x :: xs, v :: vs, n, tmps, h, ht => by
   intro i
   simp only [initSl, look_put]
   simp only [VRs] at h
   split
   ·rename_i he
    subst he
    have := ht 0 v rfl
    rw [Nat.add_zero] at this
    rw [Array.getD_eq_getD_getElem?, this]
    exact h.1
   ·exact initSl_R (n + 1) tmps h.2 (fun j u hj => by have := ht (j + 1) u (by simpa using hj); rwa [show n + 1 + j = n + (j + 1) by omega]) i
 | [], _ :: _, _, _, h, _ => by simp [VRs] at h
 | _ :: _, [], _, _, h, _ => by simp [VRs] at h
theorem VRs.length {φ : Phi} {T : Tab} {w : World} : ∀ {args : List TV} {rargs : List Value}, VRs φ T w args rargs → rargs.length = args.length
 | [], [], _ => rfl
 | x :: xs, v :: vs, h => by simp only [VRs] at h; simp [VRs.length h.2]
 | [], _ :: _, h => by simp [VRs] at h
 | _ :: _, [], h => by simp [VRs] at h
theorem sound_intro {f : FuncId} {fn : Func} {c : Code} {ct : Ct} {rs : List ResultVar} {N : Nat} (hf : P.funcs[f]? = some fn) (hN : fn.ntmps = N) (hb : fn.body = some c) (hrs : fn.results = rs.toArray)
  (h : ∀ args os, (ct.spec args os).pre → args.length ≤ N ∧ ∀ φ0 w0, W P ⟨φ0, tabOf os, w0, N, os.length, none⟩ c ⟨initSl 0 args, os.map some, []⟩ (retG E rs os (ct.spec args os))) : Sound P f ct := by
 subst hN
 intro args os hp φ w rargs hrel hargs hdom
 obtain ⟨hlen, hW⟩ := h args os hp
 refine (calls_at none).1 (callsIn_of_wp_marks (F := fenceAt none) (n := 0) hf hb trivial ?_ rfl)
 have hT : rdT (os.map some) = tabOf os := by
  funext k
  simp [rdT, tabOf]
  cases os[k]? <;> rfl
 have hl : rargs.length = args.length := VRs.length ok hargs
 refine wpIn_mono (hW φ w φ _ w ?_) ?_
 ·refine { defers := Marks.nil, size := by simp; omega, sl := ?_, rel := by simp only [hT]; exact hrel, ge := by simp only [hT]; exact Ge.refl _ _ _, fresh := fun k hk => hdom k (by simpa using hk), kept := fun _ _ _ => rfl, link := ?_, low := ?_, long := by simp, low0 := ?_, base := fun _ _ h => h }
  ·simp only [hT]
   refine initSl_R ok 0 _ hargs fun i v hi => ?_
   have : i < rargs.length := (List.getElem?_eq_some_iff.1 hi).1
   rw [Nat.zero_add, Array.getElem?_append_left (by simpa using this)]
   simpa using hi
  ·intro k b base hk hφ hb
   simp only [hT] at hk
   exact ⟨k, base, hk, hφ, .inl rfl⟩
  ·intro j hj
   rcases Nat.lt_or_ge j os.length with h' | h'
   ·exact h'
   ·exact absurd (by simp [tabOf, h']) hj
  ·intro j hj
   rcases Nat.lt_or_ge j os.length with h' | h'
   ·exact h'
   ·exact absurd (hdom j h') hj
 ·rintro e a' w' ⟨σ', φ', h1, h2⟩
  cases e with
  | normal => obtain ⟨rs, k1, k2, k3⟩ := h1.defers; exact leaves_marks (fun a w hs => retOk_post ok hrs hs h2) rs a' w' h1 k1 k2 k3
  | ret => obtain ⟨rs, k1, k2, k3⟩ := h1.defers; exact leaves_marks (fun a w hs => retOk_post ok hrs hs h2) rs a' w' h1 k1 k2 k3
  | _ => exact h2.elim
end
end Go.Proofs.YtfmjgoeclilcnaaGreatDoor
