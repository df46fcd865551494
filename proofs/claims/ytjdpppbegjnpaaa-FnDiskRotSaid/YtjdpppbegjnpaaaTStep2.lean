/- One operation, whichever it is: the table of all. -/
import Derived.Test.YtjdpppbegjnpaaaTStep
set_option linter.unusedSimpArgs false
set_option linter.unusedVariables false
set_option linter.unusedSectionVars false
namespace Go.Proofs.Ytjdpppbegjnpaaa
open Go.RowKit

theorem foot_ref {E : Env} {rd : Nat → Option Obj} {sl : List (Nat × TV)} {op : Op} {x : Operand} (hr : reads op = true) (hx : x ∈ op.operands.toList) {k : Nat} (hk : k ∈ refsV true (opd sl x)) : k ∈ foot E rd sl op := by
  unfold foot
  rw [List.mem_append, if_pos hr]
  left
  simp only [footV, List.mem_flatMap]
  exact ⟨x, hx, hk⟩

theorem caps_R {φ : Phi} {T : Tab} {w : World} : ∀ {xs : List TV} {vs : List Value} {qs : List (Nat × Nat)}, VRs φ T w xs vs → caps xs = some qs → All2 (CapR φ) qs vs
  | [], [], qs, _, h => by simp [caps] at h; subst h; trivial
  | x :: xs, v :: vs, qs, hv, h => by
    simp only [VRs] at hv
    unfold caps at h
    split at h
    · simp at *
    · rename_i k off r heq
      cases heq
      simp only [Option.map_eq_some_iff] at h
      obtain ⟨qs', h1, rfl⟩ := h
      have := hv.1
      simp only [VR, CR] at this
      exact ⟨this, caps_R hv.2 h1⟩
    · cases h
  | [], _ :: _, _, hv, _ => by simp [VRs] at hv
  | _ :: _, [], _, hv, _ => by simp [VRs] at hv

theorem VRs.get {φ : Phi} {T : Tab} {w : World} : ∀ {xs : List TV} {vs : List Value}, VRs φ T w xs vs → ∀ (i : Nat) (x : TV), xs[i]? = some x → ∃ v, vs[i]? = some v ∧ VR φ T w x v
  | [], [], _, i, x, h => by simp at h
  | a :: as, b :: bs, hv, 0, x, h => by simp only [VRs] at hv; simp at h; subst h; exact ⟨b, rfl, hv.1⟩
  | a :: as, b :: bs, hv, i + 1, x, h => by simp only [VRs] at hv; simpa using hv.2.get i x (by simpa using h)
  | [], _ :: _, hv, _, _, _ => by simp [VRs] at hv
  | _ :: _, [], hv, _, _, _ => by simp [VRs] at hv

theorem opv_sound {P : Program} {E : Env} (ok : EnvOk P E) {o : Oper} {a : Act} {φ : Phi} {T : Tab} {w : World} {n : Nat} {rd : Nat → Option Obj} {sl : List (Nat × TV)} (hrel : Rel φ T w) (hsl : SlOn φ T w sl a.tmps o.op.operands.toList)
    (hu : underAll true sl (operandsOf o.op)) (hrd : ∀ k, k ∈ foot E rd sl o.op → T k = rd k) (hp : (opv E rd n sl o.op).pre)
    (hfresh : ∀ k, n ≤ k → k < n + (opv E rd n sl o.op).news.length → φ k = none ∧ T k = none) : OpDoes P o a φ T w n (opv E rd n sl o.op) := by
  have hti := ok.ti
  have hmem : ∀ x ∈ operandsOf o.op, under true sl x := underAll_mem hu
  have hsub : ∀ x ∈ operandsOf o.op, x ∈ o.op.operands.toList := by
    intro x hx
    unfold operandsOf at hx
    split at hx
    · simp at hx
    · exact hx
  have hS : ∀ x ∈ o.op.operands.toList, SlOn φ T w sl a.tmps [x] := fun x hx => hsl.sub fun y hy => by
    simp only [List.mem_singleton] at hy; subst hy; exact hx
  have hR : ∀ x ∈ operandsOf o.op, VR φ T w (opd sl x) (a.eval x) := fun x hx => opd_R (hS x (hsub x hx)) (hmem x hx)
  have fresh1 : ∀ obj, (opv E rd n sl o.op).news = [obj] → φ n = none ∧ T n = none := fun obj h => hfresh n (Nat.le_refl _) (by rw [h]; simp)
  cases ho : o.op with
  | move x =>
    rw [ho] at hR
    refine does_value (m := pure (a.eval x)) (by simp [execOp, ho]) (Ran.pure hrel ⟨rfl, rfl⟩ ⟨_, rfl, hR x (by simp [operandsOf, isPick, Op.operands])⟩)
  | assign x =>
    rw [ho] at hR
    refine does_value (m := pure (a.eval x)) (by simp [execOp, ho]) (Ran.pure hrel ⟨rfl, rfl⟩ ⟨_, rfl, hR x (by simp [operandsOf, isPick, Op.operands])⟩)
  | pick c x y =>
    rw [ho] at hp hS
    have hsc := hS c (by simp [Op.operands])
    have hsx := hS x (by simp [Op.operands])
    have hsy := hS y (by simp [Op.operands])
    simp only [opv] at hp ⊢
    have key : ∀ b, opd sl c = .one (.val (.bool b)) → under true sl c → (execOp a.eval o).run P w = ((pure (if b then a.eval x else a.eval y) : Sem Value).run P w).andThen fun r w' => .ok (.value r) w' := by
      intro b hb hc
      have := opd_R hsc hc
      rw [hb] at this
      simp only [VR, CR] at this
      simp [execOp, ho, this, asBool]
    split at hp
    · rename_i b p q hb hx hy
      obtain ⟨h1, h2, h3⟩ := hp
      refine does_value (key b hb h1) (Ran.pure hrel ⟨rfl, rfl⟩ ⟨_, rfl, ?_⟩)
      cases b with
      | true => have := opd_R hsx h2; rw [hx] at this; simpa [ifp, vb] using this
      | false => have := opd_R hsy h3; rw [hy] at this; simpa [ifp, vb] using this
    · rename_i b hb _
      obtain ⟨h1, h2, h3⟩ := hp
      refine does_value (key b hb h1) (Ran.pure hrel ⟨rfl, rfl⟩ ⟨_, rfl, ?_⟩)
      cases b with
      | true => have := opd_R hsx h2; simpa [ifp] using this
      | false => have := opd_R hsy h3; simpa [ifp] using this
    · exact hp.elim
  | alloc t =>
    rw [ho] at hp fresh1
    obtain ⟨h1, h2⟩ := fresh1 _ rfl
    exact does_value (by simp [execOp, ho]) (alloc_ran hti hrel h1 h2 hp)
  | box t x =>
    rw [ho] at hp fresh1 hR
    obtain ⟨h1, h2⟩ := fresh1 _ rfl
    exact does_value (by simp [execOp, ho]) (box_ran hti hrel h1 h2 (hR x (by simp [operandsOf, isPick, Op.operands])) hp)
  | build t ps =>
    rw [ho] at hp hmem
    refine does_value (m := Instr.build t (ps.map fun (i, x) => (i, a.eval x))) (by simp [execOp, ho]) (buildv_ran hti hrel ?_ hp)
    have := parts_R (a := a) (ps := ps.toList) (fun q hq => hS q.2 (by rw [ho]; simp [Op.operands]; exact ⟨q.1, by simpa using hq⟩)) fun q hq => hmem q.2 (by simp [operandsOf, isPick, Op.operands]; exact ⟨q.1, by simpa using hq⟩)
    simpa using this
  | buildSlice t len ps =>
    rw [ho] at hp hmem fresh1
    have hnews : ∃ obj, (opv E rd n sl (.buildSlice t len ps)).news = [obj] := by
      simp only [opv, litv] at hp ⊢
      split at hp
      · split at hp
        · split at hp
          · exact ⟨_, rfl⟩
          · exact hp.elim
        · exact hp.elim
      · exact hp.elim
    obtain ⟨obj, hobj⟩ := hnews
    obtain ⟨h1, h2⟩ := fresh1 obj hobj
    refine does_value (m := Instr.buildSlice t len (ps.map fun (i, x) => (i, a.eval x))) (by simp [execOp, ho]) (litv_ran hti hrel h1 h2 ?_ hp)
    have := parts_R (a := a) (ps := ps.toList) (fun q hq => hS q.2 (by rw [ho]; simp [Op.operands]; exact ⟨q.1, by simpa using hq⟩)) fun q hq => hmem q.2 (by simp [operandsOf, isPick, Op.operands]; exact ⟨q.1, by simpa using hq⟩)
    simpa using this
  | load t x =>
    rw [ho] at hp hR hrd
    exact does_value (by simp [execOp, ho]) (loadv_ran hti hrel (fun k hk => hrd k (foot_ref (x := x) rfl (by simp [Op.operands]) hk)) (hR x (by simp [operandsOf, isPick, Op.operands])) hp)
  | store t x y =>
    rw [ho] at hp hR hrd
    refine does_unit ?_ (by simp [execOp, ho]) (store_ran hti hrel (fun k hk => hrd k (foot_ref (x := x) rfl (by simp [Op.operands]) hk)) (hR x (by simp [operandsOf, isPick, Op.operands])) (hR y (by simp [operandsOf, isPick, Op.operands])) hp)
    simp only [opv, storev] at hp ⊢
    split at hp
    · split at hp
      · rfl
      · exact hp.elim
    · split at hp
      · rfl
      · exact hp.elim
    · exact hp.elim
  | nilCheck x =>
    rw [ho] at hp hR
    have hx := hR x (by simp [operandsOf, isPick, Op.operands])
    simp only [opv] at hp ⊢
    split at hp
    · rename_i k off hk
      rw [hk] at hx
      have hx' := hx
      simp only [VR, CR, CapR] at hx'
      obtain ⟨b, base, -, hv⟩ := hx'
      exact does_value (m := pure (a.eval x)) (by simp [execOp, ho, hv]) (Ran.pure hrel ⟨rfl, rfl⟩ ⟨_, rfl, hx⟩)
    · rename_i k sz i j hk
      rw [hk] at hx
      have hx' := hx
      simp only [VR, CR, CapR] at hx'
      obtain ⟨b, base, -, hv⟩ := hx'
      exact does_value (m := pure (a.eval x)) (by simp [execOp, ho, hv]) (Ran.pure hrel ⟨rfl, rfl⟩ ⟨_, rfl, hx⟩)
    · rename_i cs off hk
      rw [hk] at hx
      have hx' := hx
      simp only [VR, CR] at hx'
      obtain ⟨b, base, hv, -⟩ := hx'
      exact does_value (m := pure (a.eval x)) (by simp [execOp, ho, hv]) (Ran.pure hrel ⟨rfl, rfl⟩ ⟨_, rfl, hx⟩)
    · rename_i f cs hk
      rw [hk] at hx
      have hx' := hx
      simp only [VR, CR] at hx'
      obtain ⟨vs, hv, -⟩ := hx'
      exact does_value (m := pure (a.eval x)) (by simp [execOp, ho, hv]) (Ran.pure hrel ⟨rfl, rfl⟩ ⟨_, rfl, hx⟩)
    · exact hp.elim
  | binOp op t x y t' =>
    rw [ho] at hp hR
    exact does_value (m := do eqGuard op t x y (a.eval x) (a.eval y); binOp op t (a.eval x) (a.eval y)) (by
      simp only [execOp, ho, Sem.run_bind]
      cases (eqGuard op t x y (a.eval x) (a.eval y)).run P w <;> rfl) (binOp_ran hti hrel (hR x (by simp [operandsOf, isPick, Op.operands])) (hR y (by simp [operandsOf, isPick, Op.operands])) hp)
  | unOp op t x =>
    rw [ho] at hp hR
    exact does_value (m := Op.unary op (a.eval x)) (by simp [execOp, ho]) (unv_ran hti hrel (hR x (by simp [operandsOf, isPick, Op.operands])) hp)
  | convert s d x =>
    rw [ho] at hp hR hrd hfresh
    refine does_value (by simp [execOp, ho]) (convv_ran hti hrel (fun hne => ?_) (fun k hk => hrd k (foot_ref (x := x) rfl (by simp [Op.operands]) hk)) (hR x (by simp [operandsOf, isPick, Op.operands])) hp)
    refine hfresh n (Nat.le_refl _) ?_
    have : 0 < (opv E rd n sl (.convert s d x)).news.length := List.length_pos_iff.2 hne
    omega
  | makeFunc f first cs =>
    rw [ho] at hp hmem
    cases f with
    | func f =>
      simp only [opv] at hp ⊢
      split at hp
      · rename_i qs hfirst hcaps
        have hops := opds_R (a := a) (xs := cs.toList) (hsl.sub fun y hy => by rw [ho]; simp [Op.operands]; exact .inr (by simpa using hy)) (by
          have : ∀ (l : List Operand), (∀ x ∈ l, under true sl x) → underAll true sl l := by
            intro l
            induction l with
            | nil => intro _; trivial
            | cons x l ih => intro h; exact ⟨h x (by simp), ih fun y hy => h y (by simp [hy])⟩
          exact this _ fun x hx => hmem x (by simp [operandsOf, isPick, Op.operands]; exact .inr (by simpa using hx)))
        refine does_value (m := Instr.makeFunc (.func f) (first.map a.eval) (cs.map a.eval)) (by simp [execOp, ho]) (Ran.pure hrel ⟨rfl, rfl⟩ ⟨_, rfl, ?_⟩)
        simp only [is, VR, CR]
        have hf0 : first = #[] := by apply Array.ext'; simpa using hfirst
        refine ⟨cs.map a.eval, by rw [hf0]; simp, ?_⟩
        have := caps_R hops hcaps
        simpa using this
      · exact hp.elim
    | _ => exact hp.elim
  | makeSlice t l c =>
    rw [ho] at hp hR fresh1
    have hnews : ∃ obj, (opv E rd n sl (.makeSlice t l c)).news = [obj] := by
      simp only [opv, makev] at hp ⊢
      split at hp
      · split at hp
        · exact ⟨_, rfl⟩
        · exact hp.elim
      · exact hp.elim
    obtain ⟨obj, hobj⟩ := hnews
    obtain ⟨h1, h2⟩ := fresh1 obj hobj
    exact does_value (by simp [execOp, ho]) (makev_ran hti hrel h1 h2 (hR l (by simp [operandsOf, isPick, Op.operands])) (hR c (by simp [operandsOf, isPick, Op.operands])) hp)
  | slice t x lo hi mx =>
    rw [ho] at hp hR hrd hmem
    cases mx with
    | some _ => exact hp.elim
    | none =>
      exact does_value (m := Instr.sliceAt t (a.eval x) (lo.map a.eval) (hi.map a.eval) none) (by simp [execOp, ho]) (slicev_ran hti hrel (fun k hk => hrd k (foot_ref (x := x) rfl (by simp [Op.operands]) hk)) (hR x (by simp [operandsOf, isPick, Op.operands]))
        (opt_R (fun y hy => hS y (by rw [ho]; simp [Op.operands, hy])) fun y hy => hmem y (by simp [operandsOf, isPick, Op.operands, hy])) (opt_R (fun y hy => hS y (by rw [ho]; simp [Op.operands, hy])) fun y hy => hmem y (by simp [operandsOf, isPick, Op.operands, hy])) hp)
  | fieldAddr s x f =>
    rw [ho] at hp hR
    exact does_value (by simp [execOp, ho]) (fieldv_ran hti hrel (hR x (by simp [operandsOf, isPick, Op.operands])) hp)
  | field s x f =>
    rw [ho] at hp hR
    exact does_value (by simp [execOp, ho]) (fieldOf_ran hti hrel (hR x (by simp [operandsOf, isPick, Op.operands])) hp)
  | indexAddr t x i =>
    rw [ho] at hp hR hrd
    exact does_value (by simp [execOp, ho]) (indexv_ran hti hrel (fun k hk => hrd k (foot_ref (x := x) rfl (by simp [Op.operands]) hk)) (hR x (by simp [operandsOf, isPick, Op.operands])) (hR i (by simp [operandsOf, isPick, Op.operands])) hp)
  | index t x i =>
    rw [ho] at hp hR
    exact does_value (by simp [execOp, ho]) (indexOf_ran hti hrel (hR x (by simp [operandsOf, isPick, Op.operands])) (hR i (by simp [operandsOf, isPick, Op.operands])) hp)
  | extract t i =>
    rw [ho] at hp hR
    have hx := hR t (by simp [operandsOf, isPick, Op.operands])
    simp only [opv] at hp ⊢
    split at hp
    · rename_i vs hvs
      rw [hvs] at hx
      simp only [VR] at hx
      obtain ⟨us, hus, hr⟩ := hx
      split at hp
      · rename_i v hv
        obtain ⟨u, h1, h2⟩ := hr.get i v hv
        refine does_value (m := Instr.extract (a.eval t) i) (by simp [execOp, ho]) (Ran.pure hrel ⟨rfl, rfl⟩ ⟨u, ?_, h2⟩)
        rw [Array.getElem?_toList] at h1
        simp [Instr.extract, hus, h1]
      · exact hp.elim
    · exact hp.elim
  | call c =>
    cases hc : c.callee with
    | value f =>
      have e : opv E rd n sl (.call c) = callv E.Γ rd n (opd sl f) (c.args.toList.map (opd sl)) := by simp only [opv, hc]
      rw [ho, e] at hp hfresh
      rw [e]
      exact call_does ok ho hc hrel hsl (by rw [ho] at hu ⊢; exact hu) hrd hp hfresh
    | builtin b =>
      have e : opv E rd n sl (.call c) = builtinv E rd n b c.argTypes.toList (c.args.toList.map (opd sl)) := by simp only [opv, hc]
      rw [ho, e] at hp hfresh
      rw [e]
      have hops : o.op.operands.toList = c.args.toList := by simp [ho, Op.operands, Call.operands, hc]
      have huc : underAll true sl c.args.toList := by rw [← hops]; rw [ho] at hu ⊢; exact hu
      have hargs := opds_R (by rw [← hops]; exact hsl) huc
      have he : ∀ m : Sem Value, (builtin b c.argTypes o.type (c.args.map fun | .const _ => true | _ => false) (c.args.map a.eval)) = (do pure (.value (← m))) → (execOp a.eval o).run P w = (m.run P w).andThen fun r w' => .ok (.value r) w' := by
        intro m hm
        have h1 : (resolve a.eval c o.type).run P w = .ok { target := .builtin b c.argTypes o.type (c.args.map fun | .const _ => true | _ => false), args := c.args.map a.eval } w := by
          unfold resolve; rw [hc]; rfl
        unfold execOp
        rw [ho]
        simp only [Sem.run_bind, h1, Result.andThen_ok]
        show (builtin b c.argTypes o.type _ (c.args.map a.eval)).run P w = _
        rw [hm]
        simp
      unfold builtinv at hp hfresh ⊢
      split at hp
      · rename_i ts args t x hts hxs
        have hT : c.argTypes = #[t] := by apply Array.ext'; simpa using hts
        simp only [hxs] at hargs
        have hl := congrArg List.length hxs
        match hca : c.args.toList, hargs with
        | [y], hargs =>
          simp only [List.map_cons, List.map_nil, VRs] at hargs
          have hA : c.args.map a.eval = #[a.eval y] := by apply Array.ext'; simp [hca]
          refine does_value (m := Builtin.len_ c.argTypes o.type (c.args.map a.eval)) (he _ rfl) ?_
          rw [hT, hA]
          exact lenv_ran hti hrel hargs.1 hp
        | [], hargs => simp [hca] at hl
        | _ :: _ :: _, hargs => simp [hca] at hl
      · rename_i ts args s t x y hts hxs
        have hT : c.argTypes = #[s, t] := by apply Array.ext'; simpa using hts
        have hl := congrArg List.length hxs
        simp only [hxs] at hargs
        match hca : c.args.toList, hargs with
        | [p, q], hargs =>
          simp only [List.map_cons, List.map_nil, VRs] at hargs
          have hpq : opd sl p = x ∧ opd sl q = y := by rw [hca] at hxs; simpa using hxs
          obtain ⟨rfl, rfl⟩ := hpq
          have hA : c.args.map a.eval = #[a.eval p, a.eval q] := by apply Array.ext'; simp [hca]
          have hnews : ∃ obj, (appendv E.ti rd n s t (opd sl p) (opd sl q)).news = [obj] := by
            revert hp
            unfold appendv
            intro hp
            split at hp
            · split at hp
              · split at hp
                · split at hp
                  · exact ⟨_, rfl⟩
                  · exact hp.elim
                · split at hp
                  · exact ⟨_, rfl⟩
                  · exact hp.elim
                · exact hp.elim
              · exact hp.elim
            · exact hp.elim
          obtain ⟨obj, hobj⟩ := hnews
          obtain ⟨h1, h2⟩ := hfresh n (Nat.le_refl _) (by simp [hts, hxs, hobj])
          refine does_value (m := Builtin.append_ c.argTypes o.type (c.args.map a.eval)) (he _ rfl) ?_
          rw [hT, hA]
          refine appendv_ran hti hrel h1 h2 (fun k hk => ?_) hargs.1 hargs.2.1 hp
          rw [List.mem_append] at hk
          rcases hk with hk | hk
          · exact hrd k (foot_ref (x := p) (by rw [ho]; rfl) (by rw [hops, hca]; simp) hk)
          · exact hrd k (foot_ref (x := q) (by rw [ho]; rfl) (by rw [hops, hca]; simp) hk)
        | [], hargs => simp [hca] at hl
        | [_], hargs => simp [hca] at hl
        | _ :: _ :: _ :: _, hargs => simp [hca] at hl
      · refine does_value (m := Builtin.min_ c.argTypes o.type (c.args.map a.eval)) (he _ rfl) ?_
        have := minv_ran (P := P) hti hrel (n := n) (ts := c.argTypes) (ty := o.type) hargs hp
        have hl : (c.args.toList.map a.eval).toArray = c.args.map a.eval := by apply Array.ext'; simp
        rwa [hl] at this
      · exact hp.elim
    | invoke r m => rw [ho] at hp; simp only [opv, hc] at hp; exact hp.elim
  | _ => rw [ho] at hp; exact hp.elim
end Go.Proofs.Ytjdpppbegjnpaaa
