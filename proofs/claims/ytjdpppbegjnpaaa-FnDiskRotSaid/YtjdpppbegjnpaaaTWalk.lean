/- The walk through a function's code, on the evaluator's states. -/
import Derived.Test.YtjdpppbegjnpaaaTWeak
import Derived.ProofKit
set_option linter.unusedSimpArgs false
set_option linter.unusedVariables false
set_option linter.unusedSectionVars false
namespace Go.Proofs.Ytjdpppbegjnpaaa
open Go.RowKit

/-- What a call knows of its beginning. -/
structure Beg where
  φ : Phi
  T : Tab
  w : World
  N : Nat
  m : Nat

def W (P : Program) (B : Beg) (c : Code) (σ : Sg) (Q : Exit → Sg → Prop) : Prop :=
  ∀ φ a w, Sim B.φ B.T B.w B.N B.m φ σ a w → c.wp P (fun e a' w' => ∃ σ' φ', Sim B.φ B.T B.w B.N B.m φ' σ' a' w' ∧ Q e σ') a w
def thenG (next : Sg → Prop) (Q : Exit → Sg → Prop) : Exit → Sg → Prop
  | .normal, σ => next σ
  | e, σ => Q e σ
def blockG (id : Nat) (Q : Exit → Sg → Prop) : Exit → Sg → Prop
  | .exit id', σ => if id' = id then Q .normal σ else Q (.exit id') σ
  | e, σ => Q e σ

section
variable {P : Program} {B : Beg} {σ : Sg} {Q : Exit → Sg → Prop}

theorem W.mono {c : Code} {Q' : Exit → Sg → Prop} (h : W P B c σ Q) (hq : ∀ e σ, Q e σ → Q' e σ) : W P B c σ Q' :=
  fun φ a w hs => wp_mono (h φ a w hs) fun e a' w' ⟨σ', φ', h1, h2⟩ => ⟨σ', φ', h1, hq _ _ h2⟩
theorem W_skip (h : Q .normal σ) : W P B .skip σ Q := fun φ a w hs => wp_skip ⟨σ, φ, hs, h⟩
theorem W_exit {id : Nat} (h : Q (.exit id) σ) : W P B (.exit id) σ Q := fun φ a w hs => wp_exit ⟨σ, φ, hs, h⟩
theorem W_ret (h : Q .ret σ) : W P B .ret σ Q := fun φ a w hs => wp_ret ⟨σ, φ, hs, h⟩
theorem W_seq {x y : Code} (h : W P B x σ (thenG (fun σ' => W P B y σ' Q) Q)) : W P B (.seq x y) σ Q := by
  intro φ a w hs
  refine wp_seq (wp_mono (h φ a w hs) ?_)
  rintro e a' w' ⟨σ', φ', h1, h2⟩
  cases e with
  | normal => exact h2 φ' a' w' h1
  | _ => exact ⟨σ', φ', h1, h2⟩
theorem W_block {id : Nat} {c : Code} (h : W P B c σ (blockG id Q)) : W P B (.block id c) σ Q := by
  intro φ a w hs
  refine wp_block (wp_mono (h φ a w hs) ?_)
  rintro e a' w' ⟨σ', φ', h1, h2⟩
  cases e with
  | exit id' =>
    simp only [blockG] at h2
    simp only [Exit.inBlock]
    split at h2
    · rename_i he; rw [if_pos he]; exact ⟨σ', φ', h1, h2⟩
    · rename_i he; rw [if_neg he]; exact ⟨σ', φ', h1, h2⟩
  | _ => exact ⟨σ', φ', h1, h2⟩
theorem W_le {c : Code} {σ' : Sg} (π : List (Option Nat)) (hle : leS B.m π σ σ') (h : W P B c σ' Q) : W P B c σ Q :=
  fun φ a w hs => h _ a w (hs.le hle).1
theorem W_cond {c : Operand} {x y : Code} (b : Bool) (hb : opd σ.sl c = .one (.val (.bool b))) (hu : under true σ.sl c) (h1 : b = true → W P B x σ Q) (h2 : b = false → W P B y σ Q) : W P B (.cond c x y) σ Q := by
  intro φ a w hs
  have hv : VR φ (rdT σ.tab) w (opd σ.sl c) (a.eval c) := opd_R (fun t _ => hs.sl t) hu
  rw [hb] at hv
  simp only [VR, CR] at hv
  refine wp_cond_split hv (fun hc => h1 hc φ a w hs) (fun hc => h2 hc φ a w hs)
theorem W_cond_nb {c : Operand} {x y : Code} (p q : Prop) (hb : opd σ.sl c = .one (.nb p q)) (hu : under true σ.sl c) (h1 : p → W P B x σ Q) (h2 : q → W P B y σ Q) : W P B (.cond c x y) σ Q := by
  intro φ a w hs
  have hv : VR φ (rdT σ.tab) w (opd σ.sl c) (a.eval c) := opd_R (fun t _ => hs.sl t) hu
  rw [hb] at hv
  simp only [VR, CR] at hv
  obtain ⟨b, hv, hp, hq⟩ := hv
  refine wp_cond_split hv (fun hc => h1 (hp hc) φ a w hs) (fun hc => h2 (hq hc) φ a w hs)
theorem W_region {E : Env} (ok : EnvOk P E) {id : Nat} {ops : Array Oper} (h : goOps E B.N B.m ops.toList ops.toList σ (Q .normal)) : W P B (.region id ops false) σ Q := by
  intro φ a w hs
  exact wp_region (region_sound ok h hs fun σ' φ' a' w' h1 h2 => ⟨σ', φ', h1, h2⟩)

theorem Ge.drawn (φ : Phi) (T : Tab) (w : World) : Ge φ T w φ T { w with drawn := w.drawn + 1 } :=
  ⟨rfl, rfl, rfl, Nat.le_refl _, fun _ _ h => h, fun _ _ _ => rfl, fun _ _ h => h, fun _ _ => rfl, fun _ => Iff.rfl⟩
theorem Rel.heap {φ : Phi} {T : Tab} {w w' : World} (h : Rel φ T w) (hh : w'.heap = w.heap) (g : Ge φ T w φ T w') : Rel φ T w' := by
  refine ⟨fun k o hk => ?_, h.inj, fun b hb => by rw [hh]; exact h.frd b hb⟩
  have := h.obj k o hk
  cases o with
  | cells cs =>
    obtain ⟨b, base, c, h1, ⟨e, fr, h2, h3⟩, h4⟩ := this
    exact ⟨b, base, c, h1, ⟨e, fr, by rw [hh]; exact h2, h3⟩, fun i tc hi => by obtain ⟨v, hv, hr⟩ := h4 i tc hi; exact ⟨v, hv, hr.mono g⟩⟩
  | arr t xs =>
    rcases this with h1 | ⟨b, base, c, h1, ⟨e, fr, h2, h3⟩, h4⟩
    · exact .inl h1
    · exact .inr ⟨b, base, c, h1, ⟨e, fr, by rw [hh]; exact h2, h3⟩, h4⟩
theorem Sim.drawn {φ0 : Phi} {T0 : Tab} {w0 : World} {N m : Nat} {φ : Phi} {a : Act} {w : World} (h : Sim φ0 T0 w0 N m φ σ a w) : Sim φ0 T0 w0 N m φ σ a { w with drawn := w.drawn + 1 } where
  defers := h.defers
  size := h.size
  sl := h.sl.mono (Ge.drawn _ _ _)
  rel := h.rel.heap rfl (Ge.drawn _ _ _)
  ge := h.ge.trans (Ge.drawn _ _ _)
  fresh := h.fresh
  kept := h.kept
  link := h.link
  low := h.low
  long := h.long
  low0 := h.low0
  base := h.base
theorem W_drawn {E : Env} (ok : EnvOk P E) (hm : P.follows .mixedOrders = true) {id : Nat} {ops : Array Oper} (h : goOpsD E B.N B.m ops.toList ops.toList σ [] (Q .normal)) : W P B (.region id ops true) σ Q := by
  intro φ a w hs
  exact wp_region_any hm (drawn_sound ok h hs.drawn fun σ' φ' a' w' h1 h2 => ⟨σ', φ', h1, h2⟩)
theorem least {J : Nat → Prop} : (∃ n, J n) → ∃ n, J n ∧ ∀ n', J n' → n ≤ n' := by
  rintro ⟨n, hn⟩
  induction n using Nat.strongRecOn with
  | _ n ih =>
    by_cases h : ∃ n', n' < n ∧ J n'
    · obtain ⟨n', h1, h2⟩ := h; exact ih n' h1 h2
    · exact ⟨n, hn, fun n' h' => Nat.le_of_not_lt fun hlt => h ⟨n', hlt, h'⟩⟩
/-- Back at the head of a loop, nearer to its end. -/
def Back (m : Nat) (I : Nat → Sg → Prop) (n : Nat) (σ' : Sg) : Prop := ∃ n' π σ'', n' < n ∧ leS m π σ' σ'' ∧ I n' σ''
/-- A loop: I n says how the state may be at the head, n how far it is from the end. -/
theorem W_loop {c : Code} (I : Nat → Sg → Prop) (n0 : Nat) (h0 : I n0 σ) (h : ∀ n σ, I n σ → W P B c σ (thenG (Back B.m I n) Q)) : W P B (.loop c) σ Q := by
  intro φ a w hs
  let J : Nat → Act → World → Prop := fun n a w => ∃ σ φ, Sim B.φ B.T B.w B.N B.m φ σ a w ∧ I n σ
  classical
  let μ : Act → World → Nat := fun a w => if hx : ∃ n, J n a w then Classical.choose (least hx) else 0
  refine wp_loop (fun a w => ∃ n, J n a w) μ ⟨n0, σ, φ, hs, h0⟩ ?_
  intro a w hx
  have hμ : μ a w = Classical.choose (least hx) := dif_pos hx
  obtain ⟨σ1, φ1, h1, h2⟩ := (Classical.choose_spec (least hx)).1
  refine wp_mono (h _ σ1 h2 φ1 a w h1) ?_
  rintro e a' w' ⟨σ', φ', h3, h4⟩
  cases e with
  | normal =>
    obtain ⟨n', π, σ'', h5, h6, h7⟩ := h4
    have hx' : ∃ n, J n a' w' := ⟨n', σ'', _, (h3.le h6).1, h7⟩
    refine ⟨hx', ?_⟩
    have : μ a' w' = Classical.choose (least hx') := dif_pos hx'
    rw [this, hμ]
    exact Nat.lt_of_le_of_lt ((Classical.choose_spec (least hx')).2 _ ⟨σ'', _, (h3.le h6).1, h7⟩) h5
  | _ => exact ⟨σ', φ', h3, h4⟩
end

/-! ### A function -/
def initSl : Nat → List TV → List (Nat × TV)
  | _, [] => []
  | i, v :: r => (i, v) :: initSl (i + 1) r
def resV (E : Env) (σ : Sg) : List ResultVar → List TV
  | [] => []
  | .tmp t :: r => look σ.sl t :: resV E σ r
  | .cell a t :: r => (match look σ.sl a with
    | .one (.ptr k off) => match rdT σ.tab k with
      | some (.cells cs) => asVal (E.ti t).agg (E.ti t).sz off cs
      | _ => .one .any
    | _ => .one .any) :: resV E σ r
def resP (E : Env) (σ : Sg) : List ResultVar → Prop
  | [] => True
  | .tmp t :: r => resP E σ r
  | .cell a t :: r => (match look σ.sl a with
    | .one (.ptr k off) => match rdT σ.tab k with
      | some (.cells cs) => off + (E.ti t).sz ≤ cs.length ∧ 0 < (E.ti t).sz
      | _ => False
    | _ => False) ∧ resP E σ r
def packV : List TV → TV
  | [v] => v
  | vs => .tup vs
/-- The end of a call, as the contract has it. -/
def retOk (E : Env) (rs : List ResultVar) (os : List Obj) (s : St) (σ : Sg) : Prop :=
  resP E σ rs ∧ ∃ π, leV (rdT σ.tab) π (packV (resV E σ rs)) s.v ∧ leS os.length π ⟨[], σ.tab, σ.tch⟩ ⟨[], setT (os.map some) s.upd ++ s.news.map some, s.upd.map (·.1)⟩
def retG (E : Env) (rs : List ResultVar) (os : List Obj) (s : St) : Exit → Sg → Prop
  | .normal, σ => retOk E rs os s σ
  | .ret, σ => retOk E rs os s σ
  | _, _ => False

section
variable {P : Program} {E : Env} (ok : EnvOk P E)
include ok

theorem resV_R {φ : Phi} {σ : Sg} {w : World} {tmps : Array Value} (hrel : Rel φ (rdT σ.tab) w) (hsl : SlR φ (rdT σ.tab) w σ.sl tmps) : ∀ (rs : List ResultVar), resP E σ rs → ∃ vs,
    (List.mapM (fun r : ResultVar => match r with
      | .tmp t => (pure (tmps.getD t undef) : Sem Value)
      | .cell a t => do loadVar t (← asAddr (tmps.getD a undef))) rs).run P w = .ok vs w ∧ VRs φ (rdT σ.tab) w (resV E σ rs) vs
  | [], _ => ⟨[], by simp, by simp [resV, VRs]⟩
  | .tmp t :: r, h => by
    obtain ⟨vs, h1, h2⟩ := resV_R hrel hsl r h
    refine ⟨tmps.getD t undef :: vs, ?_, by simp only [resV, VRs]; exact ⟨hsl t, h2⟩⟩
    simp only [List.mapM_cons, Sem.run_bind, Sem.run_pure, Result.andThen_ok, h1]
  | .cell a t :: r, h => by
    simp only [resP] at h
    obtain ⟨h0, h⟩ := h
    obtain ⟨vs, h1, h2⟩ := resV_R hrel hsl r h
    have hsa := hsl a
    simp only [resV]
    split at h0
    · rename_i k off hl
      split at h0
      · rename_i cs hk
        rw [hl] at hsa
        simp only [VR, CR, CapR] at hsa
        obtain ⟨b, base, hφ, hv⟩ := hsa
        obtain ⟨b', base', c, hφ', hC, hcells⟩ := hrel.obj k _ hk
        rw [hφ] at hφ'; cases hφ'
        obtain ⟨v, hrun, hvr⟩ := run_loadVar (P := P) (w := w) (φ := φ) (T := rdT σ.tab) (b := b) (o := base) (cs := cs) (ok.ti t (.inr h0.2)) off h0.1 h0.2 (fun i tc hi => by
          obtain ⟨v, hv, hr⟩ := hcells i tc hi
          exact ⟨v, by rw [cell_of_Cells hC]; exact hv, hr⟩)
        refine ⟨v :: vs, ?_, ?_⟩
        · have hA : asAddr (tmps.getD a undef) = pure ⟨b, base + off, none⟩ := by rw [hv]; rfl
          simp only [List.mapM_cons, Sem.run_bind, hA, Sem.run_pure, Result.andThen_ok, hrun, h1]
        · simp only [hl, hk, VRs]; exact ⟨hvr, h2⟩
      · exact h0.elim
    · exact h0.elim

theorem retOk_post {fn : Func} {rs : List ResultVar} (hrs : fn.results = rs.toArray) {os : List Obj} {s : St} {φ0 : Phi} {w0 : World} {σ : Sg} {φ : Phi} {a : Act} {w : World} {N : Nat} (hs : Sim φ0 (tabOf os) w0 N os.length φ σ a w) (h : retOk E rs os s σ) :
    a.defers = [] ∧ ∃ v, (results fn a.tmps).run P w = .ok v w ∧ Post φ0 (tabOf os) w0 os.length s (.returned v) w := by
  obtain ⟨hp, π, hv, hle⟩ := h
  refine ⟨hs.defers, ?_⟩
  obtain ⟨vs, hrun, hvs⟩ := resV_R ok hs.rel hs.sl rs hp
  have hs0 : Sim φ0 (tabOf os) w0 N os.length φ ⟨[], σ.tab, σ.tch⟩ a w := { hs with sl := fun i => by simp only [look, VR, CR] }
  obtain ⟨hs1, hV⟩ := hs0.le hle
  have hT : rdT (setT (os.map some) s.upd ++ s.news.map some) = newT (tabOf os) os.length s := by
    have := newT_rd (os.map some) s
    rw [this]
    simp only [List.length_map]
    congr 1
    funext k
    simp [rdT, tabOf]
    cases os[k]? <;> rfl
  have hpack : ∀ l : List TV, ∀ us : List Value, VRs φ (rdT σ.tab) w l us → VR φ (rdT σ.tab) w (packV l) (if h : us.toArray.size = 1 then us.toArray[0] else .tuple us.toArray) := by
    intro l us h
    match l, us, h with
    | [], [], h => simp only [packV, VR]; exact ⟨_, rfl, h⟩
    | [x], [u], h => simp only [packV]; simp only [VRs] at h; exact h.1
    | x :: y :: l, u :: v :: us, h =>
      simp only [packV, VR]
      refine ⟨#[u, v] ++ us.toArray, ?_, by simpa using h⟩
      rw [dif_neg (by simp)]; simp
    | [], _ :: _, h => simp [VRs] at h
    | [_], [], h => simp [VRs] at h
    | [_], _ :: _ :: _, h => simp [VRs] at h
    | _ :: _ :: _, [], h => simp [VRs] at h
    | _ :: _ :: _, [_], h => simp [VRs] at h
  refine ⟨if h : vs.toArray.size = 1 then vs.toArray[0] else .tuple vs.toArray, ?_, _, phiW φ π, rfl, ?_, ?_, ?_, ?_, ?_⟩
  · unfold results
    rw [hrs]
    simp only [List.mapM_toArray, Sem.run_bind, Sem.run_map]
    exact congrArg (fun z => ((z.andThen fun (a : List Value) w' => .ok a.toArray w').andThen fun a w' => Sem.run P (pure (if h : a.size = 1 then a[0] else Value.tuple a)) w')) hrun
  · have := hV _ _ _ hv (hpack _ _ hvs)
    rw [hT] at this; exact this
  · have := hs1.rel; rw [hT] at this; exact this
  · have := hs1.ge; rw [hT] at this; exact this
  · intro k hk
    rcases Nat.lt_or_ge k os.length with h' | h'
    · exact .inl (hs1.base k h' hk)
    · right
      refine ⟨h', ?_⟩
      rcases Nat.lt_or_ge k (os.length + s.news.length) with h2 | h2
      · exact h2
      · exact absurd (hs1.fresh k (by simp [setT_len]; omega)) hk
  · intro b hb hU
    refine hs1.kept b hb fun j base hj => hU j base ?_
    simp only [List.mem_map] at hj
    obtain ⟨⟨j', o⟩, h1, rfl⟩ := hj
    exact ⟨o, h1⟩
theorem initSl_R {φ : Phi} {T : Tab} {w : World} : ∀ {args : List TV} {rargs : List Value} (n : Nat) (tmps : Array Value), VRs φ T w args rargs → (∀ i v, rargs[i]? = some v → tmps[n + i]? = some v) → SlR φ T w (initSl n args) tmps
  | [], [], n, tmps, _, _ => fun i => by simp only [initSl, look, VR, CR]
  | x :: xs, v :: vs, n, tmps, h, ht => by
    intro i
    simp only [initSl, look_put]
    simp only [VRs] at h
    split
    · rename_i he
      subst he
      have := ht 0 v rfl
      rw [Nat.add_zero] at this
      rw [Array.getD_eq_getD_getElem?, this]
      exact h.1
    · exact initSl_R (n + 1) tmps h.2 (fun j u hj => by have := ht (j + 1) u (by simpa using hj); rwa [show n + 1 + j = n + (j + 1) by omega]) i
  | [], _ :: _, _, _, h, _ => by simp [VRs] at h
  | _ :: _, [], _, _, h, _ => by simp [VRs] at h
theorem VRs.length {φ : Phi} {T : Tab} {w : World} : ∀ {args : List TV} {rargs : List Value}, VRs φ T w args rargs → rargs.length = args.length
  | [], [], _ => rfl
  | x :: xs, v :: vs, h => by simp only [VRs] at h; simp [VRs.length h.2]
  | [], _ :: _, h => by simp [VRs] at h
  | _ :: _, [], h => by simp [VRs] at h

/-- A function is what its contract says, if the walk through its code ends so. -/
theorem sound_intro {f : FuncId} {fn : Func} {c : Code} {ct : Ct} {rs : List ResultVar} {N : Nat} (hf : P.funcs[f]? = some fn) (hN : fn.ntmps = N) (hb : fn.body = some c) (hrs : fn.results = rs.toArray)
    (h : ∀ args os, (ct.spec args os).pre → args.length ≤ N ∧ ∀ φ0 w0, W P ⟨φ0, tabOf os, w0, N, os.length⟩ c ⟨initSl 0 args, os.map some, []⟩ (retG E rs os (ct.spec args os))) : Sound P f ct := by
  subst hN
  intro args os hp φ w rargs hrel hargs hdom
  obtain ⟨hlen, hW⟩ := h args os hp
  refine calls_of_wp hf hb ?_
  have hT : rdT (os.map some) = tabOf os := by
    funext k
    simp [rdT, tabOf]
    cases os[k]? <;> rfl
  have hl : rargs.length = args.length := VRs.length ok hargs
  refine wp_mono (hW φ w φ _ w ?_) ?_
  · refine { defers := rfl, size := by simp; omega, sl := ?_, rel := by simp only [hT]; exact hrel, ge := by simp only [hT]; exact Ge.refl _ _ _, fresh := fun k hk => hdom k (by simpa using hk), kept := fun _ _ _ => rfl, link := ?_, low := ?_, long := by simp, low0 := ?_, base := fun _ _ h => h }
    · simp only [hT]
      refine initSl_R ok 0 _ hargs fun i v hi => ?_
      have : i < rargs.length := (List.getElem?_eq_some_iff.1 hi).1
      rw [Nat.zero_add, Array.getElem?_append_left (by simpa using this)]
      simpa using hi
    · intro k b base hk hφ hb
      simp only [hT] at hk
      exact ⟨k, base, hk, hφ, .inl rfl⟩
    · intro j hj
      rcases Nat.lt_or_ge j os.length with h' | h'
      · exact h'
      · exact absurd (by simp [tabOf, h']) hj
    · intro j hj
      rcases Nat.lt_or_ge j os.length with h' | h'
      · exact h'
      · exact absurd (hdom j h') hj
  · rintro e a' w' ⟨σ', φ', h1, h2⟩
    cases e with
    | normal => exact retOk_post ok hrs h1 h2
    | ret => exact retOk_post ok hrs h1 h2
    | _ => exact h2.elim
end
end Go.Proofs.Ytjdpppbegjnpaaa
