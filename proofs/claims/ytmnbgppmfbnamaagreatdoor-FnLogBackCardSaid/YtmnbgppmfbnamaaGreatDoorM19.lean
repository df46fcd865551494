import Derived.Test.YtmnbgppmfbnamaaGreatDoorM18
set_option linter.unusedSimpArgs false
set_option linter.unusedVariables false
set_option linter.unusedSectionVars false
/- Functions: records are read. -/
namespace Go.Proofs.YtmnbgppmfbnamaaGreatDoor
open Go.RowKit

theorem cutV_size1 (c : UInt8) (s : ByteArray) : (cutV c s).1.size ≤ s.size := by
  unfold cutV Lib.cut bytesL
  split
  · show (List.take _ s.data.toList).toArray.size ≤ s.data.size
    simp; omega
  · show s.data.toList.toArray.size ≤ s.data.size
    simp
@[go_sem] noncomputable def ctLogRead : Ct := ⟨false, [], fun args os => match args, os with
  | [.one (.val (.string t))], [] => ifp (t.size ≤ 1000000) (match logP t with
    | some r => .tup [.agg [.val (.int .i64 r.txg), .val (.int .i64 r.seq), .val (.int .i64 r.op.kind), .val (.string r.op.a), .val (.string r.op.b), .val (.int .i64 r.op.i), .val (.string r.op.text)], vb true]
    | none => .tup [.agg [.val (.int .i64 0), .val (.int .i64 0), .val (.int .i64 0), .val (.string ⟨#[]⟩), .val (.string ⟨#[]⟩), .val (.int .i64 0), .val (.string ⟨#[]⟩)], vb false])
  | _, _ => no⟩
theorem s_logRead_e : EnterOk Tryz.prog 10 := ⟨_, Tryz.func10, rfl, by decide⟩
@[go_sem] def s_logRead_lv : List (List Nat) := [[0, 2], [0, 2, 4], [0, 2, 6], [0, 2, 6, 28], [2, 3], [0, 2, 6, 7, 8], [0, 2, 6, 8, 10, 11], [0, 2, 6, 10, 11, 12, 13], [0, 2, 6, 10, 11, 12, 13, 14, 15], [0, 2, 6, 10, 11, 12, 13, 14, 15, 16, 17], [0, 2, 6, 10, 11, 12, 13, 14, 15, 16, 17, 65], [0, 2, 6, 10, 11, 12, 13, 14, 15, 16, 17], [0, 2, 11, 13, 15, 17, 18], [2, 18, 94], [2, 3], [2, 3]]
@[go_sem] noncomputable def s_logRead_K : Known := ((((((Known.nil).cons 54 ctSumOpen s_sumOpen s_sumOpen_e).cons 55 ctSplit s_split s_split_e).cons 56 ctCut s_cut s_cut_e).cons 57 ctAtoi s_atoi s_atoi_e).cons 58 ctUnhex s_unhex s_unhex_e).cons 9 ctLogText s_logText s_logText_e
set_option maxHeartbeats 8000000 in
theorem s_logRead : Sound Tryz.prog 10 ctLogRead := by
  have ke := s_logRead_K.env []
  have kl : Lives s_logRead_lv := trivial
  refine sound_intro (E := ⟨ti, s_logRead_K.Γ, []⟩) ke Tryz.func10 Tryz.ntmps10 rfl (rs := [.cell 2 26, .tmp 3]) rfl ?_
  intro args os hp
  unfold ctLogRead at hp ⊢
  dsimp only at hp ⊢
  split at hp
  · rename_i t
    refine ⟨by simp, fun φ0 w0 => ?_⟩
    have hlen : t.size ≤ 1000000 := hp
    have nt : (!true) = false := rfl
    have nf : (!false) = true := rfl
    have hsp : (⟨#[32]⟩ : ByteArray).data.getD 0 0 = 32 := rfl
    have hsz : (⟨#[32]⟩ : ByteArray).size = 1 := rfl
    have hsp2 : (⟨#[46]⟩ : ByteArray).data.getD 0 0 = 46 := rfl
    have hsz2 : (⟨#[46]⟩ : ByteArray).size = 1 := rfl
    have h32 : UInt8.ofNat 32 = 32 := rfl
    have h46 : UInt8.ofNat 46 = 46 := rfl
    have hos := openV_size t
    have hcl := @logP_closed t
    have hwd := @logP_words t
    have hck := fun w0 a w2 w3 w4 => @logP_check t w0 a w2 w3 w4
    have him := fun w0 a w2 w3 w4 => @logP_impl t w0 a w2 w3 w4
    obtain ⟨⟨inner, ok⟩, hin⟩ : ∃ x, openV t = x := ⟨_, rfl⟩
    rw [hin] at hos hcl hwd hck him
    simp only at hos hcl hwd hck him
    have hwl := splitV_len 32 inner
    have hms : ∀ w ∈ splitV 32 inner, w.size ≤ 1000000 := fun w hw => Nat.le_trans (splitV_size hw) (by omega)
    obtain ⟨ws, hws⟩ : ∃ ws, splitV 32 inner = ws := ⟨_, rfl⟩
    rw [hws] at hms hwl hwd hck him
    refine goh (And.intro hsp (And.intro hsz (And.intro hin hws))) ?_
    refine W_cnd ?_ ?_ <;> (try simp only [cnd_r]) <;> intro h3
    · have e := hwd (by intro e; rw [e] at h3; exact absurd h3 (by decide))
      refine goh trivial ?_
      exact finh [] e
    · have h3' : ws.length = 5 := by omega
      match ws, h3' with
      | [w0, a, w2, w3, w4], _ =>
      have m0 := hms w0 (by simp)
      have ma := hms a (by simp)
      have m2 := hms w2 (by simp)
      have m3 := hms w3 (by simp)
      have ma' : a.size ≤ 9223372036854775807 := by omega
      have m2' : w2.size ≤ 281474976710656 := by omega
      have q1 := cutV_size1 46 w0
      have q2 := cutV_size 46 w0
      have hI := fun r h => him w0 a w2 w3 w4 rfl (r := r) h
      have hC := fun r h => hck w0 a w2 w3 w4 rfl (r := r) h
      obtain ⟨⟨f, g, okc⟩, hcut⟩ : ∃ x, cutV 46 w0 = x := ⟨_, rfl⟩
      rw [hcut] at q1 q2 hI
      simp only at q1 q2 hI
      have mf : f.size ≤ 281474976710656 := by omega
      have mg : g.size ≤ 281474976710656 := by omega
      clear him hck hwd hcl
      cases hf : atoiV f <;> cases hg : atoiV g <;> cases hi : atoiV w2
      case none.none.none =>
        have e : logP t = none := logP_bad fun r h => by have h2 := (hI r h).1; rw [hf] at h2; cases h2
        by_cases hd : w3 = ⟨#[45]⟩
        · have cd : same w3 ⟨#[45]⟩ = true := same_true.2 hd
          have hu : unhexV w3 = none := by rw [hd]; rfl
          refine goh (And.intro hcut (And.intro hsp2 (And.intro hsz2 (And.intro mf (And.intro mg (And.intro m2' (And.intro m3 (And.intro ma' (And.intro hf (And.intro hg (And.intro hi (And.intro hu (And.intro cd (And.intro nt nf)))))))))))))) ?_
          refine W_cnd ?_ ?_ <;> intro hlit <;> try (cases hlit; done)
          refine goh (And.intro ma' (And.intro hf (And.intro hg (And.intro hi (And.intro hu (And.intro cd (And.intro nt nf))))))) ?_
          refine W_cnd ?_ ?_ <;> intro hlit <;> try (cases hlit; done)
          refine goh (And.intro hf (And.intro hg (And.intro hi (And.intro hu (And.intro cd (And.intro nt nf)))))) ?_
          exact finh [] e
        · have cd : same w3 ⟨#[45]⟩ = false := same_false.2 hd
          cases hu : unhexV w3 with
          | none =>
            refine goh (And.intro hcut (And.intro hsp2 (And.intro hsz2 (And.intro mf (And.intro mg (And.intro m2' (And.intro m3 (And.intro ma' (And.intro hf (And.intro hg (And.intro hi (And.intro hu (And.intro cd (And.intro nt nf)))))))))))))) ?_
            refine W_cnd ?_ ?_ <;> intro hlit <;> try (cases hlit; done)
            refine goh (And.intro ma' (And.intro hf (And.intro hg (And.intro hi (And.intro hu (And.intro cd (And.intro nt nf))))))) ?_
            refine W_cnd ?_ ?_ <;> intro hlit <;> try (cases hlit; done)
            refine goh (And.intro hf (And.intro hg (And.intro hi (And.intro hu (And.intro cd (And.intro nt nf)))))) ?_
            exact finh [] e
          | some b =>
            refine goh (And.intro hcut (And.intro hsp2 (And.intro hsz2 (And.intro mf (And.intro mg (And.intro m2' (And.intro m3 (And.intro ma' (And.intro hf (And.intro hg (And.intro hi (And.intro hu (And.intro cd (And.intro nt nf)))))))))))))) ?_
            refine W_cnd ?_ ?_ <;> intro hlit <;> try (cases hlit; done)
            refine goh (And.intro ma' (And.intro hf (And.intro hg (And.intro hi (And.intro hu (And.intro cd (And.intro nt nf))))))) ?_
            refine W_cnd ?_ ?_ <;> intro hlit <;> try (cases hlit; done)
            refine goh (And.intro hf (And.intro hg (And.intro hi (And.intro hu (And.intro cd (And.intro nt nf)))))) ?_
            exact finh [] e
      case none.none.some i =>
        have e : logP t = none := logP_bad fun r h => by have h2 := (hI r h).1; rw [hf] at h2; cases h2
        by_cases hd : w3 = ⟨#[45]⟩
        · have cd : same w3 ⟨#[45]⟩ = true := same_true.2 hd
          have hu : unhexV w3 = none := by rw [hd]; rfl
          refine goh (And.intro hcut (And.intro hsp2 (And.intro hsz2 (And.intro mf (And.intro mg (And.intro m2' (And.intro m3 (And.intro ma' (And.intro hf (And.intro hg (And.intro hi (And.intro hu (And.intro cd (And.intro nt nf)))))))))))))) ?_
          refine W_cnd ?_ ?_ <;> intro hlit <;> try (cases hlit; done)
          refine goh (And.intro ma' (And.intro hf (And.intro hg (And.intro hi (And.intro hu (And.intro cd (And.intro nt nf))))))) ?_
          refine W_cnd ?_ ?_ <;> intro hlit <;> try (cases hlit; done)
          refine goh (And.intro hf (And.intro hg (And.intro hi (And.intro hu (And.intro cd (And.intro nt nf)))))) ?_
          exact finh [] e
        · have cd : same w3 ⟨#[45]⟩ = false := same_false.2 hd
          cases hu : unhexV w3 with
          | none =>
            refine goh (And.intro hcut (And.intro hsp2 (And.intro hsz2 (And.intro mf (And.intro mg (And.intro m2' (And.intro m3 (And.intro ma' (And.intro hf (And.intro hg (And.intro hi (And.intro hu (And.intro cd (And.intro nt nf)))))))))))))) ?_
            refine W_cnd ?_ ?_ <;> intro hlit <;> try (cases hlit; done)
            refine goh (And.intro ma' (And.intro hf (And.intro hg (And.intro hi (And.intro hu (And.intro cd (And.intro nt nf))))))) ?_
            refine W_cnd ?_ ?_ <;> intro hlit <;> try (cases hlit; done)
            refine goh (And.intro hf (And.intro hg (And.intro hi (And.intro hu (And.intro cd (And.intro nt nf)))))) ?_
            exact finh [] e
          | some b =>
            refine goh (And.intro hcut (And.intro hsp2 (And.intro hsz2 (And.intro mf (And.intro mg (And.intro m2' (And.intro m3 (And.intro ma' (And.intro hf (And.intro hg (And.intro hi (And.intro hu (And.intro cd (And.intro nt nf)))))))))))))) ?_
            refine W_cnd ?_ ?_ <;> intro hlit <;> try (cases hlit; done)
            refine goh (And.intro ma' (And.intro hf (And.intro hg (And.intro hi (And.intro hu (And.intro cd (And.intro nt nf))))))) ?_
            refine W_cnd ?_ ?_ <;> intro hlit <;> try (cases hlit; done)
            refine goh (And.intro hf (And.intro hg (And.intro hi (And.intro hu (And.intro cd (And.intro nt nf)))))) ?_
            exact finh [] e
      case none.some.none y =>
        have e : logP t = none := logP_bad fun r h => by have h2 := (hI r h).1; rw [hf] at h2; cases h2
        by_cases hd : w3 = ⟨#[45]⟩
        · have cd : same w3 ⟨#[45]⟩ = true := same_true.2 hd
          have hu : unhexV w3 = none := by rw [hd]; rfl
          refine goh (And.intro hcut (And.intro hsp2 (And.intro hsz2 (And.intro mf (And.intro mg (And.intro m2' (And.intro m3 (And.intro ma' (And.intro hf (And.intro hg (And.intro hi (And.intro hu (And.intro cd (And.intro nt nf)))))))))))))) ?_
          refine W_cnd ?_ ?_ <;> intro hlit <;> try (cases hlit; done)
          refine goh (And.intro ma' (And.intro hf (And.intro hg (And.intro hi (And.intro hu (And.intro cd (And.intro nt nf))))))) ?_
          refine W_cnd ?_ ?_ <;> intro hlit <;> try (cases hlit; done)
          refine goh (And.intro hf (And.intro hg (And.intro hi (And.intro hu (And.intro cd (And.intro nt nf)))))) ?_
          exact finh [] e
        · have cd : same w3 ⟨#[45]⟩ = false := same_false.2 hd
          cases hu : unhexV w3 with
          | none =>
            refine goh (And.intro hcut (And.intro hsp2 (And.intro hsz2 (And.intro mf (And.intro mg (And.intro m2' (And.intro m3 (And.intro ma' (And.intro hf (And.intro hg (And.intro hi (And.intro hu (And.intro cd (And.intro nt nf)))))))))))))) ?_
            refine W_cnd ?_ ?_ <;> intro hlit <;> try (cases hlit; done)
            refine goh (And.intro ma' (And.intro hf (And.intro hg (And.intro hi (And.intro hu (And.intro cd (And.intro nt nf))))))) ?_
            refine W_cnd ?_ ?_ <;> intro hlit <;> try (cases hlit; done)
            refine goh (And.intro hf (And.intro hg (And.intro hi (And.intro hu (And.intro cd (And.intro nt nf)))))) ?_
            exact finh [] e
          | some b =>
            refine goh (And.intro hcut (And.intro hsp2 (And.intro hsz2 (And.intro mf (And.intro mg (And.intro m2' (And.intro m3 (And.intro ma' (And.intro hf (And.intro hg (And.intro hi (And.intro hu (And.intro cd (And.intro nt nf)))))))))))))) ?_
            refine W_cnd ?_ ?_ <;> intro hlit <;> try (cases hlit; done)
            refine goh (And.intro ma' (And.intro hf (And.intro hg (And.intro hi (And.intro hu (And.intro cd (And.intro nt nf))))))) ?_
            refine W_cnd ?_ ?_ <;> intro hlit <;> try (cases hlit; done)
            refine goh (And.intro hf (And.intro hg (And.intro hi (And.intro hu (And.intro cd (And.intro nt nf)))))) ?_
            exact finh [] e
      case none.some.some y i =>
        have e : logP t = none := logP_bad fun r h => by have h2 := (hI r h).1; rw [hf] at h2; cases h2
        by_cases hd : w3 = ⟨#[45]⟩
        · have cd : same w3 ⟨#[45]⟩ = true := same_true.2 hd
          have hu : unhexV w3 = none := by rw [hd]; rfl
          refine goh (And.intro hcut (And.intro hsp2 (And.intro hsz2 (And.intro mf (And.intro mg (And.intro m2' (And.intro m3 (And.intro ma' (And.intro hf (And.intro hg (And.intro hi (And.intro hu (And.intro cd (And.intro nt nf)))))))))))))) ?_
          refine W_cnd ?_ ?_ <;> intro hlit <;> try (cases hlit; done)
          refine goh (And.intro ma' (And.intro hf (And.intro hg (And.intro hi (And.intro hu (And.intro cd (And.intro nt nf))))))) ?_
          refine W_cnd ?_ ?_ <;> intro hlit <;> try (cases hlit; done)
          refine goh (And.intro hf (And.intro hg (And.intro hi (And.intro hu (And.intro cd (And.intro nt nf)))))) ?_
          exact finh [] e
        · have cd : same w3 ⟨#[45]⟩ = false := same_false.2 hd
          cases hu : unhexV w3 with
          | none =>
            refine goh (And.intro hcut (And.intro hsp2 (And.intro hsz2 (And.intro mf (And.intro mg (And.intro m2' (And.intro m3 (And.intro ma' (And.intro hf (And.intro hg (And.intro hi (And.intro hu (And.intro cd (And.intro nt nf)))))))))))))) ?_
            refine W_cnd ?_ ?_ <;> intro hlit <;> try (cases hlit; done)
            refine goh (And.intro ma' (And.intro hf (And.intro hg (And.intro hi (And.intro hu (And.intro cd (And.intro nt nf))))))) ?_
            refine W_cnd ?_ ?_ <;> intro hlit <;> try (cases hlit; done)
            refine goh (And.intro hf (And.intro hg (And.intro hi (And.intro hu (And.intro cd (And.intro nt nf)))))) ?_
            exact finh [] e
          | some b =>
            refine goh (And.intro hcut (And.intro hsp2 (And.intro hsz2 (And.intro mf (And.intro mg (And.intro m2' (And.intro m3 (And.intro ma' (And.intro hf (And.intro hg (And.intro hi (And.intro hu (And.intro cd (And.intro nt nf)))))))))))))) ?_
            refine W_cnd ?_ ?_ <;> intro hlit <;> try (cases hlit; done)
            refine goh (And.intro ma' (And.intro hf (And.intro hg (And.intro hi (And.intro hu (And.intro cd (And.intro nt nf))))))) ?_
            refine W_cnd ?_ ?_ <;> intro hlit <;> try (cases hlit; done)
            refine goh (And.intro hf (And.intro hg (And.intro hi (And.intro hu (And.intro cd (And.intro nt nf)))))) ?_
            exact finh [] e
      case some.none.none x =>
        have e : logP t = none := logP_bad fun r h => by have h2 := (hI r h).2.1; rw [hg] at h2; cases h2
        by_cases hd : w3 = ⟨#[45]⟩
        · have cd : same w3 ⟨#[45]⟩ = true := same_true.2 hd
          have hu : unhexV w3 = none := by rw [hd]; rfl
          refine goh (And.intro hcut (And.intro hsp2 (And.intro hsz2 (And.intro mf (And.intro mg (And.intro m2' (And.intro m3 (And.intro ma' (And.intro hf (And.intro hg (And.intro hi (And.intro hu (And.intro cd (And.intro nt nf)))))))))))))) ?_
          refine W_cnd ?_ ?_ <;> intro hlit <;> try (cases hlit; done)
          refine goh (And.intro ma' (And.intro hf (And.intro hg (And.intro hi (And.intro hu (And.intro cd (And.intro nt nf))))))) ?_
          refine W_cnd ?_ ?_ <;> intro hlit <;> try (cases hlit; done)
          refine goh (And.intro hf (And.intro hg (And.intro hi (And.intro hu (And.intro cd (And.intro nt nf)))))) ?_
          exact finh [] e
        · have cd : same w3 ⟨#[45]⟩ = false := same_false.2 hd
          cases hu : unhexV w3 with
          | none =>
            refine goh (And.intro hcut (And.intro hsp2 (And.intro hsz2 (And.intro mf (And.intro mg (And.intro m2' (And.intro m3 (And.intro ma' (And.intro hf (And.intro hg (And.intro hi (And.intro hu (And.intro cd (And.intro nt nf)))))))))))))) ?_
            refine W_cnd ?_ ?_ <;> intro hlit <;> try (cases hlit; done)
            refine goh (And.intro ma' (And.intro hf (And.intro hg (And.intro hi (And.intro hu (And.intro cd (And.intro nt nf))))))) ?_
            refine W_cnd ?_ ?_ <;> intro hlit <;> try (cases hlit; done)
            refine goh (And.intro hf (And.intro hg (And.intro hi (And.intro hu (And.intro cd (And.intro nt nf)))))) ?_
            exact finh [] e
          | some b =>
            refine goh (And.intro hcut (And.intro hsp2 (And.intro hsz2 (And.intro mf (And.intro mg (And.intro m2' (And.intro m3 (And.intro ma' (And.intro hf (And.intro hg (And.intro hi (And.intro hu (And.intro cd (And.intro nt nf)))))))))))))) ?_
            refine W_cnd ?_ ?_ <;> intro hlit <;> try (cases hlit; done)
            refine goh (And.intro ma' (And.intro hf (And.intro hg (And.intro hi (And.intro hu (And.intro cd (And.intro nt nf))))))) ?_
            refine W_cnd ?_ ?_ <;> intro hlit <;> try (cases hlit; done)
            refine goh (And.intro hf (And.intro hg (And.intro hi (And.intro hu (And.intro cd (And.intro nt nf)))))) ?_
            exact finh [] e
      case some.none.some x i =>
        have e : logP t = none := logP_bad fun r h => by have h2 := (hI r h).2.1; rw [hg] at h2; cases h2
        by_cases hd : w3 = ⟨#[45]⟩
        · have cd : same w3 ⟨#[45]⟩ = true := same_true.2 hd
          have hu : unhexV w3 = none := by rw [hd]; rfl
          refine goh (And.intro hcut (And.intro hsp2 (And.intro hsz2 (And.intro mf (And.intro mg (And.intro m2' (And.intro m3 (And.intro ma' (And.intro hf (And.intro hg (And.intro hi (And.intro hu (And.intro cd (And.intro nt nf)))))))))))))) ?_
          refine W_cnd ?_ ?_ <;> intro hlit <;> try (cases hlit; done)
          refine goh (And.intro ma' (And.intro hf (And.intro hg (And.intro hi (And.intro hu (And.intro cd (And.intro nt nf))))))) ?_
          refine W_cnd ?_ ?_ <;> intro hlit <;> try (cases hlit; done)
          refine goh (And.intro hf (And.intro hg (And.intro hi (And.intro hu (And.intro cd (And.intro nt nf)))))) ?_
          exact finh [] e
        · have cd : same w3 ⟨#[45]⟩ = false := same_false.2 hd
          cases hu : unhexV w3 with
          | none =>
            refine goh (And.intro hcut (And.intro hsp2 (And.intro hsz2 (And.intro mf (And.intro mg (And.intro m2' (And.intro m3 (And.intro ma' (And.intro hf (And.intro hg (And.intro hi (And.intro hu (And.intro cd (And.intro nt nf)))))))))))))) ?_
            refine W_cnd ?_ ?_ <;> intro hlit <;> try (cases hlit; done)
            refine goh (And.intro ma' (And.intro hf (And.intro hg (And.intro hi (And.intro hu (And.intro cd (And.intro nt nf))))))) ?_
            refine W_cnd ?_ ?_ <;> intro hlit <;> try (cases hlit; done)
            refine goh (And.intro hf (And.intro hg (And.intro hi (And.intro hu (And.intro cd (And.intro nt nf)))))) ?_
            exact finh [] e
          | some b =>
            refine goh (And.intro hcut (And.intro hsp2 (And.intro hsz2 (And.intro mf (And.intro mg (And.intro m2' (And.intro m3 (And.intro ma' (And.intro hf (And.intro hg (And.intro hi (And.intro hu (And.intro cd (And.intro nt nf)))))))))))))) ?_
            refine W_cnd ?_ ?_ <;> intro hlit <;> try (cases hlit; done)
            refine goh (And.intro ma' (And.intro hf (And.intro hg (And.intro hi (And.intro hu (And.intro cd (And.intro nt nf))))))) ?_
            refine W_cnd ?_ ?_ <;> intro hlit <;> try (cases hlit; done)
            refine goh (And.intro hf (And.intro hg (And.intro hi (And.intro hu (And.intro cd (And.intro nt nf)))))) ?_
            exact finh [] e
      case some.some.none x y =>
        have e : logP t = none := logP_bad fun r h => by have h2 := (hI r h).2.2.1; rw [hi] at h2; cases h2
        by_cases hd : w3 = ⟨#[45]⟩
        · have cd : same w3 ⟨#[45]⟩ = true := same_true.2 hd
          have hu : unhexV w3 = none := by rw [hd]; rfl
          refine goh (And.intro hcut (And.intro hsp2 (And.intro hsz2 (And.intro mf (And.intro mg (And.intro m2' (And.intro m3 (And.intro ma' (And.intro hf (And.intro hg (And.intro hi (And.intro hu (And.intro cd (And.intro nt nf)))))))))))))) ?_
          refine W_cnd ?_ ?_ <;> intro hlit <;> try (cases hlit; done)
          refine goh (And.intro ma' (And.intro hf (And.intro hg (And.intro hi (And.intro hu (And.intro cd (And.intro nt nf))))))) ?_
          refine W_cnd ?_ ?_ <;> intro hlit <;> try (cases hlit; done)
          refine goh (And.intro hf (And.intro hg (And.intro hi (And.intro hu (And.intro cd (And.intro nt nf)))))) ?_
          exact finh [] e
        · have cd : same w3 ⟨#[45]⟩ = false := same_false.2 hd
          cases hu : unhexV w3 with
          | none =>
            refine goh (And.intro hcut (And.intro hsp2 (And.intro hsz2 (And.intro mf (And.intro mg (And.intro m2' (And.intro m3 (And.intro ma' (And.intro hf (And.intro hg (And.intro hi (And.intro hu (And.intro cd (And.intro nt nf)))))))))))))) ?_
            refine W_cnd ?_ ?_ <;> intro hlit <;> try (cases hlit; done)
            refine goh (And.intro ma' (And.intro hf (And.intro hg (And.intro hi (And.intro hu (And.intro cd (And.intro nt nf))))))) ?_
            refine W_cnd ?_ ?_ <;> intro hlit <;> try (cases hlit; done)
            refine goh (And.intro hf (And.intro hg (And.intro hi (And.intro hu (And.intro cd (And.intro nt nf)))))) ?_
            exact finh [] e
          | some b =>
            refine goh (And.intro hcut (And.intro hsp2 (And.intro hsz2 (And.intro mf (And.intro mg (And.intro m2' (And.intro m3 (And.intro ma' (And.intro hf (And.intro hg (And.intro hi (And.intro hu (And.intro cd (And.intro nt nf)))))))))))))) ?_
            refine W_cnd ?_ ?_ <;> intro hlit <;> try (cases hlit; done)
            refine goh (And.intro ma' (And.intro hf (And.intro hg (And.intro hi (And.intro hu (And.intro cd (And.intro nt nf))))))) ?_
            refine W_cnd ?_ ?_ <;> intro hlit <;> try (cases hlit; done)
            refine goh (And.intro hf (And.intro hg (And.intro hi (And.intro hu (And.intro cd (And.intro nt nf)))))) ?_
            exact finh [] e
      case some.some.some x y i =>
        have nx := (atoiV_in hf).1
        have ny := (atoiV_in hg).1
        have ni := (atoiV_in hi).1
        by_cases hd : w3 = ⟨#[45]⟩
        · have cd : same w3 ⟨#[45]⟩ = true := same_true.2 hd
          have hu : unhexV w3 = none := by rw [hd]; rfl
          have hR : ∀ r', logP t = some r' → r' = ⟨x, y, ⟨3, a, ⟨#[]⟩, i, ⟨#[]⟩⟩⟩ := fun r' h => by
            obtain ⟨k1, k2, k3, k4, k5⟩ := hI r' h
            have k1 := Option.some.inj (hf.symm.trans k1)
            have k2 := Option.some.inj (hg.symm.trans k2)
            have k3 := Option.some.inj (hi.symm.trans k3)
            have k4 : r'.op.text = ⟨#[]⟩ := by
              rcases k4 with ⟨-, k4⟩ | ⟨k4, -⟩
              · exact k4
              · exact absurd hd k4
            rw [k5, ← k1, ← k2, ← k3, k4]
          cases hs : same (logT ⟨x, y, ⟨3, a, ⟨#[]⟩, i, ⟨#[]⟩⟩⟩) t with
          | false =>
            have e := logP_fail hR (same_false.1 hs)
            refine goh (And.intro hcut (And.intro hsp2 (And.intro hsz2 (And.intro mf (And.intro mg (And.intro m2' (And.intro m3 (And.intro ma' (And.intro hf (And.intro hg (And.intro hi (And.intro nx (And.intro ny (And.intro ni (And.intro hu (And.intro cd (And.intro hs (And.intro nt nf)))))))))))))))))) ?_
            refine W_cnd ?_ ?_ <;> intro hlit <;> try (cases hlit; done)
            refine goh (And.intro ma' (And.intro hf (And.intro hg (And.intro hi (And.intro nx (And.intro ny (And.intro ni (And.intro hu (And.intro cd (And.intro hs (And.intro nt nf))))))))))) ?_
            refine W_cnd ?_ ?_ <;> intro hlit <;> try (cases hlit; done)
            refine goh (And.intro hf (And.intro hg (And.intro hi (And.intro nx (And.intro ny (And.intro ni (And.intro hu (And.intro cd (And.intro hs (And.intro nt nf)))))))))) ?_
            exact finh [] e
          | true =>
            have e := hC _ (same_true.1 hs)
            refine goh (And.intro hcut (And.intro hsp2 (And.intro hsz2 (And.intro mf (And.intro mg (And.intro m2' (And.intro m3 (And.intro ma' (And.intro hf (And.intro hg (And.intro hi (And.intro nx (And.intro ny (And.intro ni (And.intro hu (And.intro cd (And.intro hs (And.intro nt nf)))))))))))))))))) ?_
            refine W_cnd ?_ ?_ <;> intro hlit <;> try (cases hlit; done)
            refine goh (And.intro ma' (And.intro hf (And.intro hg (And.intro hi (And.intro nx (And.intro ny (And.intro ni (And.intro hu (And.intro cd (And.intro hs (And.intro nt nf))))))))))) ?_
            refine W_cnd ?_ ?_ <;> intro hlit <;> try (cases hlit; done)
            refine goh (And.intro hf (And.intro hg (And.intro hi (And.intro nx (And.intro ny (And.intro ni (And.intro hu (And.intro cd (And.intro hs (And.intro nt nf)))))))))) ?_
            exact finh [] e
        · have cd : same w3 ⟨#[45]⟩ = false := same_false.2 hd
          cases hu : unhexV w3 with
          | none =>
            have e : logP t = none := logP_bad fun r h => (hI r h).2.2.2.1.elim (fun k => hd k.1) (fun k => by rw [hu] at k; cases k.2)
            refine goh (And.intro hcut (And.intro hsp2 (And.intro hsz2 (And.intro mf (And.intro mg (And.intro m2' (And.intro m3 (And.intro ma' (And.intro hf (And.intro hg (And.intro hi (And.intro nx (And.intro ny (And.intro ni (And.intro hu (And.intro cd (And.intro nt nf))))))))))))))))) ?_
            refine W_cnd ?_ ?_ <;> intro hlit <;> try (cases hlit; done)
            refine goh (And.intro ma' (And.intro hf (And.intro hg (And.intro hi (And.intro nx (And.intro ny (And.intro ni (And.intro hu (And.intro cd (And.intro nt nf)))))))))) ?_
            refine W_cnd ?_ ?_ <;> intro hlit <;> try (cases hlit; done)
            refine goh (And.intro hf (And.intro hg (And.intro hi (And.intro nx (And.intro ny (And.intro ni (And.intro hu (And.intro cd (And.intro nt nf))))))))) ?_
            exact finh [] e
          | some b =>
            have hR : ∀ r', logP t = some r' → r' = ⟨x, y, ⟨3, a, ⟨#[]⟩, i, b⟩⟩ := fun r' h => by
              obtain ⟨k1, k2, k3, k4, k5⟩ := hI r' h
              have k1 := Option.some.inj (hf.symm.trans k1)
              have k2 := Option.some.inj (hg.symm.trans k2)
              have k3 := Option.some.inj (hi.symm.trans k3)
              have k4 : r'.op.text = b := by
                rcases k4 with ⟨k4, -⟩ | ⟨-, k4⟩
                · exact absurd k4 hd
                · exact (Option.some.inj (hu.symm.trans k4)).symm
              rw [k5, ← k1, ← k2, ← k3, k4]
            cases hs : same (logT ⟨x, y, ⟨3, a, ⟨#[]⟩, i, b⟩⟩) t with
            | false =>
              have e := logP_fail hR (same_false.1 hs)
              refine goh (And.intro hcut (And.intro hsp2 (And.intro hsz2 (And.intro mf (And.intro mg (And.intro m2' (And.intro m3 (And.intro ma' (And.intro hf (And.intro hg (And.intro hi (And.intro nx (And.intro ny (And.intro ni (And.intro hu (And.intro cd (And.intro hs (And.intro nt nf)))))))))))))))))) ?_
              refine W_cnd ?_ ?_ <;> intro hlit <;> try (cases hlit; done)
              refine goh (And.intro ma' (And.intro hf (And.intro hg (And.intro hi (And.intro nx (And.intro ny (And.intro ni (And.intro hu (And.intro cd (And.intro hs (And.intro nt nf))))))))))) ?_
              refine W_cnd ?_ ?_ <;> intro hlit <;> try (cases hlit; done)
              refine goh (And.intro hf (And.intro hg (And.intro hi (And.intro nx (And.intro ny (And.intro ni (And.intro hu (And.intro cd (And.intro hs (And.intro nt nf)))))))))) ?_
              exact finh [] e
            | true =>
              have e := hC _ (same_true.1 hs)
              refine goh (And.intro hcut (And.intro hsp2 (And.intro hsz2 (And.intro mf (And.intro mg (And.intro m2' (And.intro m3 (And.intro ma' (And.intro hf (And.intro hg (And.intro hi (And.intro nx (And.intro ny (And.intro ni (And.intro hu (And.intro cd (And.intro hs (And.intro nt nf)))))))))))))))))) ?_
              refine W_cnd ?_ ?_ <;> intro hlit <;> try (cases hlit; done)
              refine goh (And.intro ma' (And.intro hf (And.intro hg (And.intro hi (And.intro nx (And.intro ny (And.intro ni (And.intro hu (And.intro cd (And.intro hs (And.intro nt nf))))))))))) ?_
              refine W_cnd ?_ ?_ <;> intro hlit <;> try (cases hlit; done)
              refine goh (And.intro hf (And.intro hg (And.intro hi (And.intro nx (And.intro ny (And.intro ni (And.intro hu (And.intro cd (And.intro hs (And.intro nt nf)))))))))) ?_
              exact finh [] e
  · simp [no, ifp] at hp
theorem s_specLogRead_e : EnterOk Tryz.prog 13 := ⟨_, Tryz.func13, rfl, by decide⟩
@[go_sem] def s_specLogRead_lv : List (List Nat) := [[0, 2], [0, 2, 4, 5], [0, 2, 5, 6], [0, 2, 6, 28], [2, 3], [0, 2, 6, 7], [0, 2, 6, 7, 36], [2, 3], [0, 2, 6, 7, 8], [0, 2, 6, 8, 10], [0, 2, 6, 8, 10, 12], [0, 2, 6, 14], [0, 2, 6, 14, 70], [0, 2, 14], [2, 14, 83], [2, 3], [2, 3]]
@[go_sem] noncomputable def s_specLogRead_K : Known := (((((Known.nil).cons 64 ctSpecOpenS s_specSumOpen s_specSumOpen_e).cons 65 ctCutB s_cutB s_cutB_e).cons 66 ctNumS2 s_numS2 s_numS2_e).cons 67 ctUnhex2 s_specUnhex2 s_specUnhex2_e).cons 11 ctLogText s_specLogText s_specLogText_e
set_option maxHeartbeats 8000000 in
theorem s_specLogRead : Sound Tryz.prog 13 ctLogRead := by
  have ke := s_specLogRead_K.env []
  have kl : Lives s_specLogRead_lv := trivial
  refine sound_intro (E := ⟨ti, s_specLogRead_K.Γ, []⟩) ke Tryz.func13 Tryz.ntmps13 rfl (rs := [.cell 2 26, .tmp 3]) rfl ?_
  intro args os hp
  unfold ctLogRead at hp ⊢
  dsimp only at hp ⊢
  split at hp
  · rename_i t
    refine ⟨by simp, fun φ0 w0 => ?_⟩
    have hlen : t.size ≤ 1000000 := hp
    have nt : (!true) = false := rfl
    have nf : (!false) = true := rfl
    have hsp : (⟨#[32]⟩ : ByteArray).data.getD 0 0 = 32 := rfl
    have hsz : (⟨#[32]⟩ : ByteArray).size = 1 := rfl
    have hsp2 : (⟨#[46]⟩ : ByteArray).data.getD 0 0 = 46 := rfl
    have hsz2 : (⟨#[46]⟩ : ByteArray).size = 1 := rfl
    have h32 : UInt8.ofNat 32 = 32 := rfl
    have h46 : UInt8.ofNat 46 = 46 := rfl
    have hos := openV_size t
    have hcl := @logP_closed t
    have hwd := @logP_words t
    have hck := fun w0 a w2 w3 w4 => @logP_check t w0 a w2 w3 w4
    have him := fun w0 a w2 w3 w4 => @logP_spec t w0 a w2 w3 w4
    obtain ⟨⟨inner, ok⟩, hin⟩ : ∃ x, openV t = x := ⟨_, rfl⟩
    rw [hin] at hos hcl hwd hck him
    simp only at hos hcl hwd hck him
    have hwl := splitV_len 32 inner
    have hms : ∀ w ∈ splitV 32 inner, w.size ≤ 1000000 := fun w hw => Nat.le_trans (splitV_size hw) (by omega)
    obtain ⟨ws, hws⟩ : ∃ ws, splitV 32 inner = ws := ⟨_, rfl⟩
    rw [hws] at hms hwl hwd hck him
    cases ok with
    | false =>
      have e := hcl rfl
      refine goh (And.intro h32 (And.intro hin (And.intro hws nf))) ?_
      refine W_cnd ?_ ?_ <;> intro hlit <;> try (cases hlit; done)
      refine goh trivial ?_
      exact finh [] e
    | true =>
    by_cases h3' : ws.length = 5
    rotate_left
    · have e := hwd h3'
      have c5 : ((ws.length : Int) != 5) = true := by simp; omega
      refine goh (And.intro h32 (And.intro hin (And.intro hws (And.intro nt c5)))) ?_
      refine W_cnd ?_ ?_ <;> intro hlit <;> try (cases hlit; done)
      refine goh trivial ?_
      exact finh [] e
    · have c5 : ((ws.length : Int) != 5) = false := by simp [h3']
      match ws, h3' with
      | [w0, a, w2, w3, w4], _ =>
      have m0 := hms w0 (by simp)
      have ma := hms a (by simp)
      have m2 := hms w2 (by simp)
      have m3 := hms w3 (by simp)
      have ma' : a.size ≤ 9223372036854775807 := by omega
      have m2' : w2.size ≤ 281474976710656 := by omega
      have hI := fun r h => him w0 a w2 w3 w4 rfl (r := r) h
      have hC := fun r h => hck w0 a w2 w3 w4 rfl (r := r) h
      have hsl := fun w hw => @splitV_size 46 w0 w hw
      have hml := splitV_len 46 w0
      obtain ⟨ms, hm⟩ : ∃ x, splitV 46 w0 = x := ⟨_, rfl⟩
      rw [hm] at hI hsl hml
      clear him hck hwd hcl
      by_cases h2' : ms.length = 2
      rotate_left
      · have e : logP t = none := logP_bad fun r h => by have h2 := (hI r h).1; rw [h2] at h2'; exact h2' rfl
        have c2 : ((ms.length : Int) != 2) = true := by simp; omega
        refine goh (And.intro h32 (And.intro hin (And.intro hws (And.intro nt c5)))) ?_
        refine W_cnd ?_ ?_ <;> intro hlit <;> try (cases hlit; done)
        refine goh (And.intro h46 (And.intro hm (And.intro c2 m0))) ?_
        refine W_cnd ?_ ?_ <;> intro hlit <;> try (cases hlit; done)
        refine goh trivial ?_
        exact finh [] e
      · have c2 : ((ms.length : Int) != 2) = false := by simp [h2']
        match ms, h2' with
        | [f, g], _ =>
        have mf : f.size ≤ 1000000 := Nat.le_trans (hsl f (by simp)) m0
        have mg : g.size ≤ 1000000 := Nat.le_trans (hsl g (by simp)) m0
        obtain ⟨x, hx⟩ : ∃ x, (numV f).getD 0 = x := ⟨_, rfl⟩
        obtain ⟨y, hy⟩ : ∃ x, (numV g).getD 0 = x := ⟨_, rfl⟩
        obtain ⟨i, hi⟩ : ∃ x, (numV w2).getD 0 = x := ⟨_, rfl⟩
        obtain ⟨b, hb⟩ : ∃ x, (unhexV w3).getD ⟨#[]⟩ = x := ⟨_, rfl⟩
        have hR : ∀ b', (w3 = ⟨#[45]⟩ → b' = ⟨#[]⟩) → (w3 ≠ ⟨#[45]⟩ → b' = b) → ∀ r', logP t = some r' → r' = ⟨x, y, ⟨3, a, ⟨#[]⟩, i, b'⟩⟩ := fun b' hb1 hb2 r' h => by
          obtain ⟨k0, k1, k2, k3, k4, k5⟩ := hI r' h
          simp only [List.cons.injEq, and_true] at k0
          rw [← k0.1] at k1
          rw [← k0.2] at k2
          rw [k1] at hx
          rw [k2] at hy
          rw [k3] at hi
          have k4 : r'.op.text = b' := by
            rcases k4 with ⟨k, k4⟩ | ⟨k, k4⟩
            · rw [k4, hb1 k]
            · rw [k4] at hb
              rw [hb2 k, ← hb]; rfl
          rw [k5, k4, ← hx, ← hy, ← hi]; rfl
        by_cases hd : w3 = ⟨#[45]⟩
        · have cd : same w3 ⟨#[45]⟩ = true := same_true.2 hd
          have hR2 := hR ⟨#[]⟩ (fun _ => rfl) (fun h => absurd hd h)
          cases hs : same (logT ⟨x, y, ⟨3, a, ⟨#[]⟩, i, ⟨#[]⟩⟩⟩) t with
          | false =>
            have e := logP_fail hR2 (same_false.1 hs)
            refine goh (And.intro h32 (And.intro hin (And.intro hws (And.intro nt c5)))) ?_
            refine W_cnd ?_ ?_ <;> intro hlit <;> try (cases hlit; done)
            refine goh (And.intro h46 (And.intro hm (And.intro c2 m0))) ?_
            refine W_cnd ?_ ?_ <;> intro hlit <;> try (cases hlit; done)
            refine goh (And.intro mf (And.intro mg (And.intro m2 (And.intro m3 (And.intro hx (And.intro hy (And.intro hi (And.intro hb (And.intro cd (And.intro nt nf)))))))))) ?_
            refine W_cnd ?_ ?_ <;> intro hlit <;> try (cases hlit; done)
            refine goh (And.intro ma' (And.intro m3 (And.intro hb (And.intro hs (And.intro nt nf))))) ?_
            refine W_cnd ?_ ?_ <;> intro hlit <;> try (cases hlit; done)
            refine goh trivial ?_
            exact finh [] e
          | true =>
            have e := hC _ (same_true.1 hs)
            refine goh (And.intro h32 (And.intro hin (And.intro hws (And.intro nt c5)))) ?_
            refine W_cnd ?_ ?_ <;> intro hlit <;> try (cases hlit; done)
            refine goh (And.intro h46 (And.intro hm (And.intro c2 m0))) ?_
            refine W_cnd ?_ ?_ <;> intro hlit <;> try (cases hlit; done)
            refine goh (And.intro mf (And.intro mg (And.intro m2 (And.intro m3 (And.intro hx (And.intro hy (And.intro hi (And.intro hb (And.intro cd (And.intro nt nf)))))))))) ?_
            refine W_cnd ?_ ?_ <;> intro hlit <;> try (cases hlit; done)
            refine goh (And.intro ma' (And.intro m3 (And.intro hb (And.intro hs (And.intro nt nf))))) ?_
            refine W_cnd ?_ ?_ <;> intro hlit <;> try (cases hlit; done)
            refine goh trivial ?_
            exact finh [] e
        · have cd : same w3 ⟨#[45]⟩ = false := same_false.2 hd
          have hR2 := hR b (fun h => absurd h hd) (fun _ => rfl)
          cases hs : same (logT ⟨x, y, ⟨3, a, ⟨#[]⟩, i, b⟩⟩) t with
          | false =>
            have e := logP_fail hR2 (same_false.1 hs)
            refine goh (And.intro h32 (And.intro hin (And.intro hws (And.intro nt c5)))) ?_
            refine W_cnd ?_ ?_ <;> intro hlit <;> try (cases hlit; done)
            refine goh (And.intro h46 (And.intro hm (And.intro c2 m0))) ?_
            refine W_cnd ?_ ?_ <;> intro hlit <;> try (cases hlit; done)
            refine goh (And.intro mf (And.intro mg (And.intro m2 (And.intro m3 (And.intro hx (And.intro hy (And.intro hi (And.intro hb (And.intro cd (And.intro nt nf)))))))))) ?_
            refine W_cnd ?_ ?_ <;> intro hlit <;> try (cases hlit; done)
            refine goh (And.intro ma' (And.intro m3 (And.intro hb (And.intro hs (And.intro nt nf))))) ?_
            refine W_cnd ?_ ?_ <;> intro hlit <;> try (cases hlit; done)
            refine goh trivial ?_
            exact finh [] e
          | true =>
            have e := hC _ (same_true.1 hs)
            refine goh (And.intro h32 (And.intro hin (And.intro hws (And.intro nt c5)))) ?_
            refine W_cnd ?_ ?_ <;> intro hlit <;> try (cases hlit; done)
            refine goh (And.intro h46 (And.intro hm (And.intro c2 m0))) ?_
            refine W_cnd ?_ ?_ <;> intro hlit <;> try (cases hlit; done)
            refine goh (And.intro mf (And.intro mg (And.intro m2 (And.intro m3 (And.intro hx (And.intro hy (And.intro hi (And.intro hb (And.intro cd (And.intro nt nf)))))))))) ?_
            refine W_cnd ?_ ?_ <;> intro hlit <;> try (cases hlit; done)
            refine goh (And.intro ma' (And.intro m3 (And.intro hb (And.intro hs (And.intro nt nf))))) ?_
            refine W_cnd ?_ ?_ <;> intro hlit <;> try (cases hlit; done)
            refine goh trivial ?_
            exact finh [] e
  · simp [no, ifp] at hp
end Go.Proofs.YtmnbgppmfbnamaaGreatDoor
