import Derived.Test.YtmnbgppmfbnamaaGreatDoorM17
import Derived.Test.YtmnbgppmfbnamaaGreatDoorM18
set_option linter.unusedSimpArgs false
set_option linter.unusedVariables false
set_option linter.unusedSectionVars false
/- Functions: records are read. -/
namespace Go.Proofs.YtmnbgppmfbnamaaGreatDoor
open Go.RowKit

theorem cutV_size1 (c : UInt8) (s : ByteArray) : (cutV c s).1.size ≤ s.size := by
  unfold cutV Lib.cut bytesL
  split
  · show (List.take _ s.data.toList).toArray.size ≤ s.data.size
    simp; omega
  · show s.data.toList.toArray.size ≤ s.data.size
    simp
@[go_sem] noncomputable def ctLogRead : Ct := ⟨false, [], fun args os => match args, os with
  | [.one (.val (.string t))], [] => ifp (t.size ≤ 1000000) (match logP t with
    | some r => .tup [.agg [.val (.int .i64 r.txg), .val (.int .i64 r.seq), .val (.int .i64 r.op.kind), .val (.string r.op.a), .val (.string r.op.b), .val (.int .i64 r.op.i), .val (.string r.op.text)], vb true]
    | none => .tup [.agg [.val (.int .i64 0), .val (.int .i64 0), .val (.int .i64 0), .val (.string ⟨#[]⟩), .val (.string ⟨#[]⟩), .val (.int .i64 0), .val (.string ⟨#[]⟩)], vb false])
  | _, _ => no⟩
theorem s_logRead_e : EnterOk Tryz.prog 10 := ⟨_, Tryz.func10, rfl, by decide⟩
@[go_sem] def s_logRead_lv : List (List Nat) := [[0, 2], [0, 2, 4], [0, 2, 6], [0, 2, 6, 28], [2, 3], [0, 2, 6, 7, 8], [0, 2, 6, 8, 10, 11], [0, 2, 6, 10, 11, 12, 13], [0, 2, 6, 10, 11, 12, 13, 14, 15], [0, 2, 6, 10, 11, 12, 13, 14, 15, 16, 17], [0, 2, 6, 10, 11, 12, 13, 14, 15, 16, 17, 65], [0, 2, 6, 10, 11, 12, 13, 14, 15, 16, 17], [0, 2, 11, 13, 15, 17, 18], [2, 18, 94], [2, 3], [2, 3]]
@[go_sem] noncomputable def s_logRead_K : Known := ((((((Known.nil).cons 54 ctSumOpen s_sumOpen s_sumOpen_e).cons 55 ctSplit s_split s_split_e).cons 56 ctCut s_cut s_cut_e).cons 57 ctAtoi s_atoi s_atoi_e).cons 58 ctUnhex s_unhex s_unhex_e).cons 9 ctLogText s_logText s_logText_e
set_option maxHeartbeats 8000000 in
theorem s_logRead : Sound Tryz.prog 10 ctLogRead := by
  have ke := s_logRead_K.env []
  have kl : Lives s_logRead_lv := trivial
  refine sound_intro (E := ⟨ti, s_logRead_K.Γ, []⟩) ke Tryz.func10 Tryz.ntmps10 rfl (rs := [.cell 2 26, .tmp 3]) rfl ?_
  intro args os hp
  unfold ctLogRead at hp ⊢
  dsimp only at hp ⊢
  split at hp
  · rename_i t
    refine ⟨by simp, fun φ0 w0 => ?_⟩
    have hlen : t.size ≤ 1000000 := hp
    have nt : (!true) = false := rfl
    have nf : (!false) = true := rfl
    have hsp : (⟨#[32]⟩ : ByteArray).data.getD 0 0 = 32 := rfl
    have hsz : (⟨#[32]⟩ : ByteArray).size = 1 := rfl
    have hsp2 : (⟨#[46]⟩ : ByteArray).data.getD 0 0 = 46 := rfl
    have hsz2 : (⟨#[46]⟩ : ByteArray).size = 1 := rfl
    have h32 : UInt8.ofNat 32 = 32 := rfl
    have h46 : UInt8.ofNat 46 = 46 := rfl
    have hos := openV_size t
    have hcl := @logP_closed t
    have hwd := @logP_words t
    have hck := fun w0 a w2 w3 w4 => @logP_check t w0 a w2 w3 w4
    have him := fun w0 a w2 w3 w4 => @logP_impl t w0 a w2 w3 w4
    obtain ⟨⟨inner, ok⟩, hin⟩ : ∃ x, openV t = x := ⟨_, rfl⟩
    rw [hin] at hos hcl hwd hck him
    simp only at hos hcl hwd hck him
    have hwl := splitV_len 32 inner
    have hms : ∀ w ∈ splitV 32 inner, w.size ≤ 1000000 := fun w hw => Nat.le_trans (splitV_size hw) (by omega)
    obtain ⟨ws, hws⟩ : ∃ ws, splitV 32 inner = ws := ⟨_, rfl⟩
    rw [hws] at hms hwl hwd hck him
    refine goh (And.intro hsp (And.intro hsz (And.intro hin hws))) ?_
    refine W_cnd ?_ ?_ <;> (try simp only [cnd_r]) <;> intro h3
    · have e := hwd (by intro e; rw [e] at h3; exact absurd h3 (by decide))
      refine goh trivial ?_
      exact finh [] e
    · have h3' : ws.length = 5 := by omega
      match ws, h3' with
      | [w0, a, w2, w3, w4], _ =>
      have m0 := hms w0 (by simp)
      have ma := hms a (by simp)
      have m2 := hms w2 (by simp)
      have m3 := hms w3 (by simp)
      have ma' : a.size ≤ 9223372036854775807 := by omega
      have m2' : w2.size ≤ 281474976710656 := by omega
      have q1 := cutV_size1 46 w0
      have q2 := cutV_size 46 w0
      have hI := fun r h => him w0 a w2 w3 w4 rfl (r := r) h
      have hC := fun r h => hck w0 a w2 w3 w4 rfl (r := r) h
      obtain ⟨⟨f, g, okc⟩, hcut⟩ : ∃ x, cutV 46 w0 = x := ⟨_, rfl⟩
      rw [hcut] at q1 q2 hI
      simp only at q1 q2 hI
      have mf : f.size ≤ 281474976710656 := by omega
      have mg : g.size ≤ 281474976710656 := by omega
      clear him hck hwd hcl
      cases hf : atoiV f <;> cases hg : atoiV g <;> cases hi : atoiV w2
      case none.none.none =>
        have e : logP t = none := logP_bad fun r h => by have h2 := (hI r h).1; rw [hf] at h2; cases h2
        by_cases hd : w3 = ⟨#[45]⟩
        · have cd : same w3 ⟨#[45]⟩ = true := same_true.2 hd
          have hu : unhexV w3 = none := by rw [hd]; rfl
          refine goh (And.intro hcut (And.intro hsp2 (And.intro hsz2 (And.intro mf (And.intro mg (And.intro m2' (And.intro m3 (And.intro ma' (And.intro hf (And.intro hg (And.intro hi (And.intro hu (And.intro cd (And.intro nt nf)))))))))))))) ?_
          refine W_cnd ?_ ?_ <;> intro hlit <;> try (cases hlit; done)
          refine goh (And.intro ma' (And.intro hf (And.intro hg (And.intro hi (And.intro hu (And.intro cd (And.intro nt nf))))))) ?_
          refine W_cnd ?_ ?_ <;> intro hlit <;> try (cases hlit; done)
          refine goh (And.intro hf (And.intro hg (And.intro hi (And.intro hu (And.intro cd (And.intro nt nf)))))) ?_
          exact finh [] e
        · have cd : same w3 ⟨#[45]⟩ = false := same_false.2 hd
          cases hu : unhexV w3 with
          | none =>
            refine goh (And.intro hcut (And.intro hsp2 (And.intro hsz2 (And.intro mf (And.intro mg (And.intro m2' (And.intro m3 (And.intro ma' (And.intro hf (And.intro hg (And.intro hi (And.intro hu (And.intro cd (And.intro nt nf)))))))))))))) ?_
            refine W_cnd ?_ ?_ <;> intro hlit <;> try (cases hlit; done)
            refine goh (And.intro ma' (And.intro hf (And.intro hg (And.intro hi (And.intro hu (And.intro cd (And.intro nt nf))))))) ?_
            refine W_cnd ?_ ?_ <;> intro hlit <;> try (cases hlit; done)
            refine goh (And.intro hf (And.intro hg (And.intro hi (And.intro hu (And.intro cd (And.intro nt nf)))))) ?_
            exact finh [] e
          | some b =>
            refine goh (And.intro hcut (And.intro hsp2 (And.intro hsz2 (And.intro mf (And.intro mg (And.intro m2' (And.intro m3 (And.intro ma' (And.intro hf (And.intro hg (And.intro hi (And.intro hu (And.intro cd (And.intro nt nf)))))))))))))) ?_
            refine W_cnd ?_ ?_ <;> intro hlit <;> try (cases hlit; done)
            refine goh (And.intro ma' (And.intro hf (And.intro hg (And.intro hi (And.intro hu (And.intro cd (And.intro nt nf))))))) ?_
            refine W_cnd ?_ ?_ <;> intro hlit <;> try (cases hlit; done)
            refine goh (And.intro hf (And.intro hg (And.intro hi (And.intro hu (And.intro cd (And.intro nt nf)))))) ?_
            exact finh [] e
      case none.none.some i =>
        have e : logP t = none := logP_bad fun r h => by have h2 := (hI r h).1; rw [hf] at h2; cases h2
        by_cases hd : w3 = ⟨#[45]⟩
        · have cd : same w3 ⟨#[45]⟩ = true := same_true.2 hd
          have hu : unhexV w3 = none := by rw [hd]; rfl
          refine goh (And.intro hcut (And.intro hsp2 (And.intro hsz2 (And.intro mf (And.intro mg (And.intro m2' (And.intro m3 (And.intro ma' (And.intro hf (And.intro hg (And.intro hi (And.intro hu (And.intro cd (And.intro nt nf)))))))))))))) ?_
          refine W_cnd ?_ ?_ <;> intro hlit <;> try (cases hlit; done)
          refine goh (And.intro ma' (And.intro hf (And.intro hg (And.intro hi (And.intro hu (And.intro cd (And.intro nt nf))))))) ?_
          refine W_cnd ?_ ?_ <;> intro hlit <;> try (cases hlit; done)
          refine goh (And.intro hf (And.intro hg (And.intro hi (And.intro hu (And.intro cd (And.intro nt nf)))))) ?_
          exact finh [] e
        · have cd : same w3 ⟨#[45]⟩ = false := same_false.2 hd
          cases hu : unhexV w3 with
          | none =>
            refine goh (And.intro hcut (And.intro hsp2 (And.intro hsz2 (And.intro mf (And.intro mg (And.intro m2' (And.intro m3 (And.intro ma' (And.intro hf (And.intro hg (And.intro hi (And.intro hu (And.intro cd (And.intro nt nf)))))))))))))) ?_
            refine W_cnd ?_ ?_ <;> intro hlit <;> try (cases hlit; done)
            refine goh (And.intro ma' (And.intro hf (And.intro hg (And.intro hi (And.intro hu (And.intro cd (And.intro nt nf))))))) ?_
            refine W_cnd ?_ ?_ <;> intro hlit <;> try (cases hlit; done)
            refine goh (And.intro hf (And.intro hg (And.intro hi (And.intro hu (And.intro cd (And.intro nt nf)))))) ?_
            exact finh [] e
          | some b =>
            refine goh (And.intro hcut (And.intro hsp2 (And.intro hsz2 (And.intro mf (And.intro mg (And.intro m2' (And.intro m3 (And.intro ma' (And.intro hf (And.intro hg (And.intro hi (And.intro hu (And.intro cd (And.intro nt nf)))))))))))))) ?_
            refine W_cnd ?_ ?_ <;> intro hlit <;> try (cases hlit; done)
            refine goh (And.intro ma' (And.intro hf (And.intro hg (And.intro hi (And.intro hu (And.intro cd (And.intro nt nf))))))) ?_
            refine W_cnd ?_ ?_ <;> intro hlit <;> try (cases hlit; done)
            refine goh (And.intro hf (And.intro hg (And.intro hi (And.intro hu (And.intro cd (And.intro nt nf)))))) ?_
            exact finh [] e
      case none.some.none y =>
        have e : logP t = none := logP_bad fun r h => by have h2 := (hI r h).1; rw [hf] at h2; cases h2
        by_cases hd : w3 = ⟨#[45]⟩
        · have cd : same w3 ⟨#[45]⟩ = true := same_true.2 hd
          have hu : unhexV w3 = none := by rw [hd]; rfl
          refine goh (And.intro hcut (And.intro hsp2 (And.intro hsz2 (And.intro mf (And.intro mg (And.intro m2' (And.intro m3 (And.intro ma' (And.intro hf (And.intro hg (And.intro hi (And.intro hu (And.intro cd (And.intro nt nf)))))))))))))) ?_
          refine W_cnd ?_ ?_ <;> intro hlit <;> try (cases hlit; done)
          refine goh (And.intro ma' (And.intro hf (And.intro hg (And.intro hi (And.intro hu (And.intro cd (And.intro nt nf))))))) ?_
          refine W_cnd ?_ ?_ <;> intro hlit <;> try (cases hlit; done)
          refine goh (And.intro hf (And.intro hg (And.intro hi (And.intro hu (And.intro cd (And.intro nt nf)))))) ?_
          exact finh [] e
        · have cd : same w3 ⟨#[45]⟩ = false := same_false.2 hd
          cases hu : unhexV w3 with
          | none =>
            refine goh (And.intro hcut (And.intro hsp2 (And.intro hsz2 (And.intro mf (And.intro mg (And.intro m2' (And.intro m3 (And.intro ma' (And.intro hf (And.intro hg (And.intro hi (And.intro hu (And.intro cd (And.intro nt nf)))))))))))))) ?_
            refine W_cnd ?_ ?_ <;> intro hlit <;> try (cases hlit; done)
            refine goh (And.intro ma' (And.intro hf (And.intro hg (And.intro hi (And.intro hu (And.intro cd (And.intro nt nf))))))) ?_
            refine W_cnd ?_ ?_ <;> intro hlit <;> try (cases hlit; done)
            refine goh (And.intro hf (And.intro hg (And.intro hi (And.intro hu (And.intro cd (And.intro nt nf)))))) ?_
            exact finh [] e
          | some b =>
            refine goh (And.intro hcut (And.intro hsp2 (And.intro hsz2 (And.intro mf (And.intro mg (And.intro m2' (And.intro m3 (And.intro ma' (And.intro hf (And.intro hg (And.intro hi (And.intro hu (And.intro cd (And.intro nt nf)))))))))))))) ?_
            refine W_cnd ?_ ?_ <;> intro hlit <;> try (cases hlit; done)
            refine goh (And.intro ma' (And.intro hf (And.intro hg (And.intro hi (And.intro hu (And.intro cd (And.intro nt nf))))))) ?_
            refine W_cnd ?_ ?_ <;> intro hlit <;> try (cases hlit; done)
            refine goh (And.intro hf (And.intro hg (And.intro hi (And.intro hu (And.intro cd (And.intro nt nf)))))) ?_
            exact finh [] e
      case none.some.some y i =>
        have e : logP t = none := logP_bad fun r h => by have h2 := (hI r h).1; rw [hf] at h2; cases h2
        by_cases hd : w3 = ⟨#[45]⟩
        · have cd : same w3 ⟨#[45]⟩ = true := same_true.2 hd
          have hu : unhexV w3 = none := by rw [hd]; rfl
          refine goh (And.intro hcut (And.intro hsp2 (And.intro hsz2 (And.intro mf (And.intro mg (And.intro m2' (And.intro m3 (And.intro ma' (And.intro hf (And.intro hg (And.intro hi (And.intro hu (And.intro cd (And.intro nt nf)))))))))))))) ?_
          refine W_cnd ?_ ?_ <;> intro hlit <;> try (cases hlit; done)
          refine goh (And.intro ma' (And.intro hf (And.intro hg (And.intro hi (And.intro hu (And.intro cd (And.intro nt nf))))))) ?_
          refine W_cnd ?_ ?_ <;> intro hlit <;> try (cases hlit; done)
          refine goh (And.intro hf (And.intro hg (And.intro hi (And.intro hu (And.intro cd (And.intro nt nf)))))) ?_
          exact finh [] e
        · have cd : same w3 ⟨#[45]⟩ = false := same_false.2 hd
          cases hu : unhexV w3 with
          | none =>
            refine goh (And.intro hcut (And.intro hsp2 (And.intro hsz2 (And.intro mf (And.intro mg (And.intro m2' (And.intro m3 (And.intro ma' (And.intro hf (And.intro hg (And.intro hi (And.intro hu (And.intro cd (And.intro nt nf)))))))))))))) ?_
            refine W_cnd ?_ ?_ <;> intro hlit <;> try (cases hlit; done)
            refine goh (And.intro ma' (And.intro hf (And.intro hg (And.intro hi (And.intro hu (And.intro cd (And.intro nt nf))))))) ?_
            refine W_cnd ?_ ?_ <;> intro hlit <;> try (cases hlit; done)
            refine goh (And.intro hf (And.intro hg (And.intro hi (And.intro hu (And.intro cd (And.intro nt nf)))))) ?_
            exact finh [] e
          | some b =>
            refine goh (And.intro hcut (And.intro hsp2 (And.intro hsz2 (And.intro mf (And.intro mg (And.intro m2' (And.intro m3 (And.intro ma' (And.intro hf (And.intro hg (And.intro hi (And.intro hu (And.intro cd (And.intro nt nf)))))))))))))) ?_
            refine W_cnd ?_ ?_ <;> intro hlit <;> try (cases hlit; done)
            refine goh (And.intro ma' (And.intro hf (And.intro hg (And.intro hi (And.intro hu (And.intro cd (And.intro nt nf))))))) ?_
            refine W_cnd ?_ ?_ <;> intro hlit <;> try (cases hlit; done)
            refine goh (And.intro hf (And.intro hg (And.intro hi (And.intro hu (And.intro cd (And.intro nt nf)))))) ?_
            exact finh [] e
      case some.none.none x =>
        have e : logP t = none := logP_bad fun r h => by have h2 := (hI r h).2.1; rw [hg] at h2; cases h2
        by_cases hd : w3 = ⟨#[45]⟩
        · have cd : same w3 ⟨#[45]⟩ = true := same_true.2 hd
          have hu : unhexV w3 = none := by rw [hd]; rfl
          refine goh (And.intro hcut (And.intro hsp2 (And.intro hsz2 (And.intro mf (And.intro mg (And.intro m2' (And.intro m3 (And.intro ma' (And.intro hf (And.intro hg (And.intro hi (And.intro hu (And.intro cd (And.intro nt nf)))))))))))))) ?_
          refine W_cnd ?_ ?_ <;> intro hlit <;> try (cases hlit; done)
          refine goh (And.intro ma' (And.intro hf (And.intro hg (And.intro hi (And.intro hu (And.intro cd (And.intro nt nf))))))) ?_
          refine W_cnd ?_ ?_ <;> intro hlit <;> try (cases hlit; done)
          refine goh (And.intro hf (And.intro hg (And.intro hi (And.intro hu (And.intro cd (And.intro nt nf)))))) ?_
          exact finh [] e
        · have cd : same w3 ⟨#[45]⟩ = false := same_false.2 hd
          cases hu : unhexV w3 with
          | none =>
            refine goh (And.intro hcut (And.intro hsp2 (And.intro hsz2 (And.intro mf (And.intro mg (And.intro m2' (And.intro m3 (And.intro ma' (And.intro hf (And.intro hg (And.intro hi (And.intro hu (And.intro cd (And.intro nt nf)))))))))))))) ?_
            refine W_cnd ?_ ?_ <;> intro hlit <;> try (cases hlit; done)
            refine goh (And.intro ma' (And.intro hf (And.intro hg (And.intro hi (And.intro hu (And.intro cd (And.intro nt nf))))))) ?_
            refine W_cnd ?_ ?_ <;> intro hlit <;> try (cases hlit; done)
            refine goh (And.intro hf (And.intro hg (And.intro hi (And.intro hu (And.intro cd (And.intro nt nf)))))) ?_
            exact finh [] e
          | some b =>
            refine goh (And.intro hcut (And.intro hsp2 (And.intro hsz2 (And.intro mf (And.intro mg (And.intro m2' (And.intro m3 (And.intro ma' (And.intro hf (And.intro hg (And.intro hi (And.intro hu (And.intro cd (And.intro nt nf)))))))))))))) ?_
            refine W_cnd ?_ ?_ <;> intro hlit <;> try (cases hlit; done)
            refine goh (And.intro ma' (And.intro hf (And.intro hg (And.intro hi (And.intro hu (And.intro cd (And.intro nt nf))))))) ?_
            refine W_cnd ?_ ?_ <;> intro hlit <;> try (cases hlit; done)
            refine goh (And.intro hf (And.intro hg (And.intro hi (And.intro hu (And.intro cd (And.intro nt nf)))))) ?_
            exact finh [] e
      case some.none.some x i =>
        have e : logP t = none := logP_bad fun r h => by have h2 := (hI r h).2.1; rw [hg] at h2; cases h2
        by_cases hd : w3 = ⟨#[45]⟩
        · have cd : same w3 ⟨#[45]⟩ = true := same_true.2 hd
          have hu : unhexV w3 = none := by rw [hd]; rfl
          refine goh (And.intro hcut (And.intro hsp2 (And.intro hsz2 (And.intro mf (And.intro mg (And.intro m2' (And.intro m3 (And.intro ma' (And.intro hf (And.intro hg (And.intro hi (And.intro hu (And.intro cd (And.intro nt nf)))))))))))))) ?_
          refine W_cnd ?_ ?_ <;> intro hlit <;> try (cases hlit; done)
          refine goh (And.intro ma' (And.intro hf (And.intro hg (And.intro hi (And.intro hu (And.intro cd (And.intro nt nf))))))) ?_
          refine W_cnd ?_ ?_ <;> intro hlit <;> try (cases hlit; done)
          refine goh (And.intro hf (And.intro hg (And.intro hi (And.intro hu (And.intro cd (And.intro nt nf)))))) ?_
          exact finh [] e
        · have cd : same w3 ⟨#[45]⟩ = false := same_false.2 hd
          cases hu : unhexV w3 with
          | none =>
            refine goh (And.intro hcut (And.intro hsp2 (And.intro hsz2 (And.intro mf (And.intro mg (And.intro m2' (And.intro m3 (And.intro ma' (And.intro hf (And.intro hg (And.intro hi (And.intro hu (And.intro cd (And.intro nt nf)))))))))))))) ?_
            refine W_cnd ?_ ?_ <;> intro hlit <;> try (cases hlit; done)
            refine goh (And.intro ma' (And.intro hf (And.intro hg (And.intro hi (And.intro hu (And.intro cd (And.intro nt nf))))))) ?_
            refine W_cnd ?_ ?_ <;> intro hlit <;> try (cases hlit; done)
            refine goh (And.intro hf (And.intro hg (And.intro hi (And.intro hu (And.intro cd (And.intro nt nf)))))) ?_
            exact finh [] e
          | some b =>
            refine goh (And.intro hcut (And.intro hsp2 (And.intro hsz2 (And.intro mf (And.intro mg (And.intro m2' (And.intro m3 (And.intro ma' (And.intro hf (And.intro hg (And.intro hi (And.intro hu (And.intro cd (And.intro nt nf)))))))))))))) ?_
            refine W_cnd ?_ ?_ <;> intro hlit <;> try (cases hlit; done)
            refine goh (And.intro ma' (And.intro hf (And.intro hg (And.intro hi (And.intro hu (And.intro cd (And.intro nt nf))))))) ?_
            refine W_cnd ?_ ?_ <;> intro hlit <;> try (cases hlit; done)
            refine goh (And.intro hf (And.intro hg (And.intro hi (And.intro hu (And.intro cd (And.intro nt nf)))))) ?_
            exact finh [] e
      case some.some.none x y =>
        have e : logP t = none := logP_bad fun r h => by have h2 := (hI r h).2.2.1; rw [hi] at h2; cases h2
        by_cases hd : w3 = ⟨#[45]⟩
        · have cd : same w3 ⟨#[45]⟩ = true := same_true.2 hd
          have hu : unhexV w3 = none := by rw [hd]; rfl
          refine goh (And.intro hcut (And.intro hsp2 (And.intro hsz2 (And.intro mf (And.intro mg (And.intro m2' (And.intro m3 (And.intro ma' (And.intro hf (And.intro hg (And.intro hi (And.intro hu (And.intro cd (And.intro nt nf)))))))))))))) ?_
          refine W_cnd ?_ ?_ <;> intro hlit <;> try (cases hlit; done)
          refine goh (And.intro ma' (And.intro hf (And.intro hg (And.intro hi (And.intro hu (And.intro cd (And.intro nt nf))))))) ?_
          refine W_cnd ?_ ?_ <;> intro hlit <;> try (cases hlit; done)
          refine goh (And.intro hf (And.intro hg (And.intro hi (And.intro hu (And.intro cd (And.intro nt nf)))))) ?_
          exact finh [] e
        · have cd : same w3 ⟨#[45]⟩ = false := same_false.2 hd
          cases hu : unhexV w3 with
          | none =>
            refine goh (And.intro hcut (And.intro hsp2 (And.intro hsz2 (And.intro mf (And.intro mg (And.intro m2' (And.intro m3 (And.intro ma' (And.intro hf (And.intro hg (And.intro hi (And.intro hu (And.intro cd (And.intro nt nf)))))))))))))) ?_
            refine W_cnd ?_ ?_ <;> intro hlit <;> try (cases hlit; done)
            refine goh (And.intro ma' (And.intro hf (And.intro hg (And.intro hi (And.intro hu (And.intro cd (And.intro nt nf))))))) ?_
            refine W_cnd ?_ ?_ <;> intro hlit <;> try (cases hlit; done)
            refine goh (And.intro hf (And.intro hg (And.intro hi (And.intro hu (And.intro cd (And.intro nt nf)))))) ?_
            exact finh [] e
          | some b =>
            refine goh (And.intro hcut (And.intro hsp2 (And.intro hsz2 (And.intro mf (And.intro mg (And.intro m2' (And.intro m3 (And.intro ma' (And.intro hf (And.intro hg (And.intro hi (And.intro hu (And.intro cd (And.intro nt nf)))))))))))))) ?_
            refine W_cnd ?_ ?_ <;> intro hlit <;> try (cases hlit; done)
            refine goh (And.intro ma' (And.intro hf (And.intro hg (And.intro hi (And.intro hu (And.intro cd (And.intro nt nf))))))) ?_
            refine W_cnd ?_ ?_ <;> intro hlit <;> try (cases hlit; done)
            refine goh (And.intro hf (And.intro hg (And.intro hi (And.intro hu (And.intro cd (And.intro nt nf)))))) ?_
            exact finh [] e
      case some.some.some x y i =>
        have nx := (atoiV_in hf).1
        have ny := (atoiV_in hg).1
        have ni := (atoiV_in hi).1
        by_cases hd : w3 = ⟨#[45]⟩
        · have cd : same w3 ⟨#[45]⟩ = true := same_true.2 hd
          have hu : unhexV w3 = none := by rw [hd]; rfl
          have hR : ∀ r', logP t = some r' → r' = ⟨x, y, ⟨3, a, ⟨#[]⟩, i, ⟨#[]⟩⟩⟩ := fun r' h => by
            obtain ⟨k1, k2, k3, k4, k5⟩ := hI r' h
            have k1 := Option.some.inj (hf.symm.trans k1)
            have k2 := Option.some.inj (hg.symm.trans k2)
            have k3 := Option.some.inj (hi.symm.trans k3)
            have k4 : r'.op.text = ⟨#[]⟩ := by
              rcases k4 with ⟨-, k4⟩ | ⟨k4, -⟩
              · exact k4
              · exact absurd hd k4
            rw [k5, ← k1, ← k2, ← k3, k4]
          cases hs : same (logT ⟨x, y, ⟨3, a, ⟨#[]⟩, i, ⟨#[]⟩⟩⟩) t with
          | false =>
            have e := logP_fail hR (same_false.1 hs)
            refine goh (And.intro hcut (And.intro hsp2 (And.intro hsz2 (And.intro mf (And.intro mg (And.intro m2' (And.intro m3 (And.intro ma' (And.intro hf (And.intro hg (And.intro hi (And.intro nx (And.intro ny (And.intro ni (And.intro hu (And.intro cd (And.intro hs (And.intro nt nf)))))))))))))))))) ?_
            refine W_cnd ?_ ?_ <;> intro hlit <;> try (cases hlit; done)
            refine goh (And.intro ma' (And.intro hf (And.intro hg (And.intro hi (And.intro nx (And.intro ny (And.intro ni (And.intro hu (And.intro cd (And.intro hs (And.intro nt nf))))))))))) ?_
            refine W_cnd ?_ ?_ <;> intro hlit <;> try (cases hlit; done)
            refine goh (And.intro hf (And.intro hg (And.intro hi (And.intro nx (And.intro ny (And.intro ni (And.intro hu (And.intro cd (And.intro hs (And.intro nt nf)))))))))) ?_
            exact finh [] e
          | true =>
            have e := hC _ (same_true.1 hs)
            refine goh (And.intro hcut (And.intro hsp2 (And.intro hsz2 (And.intro mf (And.intro mg (And.intro m2' (And.intro m3 (And.intro ma' (And.intro hf (And.intro hg (And.intro hi (And.intro nx (And.intro ny (And.intro ni (And.intro hu (And.intro cd (And.intro hs (And.intro nt nf)))))))))))))))))) ?_
            refine W_cnd ?_ ?_ <;> intro hlit <;> try (cases hlit; done)
            refine goh (And.intro ma' (And.intro hf (And.intro hg (And.intro hi (And.intro nx (And.intro ny (And.intro ni (And.intro hu (And.intro cd (And.intro hs (And.intro nt nf))))))))))) ?_
            refine W_cnd ?_ ?_ <;> intro hlit <;> try (cases hlit; done)
            refine goh (And.intro hf (And.intro hg (And.intro hi (And.intro nx (And.intro ny (And.intro ni (And.intro hu (And.intro cd (And.intro hs (And.intro nt nf)))))))))) ?_
            exact finh [] e
        · have cd : same w3 ⟨#[45]⟩ = false := same_false.2 hd
          cases hu : unhexV w3 with
          | none =>
            have e : logP t = none := logP_bad fun r h => (hI r h).2.2.2.1.elim (fun k => hd k.1) (fun k => by rw [hu] at k; cases k.2)
            refine goh (And.intro hcut (And.intro hsp2 (And.intro hsz2 (And.intro mf (And.intro mg (And.intro m2' (And.intro m3 (And.intro ma' (And.intro hf (And.intro hg (And.intro hi (And.intro nx (And.intro ny (And.intro ni (And.intro hu (And.intro cd (And.intro nt nf))))))))))))))))) ?_
            refine W_cnd ?_ ?_ <;> intro hlit <;> try (cases hlit; done)
            refine goh (And.intro ma' (And.intro hf (And.intro hg (And.intro hi (And.intro nx (And.intro ny (And.intro ni (And.intro hu (And.intro cd (And.intro nt nf)))))))))) ?_
            refine W_cnd ?_ ?_ <;> intro hlit <;> try (cases hlit; done)
            refine goh (And.intro hf (And.intro hg (And.intro hi (And.intro nx (And.intro ny (And.intro ni (And.intro hu (And.intro cd (And.intro nt nf))))))))) ?_
            exact finh [] e
          | some b =>
            have hR : ∀ r', logP t = some r' → r' = ⟨x, y, ⟨3, a, ⟨#[]⟩, i, b⟩⟩ := fun r' h => by
              obtain ⟨k1, k2, k3, k4, k5⟩ := hI r' h
              have k1 := Option.some.inj (hf.symm.trans k1)
              have k2 := Option.some.inj (hg.symm.trans k2)
              have k3 := Option.some.inj (hi.symm.trans k3)
              have k4 : r'.op.text = b := by
                rcases k4 with ⟨k4, -⟩ | ⟨-, k4⟩
                · exact absurd k4 hd
                · exact (Option.some.inj (hu.symm.trans k4)).symm
              rw [k5, ← k1, ← k2, ← k3, k4]
            cases hs : same (logT ⟨x, y, ⟨3, a, ⟨#[]⟩, i, b⟩⟩) t with
            | false =>
              have e := logP_fail hR (same_false.1 hs)
              refine goh (And.intro hcut (And.intro hsp2 (And.intro hsz2 (And.intro mf (And.intro mg (And.intro m2' (And.intro m3 (And.intro ma' (And.intro hf (And.intro hg (And.intro hi (And.intro nx (And.intro ny (And.intro ni (And.intro hu (And.intro cd (And.intro hs (And.intro nt nf)))))))))))))))))) ?_
              refine W_cnd ?_ ?_ <;> intro hlit <;> try (cases hlit; done)
              refine goh (And.intro ma' (And.intro hf (And.intro hg (And.intro hi (And.intro nx (And.intro ny (And.intro ni (And.intro hu (And.intro cd (And.intro hs (And.intro nt nf))))))))))) ?_
              refine W_cnd ?_ ?_ <;> intro hlit <;> try (cases hlit; done)
              refine goh (And.intro hf (And.intro hg (And.intro hi (And.intro nx (And.intro ny (And.intro ni (And.intro hu (And.intro cd (And.intro hs (And.intro nt nf)))))))))) ?_
              exact finh [] e
            | true =>
              have e := hC _ (same_true.1 hs)
              refine goh (And.intro hcut (And.intro hsp2 (And.intro hsz2 (And.intro mf (And.intro mg (And.intro m2' (And.intro m3 (And.intro ma' (And.intro hf (And.intro hg (And.intro hi (And.intro nx (And.intro ny (And.intro ni (And.intro hu (And.intro cd (And.intro hs (And.intro nt nf)))))))))))))))))) ?_
              refine W_cnd ?_ ?_ <;> intro hlit <;> try (cases hlit; done)
              refine goh (And.intro ma' (And.intro hf (And.intro hg (And.intro hi (And.intro nx (And.intro ny (And.intro ni (And.intro hu (And.intro cd (And.intro hs (And.intro nt nf))))))))))) ?_
              refine W_cnd ?_ ?_ <;> intro hlit <;> try (cases hlit; done)
              refine goh (And.intro hf (And.intro hg (And.intro hi (And.intro nx (And.intro ny (And.intro ni (And.intro hu (And.intro cd (And.intro hs (And.intro nt nf)))))))))) ?_
              exact finh [] e
  · simp [no, ifp] at hp
theorem s_specLogRead_e : EnterOk Tryz.prog 13 := ⟨_, Tryz.func13, rfl, by decide⟩
@[go_sem] def s_specLogRead_lv : List (List Nat) := [[0, 2], [0, 2, 4, 5], [0, 2, 5, 6], [0, 2, 6, 28], [2, 3], [0, 2, 6, 7], [0, 2, 6, 7, 36], [2, 3], [0, 2, 6, 7, 8], [0, 2, 6, 8, 10], [0, 2, 6, 8, 10, 12], [0, 2, 6, 14], [0, 2, 6, 14, 70], [0, 2, 14], [2, 14, 83], [2, 3], [2, 3]]
@[go_sem] noncomputable def s_specLogRead_K : Known := (((((Known.nil).cons 64 ctSpecOpenS s_specSumOpen s_specSumOpen_e).cons 65 ctCutB s_cutB s_cutB_e).cons 66 ctNumS2 s_numS2 s_numS2_e).cons 67 ctUnhex2 s_specUnhex2 s_specUnhex2_e).cons 11 ctLogText s_specLogText s_specLogText_e
set_option maxHeartbeats 8000000 in
theorem s_specLogRead : Sound Tryz.prog 13 ctLogRead := by
  have ke := s_specLogRead_K.env []
  have kl : Lives s_specLogRead_lv := trivial
  refine sound_intro (E := ⟨ti, s_specLogRead_K.Γ, []⟩) ke Tryz.func13 Tryz.ntmps13 rfl (rs := [.cell 2 26, .tmp 3]) rfl ?_
  intro args os hp
  unfold ctLogRead at hp ⊢
  dsimp only at hp ⊢
  split at hp
  · rename_i t
    refine ⟨by simp, fun φ0 w0 => ?_⟩
    have hlen : t.size ≤ 1000000 := hp
    have nt : (!true) = false := rfl
    have nf : (!false) = true := rfl
    have hsp : (⟨#[32]⟩ : ByteArray).data.getD 0 0 = 32 := rfl
    have hsz : (⟨#[32]⟩ : ByteArray).size = 1 := rfl
    have hsp2 : (⟨#[46]⟩ : ByteArray).data.getD 0 0 = 46 := rfl
    have hsz2 : (⟨#[46]⟩ : ByteArray).size = 1 := rfl
    have h32 : UInt8.ofNat 32 = 32 := rfl
    have h46 : UInt8.ofNat 46 = 46 := rfl
    have hos := openV_size t
    have hcl := @logP_closed t
    have hwd := @logP_words t
    have hck := fun w0 a w2 w3 w4 => @logP_check t w0 a w2 w3 w4
    have him := fun w0 a w2 w3 w4 => @logP_spec t w0 a w2 w3 w4
    obtain ⟨⟨inner, ok⟩, hin⟩ : ∃ x, openV t = x := ⟨_, rfl⟩
    rw [hin] at hos hcl hwd hck him
    simp only at hos hcl hwd hck him
    have hwl := splitV_len 32 inner
    have hms : ∀ w ∈ splitV 32 inner, w.size ≤ 1000000 := fun w hw => Nat.le_trans (splitV_size hw) (by omega)
    obtain ⟨ws, hws⟩ : ∃ ws, splitV 32 inner = ws := ⟨_, rfl⟩
    rw [hws] at hms hwl hwd hck him
    cases ok with
    | false =>
      have e := hcl rfl
      refine goh (And.intro h32 (And.intro hin (And.intro hws nf))) ?_
      refine W_cnd ?_ ?_ <;> intro hlit <;> try (cases hlit; done)
      refine goh trivial ?_
      exact finh [] e
    | true =>
    by_cases h3' : ws.length = 5
    rotate_left
    · have e := hwd h3'
      have c5 : ((ws.length : Int) != 5) = true := by simp; omega
      refine goh (And.intro h32 (And.intro hin (And.intro hws (And.intro nt c5)))) ?_
      refine W_cnd ?_ ?_ <;> intro hlit <;> try (cases hlit; done)
      refine goh trivial ?_
      exact finh [] e
    · have c5 : ((ws.length : Int) != 5) = false := by simp [h3']
      match ws, h3' with
      | [w0, a, w2, w3, w4], _ =>
      have m0 := hms w0 (by simp)
      have ma := hms a (by simp)
      have m2 := hms w2 (by simp)
      have m3 := hms w3 (by simp)
      have ma' : a.size ≤ 9223372036854775807 := by omega
      have m2' : w2.size ≤ 281474976710656 := by omega
      have hI := fun r h => him w0 a w2 w3 w4 rfl (r := r) h
      have hC := fun r h => hck w0 a w2 w3 w4 rfl (r := r) h
      have hsl := fun w hw => @splitV_size 46 w0 w hw
      have hml := splitV_len 46 w0
      obtain ⟨ms, hm⟩ : ∃ x, splitV 46 w0 = x := ⟨_, rfl⟩
      rw [hm] at hI hsl hml
      clear him hck hwd hcl
      by_cases h2' : ms.length = 2
      rotate_left
      · have e : logP t = none := logP_bad fun r h => by have h2 := (hI r h).1; rw [h2] at h2'; exact h2' rfl
        have c2 : ((ms.length : Int) != 2) = true := by simp; omega
        refine goh (And.intro h32 (And.intro hin (And.intro hws (And.intro nt c5)))) ?_
        refine W_cnd ?_ ?_ <;> intro hlit <;> try (cases hlit; done)
        refine goh (And.intro h46 (And.intro hm (And.intro c2 m0))) ?_
        refine W_cnd ?_ ?_ <;> intro hlit <;> try (cases hlit; done)
        refine goh trivial ?_
        exact finh [] e
      · have c2 : ((ms.length : Int) != 2) = false := by simp [h2']
        match ms, h2' with
        | [f, g], _ =>
        have mf : f.size ≤ 1000000 := Nat.le_trans (hsl f (by simp)) m0
        have mg : g.size ≤ 1000000 := Nat.le_trans (hsl g (by simp)) m0
        obtain ⟨x, hx⟩ : ∃ x, (numV f).getD 0 = x := ⟨_, rfl⟩
        obtain ⟨y, hy⟩ : ∃ x, (numV g).getD 0 = x := ⟨_, rfl⟩
        obtain ⟨i, hi⟩ : ∃ x, (numV w2).getD 0 = x := ⟨_, rfl⟩
        obtain ⟨b, hb⟩ : ∃ x, (unhexV w3).getD ⟨#[]⟩ = x := ⟨_, rfl⟩
        have hR : ∀ b', (w3 = ⟨#[45]⟩ → b' = ⟨#[]⟩) → (w3 ≠ ⟨#[45]⟩ → b' = b) → ∀ r', logP t = some r' → r' = ⟨x, y, ⟨3, a, ⟨#[]⟩, i, b'⟩⟩ := fun b' hb1 hb2 r' h => by
          obtain ⟨k0, k1, k2, k3, k4, k5⟩ := hI r' h
          simp only [List.cons.injEq, and_true] at k0
          rw [← k0.1] at k1
          rw [← k0.2] at k2
          rw [k1] at hx
          rw [k2] at hy
          rw [k3] at hi
          have k4 : r'.op.text = b' := by
            rcases k4 with ⟨k, k4⟩ | ⟨k, k4⟩
            · rw [k4, hb1 k]
            · rw [k4] at hb
              rw [hb2 k, ← hb]; rfl
          rw [k5, k4, ← hx, ← hy, ← hi]; rfl
        by_cases hd : w3 = ⟨#[45]⟩
        · have cd : same w3 ⟨#[45]⟩ = true := same_true.2 hd
          have hR2 := hR ⟨#[]⟩ (fun _ => rfl) (fun h => absurd hd h)
          cases hs : same (logT ⟨x, y, ⟨3, a, ⟨#[]⟩, i, ⟨#[]⟩⟩⟩) t with
          | false =>
            have e := logP_fail hR2 (same_false.1 hs)
            refine goh (And.intro h32 (And.intro hin (And.intro hws (And.intro nt c5)))) ?_
            refine W_cnd ?_ ?_ <;> intro hlit <;> try (cases hlit; done)
            refine goh (And.intro h46 (And.intro hm (And.intro c2 m0))) ?_
            refine W_cnd ?_ ?_ <;> intro hlit <;> try (cases hlit; done)
            refine goh (And.intro mf (And.intro mg (And.intro m2 (And.intro m3 (And.intro hx (And.intro hy (And.intro hi (And.intro hb (And.intro cd (And.intro nt nf)))))))))) ?_
            refine W_cnd ?_ ?_ <;> intro hlit <;> try (cases hlit; done)
            refine goh (And.intro ma' (And.intro m3 (And.intro hb (And.intro hs (And.intro nt nf))))) ?_
            refine W_cnd ?_ ?_ <;> intro hlit <;> try (cases hlit; done)
            refine goh trivial ?_
            exact finh [] e
          | true =>
            have e := hC _ (same_true.1 hs)
            refine goh (And.intro h32 (And.intro hin (And.intro hws (And.intro nt c5)))) ?_
            refine W_cnd ?_ ?_ <;> intro hlit <;> try (cases hlit; done)
            refine goh (And.intro h46 (And.intro hm (And.intro c2 m0))) ?_
            refine W_cnd ?_ ?_ <;> intro hlit <;> try (cases hlit; done)
            refine goh (And.intro mf (And.intro mg (And.intro m2 (And.intro m3 (And.intro hx (And.intro hy (And.intro hi (And.intro hb (And.intro cd (And.intro nt nf)))))))))) ?_
            refine W_cnd ?_ ?_ <;> intro hlit <;> try (cases hlit; done)
            refine goh (And.intro ma' (And.intro m3 (And.intro hb (And.intro hs (And.intro nt nf))))) ?_
            refine W_cnd ?_ ?_ <;> intro hlit <;> try (cases hlit; done)
            refine goh trivial ?_
            exact finh [] e
        · have cd : same w3 ⟨#[45]⟩ = false := same_false.2 hd
          have hR2 := hR b (fun h => absurd h hd) (fun _ => rfl)
          cases hs : same (logT ⟨x, y, ⟨3, a, ⟨#[]⟩, i, b⟩⟩) t with
          | false =>
            have e := logP_fail hR2 (same_false.1 hs)
            refine goh (And.intro h32 (And.intro hin (And.intro hws (And.intro nt c5)))) ?_
            refine W_cnd ?_ ?_ <;> intro hlit <;> try (cases hlit; done)
            refine goh (And.intro h46 (And.intro hm (And.intro c2 m0))) ?_
            refine W_cnd ?_ ?_ <;> intro hlit <;> try (cases hlit; done)
            refine goh (And.intro mf (And.intro mg (And.intro m2 (And.intro m3 (And.intro hx (And.intro hy (And.intro hi (And.intro hb (And.intro cd (And.intro nt nf)))))))))) ?_
            refine W_cnd ?_ ?_ <;> intro hlit <;> try (cases hlit; done)
            refine goh (And.intro ma' (And.intro m3 (And.intro hb (And.intro hs (And.intro nt nf))))) ?_
            refine W_cnd ?_ ?_ <;> intro hlit <;> try (cases hlit; done)
            refine goh trivial ?_
            exact finh [] e
          | true =>
            have e := hC _ (same_true.1 hs)
            refine goh (And.intro h32 (And.intro hin (And.intro hws (And.intro nt c5)))) ?_
            refine W_cnd ?_ ?_ <;> intro hlit <;> try (cases hlit; done)
            refine goh (And.intro h46 (And.intro hm (And.intro c2 m0))) ?_
            refine W_cnd ?_ ?_ <;> intro hlit <;> try (cases hlit; done)
            refine goh (And.intro mf (And.intro mg (And.intro m2 (And.intro m3 (And.intro hx (And.intro hy (And.intro hi (And.intro hb (And.intro cd (And.intro nt nf)))))))))) ?_
            refine W_cnd ?_ ?_ <;> intro hlit <;> try (cases hlit; done)
            refine goh (And.intro ma' (And.intro m3 (And.intro hb (And.intro hs (And.intro nt nf))))) ?_
            refine W_cnd ?_ ?_ <;> intro hlit <;> try (cases hlit; done)
            refine goh trivial ?_
            exact finh [] e
  · simp [no, ifp] at hp
end Go.Proofs.YtmnbgppmfbnamaaGreatDoor
/- Functions: the last commit is found. -/
namespace Go.Proofs.YtmnbgppmfbnamaaGreatDoor
open Go.RowKit

noncomputable def bestS (acc : Int × Ptr) (o : Option (Int × Ptr)) : Int × Ptr := match o with
  | some (k, r) => if acc.1 < k then (k, r) else acc
  | none => acc
/-- The best of the first n texts. -/
noncomputable def bestR (d : Dk) : Nat → Int × Ptr
  | 0 => (0, ⟨0, 0, 0⟩)
  | n + 1 => bestS (bestR d n) (uberP (dkRead d ((n % 2 : Nat) : Int) ((1 + n / 2 : Nat) : Int)))
theorem best_step (d : Dk) (i j : Nat) (hj : j < 2) : bestR d (2 * i + (j + 1)) = bestS (bestR d (2 * i + j)) (uberP (dkRead d (j : Int) ((1 + i : Nat) : Int))) := by
  have e : ∀ n, bestR d (n + 1) = bestS (bestR d n) (uberP (dkRead d ((n % 2 : Nat) : Int) ((1 + n / 2 : Nat) : Int))) := fun _ => rfl
  rw [← Nat.add_assoc, e, show (2 * i + j) % 2 = j by omega, show (2 * i + j) / 2 = i by omega]
@[go_sem] noncomputable def ctBest : Ct := ⟨false, [[some .str, some .str, some .late]], fun args os => match args, os with
  | [.agg [.isl .str a, .isl .str b, .isl .late l]], [] => ifp (Dk.mk a b l).small (.tup [vi (bestR ⟨a, b, l⟩ 8).1, .agg [.val (.int .i64 (bestR ⟨a, b, l⟩ 8).2.at_), .val (.int .i64 (bestR ⟨a, b, l⟩ 8).2.sum), .val (.int .i64 (bestR ⟨a, b, l⟩ 8).2.birth)], vb (decide ((bestR ⟨a, b, l⟩ 8).1 > 0))])
  | _, _ => no⟩
end Go.Proofs.YtmnbgppmfbnamaaGreatDoor
/- Functions: the records of a commit are found. -/
namespace Go.Proofs.YtmnbgppmfbnamaaGreatDoor
open Go.RowKit

/-- What one side holds of a record. -/
noncomputable def recAt (d : Dk) (t : Int) (s j : Nat) : Option BOp := match logP (dkRead d (j : Int) ((5 + s : Nat) : Int)) with
  | some r => open Classical in if r.txg = t ∧ r.seq = (s : Int) then some r.op else none
  | none => none
/-- What the first sides hold of it. -/
noncomputable def recTo (d : Dk) (t : Int) (s : Nat) : Nat → Option BOp
  | 0 => none
  | j + 1 => match recTo d t s j with
    | some o => some o
    | none => recAt d t s j
noncomputable def logFs (d : Dk) (t : Int) : Nat → Nat → List BOp
  | 0, _ => []
  | n + 1, s => match recTo d t s 2 with
    | some o => o :: logFs d t n (s + 1)
    | none => []
noncomputable def logFind (d : Dk) (t : Int) : List BOp := logFs d t 8 0
theorem logFs_len (d : Dk) (t : Int) : ∀ n s, (logFs d t n s).length ≤ n
  | 0, s => Nat.le_refl 0
  | n + 1, s => by
    unfold logFs
    split
    · have := logFs_len d t n (s + 1)
      simp only [List.length_cons]; omega
    · simp
theorem logFind_len (d : Dk) (t : Int) : (logFind d t).length ≤ 8 := logFs_len d t 8 0
/-- The first i of them, if there are so many. -/
noncomputable def logPre (d : Dk) (t : Int) (i : Nat) : List BOp := (List.range i).map fun s => (recTo d t s 2).getD ET.bop.dflt
theorem logPre_len (d : Dk) (t : Int) (i : Nat) : (logPre d t i).length = i := by simp [logPre]
theorem logPre_step {d : Dk} {t : Int} {i : Nat} {o : BOp} (h : recTo d t i 2 = some o) : logPre d t (i + 1) = logPre d t i ++ [o] := by
  unfold logPre
  rw [List.range_succ, List.map_append]
  simp [h]
theorem logFs_some {d : Dk} {t : Int} {i : Nat} {o : BOp} (h : recTo d t i 2 = some o) (hi : i < 8) {L : List BOp} (hL : logPre d t i ++ logFs d t (8 - i) i = L) : logPre d t (i + 1) ++ logFs d t (8 - (i + 1)) (i + 1) = L := by
  rw [← hL, logPre_step h, show 8 - i = (8 - (i + 1)) + 1 by omega]
  conv => rhs; unfold logFs
  rw [h]
  simp
theorem logFs_none {d : Dk} {t : Int} {i : Nat} (h : recTo d t i 2 = none) (hi : i < 8) {L : List BOp} (hL : logPre d t i ++ logFs d t (8 - i) i = L) : logPre d t i = L := by
  rw [← hL, show 8 - i = (8 - (i + 1)) + 1 by omega]
  conv => rhs; unfold logFs
  rw [h]
  simp
theorem recTo_step (d : Dk) (t : Int) (s j : Nat) : recTo d t s (j + 1) = match recTo d t s j with
    | some o => some o
    | none => recAt d t s j := rfl
/-- The found ones with that of this record. -/
noncomputable def logAdd (xs : List BOp) (o : Option BOp) : List BOp := match o with
  | some o => xs ++ [o]
  | none => xs
theorem logAdd_len (xs : List BOp) (o : Option BOp) : (logAdd xs o).length ≤ xs.length + 1 := by
  unfold logAdd; split <;> simp
@[go_sem] noncomputable def ctLogFind : Ct := ⟨false, [[some .str, some .str, some .late]], fun args os => match args, os with
  | [.agg [.isl .str a, .isl .str b, .isl .late l], .one (.val (.int .i64 t))], [] => ⟨(Dk.mk a b l).small, .one (.osl .bop 0 0 (logFind ⟨a, b, l⟩ t).length), [], [.arr .bop (logFind ⟨a, b, l⟩ t)]⟩
  | _, _ => no⟩
theorem s_logFind_e : EnterOk Tryz.prog 21 := ⟨_, Tryz.func21, rfl, by decide⟩
@[go_sem] def s_logFind_lv : List (List Nat) := [[1, 2], [1, 2, 5], [1, 2, 5, 13], [1, 2, 5, 13, 14], [1, 2, 5, 6, 13], [1, 2, 5, 6, 7, 13], [1, 2, 5, 6, 7, 13, 16], [1, 2, 5, 6, 7, 13, 16, 17], [1, 2, 5, 6, 7, 8, 13, 16], [1, 2, 5, 6, 7, 9, 13, 16], [1, 2, 5, 6, 7, 11, 12, 13, 16], [1, 2, 5, 6, 7, 11, 13, 16, 48], [1, 2, 5, 6, 7, 13, 16], [1, 2, 5, 6, 7, 13, 16], [1, 2, 5, 13, 56], [1, 2, 5, 13], [4]]
@[go_sem] noncomputable def s_logFind_K : Known := ((Known.nil).cons 77 ctDiskRead s_diskRead s_diskRead_e).cons 10 ctLogRead s_logRead s_logRead_e
set_option maxHeartbeats 8000000 in
theorem s_logFind : Sound Tryz.prog 21 ctLogFind := by
  have ke := s_logFind_K.env []
  have kl : Lives s_logFind_lv := trivial
  refine sound_intro (E := ⟨ti, s_logFind_K.Γ, []⟩) ke Tryz.func21 Tryz.ntmps21 rfl (rs := [.tmp 4]) rfl ?_
  intro args os hp
  unfold ctLogFind at hp ⊢
  dsimp only at hp ⊢
  split at hp
  · rename_i a b l t
    refine ⟨by simp, fun φ0 w0 => ?_⟩
    obtain ⟨s1, s2, s3⟩ : a.length ≤ 4000000 ∧ b.length ≤ 4000000 ∧ l.length ≤ 4000000 := hp
    obtain ⟨d, hd⟩ : ∃ d, Dk.mk a b l = d := ⟨_, rfl⟩
    have hsz := fun s k => dkRead_size d s k
    have hlL := logFind_len d t
    have nt : (!true) = false := rfl
    have nf : (!false) = true := rfl
    obtain ⟨L, hL⟩ : ∃ L, logFind d t = L := ⟨_, rfl⟩
    have hL0 : logPre d t 0 ++ logFs d t (8 - 0) 0 = L := hL
    have hp0 : logPre d t 0 = [] := rfl
    refine goh trivial ?_
    refine W_for 8 (fun i => logPre d t i ++ logFs d t (8 - i) i = L) (fun i => ⟨[(1, vi t), (2, .one (.ptr 0 0)), (5, .one (.osl .bop 1 0 i)), (13, vi i)], [some (.cells [.isl .str a, .isl .str b, .isl .late l]), some (.arr .bop (logPre d t i))], []⟩) [some 0, none] (leh hp0) hL0 fun i hi hI => ?_
    have hpl := logPre_len d t i
    refine goh trivial ?_
    refine W_cnd ?_ ?_ <;> (try simp only [cnd_r]) <;> intro hlt
    · have hw : IntKind.i64.wrap (5 + (i : Int)) = ((5 + i : Nat) : Int) := wrap_id _ (by omega) (by omega)
      have hi8 : i < 8 := by omega
      have hr0 : recTo d t i 0 = none := rfl
      have ha0 : logAdd (logPre d t i) none = logPre d t i := rfl
      refine goh trivial ?_
      refine W_for 2 (fun j => True) (fun j => ⟨[(1, vi t), (2, .one (.ptr 0 0)), (5, .one (.osl .bop 1 0 (logAdd (logPre d t i) (recTo d t i j)).length)), (6, vi i), (7, vb (recTo d t i j).isSome), (13, vi i), (16, vi j)], [some (.cells [.isl .str a, .isl .str b, .isl .late l]), some (.arr .bop (logAdd (logPre d t i) (recTo d t i j)))], []⟩) [some 0, some 1] (leh (And.intro hr0 (And.intro ha0 hpl))) trivial fun j hj _ => ?_
      refine goh trivial ?_
      refine W_cnd ?_ ?_ <;> (try simp only [cnd_r]) <;> intro hltj
      · have hst := recTo_step d t i j
        have hz := hsz (j : Int) ((5 + i : Nat) : Int)
        unfold recAt at hst
        obtain ⟨u, hu⟩ : ∃ u, dkRead d (j : Int) ((5 + i : Nat) : Int) = u := ⟨_, rfl⟩
        rw [hu] at hst hz
        cases h0 : recTo d t i j with
        | some o =>
          rw [h0] at hst
          cases hP : logP u with
          | none =>
            refine goh (And.intro hd (And.intro hw (And.intro hu (And.intro hP (And.intro h0 (And.intro nt nf)))))) ?_
            refine W_cnd ?_ ?_ <;> intro hlit <;> try (cases hlit; done)
            refine goh h0 ?_
            exact ⟨[some 0, some 1], by omega, leh (And.intro hst h0), trivial⟩
          | some r =>
            obtain ⟨rt, rs, ⟨rk, ra, rb, ri, rx⟩⟩ := r
            refine goh (And.intro hd (And.intro hw (And.intro hu (And.intro hP (And.intro h0 (And.intro nt nf)))))) ?_
            refine W_cnd ?_ ?_ <;> intro hlit <;> try (cases hlit; done)
            refine goh h0 ?_
            exact ⟨[some 0, some 1], by omega, leh (And.intro hst h0), trivial⟩
        | none =>
          rw [h0] at hst
          cases hP : logP u with
          | none =>
            rw [hP] at hst
            refine goh (And.intro hd (And.intro hw (And.intro hu (And.intro hP (And.intro h0 (And.intro nt nf)))))) ?_
            refine W_cnd ?_ ?_ <;> intro hlit <;> try (cases hlit; done)
            refine goh h0 ?_
            exact ⟨[some 0, some 1], by omega, leh (And.intro hst h0), trivial⟩
          | some r =>
            obtain ⟨rt, rs, ⟨rk, ra, rb, ri, rx⟩⟩ := r
            rw [hP] at hst
            by_cases hts : rt = t ∧ rs = (i : Int)
            · have hst : recTo d t i (j + 1) = some ⟨rk, ra, rb, ri, rx⟩ := hst.trans (if_pos hts)
              have c1 : (rt == t) = true := by simp [hts.1]
              have c2 : (rs == (i : Int)) = true := by simp [hts.2]
              have hA : logAdd (logPre d t i) (some ⟨rk, ra, rb, ri, rx⟩) = logPre d t i ++ [⟨rk, ra, rb, ri, rx⟩] := rfl
              refine goh (And.intro hd (And.intro hw (And.intro hu (And.intro hP (And.intro h0 (And.intro nt (And.intro nf (And.intro c1 (And.intro c2 ha0))))))))) ?_
              refine W_cnd ?_ ?_ <;> intro hlit <;> try (cases hlit; done)
              refine goh (And.intro h0 (And.intro ha0 hpl)) ?_
              have htk : (logPre d t i).take i = logPre d t i := List.take_of_length_le (by omega)
              have hAl : (logPre d t i ++ [(⟨rk, ra, rb, ri, rx⟩ : BOp)]).length = i + 1 := by simp [hpl]
              exact ⟨[some 0, some 4], by omega, leh (And.intro hst (And.intro h0 (And.intro hA (And.intro hAl htk)))), trivial⟩
            · have hst : recTo d t i (j + 1) = none := hst.trans (if_neg hts)
              have c1 : ((rt == t) && (rs == (i : Int))) = false := by
                rw [Bool.eq_false_iff]
                intro h
                simp only [Bool.and_eq_true, beq_iff_eq] at h
                exact hts h
              by_cases ht2 : rt = t
              · have c2 : (rt == t) = true := by simp [ht2]
                have c3 : (rs == (i : Int)) = false := by simp; exact fun h => hts ⟨ht2, h⟩
                refine goh (And.intro hd (And.intro hw (And.intro hu (And.intro hP (And.intro h0 (And.intro nt (And.intro nf (And.intro c2 c3)))))))) ?_
                refine W_cnd ?_ ?_ <;> intro hlit <;> try (cases hlit; done)
                refine goh h0 ?_
                exact ⟨[some 0, some 1], by omega, leh (And.intro hst h0), trivial⟩
              · have c2 : (rt == t) = false := by simp [ht2]
                refine goh (And.intro hd (And.intro hw (And.intro hu (And.intro hP (And.intro h0 (And.intro nt (And.intro nf c2))))))) ?_
                refine W_cnd ?_ ?_ <;> intro hlit <;> try (cases hlit; done)
                refine goh h0 ?_
                exact ⟨[some 0, some 1], by omega, leh (And.intro hst h0), trivial⟩
      · obtain rfl : j = 2 := by omega
        cases h2 : recTo d t i 2 with
        | none =>
          have hE := logFs_none h2 hi8 hI
          have e : logFind ⟨a, b, l⟩ t = logPre d t i := by rw [hd, hL, hE]
          refine goh (And.intro h2 ha0) ?_
          refine W_cnd ?_ ?_ <;> intro hlit <;> try (cases hlit; done)
          refine goh trivial ?_
          exact finh [some 1] e
        | some o =>
          have hE := logFs_some h2 hi8 hI
          have hA : logAdd (logPre d t i) (some o) = logPre d t (i + 1) := (logPre_step h2).symm
          have hpl1 := logPre_len d t (i + 1)
          refine goh h2 ?_
          refine W_cnd ?_ ?_ <;> intro hlit <;> try (cases hlit; done)
          refine goh trivial ?_
          exact ⟨[some 0, some 1], by omega, leh (And.intro hA hpl1), hE⟩
    · obtain rfl : i = 8 := by omega
      have e : logFind ⟨a, b, l⟩ t = logPre d t 8 := by
        rw [hd, hL, ← hI]
        show logPre d t 8 ++ [] = _
        rw [List.append_nil]
      refine goh trivial ?_
      exact finh [some 1] (And.intro e hpl)
  · simp [no] at hp
@[go_sem] noncomputable def ctL9rec : Ct := ⟨false, [[some .str, some .str, some .late]], fun args os => match args, os with
  | [.agg [.isl .str a, .isl .str b, .isl .late l], .one (.val (.int .i64 t)), .one (.val (.int .i64 s))], [] => ifp ((Dk.mk a b l).small ∧ 0 ≤ s ∧ s ≤ 7) (match recTo ⟨a, b, l⟩ t s.toNat 2 with
    | some o => .tup [.agg [.val (.int .i64 o.kind), .val (.string o.a), .val (.string o.b), .val (.int .i64 o.i), .val (.string o.text)], vb true]
    | none => .tup [.agg [.val (.int .i64 0), .val (.string ⟨#[]⟩), .val (.string ⟨#[]⟩), .val (.int .i64 0), .val (.string ⟨#[]⟩)], vb false])
  | _, _ => no⟩
theorem s_l9rec_e : EnterOk Tryz.prog 74 := ⟨_, Tryz.func74, rfl, by decide⟩
@[go_sem] def s_l9rec_lv : List (List Nat) := [[1, 2, 3, 6], [1, 2, 3, 6, 8], [1, 2, 3, 6, 8, 14], [1, 2, 3, 6, 8], [1, 2, 3, 6, 8, 9], [1, 2, 3, 6, 8, 11, 12], [1, 2, 3, 6, 8, 11, 42], [6, 7], [6, 7]]
@[go_sem] noncomputable def s_l9rec_K : Known := ((Known.nil).cons 146 ctDiskRead s_specRead s_specRead_e).cons 13 ctLogRead s_specLogRead s_specLogRead_e
set_option maxHeartbeats 8000000 in
theorem s_l9rec : Sound Tryz.prog 74 ctL9rec := by
  have ke := s_l9rec_K.env []
  have kl : Lives s_l9rec_lv := trivial
  refine sound_intro (E := ⟨ti, s_l9rec_K.Γ, []⟩) ke Tryz.func74 Tryz.ntmps74 rfl (rs := [.cell 6 24, .tmp 7]) rfl ?_
  intro args os hp
  unfold ctL9rec at hp ⊢
  dsimp only at hp ⊢
  split at hp
  · rename_i a b l t s
    refine ⟨by simp, fun φ0 w0 => ?_⟩
    obtain ⟨⟨s1, s2, s3⟩, k1, k2⟩ : (a.length ≤ 4000000 ∧ b.length ≤ 4000000 ∧ l.length ≤ 4000000) ∧ 0 ≤ s ∧ s ≤ 7 := hp
    obtain ⟨i, rfl⟩ : ∃ i : Nat, s = (i : Int) := ⟨s.toNat, by omega⟩
    obtain ⟨d, hd⟩ : ∃ d, Dk.mk a b l = d := ⟨_, rfl⟩
    have hsz := fun s k => dkRead_size d s k
    have nt : (!true) = false := rfl
    have nf : (!false) = true := rfl
    have hti : (i : Int).toNat = i := by omega
    have hw : IntKind.i64.wrap (5 + (i : Int)) = ((5 + i : Nat) : Int) := wrap_id _ (by omega) (by omega)
    refine goh trivial ?_
    refine W_for 2 (fun j => recTo d t i j = none) (fun j => ⟨[(1, vi t), (2, vi i), (3, .one (.ptr 0 0)), (6, .one (.ptr 1 0)), (8, vi j)], [some (.cells [.isl .str a, .isl .str b, .isl .late l]), some (.cells [.val (.int .i64 0), .val (.string ⟨#[]⟩), .val (.string ⟨#[]⟩), .val (.int .i64 0), .val (.string ⟨#[]⟩)])], []⟩) [some 0, some 1] (leh trivial) rfl fun j hj h0 => ?_
    refine goh trivial ?_
    refine W_cnd ?_ ?_ <;> (try simp only [cnd_r]) <;> intro hltj
    · have hst := recTo_step d t i j
      have hz := hsz (j : Int) ((5 + i : Nat) : Int)
      unfold recAt at hst
      obtain ⟨u, hu⟩ : ∃ u, dkRead d (j : Int) ((5 + i : Nat) : Int) = u := ⟨_, rfl⟩
      rw [hu, h0] at hst
      rw [hu] at hz
      cases hP : logP u with
      | none =>
        rw [hP] at hst
        refine goh (And.intro hd (And.intro hw (And.intro hu (And.intro hP (And.intro nt nf))))) ?_
        refine W_cnd ?_ ?_ <;> intro hlit <;> try (cases hlit; done)
        refine goh trivial ?_
        exact ⟨[some 0, some 1], by omega, leh trivial, hst⟩
      | some r =>
        obtain ⟨rt, rs, ⟨rk, ra, rb, ri, rx⟩⟩ := r
        rw [hP] at hst
        by_cases hts : rt = t ∧ rs = (i : Int)
        · have hst : recTo d t i (j + 1) = some ⟨rk, ra, rb, ri, rx⟩ := hst.trans (if_pos hts)
          have c1 : (rt == t) = true := by simp [hts.1]
          have c2 : (rs == (i : Int)) = true := by simp [hts.2]
          have e2 : recTo ⟨a, b, l⟩ t i 2 = some ⟨rk, ra, rb, ri, rx⟩ := by
            rw [hd]
            rcases (show j = 0 ∨ j = 1 by omega) with rfl | rfl
            · rw [recTo_step, hst]
            · exact hst
          refine goh (And.intro hd (And.intro hw (And.intro hu (And.intro hP (And.intro nt (And.intro nf (And.intro c1 c2))))))) ?_
          refine W_cnd ?_ ?_ <;> intro hlit <;> try (cases hlit; done)
          refine goh trivial ?_
          exact finh [] (And.intro e2 hti)
        · have hst : recTo d t i (j + 1) = none := hst.trans (if_neg hts)
          by_cases ht2 : rt = t
          · have c2 : (rt == t) = true := by simp [ht2]
            have c3 : (rs == (i : Int)) = false := by simp; exact fun h => hts ⟨ht2, h⟩
            refine goh (And.intro hd (And.intro hw (And.intro hu (And.intro hP (And.intro nt (And.intro nf (And.intro c2 c3))))))) ?_
            refine W_cnd ?_ ?_ <;> intro hlit <;> try (cases hlit; done)
            refine goh trivial ?_
            exact ⟨[some 0, some 1], by omega, leh trivial, hst⟩
          · have c2 : (rt == t) = false := by simp [ht2]
            refine goh (And.intro hd (And.intro hw (And.intro hu (And.intro hP (And.intro nt (And.intro nf c2)))))) ?_
            refine W_cnd ?_ ?_ <;> intro hlit <;> try (cases hlit; done)
            refine goh trivial ?_
            exact ⟨[some 0, some 1], by omega, leh trivial, hst⟩
    · obtain rfl : j = 2 := by omega
      have e2 : recTo ⟨a, b, l⟩ t i 2 = none := by rw [hd]; exact h0
      refine goh trivial ?_
      exact finh [] (And.intro e2 hti)
  · simp [no, ifp] at hp
theorem s_specLogFind_e : EnterOk Tryz.prog 19 := ⟨_, Tryz.func19, rfl, by decide⟩
@[go_sem] def s_specLogFind_lv : List (List Nat) := [[1, 2], [1, 2, 5], [1, 2, 5, 6], [1, 2, 5, 6, 11], [1, 2, 5, 6], [1, 2, 5, 6, 7, 8], [1, 2, 5, 6, 7, 22], [4], [1, 2, 5, 6], [4]]
@[go_sem] noncomputable def s_specLogFind_K : Known := (Known.nil).cons 74 ctL9rec s_l9rec s_l9rec_e
set_option maxHeartbeats 8000000 in
theorem s_specLogFind : Sound Tryz.prog 19 ctLogFind := by
  have ke := s_specLogFind_K.env []
  have kl : Lives s_specLogFind_lv := trivial
  refine sound_intro (E := ⟨ti, s_specLogFind_K.Γ, []⟩) ke Tryz.func19 Tryz.ntmps19 rfl (rs := [.tmp 4]) rfl ?_
  intro args os hp
  unfold ctLogFind at hp ⊢
  dsimp only at hp ⊢
  split at hp
  · rename_i a b l t
    refine ⟨by simp, fun φ0 w0 => ?_⟩
    obtain ⟨s1, s2, s3⟩ : a.length ≤ 4000000 ∧ b.length ≤ 4000000 ∧ l.length ≤ 4000000 := hp
    obtain ⟨d, hd⟩ : ∃ d, Dk.mk a b l = d := ⟨_, rfl⟩
    have hlL := logFind_len d t
    have nt : (!true) = false := rfl
    have nf : (!false) = true := rfl
    obtain ⟨L, hL⟩ : ∃ L, logFind d t = L := ⟨_, rfl⟩
    have hL0 : logPre d t 0 ++ logFs d t (8 - 0) 0 = L := hL
    have hp0 : logPre d t 0 = [] := rfl
    refine goh trivial ?_
    refine W_for 8 (fun i => logPre d t i ++ logFs d t (8 - i) i = L) (fun i => ⟨[(1, vi t), (2, .one (.ptr 0 0)), (5, .one (.osl .bop 1 0 i)), (6, vi i)], [some (.cells [.isl .str a, .isl .str b, .isl .late l]), some (.arr .bop (logPre d t i))], []⟩) [some 0, some 1] (leh hp0) hL0 fun i hi hI => ?_
    have hpl := logPre_len d t i
    refine goh trivial ?_
    refine W_cnd ?_ ?_ <;> (try simp only [cnd_r]) <;> intro hlt
    · have hi8 : i < 8 := by omega
      have hi7 : (i : Int) ≤ 7 := by omega
      have hti : (i : Int).toNat = i := by omega
      cases h2 : recTo d t i 2 with
      | none =>
        have hE := logFs_none h2 hi8 hI
        have e : logFind ⟨a, b, l⟩ t = logPre d t i := by rw [hd, hL, hE]
        refine goh (And.intro h2 (And.intro hi7 (And.intro hd (And.intro hti nf)))) ?_
        refine W_cnd ?_ ?_ <;> intro hlit <;> try (cases hlit; done)
        refine goh trivial ?_
        exact finh [some 1] (And.intro e hpl)
      | some o =>
        have hE := logFs_some h2 hi8 hI
        have hA : logPre d t (i + 1) = logPre d t i ++ [o] := logPre_step h2
        have hpl1 := logPre_len d t (i + 1)
        have htk : (logPre d t i).take i = logPre d t i := List.take_of_length_le (by omega)
        obtain ⟨ok, oa, ob, oi, ox⟩ := o
        refine goh (And.intro h2 (And.intro hi7 (And.intro hd (And.intro hti nt)))) ?_
        refine W_cnd ?_ ?_ <;> intro hlit <;> try (cases hlit; done)
        refine goh hpl ?_
        exact ⟨[some 0, some 4], by omega, leh (And.intro hA (And.intro htk hpl1)), hE⟩
    · obtain rfl : i = 8 := by omega
      have e : logFind ⟨a, b, l⟩ t = logPre d t 8 := by
        rw [hd, hL, ← hI]
        show logPre d t 8 ++ [] = _
        rw [List.append_nil]
      refine goh trivial ?_
      exact finh [some 1] (And.intro e hpl)
  · simp [no] at hp
end Go.Proofs.YtmnbgppmfbnamaaGreatDoor
