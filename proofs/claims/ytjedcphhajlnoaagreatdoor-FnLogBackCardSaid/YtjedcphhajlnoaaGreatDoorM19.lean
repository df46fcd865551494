import Derived.Test.YtjedcphhajlnoaaGreatDoorM11
import Derived.Test.YtjedcphhajlnoaaGreatDoorM12
import Derived.Test.YtjedcphhajlnoaaGreatDoorM15
import Derived.Test.YtjedcphhajlnoaaGreatDoorM18
set_option linter.unusedSimpArgs false
set_option linter.unusedVariables false
set_option linter.unusedSectionVars false
/- Functions: records are read. -/
namespace Go.Proofs.YtjedcphhajlnoaaGreatDoor
open Go.RowKit

theorem cutV_size1 (c : UInt8) (s : ByteArray) : (cutV c s).1.size ≤ s.size := by
  unfold cutV Lib.cut bytesL
  split
  · show (List.take _ s.data.toList).toArray.size ≤ s.data.size
    simp; omega
  · show s.data.toList.toArray.size ≤ s.data.size
    simp
@[go_sem] noncomputable def ctLogRead : Ct := ⟨false, [], fun args os => match args, os with
  | [.one (.val (.string t))], [] => ifp (t.size ≤ 1000000) (match logP t with
    | some r => .tup [.agg [.val (.int .i64 r.txg), .val (.int .i64 r.seq), .val (.int .i64 r.op.kind), .val (.string r.op.a), .val (.string r.op.b), .val (.int .i64 r.op.i), .val (.string r.op.text)], vb true]
    | none => .tup [.agg [.val (.int .i64 0), .val (.int .i64 0), .val (.int .i64 0), .val (.string ⟨#[]⟩), .val (.string ⟨#[]⟩), .val (.int .i64 0), .val (.string ⟨#[]⟩)], vb false])
  | _, _ => no⟩
theorem s_logRead_e : EnterOk Tryz.prog 58 := ⟨_, Tryz.func58, rfl, by decide⟩
@[go_sem] def s_logRead_lv : List (List Nat) := [[0, 2], [0, 2, 4], [0, 2, 6], [0, 2, 6, 28], [2, 3], [0, 2, 6, 7, 8], [0, 2, 6, 8, 10, 11], [0, 2, 6, 10, 11, 12, 13], [0, 2, 6, 10, 11, 12, 13, 14, 15], [0, 2, 6, 10, 11, 12, 13, 14, 15, 16, 17], [0, 2, 6, 10, 11, 12, 13, 14, 15, 16, 17, 65], [0, 2, 6, 10, 11, 12, 13, 14, 15, 16, 17], [0, 2, 11, 13, 15, 17, 18], [2, 18, 94], [2, 3], [2, 3]]
@[go_sem] noncomputable def s_logRead_K : Known := ((((((Known.nil).cons 106 ctSumOpen s_sumOpen s_sumOpen_e).cons 107 ctSplit s_split s_split_e).cons 130 ctCut s_cut s_cut_e).cons 108 ctAtoi s_atoi s_atoi_e).cons 131 ctUnhex s_unhex s_unhex_e).cons 57 ctLogText s_logText s_logText_e
set_option maxHeartbeats 8000000 in
theorem s_logRead : Sound Tryz.prog 58 ctLogRead := by
  have ke := s_logRead_K.env []
  have kl : Lives s_logRead_lv := trivial
  refine sound_intro (E := ⟨ti, s_logRead_K.Γ, []⟩) ke Tryz.func58 Tryz.ntmps58 rfl (rs := [.cell 2 98, .tmp 3]) rfl ?_
  intro args os hp
  unfold ctLogRead at hp ⊢
  dsimp only at hp ⊢
  split at hp
  · rename_i t
    refine ⟨by simp, fun φ0 w0 => ?_⟩
    have hlen : t.size ≤ 1000000 := hp
    have nt : (!true) = false := rfl
    have nf : (!false) = true := rfl
    have hsp : (⟨#[32]⟩ : ByteArray).data.getD 0 0 = 32 := rfl
    have hsz : (⟨#[32]⟩ : ByteArray).size = 1 := rfl
    have hsp2 : (⟨#[46]⟩ : ByteArray).data.getD 0 0 = 46 := rfl
    have hsz2 : (⟨#[46]⟩ : ByteArray).size = 1 := rfl
    have h32 : UInt8.ofNat 32 = 32 := rfl
    have h46 : UInt8.ofNat 46 = 46 := rfl
    have hos := openV_size t
    have hcl := @logP_closed t
    have hwd := @logP_words t
    have hck := fun w0 a w2 w3 w4 => @logP_check t w0 a w2 w3 w4
    have him := fun w0 a w2 w3 w4 => @logP_impl t w0 a w2 w3 w4
    obtain ⟨⟨inner, ok⟩, hin⟩ : ∃ x, openV t = x := ⟨_, rfl⟩
    rw [hin] at hos hcl hwd hck him
    simp only at hos hcl hwd hck him
    have hwl := splitV_len 32 inner
    have hms : ∀ w ∈ splitV 32 inner, w.size ≤ 1000000 := fun w hw => Nat.le_trans (splitV_size hw) (by omega)
    obtain ⟨ws, hws⟩ : ∃ ws, splitV 32 inner = ws := ⟨_, rfl⟩
    rw [hws] at hms hwl hwd hck him
    refine goh (And.intro hsp (And.intro hsz (And.intro hin hws))) ?_
    refine W_cnd ?_ ?_ <;> (try simp only [cnd_r]) <;> intro h3
    · have e := hwd (by intro e; rw [e] at h3; exact absurd h3 (by decide))
      refine goh trivial ?_
      exact finh [] e
    · have h3' : ws.length = 5 := by omega
      match ws, h3' with
      | [w0, a, w2, w3, w4], _ =>
      have m0 := hms w0 (by simp)
      have ma := hms a (by simp)
      have m2 := hms w2 (by simp)
      have m3 := hms w3 (by simp)
      have ma' : a.size ≤ 9223372036854775807 := by omega
      have m2' : w2.size ≤ 281474976710656 := by omega
      have q1 := cutV_size1 46 w0
      have q2 := cutV_size 46 w0
      have hI := fun r h => him w0 a w2 w3 w4 rfl (r := r) h
      have hC := fun r h => hck w0 a w2 w3 w4 rfl (r := r) h
      obtain ⟨⟨f, g, okc⟩, hcut⟩ : ∃ x, cutV 46 w0 = x := ⟨_, rfl⟩
      rw [hcut] at q1 q2 hI
      simp only at q1 q2 hI
      have mf : f.size ≤ 281474976710656 := by omega
      have mg : g.size ≤ 281474976710656 := by omega
      clear him hck hwd hcl
      cases hf : atoiV f <;> cases hg : atoiV g <;> cases hi : atoiV w2
      case none.none.none =>
        have e : logP t = none := logP_bad fun r h => by have h2 := (hI r h).1; rw [hf] at h2; cases h2
        by_cases hd : w3 = ⟨#[45]⟩
        · have cd : same w3 ⟨#[45]⟩ = true := same_true.2 hd
          have hu : unhexV w3 = none := by rw [hd]; rfl
          refine goh (And.intro hcut (And.intro hsp2 (And.intro hsz2 (And.intro mf (And.intro mg (And.intro m2' (And.intro m3 (And.intro ma' (And.intro hf (And.intro hg (And.intro hi (And.intro hu (And.intro cd (And.intro nt nf)))))))))))))) ?_
          refine W_cnd ?_ ?_ <;> intro hlit <;> try (cases hlit; done)
          refine goh (And.intro ma' (And.intro hf (And.intro hg (And.intro hi (And.intro hu (And.intro cd (And.intro nt nf))))))) ?_
          refine W_cnd ?_ ?_ <;> intro hlit <;> try (cases hlit; done)
          refine goh (And.intro hf (And.intro hg (And.intro hi (And.intro hu (And.intro cd (And.intro nt nf)))))) ?_
          exact finh [] e
        · have cd : same w3 ⟨#[45]⟩ = false := same_false.2 hd
          cases hu : unhexV w3 with
          | none =>
            refine goh (And.intro hcut (And.intro hsp2 (And.intro hsz2 (And.intro mf (And.intro mg (And.intro m2' (And.intro m3 (And.intro ma' (And.intro hf (And.intro hg (And.intro hi (And.intro hu (And.intro cd (And.intro nt nf)))))))))))))) ?_
            refine W_cnd ?_ ?_ <;> intro hlit <;> try (cases hlit; done)
            refine goh (And.intro ma' (And.intro hf (And.intro hg (And.intro hi (And.intro hu (And.intro cd (And.intro nt nf))))))) ?_
            refine W_cnd ?_ ?_ <;> intro hlit <;> try (cases hlit; done)
            refine goh (And.intro hf (And.intro hg (And.intro hi (And.intro hu (And.intro cd (And.intro nt nf)))))) ?_
            exact finh [] e
          | some b =>
            refine goh (And.intro hcut (And.intro hsp2 (And.intro hsz2 (And.intro mf (And.intro mg (And.intro m2' (And.intro m3 (And.intro ma' (And.intro hf (And.intro hg (And.intro hi (And.intro hu (And.intro cd (And.intro nt nf)))))))))))))) ?_
            refine W_cnd ?_ ?_ <;> intro hlit <;> try (cases hlit; done)
            refine goh (And.intro ma' (And.intro hf (And.intro hg (And.intro hi (And.intro hu (And.intro cd (And.intro nt nf))))))) ?_
            refine W_cnd ?_ ?_ <;> intro hlit <;> try (cases hlit; done)
            refine goh (And.intro hf (And.intro hg (And.intro hi (And.intro hu (And.intro cd (And.intro nt nf)))))) ?_
            exact finh [] e
      case none.none.some i =>
        have e : logP t = none := logP_bad fun r h => by have h2 := (hI r h).1; rw [hf] at h2; cases h2
        by_cases hd : w3 = ⟨#[45]⟩
        · have cd : same w3 ⟨#[45]⟩ = true := same_true.2 hd
          have hu : unhexV w3 = none := by rw [hd]; rfl
          refine goh (And.intro hcut (And.intro hsp2 (And.intro hsz2 (And.intro mf (And.intro mg (And.intro m2' (And.intro m3 (And.intro ma' (And.intro hf (And.intro hg (And.intro hi (And.intro hu (And.intro cd (And.intro nt nf)))))))))))))) ?_
          refine W_cnd ?_ ?_ <;> intro hlit <;> try (cases hlit; done)
          refine goh (And.intro ma' (And.intro hf (And.intro hg (And.intro hi (And.intro hu (And.intro cd (And.intro nt nf))))))) ?_
          refine W_cnd ?_ ?_ <;> intro hlit <;> try (cases hlit; done)
          refine goh (And.intro hf (And.intro hg (And.intro hi (And.intro hu (And.intro cd (And.intro nt nf)))))) ?_
          exact finh [] e
        · have cd : same w3 ⟨#[45]⟩ = false := same_false.2 hd
          cases hu : unhexV w3 with
          | none =>
            refine goh (And.intro hcut (And.intro hsp2 (And.intro hsz2 (And.intro mf (And.intro mg (And.intro m2' (And.intro m3 (And.intro ma' (And.intro hf (And.intro hg (And.intro hi (And.intro hu (And.intro cd (And.intro nt nf)))))))))))))) ?_
            refine W_cnd ?_ ?_ <;> intro hlit <;> try (cases hlit; done)
            refine goh (And.intro ma' (And.intro hf (And.intro hg (And.intro hi (And.intro hu (And.intro cd (And.intro nt nf))))))) ?_
            refine W_cnd ?_ ?_ <;> intro hlit <;> try (cases hlit; done)
            refine goh (And.intro hf (And.intro hg (And.intro hi (And.intro hu (And.intro cd (And.intro nt nf)))))) ?_
            exact finh [] e
          | some b =>
            refine goh (And.intro hcut (And.intro hsp2 (And.intro hsz2 (And.intro mf (And.intro mg (And.intro m2' (And.intro m3 (And.intro ma' (And.intro hf (And.intro hg (And.intro hi (And.intro hu (And.intro cd (And.intro nt nf)))))))))))))) ?_
            refine W_cnd ?_ ?_ <;> intro hlit <;> try (cases hlit; done)
            refine goh (And.intro ma' (And.intro hf (And.intro hg (And.intro hi (And.intro hu (And.intro cd (And.intro nt nf))))))) ?_
            refine W_cnd ?_ ?_ <;> intro hlit <;> try (cases hlit; done)
            refine goh (And.intro hf (And.intro hg (And.intro hi (And.intro hu (And.intro cd (And.intro nt nf)))))) ?_
            exact finh [] e
      case none.some.none y =>
        have e : logP t = none := logP_bad fun r h => by have h2 := (hI r h).1; rw [hf] at h2; cases h2
        by_cases hd : w3 = ⟨#[45]⟩
        · have cd : same w3 ⟨#[45]⟩ = true := same_true.2 hd
          have hu : unhexV w3 = none := by rw [hd]; rfl
          refine goh (And.intro hcut (And.intro hsp2 (And.intro hsz2 (And.intro mf (And.intro mg (And.intro m2' (And.intro m3 (And.intro ma' (And.intro hf (And.intro hg (And.intro hi (And.intro hu (And.intro cd (And.intro nt nf)))))))))))))) ?_
          refine W_cnd ?_ ?_ <;> intro hlit <;> try (cases hlit; done)
          refine goh (And.intro ma' (And.intro hf (And.intro hg (And.intro hi (And.intro hu (And.intro cd (And.intro nt nf))))))) ?_
          refine W_cnd ?_ ?_ <;> intro hlit <;> try (cases hlit; done)
          refine goh (And.intro hf (And.intro hg (And.intro hi (And.intro hu (And.intro cd (And.intro nt nf)))))) ?_
          exact finh [] e
        · have cd : same w3 ⟨#[45]⟩ = false := same_false.2 hd
          cases hu : unhexV w3 with
          | none =>
            refine goh (And.intro hcut (And.intro hsp2 (And.intro hsz2 (And.intro mf (And.intro mg (And.intro m2' (And.intro m3 (And.intro ma' (And.intro hf (And.intro hg (And.intro hi (And.intro hu (And.intro cd (And.intro nt nf)))))))))))))) ?_
            refine W_cnd ?_ ?_ <;> intro hlit <;> try (cases hlit; done)
            refine goh (And.intro ma' (And.intro hf (And.intro hg (And.intro hi (And.intro hu (And.intro cd (And.intro nt nf))))))) ?_
            refine W_cnd ?_ ?_ <;> intro hlit <;> try (cases hlit; done)
            refine goh (And.intro hf (And.intro hg (And.intro hi (And.intro hu (And.intro cd (And.intro nt nf)))))) ?_
            exact finh [] e
          | some b =>
            refine goh (And.intro hcut (And.intro hsp2 (And.intro hsz2 (And.intro mf (And.intro mg (And.intro m2' (And.intro m3 (And.intro ma' (And.intro hf (And.intro hg (And.intro hi (And.intro hu (And.intro cd (And.intro nt nf)))))))))))))) ?_
            refine W_cnd ?_ ?_ <;> intro hlit <;> try (cases hlit; done)
            refine goh (And.intro ma' (And.intro hf (And.intro hg (And.intro hi (And.intro hu (And.intro cd (And.intro nt nf))))))) ?_
            refine W_cnd ?_ ?_ <;> intro hlit <;> try (cases hlit; done)
            refine goh (And.intro hf (And.intro hg (And.intro hi (And.intro hu (And.intro cd (And.intro nt nf)))))) ?_
            exact finh [] e
      case none.some.some y i =>
        have e : logP t = none := logP_bad fun r h => by have h2 := (hI r h).1; rw [hf] at h2; cases h2
        by_cases hd : w3 = ⟨#[45]⟩
        · have cd : same w3 ⟨#[45]⟩ = true := same_true.2 hd
          have hu : unhexV w3 = none := by rw [hd]; rfl
          refine goh (And.intro hcut (And.intro hsp2 (And.intro hsz2 (And.intro mf (And.intro mg (And.intro m2' (And.intro m3 (And.intro ma' (And.intro hf (And.intro hg (And.intro hi (And.intro hu (And.intro cd (And.intro nt nf)))))))))))))) ?_
          refine W_cnd ?_ ?_ <;> intro hlit <;> try (cases hlit; done)
          refine goh (And.intro ma' (And.intro hf (And.intro hg (And.intro hi (And.intro hu (And.intro cd (And.intro nt nf))))))) ?_
          refine W_cnd ?_ ?_ <;> intro hlit <;> try (cases hlit; done)
          refine goh (And.intro hf (And.intro hg (And.intro hi (And.intro hu (And.intro cd (And.intro nt nf)))))) ?_
          exact finh [] e
        · have cd : same w3 ⟨#[45]⟩ = false := same_false.2 hd
          cases hu : unhexV w3 with
          | none =>
            refine goh (And.intro hcut (And.intro hsp2 (And.intro hsz2 (And.intro mf (And.intro mg (And.intro m2' (And.intro m3 (And.intro ma' (And.intro hf (And.intro hg (And.intro hi (And.intro hu (And.intro cd (And.intro nt nf)))))))))))))) ?_
            refine W_cnd ?_ ?_ <;> intro hlit <;> try (cases hlit; done)
            refine goh (And.intro ma' (And.intro hf (And.intro hg (And.intro hi (And.intro hu (And.intro cd (And.intro nt nf))))))) ?_
            refine W_cnd ?_ ?_ <;> intro hlit <;> try (cases hlit; done)
            refine goh (And.intro hf (And.intro hg (And.intro hi (And.intro hu (And.intro cd (And.intro nt nf)))))) ?_
            exact finh [] e
          | some b =>
            refine goh (And.intro hcut (And.intro hsp2 (And.intro hsz2 (And.intro mf (And.intro mg (And.intro m2' (And.intro m3 (And.intro ma' (And.intro hf (And.intro hg (And.intro hi (And.intro hu (And.intro cd (And.intro nt nf)))))))))))))) ?_
            refine W_cnd ?_ ?_ <;> intro hlit <;> try (cases hlit; done)
            refine goh (And.intro ma' (And.intro hf (And.intro hg (And.intro hi (And.intro hu (And.intro cd (And.intro nt nf))))))) ?_
            refine W_cnd ?_ ?_ <;> intro hlit <;> try (cases hlit; done)
            refine goh (And.intro hf (And.intro hg (And.intro hi (And.intro hu (And.intro cd (And.intro nt nf)))))) ?_
            exact finh [] e
      case some.none.none x =>
        have e : logP t = none := logP_bad fun r h => by have h2 := (hI r h).2.1; rw [hg] at h2; cases h2
        by_cases hd : w3 = ⟨#[45]⟩
        · have cd : same w3 ⟨#[45]⟩ = true := same_true.2 hd
          have hu : unhexV w3 = none := by rw [hd]; rfl
          refine goh (And.intro hcut (And.intro hsp2 (And.intro hsz2 (And.intro mf (And.intro mg (And.intro m2' (And.intro m3 (And.intro ma' (And.intro hf (And.intro hg (And.intro hi (And.intro hu (And.intro cd (And.intro nt nf)))))))))))))) ?_
          refine W_cnd ?_ ?_ <;> intro hlit <;> try (cases hlit; done)
          refine goh (And.intro ma' (And.intro hf (And.intro hg (And.intro hi (And.intro hu (And.intro cd (And.intro nt nf))))))) ?_
          refine W_cnd ?_ ?_ <;> intro hlit <;> try (cases hlit; done)
          refine goh (And.intro hf (And.intro hg (And.intro hi (And.intro hu (And.intro cd (And.intro nt nf)))))) ?_
          exact finh [] e
        · have cd : same w3 ⟨#[45]⟩ = false := same_false.2 hd
          cases hu : unhexV w3 with
          | none =>
            refine goh (And.intro hcut (And.intro hsp2 (And.intro hsz2 (And.intro mf (And.intro mg (And.intro m2' (And.intro m3 (And.intro ma' (And.intro hf (And.intro hg (And.intro hi (And.intro hu (And.intro cd (And.intro nt nf)))))))))))))) ?_
            refine W_cnd ?_ ?_ <;> intro hlit <;> try (cases hlit; done)
            refine goh (And.intro ma' (And.intro hf (And.intro hg (And.intro hi (And.intro hu (And.intro cd (And.intro nt nf))))))) ?_
            refine W_cnd ?_ ?_ <;> intro hlit <;> try (cases hlit; done)
            refine goh (And.intro hf (And.intro hg (And.intro hi (And.intro hu (And.intro cd (And.intro nt nf)))))) ?_
            exact finh [] e
          | some b =>
            refine goh (And.intro hcut (And.intro hsp2 (And.intro hsz2 (And.intro mf (And.intro mg (And.intro m2' (And.intro m3 (And.intro ma' (And.intro hf (And.intro hg (And.intro hi (And.intro hu (And.intro cd (And.intro nt nf)))))))))))))) ?_
            refine W_cnd ?_ ?_ <;> intro hlit <;> try (cases hlit; done)
            refine goh (And.intro ma' (And.intro hf (And.intro hg (And.intro hi (And.intro hu (And.intro cd (And.intro nt nf))))))) ?_
            refine W_cnd ?_ ?_ <;> intro hlit <;> try (cases hlit; done)
            refine goh (And.intro hf (And.intro hg (And.intro hi (And.intro hu (And.intro cd (And.intro nt nf)))))) ?_
            exact finh [] e
      case some.none.some x i =>
        have e : logP t = none := logP_bad fun r h => by have h2 := (hI r h).2.1; rw [hg] at h2; cases h2
        by_cases hd : w3 = ⟨#[45]⟩
        · have cd : same w3 ⟨#[45]⟩ = true := same_true.2 hd
          have hu : unhexV w3 = none := by rw [hd]; rfl
          refine goh (And.intro hcut (And.intro hsp2 (And.intro hsz2 (And.intro mf (And.intro mg (And.intro m2' (And.intro m3 (And.intro ma' (And.intro hf (And.intro hg (And.intro hi (And.intro hu (And.intro cd (And.intro nt nf)))))))))))))) ?_
          refine W_cnd ?_ ?_ <;> intro hlit <;> try (cases hlit; done)
          refine goh (And.intro ma' (And.intro hf (And.intro hg (And.intro hi (And.intro hu (And.intro cd (And.intro nt nf))))))) ?_
          refine W_cnd ?_ ?_ <;> intro hlit <;> try (cases hlit; done)
          refine goh (And.intro hf (And.intro hg (And.intro hi (And.intro hu (And.intro cd (And.intro nt nf)))))) ?_
          exact finh [] e
        · have cd : same w3 ⟨#[45]⟩ = false := same_false.2 hd
          cases hu : unhexV w3 with
          | none =>
            refine goh (And.intro hcut (And.intro hsp2 (And.intro hsz2 (And.intro mf (And.intro mg (And.intro m2' (And.intro m3 (And.intro ma' (And.intro hf (And.intro hg (And.intro hi (And.intro hu (And.intro cd (And.intro nt nf)))))))))))))) ?_
            refine W_cnd ?_ ?_ <;> intro hlit <;> try (cases hlit; done)
            refine goh (And.intro ma' (And.intro hf (And.intro hg (And.intro hi (And.intro hu (And.intro cd (And.intro nt nf))))))) ?_
            refine W_cnd ?_ ?_ <;> intro hlit <;> try (cases hlit; done)
            refine goh (And.intro hf (And.intro hg (And.intro hi (And.intro hu (And.intro cd (And.intro nt nf)))))) ?_
            exact finh [] e
          | some b =>
            refine goh (And.intro hcut (And.intro hsp2 (And.intro hsz2 (And.intro mf (And.intro mg (And.intro m2' (And.intro m3 (And.intro ma' (And.intro hf (And.intro hg (And.intro hi (And.intro hu (And.intro cd (And.intro nt nf)))))))))))))) ?_
            refine W_cnd ?_ ?_ <;> intro hlit <;> try (cases hlit; done)
            refine goh (And.intro ma' (And.intro hf (And.intro hg (And.intro hi (And.intro hu (And.intro cd (And.intro nt nf))))))) ?_
            refine W_cnd ?_ ?_ <;> intro hlit <;> try (cases hlit; done)
            refine goh (And.intro hf (And.intro hg (And.intro hi (And.intro hu (And.intro cd (And.intro nt nf)))))) ?_
            exact finh [] e
      case some.some.none x y =>
        have e : logP t = none := logP_bad fun r h => by have h2 := (hI r h).2.2.1; rw [hi] at h2; cases h2
        by_cases hd : w3 = ⟨#[45]⟩
        · have cd : same w3 ⟨#[45]⟩ = true := same_true.2 hd
          have hu : unhexV w3 = none := by rw [hd]; rfl
          refine goh (And.intro hcut (And.intro hsp2 (And.intro hsz2 (And.intro mf (And.intro mg (And.intro m2' (And.intro m3 (And.intro ma' (And.intro hf (And.intro hg (And.intro hi (And.intro hu (And.intro cd (And.intro nt nf)))))))))))))) ?_
          refine W_cnd ?_ ?_ <;> intro hlit <;> try (cases hlit; done)
          refine goh (And.intro ma' (And.intro hf (And.intro hg (And.intro hi (And.intro hu (And.intro cd (And.intro nt nf))))))) ?_
          refine W_cnd ?_ ?_ <;> intro hlit <;> try (cases hlit; done)
          refine goh (And.intro hf (And.intro hg (And.intro hi (And.intro hu (And.intro cd (And.intro nt nf)))))) ?_
          exact finh [] e
        · have cd : same w3 ⟨#[45]⟩ = false := same_false.2 hd
          cases hu : unhexV w3 with
          | none =>
            refine goh (And.intro hcut (And.intro hsp2 (And.intro hsz2 (And.intro mf (And.intro mg (And.intro m2' (And.intro m3 (And.intro ma' (And.intro hf (And.intro hg (And.intro hi (And.intro hu (And.intro cd (And.intro nt nf)))))))))))))) ?_
            refine W_cnd ?_ ?_ <;> intro hlit <;> try (cases hlit; done)
            refine goh (And.intro ma' (And.intro hf (And.intro hg (And.intro hi (And.intro hu (And.intro cd (And.intro nt nf))))))) ?_
            refine W_cnd ?_ ?_ <;> intro hlit <;> try (cases hlit; done)
            refine goh (And.intro hf (And.intro hg (And.intro hi (And.intro hu (And.intro cd (And.intro nt nf)))))) ?_
            exact finh [] e
          | some b =>
            refine goh (And.intro hcut (And.intro hsp2 (And.intro hsz2 (And.intro mf (And.intro mg (And.intro m2' (And.intro m3 (And.intro ma' (And.intro hf (And.intro hg (And.intro hi (And.intro hu (And.intro cd (And.intro nt nf)))))))))))))) ?_
            refine W_cnd ?_ ?_ <;> intro hlit <;> try (cases hlit; done)
            refine goh (And.intro ma' (And.intro hf (And.intro hg (And.intro hi (And.intro hu (And.intro cd (And.intro nt nf))))))) ?_
            refine W_cnd ?_ ?_ <;> intro hlit <;> try (cases hlit; done)
            refine goh (And.intro hf (And.intro hg (And.intro hi (And.intro hu (And.intro cd (And.intro nt nf)))))) ?_
            exact finh [] e
      case some.some.some x y i =>
        have nx := (atoiV_in hf).1
        have ny := (atoiV_in hg).1
        have ni := (atoiV_in hi).1
        by_cases hd : w3 = ⟨#[45]⟩
        · have cd : same w3 ⟨#[45]⟩ = true := same_true.2 hd
          have hu : unhexV w3 = none := by rw [hd]; rfl
          have hR : ∀ r', logP t = some r' → r' = ⟨x, y, ⟨3, a, ⟨#[]⟩, i, ⟨#[]⟩⟩⟩ := fun r' h => by
            obtain ⟨k1, k2, k3, k4, k5⟩ := hI r' h
            have k1 := Option.some.inj (hf.symm.trans k1)
            have k2 := Option.some.inj (hg.symm.trans k2)
            have k3 := Option.some.inj (hi.symm.trans k3)
            have k4 : r'.op.text = ⟨#[]⟩ := by
              rcases k4 with ⟨-, k4⟩ | ⟨k4, -⟩
              · exact k4
              · exact absurd hd k4
            rw [k5, ← k1, ← k2, ← k3, k4]
          cases hs : same (logT ⟨x, y, ⟨3, a, ⟨#[]⟩, i, ⟨#[]⟩⟩⟩) t with
          | false =>
            have e := logP_fail hR (same_false.1 hs)
            refine goh (And.intro hcut (And.intro hsp2 (And.intro hsz2 (And.intro mf (And.intro mg (And.intro m2' (And.intro m3 (And.intro ma' (And.intro hf (And.intro hg (And.intro hi (And.intro nx (And.intro ny (And.intro ni (And.intro hu (And.intro cd (And.intro hs (And.intro nt nf)))))))))))))))))) ?_
            refine W_cnd ?_ ?_ <;> intro hlit <;> try (cases hlit; done)
            refine goh (And.intro ma' (And.intro hf (And.intro hg (And.intro hi (And.intro nx (And.intro ny (And.intro ni (And.intro hu (And.intro cd (And.intro hs (And.intro nt nf))))))))))) ?_
            refine W_cnd ?_ ?_ <;> intro hlit <;> try (cases hlit; done)
            refine goh (And.intro hf (And.intro hg (And.intro hi (And.intro nx (And.intro ny (And.intro ni (And.intro hu (And.intro cd (And.intro hs (And.intro nt nf)))))))))) ?_
            exact finh [] e
          | true =>
            have e := hC _ (same_true.1 hs)
            refine goh (And.intro hcut (And.intro hsp2 (And.intro hsz2 (And.intro mf (And.intro mg (And.intro m2' (And.intro m3 (And.intro ma' (And.intro hf (And.intro hg (And.intro hi (And.intro nx (And.intro ny (And.intro ni (And.intro hu (And.intro cd (And.intro hs (And.intro nt nf)))))))))))))))))) ?_
            refine W_cnd ?_ ?_ <;> intro hlit <;> try (cases hlit; done)
            refine goh (And.intro ma' (And.intro hf (And.intro hg (And.intro hi (And.intro nx (And.intro ny (And.intro ni (And.intro hu (And.intro cd (And.intro hs (And.intro nt nf))))))))))) ?_
            refine W_cnd ?_ ?_ <;> intro hlit <;> try (cases hlit; done)
            refine goh (And.intro hf (And.intro hg (And.intro hi (And.intro nx (And.intro ny (And.intro ni (And.intro hu (And.intro cd (And.intro hs (And.intro nt nf)))))))))) ?_
            exact finh [] e
        · have cd : same w3 ⟨#[45]⟩ = false := same_false.2 hd
          cases hu : unhexV w3 with
          | none =>
            have e : logP t = none := logP_bad fun r h => (hI r h).2.2.2.1.elim (fun k => hd k.1) (fun k => by rw [hu] at k; cases k.2)
            refine goh (And.intro hcut (And.intro hsp2 (And.intro hsz2 (And.intro mf (And.intro mg (And.intro m2' (And.intro m3 (And.intro ma' (And.intro hf (And.intro hg (And.intro hi (And.intro nx (And.intro ny (And.intro ni (And.intro hu (And.intro cd (And.intro nt nf))))))))))))))))) ?_
            refine W_cnd ?_ ?_ <;> intro hlit <;> try (cases hlit; done)
            refine goh (And.intro ma' (And.intro hf (And.intro hg (And.intro hi (And.intro nx (And.intro ny (And.intro ni (And.intro hu (And.intro cd (And.intro nt nf)))))))))) ?_
            refine W_cnd ?_ ?_ <;> intro hlit <;> try (cases hlit; done)
            refine goh (And.intro hf (And.intro hg (And.intro hi (And.intro nx (And.intro ny (And.intro ni (And.intro hu (And.intro cd (And.intro nt nf))))))))) ?_
            exact finh [] e
          | some b =>
            have hR : ∀ r', logP t = some r' → r' = ⟨x, y, ⟨3, a, ⟨#[]⟩, i, b⟩⟩ := fun r' h => by
              obtain ⟨k1, k2, k3, k4, k5⟩ := hI r' h
              have k1 := Option.some.inj (hf.symm.trans k1)
              have k2 := Option.some.inj (hg.symm.trans k2)
              have k3 := Option.some.inj (hi.symm.trans k3)
              have k4 : r'.op.text = b := by
                rcases k4 with ⟨k4, -⟩ | ⟨-, k4⟩
                · exact absurd k4 hd
                · exact (Option.some.inj (hu.symm.trans k4)).symm
              rw [k5, ← k1, ← k2, ← k3, k4]
            cases hs : same (logT ⟨x, y, ⟨3, a, ⟨#[]⟩, i, b⟩⟩) t with
            | false =>
              have e := logP_fail hR (same_false.1 hs)
              refine goh (And.intro hcut (And.intro hsp2 (And.intro hsz2 (And.intro mf (And.intro mg (And.intro m2' (And.intro m3 (And.intro ma' (And.intro hf (And.intro hg (And.intro hi (And.intro nx (And.intro ny (And.intro ni (And.intro hu (And.intro cd (And.intro hs (And.intro nt nf)))))))))))))))))) ?_
              refine W_cnd ?_ ?_ <;> intro hlit <;> try (cases hlit; done)
              refine goh (And.intro ma' (And.intro hf (And.intro hg (And.intro hi (And.intro nx (And.intro ny (And.intro ni (And.intro hu (And.intro cd (And.intro hs (And.intro nt nf))))))))))) ?_
              refine W_cnd ?_ ?_ <;> intro hlit <;> try (cases hlit; done)
              refine goh (And.intro hf (And.intro hg (And.intro hi (And.intro nx (And.intro ny (And.intro ni (And.intro hu (And.intro cd (And.intro hs (And.intro nt nf)))))))))) ?_
              exact finh [] e
            | true =>
              have e := hC _ (same_true.1 hs)
              refine goh (And.intro hcut (And.intro hsp2 (And.intro hsz2 (And.intro mf (And.intro mg (And.intro m2' (And.intro m3 (And.intro ma' (And.intro hf (And.intro hg (And.intro hi (And.intro nx (And.intro ny (And.intro ni (And.intro hu (And.intro cd (And.intro hs (And.intro nt nf)))))))))))))))))) ?_
              refine W_cnd ?_ ?_ <;> intro hlit <;> try (cases hlit; done)
              refine goh (And.intro ma' (And.intro hf (And.intro hg (And.intro hi (And.intro nx (And.intro ny (And.intro ni (And.intro hu (And.intro cd (And.intro hs (And.intro nt nf))))))))))) ?_
              refine W_cnd ?_ ?_ <;> intro hlit <;> try (cases hlit; done)
              refine goh (And.intro hf (And.intro hg (And.intro hi (And.intro nx (And.intro ny (And.intro ni (And.intro hu (And.intro cd (And.intro hs (And.intro nt nf)))))))))) ?_
              exact finh [] e
  · simp [no, ifp] at hp
theorem s_specLogRead_e : EnterOk Tryz.prog 61 := ⟨_, Tryz.func61, rfl, by decide⟩
@[go_sem] def s_specLogRead_lv : List (List Nat) := [[0, 2], [0, 2, 4, 5], [0, 2, 5, 6], [0, 2, 6, 28], [2, 3], [0, 2, 6, 7], [0, 2, 6, 7, 36], [2, 3], [0, 2, 6, 7, 8], [0, 2, 6, 8, 10], [0, 2, 6, 8, 10, 12], [0, 2, 6, 14], [0, 2, 6, 14, 70], [0, 2, 14], [2, 14, 83], [2, 3], [2, 3]]
@[go_sem] noncomputable def s_specLogRead_K : Known := (((((Known.nil).cons 135 ctSpecOpenS s_specSumOpen s_specSumOpen_e).cons 136 ctCutB s_cutB s_cutB_e).cons 137 ctNumS2 s_numS2 s_numS2_e).cons 138 ctUnhex2 s_specUnhex2 s_specUnhex2_e).cons 59 ctLogText s_specLogText s_specLogText_e
set_option maxHeartbeats 8000000 in
theorem s_specLogRead : Sound Tryz.prog 61 ctLogRead := by
  have ke := s_specLogRead_K.env []
  have kl : Lives s_specLogRead_lv := trivial
  refine sound_intro (E := ⟨ti, s_specLogRead_K.Γ, []⟩) ke Tryz.func61 Tryz.ntmps61 rfl (rs := [.cell 2 98, .tmp 3]) rfl ?_
  intro args os hp
  unfold ctLogRead at hp ⊢
  dsimp only at hp ⊢
  split at hp
  · rename_i t
    refine ⟨by simp, fun φ0 w0 => ?_⟩
    have hlen : t.size ≤ 1000000 := hp
    have nt : (!true) = false := rfl
    have nf : (!false) = true := rfl
    have hsp : (⟨#[32]⟩ : ByteArray).data.getD 0 0 = 32 := rfl
    have hsz : (⟨#[32]⟩ : ByteArray).size = 1 := rfl
    have hsp2 : (⟨#[46]⟩ : ByteArray).data.getD 0 0 = 46 := rfl
    have hsz2 : (⟨#[46]⟩ : ByteArray).size = 1 := rfl
    have h32 : UInt8.ofNat 32 = 32 := rfl
    have h46 : UInt8.ofNat 46 = 46 := rfl
    have hos := openV_size t
    have hcl := @logP_closed t
    have hwd := @logP_words t
    have hck := fun w0 a w2 w3 w4 => @logP_check t w0 a w2 w3 w4
    have him := fun w0 a w2 w3 w4 => @logP_spec t w0 a w2 w3 w4
    obtain ⟨⟨inner, ok⟩, hin⟩ : ∃ x, openV t = x := ⟨_, rfl⟩
    rw [hin] at hos hcl hwd hck him
    simp only at hos hcl hwd hck him
    have hwl := splitV_len 32 inner
    have hms : ∀ w ∈ splitV 32 inner, w.size ≤ 1000000 := fun w hw => Nat.le_trans (splitV_size hw) (by omega)
    obtain ⟨ws, hws⟩ : ∃ ws, splitV 32 inner = ws := ⟨_, rfl⟩
    rw [hws] at hms hwl hwd hck him
    cases ok with
    | false =>
      have e := hcl rfl
      refine goh (And.intro h32 (And.intro hin (And.intro hws nf))) ?_
      refine W_cnd ?_ ?_ <;> intro hlit <;> try (cases hlit; done)
      refine goh trivial ?_
      exact finh [] e
    | true =>
    by_cases h3' : ws.length = 5
    rotate_left
    · have e := hwd h3'
      have c5 : ((ws.length : Int) != 5) = true := by simp; omega
      refine goh (And.intro h32 (And.intro hin (And.intro hws (And.intro nt c5)))) ?_
      refine W_cnd ?_ ?_ <;> intro hlit <;> try (cases hlit; done)
      refine goh trivial ?_
      exact finh [] e
    · have c5 : ((ws.length : Int) != 5) = false := by simp [h3']
      match ws, h3' with
      | [w0, a, w2, w3, w4], _ =>
      have m0 := hms w0 (by simp)
      have ma := hms a (by simp)
      have m2 := hms w2 (by simp)
      have m3 := hms w3 (by simp)
      have ma' : a.size ≤ 9223372036854775807 := by omega
      have m2' : w2.size ≤ 281474976710656 := by omega
      have hI := fun r h => him w0 a w2 w3 w4 rfl (r := r) h
      have hC := fun r h => hck w0 a w2 w3 w4 rfl (r := r) h
      have hsl := fun w hw => @splitV_size 46 w0 w hw
      have hml := splitV_len 46 w0
      obtain ⟨ms, hm⟩ : ∃ x, splitV 46 w0 = x := ⟨_, rfl⟩
      rw [hm] at hI hsl hml
      clear him hck hwd hcl
      by_cases h2' : ms.length = 2
      rotate_left
      · have e : logP t = none := logP_bad fun r h => by have h2 := (hI r h).1; rw [h2] at h2'; exact h2' rfl
        have c2 : ((ms.length : Int) != 2) = true := by simp; omega
        refine goh (And.intro h32 (And.intro hin (And.intro hws (And.intro nt c5)))) ?_
        refine W_cnd ?_ ?_ <;> intro hlit <;> try (cases hlit; done)
        refine goh (And.intro h46 (And.intro hm (And.intro c2 m0))) ?_
        refine W_cnd ?_ ?_ <;> intro hlit <;> try (cases hlit; done)
        refine goh trivial ?_
        exact finh [] e
      · have c2 : ((ms.length : Int) != 2) = false := by simp [h2']
        match ms, h2' with
        | [f, g], _ =>
        have mf : f.size ≤ 1000000 := Nat.le_trans (hsl f (by simp)) m0
        have mg : g.size ≤ 1000000 := Nat.le_trans (hsl g (by simp)) m0
        obtain ⟨x, hx⟩ : ∃ x, (numV f).getD 0 = x := ⟨_, rfl⟩
        obtain ⟨y, hy⟩ : ∃ x, (numV g).getD 0 = x := ⟨_, rfl⟩
        obtain ⟨i, hi⟩ : ∃ x, (numV w2).getD 0 = x := ⟨_, rfl⟩
        obtain ⟨b, hb⟩ : ∃ x, (unhexV w3).getD ⟨#[]⟩ = x := ⟨_, rfl⟩
        have hR : ∀ b', (w3 = ⟨#[45]⟩ → b' = ⟨#[]⟩) → (w3 ≠ ⟨#[45]⟩ → b' = b) → ∀ r', logP t = some r' → r' = ⟨x, y, ⟨3, a, ⟨#[]⟩, i, b'⟩⟩ := fun b' hb1 hb2 r' h => by
          obtain ⟨k0, k1, k2, k3, k4, k5⟩ := hI r' h
          simp only [List.cons.injEq, and_true] at k0
          rw [← k0.1] at k1
          rw [← k0.2] at k2
          rw [k1] at hx
          rw [k2] at hy
          rw [k3] at hi
          have k4 : r'.op.text = b' := by
            rcases k4 with ⟨k, k4⟩ | ⟨k, k4⟩
            · rw [k4, hb1 k]
            · rw [k4] at hb
              rw [hb2 k, ← hb]; rfl
          rw [k5, k4, ← hx, ← hy, ← hi]; rfl
        by_cases hd : w3 = ⟨#[45]⟩
        · have cd : same w3 ⟨#[45]⟩ = true := same_true.2 hd
          have hR2 := hR ⟨#[]⟩ (fun _ => rfl) (fun h => absurd hd h)
          cases hs : same (logT ⟨x, y, ⟨3, a, ⟨#[]⟩, i, ⟨#[]⟩⟩⟩) t with
          | false =>
            have e := logP_fail hR2 (same_false.1 hs)
            refine goh (And.intro h32 (And.intro hin (And.intro hws (And.intro nt c5)))) ?_
            refine W_cnd ?_ ?_ <;> intro hlit <;> try (cases hlit; done)
            refine goh (And.intro h46 (And.intro hm (And.intro c2 m0))) ?_
            refine W_cnd ?_ ?_ <;> intro hlit <;> try (cases hlit; done)
            refine goh (And.intro mf (And.intro mg (And.intro m2 (And.intro m3 (And.intro hx (And.intro hy (And.intro hi (And.intro hb (And.intro cd (And.intro nt nf)))))))))) ?_
            refine W_cnd ?_ ?_ <;> intro hlit <;> try (cases hlit; done)
            refine goh (And.intro ma' (And.intro m3 (And.intro hb (And.intro hs (And.intro nt nf))))) ?_
            refine W_cnd ?_ ?_ <;> intro hlit <;> try (cases hlit; done)
            refine goh trivial ?_
            exact finh [] e
          | true =>
            have e := hC _ (same_true.1 hs)
            refine goh (And.intro h32 (And.intro hin (And.intro hws (And.intro nt c5)))) ?_
            refine W_cnd ?_ ?_ <;> intro hlit <;> try (cases hlit; done)
            refine goh (And.intro h46 (And.intro hm (And.intro c2 m0))) ?_
            refine W_cnd ?_ ?_ <;> intro hlit <;> try (cases hlit; done)
            refine goh (And.intro mf (And.intro mg (And.intro m2 (And.intro m3 (And.intro hx (And.intro hy (And.intro hi (And.intro hb (And.intro cd (And.intro nt nf)))))))))) ?_
            refine W_cnd ?_ ?_ <;> intro hlit <;> try (cases hlit; done)
            refine goh (And.intro ma' (And.intro m3 (And.intro hb (And.intro hs (And.intro nt nf))))) ?_
            refine W_cnd ?_ ?_ <;> intro hlit <;> try (cases hlit; done)
            refine goh trivial ?_
            exact finh [] e
        · have cd : same w3 ⟨#[45]⟩ = false := same_false.2 hd
          have hR2 := hR b (fun h => absurd h hd) (fun _ => rfl)
          cases hs : same (logT ⟨x, y, ⟨3, a, ⟨#[]⟩, i, b⟩⟩) t with
          | false =>
            have e := logP_fail hR2 (same_false.1 hs)
            refine goh (And.intro h32 (And.intro hin (And.intro hws (And.intro nt c5)))) ?_
            refine W_cnd ?_ ?_ <;> intro hlit <;> try (cases hlit; done)
            refine goh (And.intro h46 (And.intro hm (And.intro c2 m0))) ?_
            refine W_cnd ?_ ?_ <;> intro hlit <;> try (cases hlit; done)
            refine goh (And.intro mf (And.intro mg (And.intro m2 (And.intro m3 (And.intro hx (And.intro hy (And.intro hi (And.intro hb (And.intro cd (And.intro nt nf)))))))))) ?_
            refine W_cnd ?_ ?_ <;> intro hlit <;> try (cases hlit; done)
            refine goh (And.intro ma' (And.intro m3 (And.intro hb (And.intro hs (And.intro nt nf))))) ?_
            refine W_cnd ?_ ?_ <;> intro hlit <;> try (cases hlit; done)
            refine goh trivial ?_
            exact finh [] e
          | true =>
            have e := hC _ (same_true.1 hs)
            refine goh (And.intro h32 (And.intro hin (And.intro hws (And.intro nt c5)))) ?_
            refine W_cnd ?_ ?_ <;> intro hlit <;> try (cases hlit; done)
            refine goh (And.intro h46 (And.intro hm (And.intro c2 m0))) ?_
            refine W_cnd ?_ ?_ <;> intro hlit <;> try (cases hlit; done)
            refine goh (And.intro mf (And.intro mg (And.intro m2 (And.intro m3 (And.intro hx (And.intro hy (And.intro hi (And.intro hb (And.intro cd (And.intro nt nf)))))))))) ?_
            refine W_cnd ?_ ?_ <;> intro hlit <;> try (cases hlit; done)
            refine goh (And.intro ma' (And.intro m3 (And.intro hb (And.intro hs (And.intro nt nf))))) ?_
            refine W_cnd ?_ ?_ <;> intro hlit <;> try (cases hlit; done)
            refine goh trivial ?_
            exact finh [] e
  · simp [no, ifp] at hp
end Go.Proofs.YtjedcphhajlnoaaGreatDoor
/- Functions: a call that is drawn. -/
namespace Go.Proofs.YtjedcphhajlnoaaGreatDoor
open Go.RowKit

/-- Two ways meet in one state. -/
theorem W_join {P : Program} {B : Beg} {σ : Sg} {Q : Exit → Sg → Prop} {x y : Code} (J : Sg) (hy : W P B y J Q) (h : ∀ Y : Sg → Prop, (∀ {σ' : Sg} (π : List (Option Nat)), leS B.m π σ' J → Y σ') → W P B x σ (thenG Y Q)) :
    W P B x σ (thenG (fun σ' => W P B y σ' Q) Q) := h _ fun π hle => W_le π hle hy
@[go_sem] def ctCopyB : Ct := ⟨false, [[some .bset]], fun args os => match args, os with
  | [.agg [.isl .bset xs]], [] => ⟨xs.length ≤ 1000, .agg [.osl .bset 0 0 xs.length], [], [.arr .bset xs]⟩
  | _, _ => no⟩
def names8 : List ByteArray := [⟨#[97]⟩, ⟨#[98]⟩, ⟨#[99]⟩, ⟨#[100]⟩, ⟨#[101]⟩, ⟨#[102]⟩, ⟨#[103]⟩, ⟨#[118, 111, 108]⟩]
@[go_sem] def ctNm : Ct := ⟨true, [], fun args os => match args, os with
  | [.one (.ptr 0 0)], [.cells [.isl .byte bs, .val (.int .i64 p)]] => ⟨0 ≤ p ∧ p ≤ 1000000 ∧ bs.length ≤ 2000, vs (ET.str.at names8 (pickV bs p 8).toNat), [(0, some (rdO bs (p + 1)))], []⟩
  | _, _ => no⟩
theorem s_nm_e : EnterOk Tryz.prog 199 := ⟨_, Tryz.func199, rfl, by decide⟩
@[go_sem] def s_nm_lv : List (List Nat) := [[0], [2]]
@[go_sem] noncomputable def s_nm_K : Known := (Known.nil).cons 174 ctOf s_of s_of_e
set_option maxHeartbeats 8000000 in
theorem s_nm : Sound Tryz.prog 199 ctNm := by
  have ke := s_nm_K.env []
  have kl : Lives s_nm_lv := trivial
  refine sound_intro (E := ⟨ti, s_nm_K.Γ, []⟩) ke Tryz.func199 Tryz.ntmps199 rfl (rs := [.tmp 2]) rfl ?_
  intro args os hp
  unfold ctNm at hp ⊢
  dsimp only at hp ⊢
  split at hp
  · rename_i bs p
    refine ⟨by simp, fun φ0 w0 => ?_⟩
    obtain ⟨h1, h2, h3⟩ : 0 ≤ p ∧ p ≤ 1000000 ∧ bs.length ≤ 2000 := hp
    have hn : names8 = [⟨#[97]⟩, ⟨#[98]⟩, ⟨#[99]⟩, ⟨#[100]⟩, ⟨#[101]⟩, ⟨#[102]⟩, ⟨#[103]⟩, ⟨#[118, 111, 108]⟩] := rfl
    refine goh trivial ?_
    exact finh [some 0] hn
  · simp [no] at hp
/-- Places of the reader counted on. -/
theorem more1 : (∀ p : Int, p + 1 + 1 = p + 2) ∧ (∀ p : Int, p + 2 + 1 = p + 3) ∧ (∀ p : Int, p + 3 + 1 = p + 4) ∧ (∀ p : Int, p + 4 + 1 = p + 5) ∧ (∀ p : Int, p + 5 + 1 = p + 6) ∧ (∀ p : Int, p + 6 + 1 = p + 7) ∧ (∀ p : Int, p + 7 + 1 = p + 8) := by
  refine ⟨?_, ?_, ?_, ?_, ?_, ?_, ?_⟩ <;> intro p <;> omega
def opKs : List Int := [1, 1, 2, 3, 3, 3, 3, 3, 3, 3, 4, 4, 5, 6]
def opTs : List ByteArray := [⟨#[120]⟩, ⟨#[121]⟩, ⟨#[122, 122]⟩, ⟨#[111, 110, 101]⟩, ⟨#[97, 122, 122]⟩, ⟨#[98, 120, 108]⟩, ⟨#[]⟩, ⟨#[120]⟩, ⟨#[97, 32, 98]⟩, ⟨#[49, 50, 51, 52, 53, 54, 55, 56, 57, 48, 49, 50, 51, 52, 53, 54, 55, 56, 57, 48]⟩]
def op0 (bs : List UInt8) (p : Int) : BOp := ⟨ET.int.at opKs (pickV bs p 14).toNat, ET.str.at names8 (pickV bs (p + 1) 8).toNat, ET.str.at names8 (pickV bs (p + 2) 8).toNat, pickV bs (p + 3) 8, ET.str.at opTs (pickV bs (p + 4) 10).toNat⟩
@[go_sem] def sgOq (bs : List UInt8) (xs : List BSet) (q : Int) (o : BOp) : Sg := ⟨[(0, .one (.ptr 0 0)), (3, .one (.ptr 2 0)), (4, .one (.ptr 3 0)), (5, .one (.ptr 4 0))],
  [some (rdO bs q), some (.arr .bset xs), some (.cells [.osl .bset 1 0 xs.length]), some (.cells [.val (.int .i64 0), .val (.string ⟨#[]⟩), .val (.string ⟨#[]⟩), .val (.int .i64 0), .val (.string ⟨#[]⟩)]), some (.cells ((ET.bop.cells o).map .val))], [0]⟩
def lettersV (bs : List UInt8) (p q : Int) : ByteArray := ⟨#[UInt8.ofNat (IntKind.u8.wrap (IntKind.i64.wrap (65 + pickV bs p 26))).toNat, UInt8.ofNat (IntKind.u8.wrap (IntKind.i64.wrap (48 + pickV bs q 10))).toNat]⟩
def op1 (bs : List UInt8) (p : Int) : BOp × Int :=
  if pickV bs (p + 5) 3 = 0 then (⟨(op0 bs p).kind, (op0 bs p).a, (op0 bs p).b, (op0 bs p).i, lettersV bs (p + 6) (p + 7)⟩, p + 8) else (op0 bs p, p + 6)
def op2 (bs : List UInt8) (xs : List BSet) (r : BOp × Int) : BOp × Int :=
  if 0 < xs.length ∧ ¬ r.1.kind = 1 then
    (if 0 < pickV bs r.2 5 then (⟨r.1.kind, (xs.getD (pickV bs (r.2 + 1) xs.length).toNat ET.bset.dflt).name, r.1.b, r.1.i, r.1.text⟩, r.2 + 2) else (r.1, r.2 + 1)) else r
@[go_sem] def sgO2 (bs : List UInt8) (xs : List BSet) (q : Int) (o : BOp) : Sg := ⟨[(0, .one (.ptr 0 0)), (4, .one (.ptr 3 0)), (5, .one (.ptr 4 0))],
  [some (rdO bs q), some (.arr .bset xs), some (.cells [.osl .bset 1 0 xs.length]), some (.cells [.val (.int .i64 0), .val (.string ⟨#[]⟩), .val (.string ⟨#[]⟩), .val (.int .i64 0), .val (.string ⟨#[]⟩)]), some (.cells ((ET.bop.cells o).map .val))], [0]⟩
def op3 (bs : List UInt8) (xs : List BSet) (r : BOp × Int) : BOp × Int :=
  if r.1.kind = 6 ∧ 0 < xs.length then
    (if 0 < pickV bs r.2 4 then (⟨r.1.kind, (xs.getD (pickV bs (r.2 + 1) xs.length).toNat ET.bset.dflt).from_, (xs.getD (pickV bs (r.2 + 1) xs.length).toNat ET.bset.dflt).name, r.1.i, r.1.text⟩, r.2 + 2) else (r.1, r.2 + 1)) else r
def op4 (bs : List UInt8) (r : BOp × Int) : BOp × Int :=
  if pickV bs r.2 30 = 0 then (⟨ET.int.at [0, 7, -1] (pickV bs (r.2 + 1) 3).toNat, r.1.a, r.1.b, r.1.i, r.1.text⟩, r.2 + 2)
  else if pickV bs r.2 30 = 1 then (⟨r.1.kind, r.1.a, r.1.b, ET.int.at [-1, 8] (pickV bs (r.2 + 1) 2).toNat, r.1.text⟩, r.2 + 2)
  else if pickV bs r.2 30 = 2 then (⟨r.1.kind, r.1.a, r.1.b, r.1.i, many ⟨#[120]⟩ (24 + pickV bs (r.2 + 1) 2).toNat⟩, r.2 + 2)
  else if pickV bs r.2 30 = 3 then (⟨r.1.kind, ET.str.at [⟨#[]⟩, ⟨#[65]⟩, ⟨#[97, 98, 99, 100, 101, 102, 103]⟩] (pickV bs (r.2 + 1) 3).toNat, r.1.b, r.1.i, r.1.text⟩, r.2 + 2)
  else if pickV bs r.2 30 = 4 then (⟨r.1.kind, r.1.a, ET.str.at [⟨#[]⟩, ⟨#[66]⟩, ⟨#[97, 98, 99, 100, 101, 102, 103]⟩] (pickV bs (r.2 + 1) 3).toNat, r.1.i, r.1.text⟩, r.2 + 2)
  else (r.1, r.2 + 1)
/-- The call that is drawn, and where the reader goes on. -/
def opV (bs : List UInt8) (xs : List BSet) (p : Int) : BOp × Int := op4 bs (op3 bs xs (op2 bs xs (op1 bs p)))
@[go_sem] def ctOp : Ct := ⟨true, [], fun args os => match args, os with
  | [.one (.ptr 0 0), .agg [.osl .bset 1 0 n]], [.cells [.isl .byte bs, .val (.int .i64 p)], .arr .bset xs] => ⟨rdOk bs p ∧ n = xs.length ∧ xs.length ≤ 100, .agg ((ET.bop.cells (opV bs xs p).1).map .val), [(0, some (rdO bs (opV bs xs p).2))], []⟩
  | _, _ => no⟩
end Go.Proofs.YtjedcphhajlnoaaGreatDoor
/- Functions: records and texts that are drawn. -/
namespace Go.Proofs.YtjedcphhajlnoaaGreatDoor
open Go.RowKit

def LRec.tv (r : LRec) : TV := .agg [.val (.int .i64 r.txg), .val (.int .i64 r.seq), .val (.int .i64 r.op.kind), .val (.string r.op.a), .val (.string r.op.b), .val (.int .i64 r.op.i), .val (.string r.op.text)]
attribute [go_sem] LRec.tv
def rec0 (bs : List UInt8) (p : Int) : LRec := ⟨1 + pickV bs p 9, pickV bs (p + 1) 8, ⟨3, ET.str.at names8 (pickV bs (p + 2) 8).toNat, ⟨#[]⟩, pickV bs (p + 3) 8, textV bs (p + 4)⟩⟩
def recW (bs : List UInt8) (r : LRec) (q : Int) : LRec × Int :=
  if pickV bs q 28 = 0 then (⟨ET.int.at [0, -1, 1000000, 1000001] (pickV bs (q + 1) 4).toNat, r.seq, r.op⟩, q + 2)
  else if pickV bs q 28 = 1 then (⟨r.txg, ET.int.at [-1, 8] (pickV bs (q + 1) 2).toNat, r.op⟩, q + 2)
  else if pickV bs q 28 = 2 then (⟨r.txg, r.seq, ⟨ET.int.at [1, 0] (pickV bs (q + 1) 2).toNat, r.op.a, r.op.b, r.op.i, r.op.text⟩⟩, q + 2)
  else if pickV bs q 28 = 3 then (⟨r.txg, r.seq, ⟨r.op.kind, ET.str.at [⟨#[]⟩, ⟨#[65]⟩, ⟨#[97, 32, 98]⟩] (pickV bs (q + 1) 3).toNat, r.op.b, r.op.i, r.op.text⟩⟩, q + 2)
  else if pickV bs q 28 = 4 then (⟨r.txg, r.seq, ⟨r.op.kind, r.op.a, r.op.b, ET.int.at [-1, 8] (pickV bs (q + 1) 2).toNat, r.op.text⟩⟩, q + 2)
  else if pickV bs q 28 = 5 then (⟨r.txg, r.seq, ⟨r.op.kind, r.op.a, r.op.b, r.op.i, many ⟨#[122]⟩ (24 + pickV bs (q + 1) 2).toNat⟩⟩, q + 2)
  else if pickV bs q 28 = 6 then (⟨r.txg, r.seq, ⟨r.op.kind, r.op.a, ⟨#[98]⟩, r.op.i, r.op.text⟩⟩, q + 1)
  else (r, q + 1)
/-- A record that is drawn, and where the reader goes on. -/
def recD (bs : List UInt8) (p : Int) : LRec × Int := recW bs (rec0 bs p) (textP bs (p + 4))
@[go_sem] def ctRecD : Ct := ⟨true, [], fun args os => match args, os with
  | [.one (.ptr 0 0)], [.cells [.isl .byte bs, .val (.int .i64 p)]] => ⟨0 ≤ p ∧ p ≤ 1000 ∧ bs.length ≤ 2000, (recD bs p).1.tv, [(0, some (rdO bs (recD bs p).2))], []⟩
  | _, _ => no⟩
theorem s_recD_e : EnterOk Tryz.prog 126 := ⟨_, Tryz.func126, rfl, by decide⟩
@[go_sem] def s_recD_lv : List (List Nat) := [[0, 2], [0, 2, 3], [0, 2, 3, 18], [0, 2, 3, 18, 19], [2, 3], [0, 2, 3, 18, 25], [2, 3], [0, 2, 3, 18, 31], [2, 3], [0, 2, 3, 18, 38], [2, 3], [0, 2, 3, 18, 45], [2, 3], [0, 2, 3, 18, 52], [2, 3], [2, 3, 60], [2, 3], [2]]
@[go_sem] noncomputable def s_recD_K : Known := ((((((Known.nil).cons 170 ctPick s_pick s_pick_e).cons 199 ctNm s_nm s_nm_e).cons 175 ctText s_text s_text_e).cons 97 ctNum s_num s_num_e).cons 174 ctOf s_of s_of_e).cons 200 ctMany s_many s_many_e
set_option maxHeartbeats 8000000 in
theorem s_recD : Sound Tryz.prog 126 ctRecD := by
  have ke := s_recD_K.env []
  have kl : Lives s_recD_lv := trivial
  refine sound_intro (E := ⟨ti, s_recD_K.Γ, []⟩) ke Tryz.func126 Tryz.ntmps126 rfl (rs := [.cell 2 98]) rfl ?_
  intro args os hp
  unfold ctRecD at hp ⊢
  dsimp only at hp ⊢
  split at hp
  · rename_i bs p
    obtain ⟨h1, h2, h3⟩ : 0 ≤ p ∧ p ≤ 1000 ∧ bs.length ≤ 2000 := hp
    refine ⟨by simp, fun φ0 w0 => ?_⟩
    have g1 : p + 1 + 1 = p + 2 := by omega
    have g2 : p + 2 + 1 = p + 3 := by omega
    have g3 : p + 3 + 1 = p + 4 := by omega
    have v1 := pickV_in bs p 9 (by omega) (by omega) (by omega)
    have v2 := pickV_in bs (p + 1) 8 (by omega) (by omega) (by omega)
    have v3 := pickV_in bs (p + 3) 8 (by omega) (by omega) (by omega)
    have w1 : IntKind.i64.wrap (1 + pickV bs p 9) = 1 + pickV bs p 9 := wrap_id _ (by omega) (by omega)
    have hr : rdOk bs (p + 4) := ⟨by omega, by omega, h3⟩
    have hq := textP_in bs (p + 4) hr
    obtain ⟨q, hqe⟩ : ∃ q, textP bs (p + 4) = q := ⟨_, rfl⟩
    obtain ⟨t, hte⟩ : ∃ t, textV bs (p + 4) = t := ⟨_, rfl⟩
    rw [hqe] at hq
    have u2 := pickV_in bs (q + 1) 2 (by omega) (by omega) (by omega)
    have g5 : q + 1 + 1 = q + 2 := by omega
    have w2 : IntKind.i64.wrap (24 + pickV bs (q + 1) 2) = 24 + pickV bs (q + 1) 2 := wrap_id _ (by omega) (by omega)
    obtain ⟨x, hx⟩ : ∃ x, 1 + pickV bs p 9 = x := ⟨_, rfl⟩
    obtain ⟨y, hy⟩ : ∃ x, pickV bs (p + 1) 8 = x := ⟨_, rfl⟩
    obtain ⟨i, hi⟩ : ∃ x, pickV bs (p + 3) 8 = x := ⟨_, rfl⟩
    obtain ⟨a, ha⟩ : ∃ x, ET.str.at names8 (pickV bs (p + 2) 8).toNat = x := ⟨_, rfl⟩
    have e0 : recD bs p = recW bs ⟨x, y, ⟨3, a, ⟨#[]⟩, i, t⟩⟩ q := by unfold recD rec0; rw [hqe, hte, hx, hy, hi, ha]
    have ha2 := ha
    unfold ET.at names8 at ha2
    rw [hx] at w1
    refine goh (And.intro g1 (And.intro g2 (And.intro g3 (And.intro w1 (And.intro hr (And.intro hqe (And.intro hte (And.intro hx (And.intro hy (And.intro hi (And.intro ha ha2))))))))))) ?_
    refine W_cnd ?_ ?_ <;> (try simp only [cnd_r]) <;> intro c0
    · have e := e0.trans (by unfold recW; rw [if_pos c0])
      refine goh g5 ?_
      exact finh [some 0] e
    · simp only [beq_eq_false_iff_ne, ne_eq] at c0
      refine goh trivial ?_
      refine W_cnd ?_ ?_ <;> (try simp only [cnd_r]) <;> intro c1
      · have e := e0.trans (by unfold recW; rw [if_neg c0, if_pos c1])
        refine goh g5 ?_
        exact finh [some 0] e
      · simp only [beq_eq_false_iff_ne, ne_eq] at c1
        refine goh trivial ?_
        refine W_cnd ?_ ?_ <;> (try simp only [cnd_r]) <;> intro c2
        · have e := e0.trans (by unfold recW; rw [if_neg c0, if_neg c1, if_pos c2])
          refine goh g5 ?_
          exact finh [some 0] e
        · simp only [beq_eq_false_iff_ne, ne_eq] at c2
          refine goh trivial ?_
          refine W_cnd ?_ ?_ <;> (try simp only [cnd_r]) <;> intro c3
          · have e := e0.trans (by unfold recW; rw [if_neg c0, if_neg c1, if_neg c2, if_pos c3])
            refine goh g5 ?_
            exact finh [some 0] e
          · simp only [beq_eq_false_iff_ne, ne_eq] at c3
            refine goh trivial ?_
            refine W_cnd ?_ ?_ <;> (try simp only [cnd_r]) <;> intro c4
            · have e := e0.trans (by unfold recW; rw [if_neg c0, if_neg c1, if_neg c2, if_neg c3, if_pos c4])
              refine goh g5 ?_
              exact finh [some 0] e
            · simp only [beq_eq_false_iff_ne, ne_eq] at c4
              refine goh trivial ?_
              refine W_cnd ?_ ?_ <;> (try simp only [cnd_r]) <;> intro c5
              · have e := e0.trans (by unfold recW; rw [if_neg c0, if_neg c1, if_neg c2, if_neg c3, if_neg c4, if_pos c5])
                have hz : (⟨#[122]⟩ : ByteArray).size = 1 := rfl
                refine goh (And.intro g5 (And.intro w2 hz)) ?_
                exact finh [some 0] e
              · simp only [beq_eq_false_iff_ne, ne_eq] at c5
                refine goh trivial ?_
                refine W_cnd ?_ ?_ <;> (try simp only [cnd_r]) <;> intro c6
                · have e := e0.trans (by unfold recW; rw [if_neg c0, if_neg c1, if_neg c2, if_neg c3, if_neg c4, if_neg c5, if_pos c6])
                  refine goh trivial ?_
                  exact finh [some 0] e
                · simp only [beq_eq_false_iff_ne, ne_eq] at c6
                  have e := e0.trans (by unfold recW; rw [if_neg c0, if_neg c1, if_neg c2, if_neg c3, if_neg c4, if_neg c5, if_neg c6])
                  refine goh trivial ?_
                  exact finh [some 0] e
  · simp [no] at hp
theorem recD_all (bs : List UInt8) {p : Int} (h1 : 0 ≤ p) (h2 : p ≤ 1000) (h3 : bs.length ≤ 2000) : (recD bs p).1.op.a.size ≤ 7 ∧ p ≤ (recD bs p).2 ∧ (recD bs p).2 ≤ p + 20 := by
  have hq := textP_in bs (p + 4) ⟨by omega, by omega, h3⟩
  have n1 : ∀ i, (ET.str.at [⟨#[]⟩, ⟨#[65]⟩, ⟨#[97, 32, 98]⟩] i).size ≤ 7 := at_size (by decide)
  have n2 : ∀ i, (ET.str.at names8 i).size ≤ 7 := at_size (by decide)
  unfold recD recW rec0
  repeat' split
  all_goals
    refine ⟨?_, ?_, ?_⟩
    · first | exact n1 _ | exact n2 _
    · simp only; omega
    · simp only; omega
def recV (code : List UInt8) : LRec := (recD (code.take 2000) 0).1
@[go_sem] def ctDrawRec : Ct := ⟨false, [[some .byte]], fun args os => match args, os with
  | [.one (.isl .byte code)], [] => ifp (code.length ≤ 1048576) (recV code).tv
  | _, _ => no⟩
theorem s_drawRec_e : EnterOk Tryz.prog 56 := ⟨_, Tryz.func56, rfl, by decide⟩
@[go_sem] def s_drawRec_lv : List (List Nat) := [[0, 2], [2]]
@[go_sem] noncomputable def s_drawRec_K : Known := ((Known.nil).cons 96 ctOpen s_open s_open_e).cons 126 ctRecD s_recD s_recD_e
set_option maxHeartbeats 8000000 in
theorem s_drawRec : Sound Tryz.prog 56 ctDrawRec := by
  have ke := s_drawRec_K.env []
  have kl : Lives s_drawRec_lv := trivial
  refine sound_intro (E := ⟨ti, s_drawRec_K.Γ, []⟩) ke Tryz.func56 Tryz.ntmps56 rfl (rs := [.cell 2 98]) rfl ?_
  intro args os hp
  unfold ctDrawRec at hp ⊢
  dsimp only at hp ⊢
  split at hp
  · rename_i code
    refine ⟨by simp, fun φ0 w0 => ?_⟩
    have hlen : code.length ≤ 1048576 := hp
    have hb := take2000 code
    have e : recV code = (recD (code.take 2000) 0).1 := rfl
    clear hp
    refine goh trivial ?_
    exact finh [] e
  · simp [no, ifp] at hp
def tears : List ByteArray := [⟨#[]⟩, ⟨#[48]⟩, ⟨#[45]⟩, ⟨#[32]⟩, ⟨#[46]⟩, ⟨#[10]⟩, ⟨#[49]⟩, ⟨#[97]⟩]
def tornD (bs : List UInt8) (s : ByteArray) (p : Int) : ByteArray × Int :=
  if s.size = 0 then (s, p) else if pickV bs p 2 = 0 then (s, p + 1)
  else (s.extract 0 (pickV bs (p + 1) s.size).toNat ++ ET.str.at tears (pickV bs (p + 2) 8).toNat ++ s.extract (pickV bs (p + 1) s.size + pickV bs (p + 3) 2).toNat s.size, p + 4)
@[go_sem] def ctTornD : Ct := ⟨true, [], fun args os => match args, os with
  | [.one (.ptr 0 0), .one (.val (.string s))], [.cells [.isl .byte bs, .val (.int .i64 p)]] => ⟨(0 ≤ p ∧ p ≤ 1000 ∧ bs.length ≤ 2000) ∧ s.size ≤ 1000, vs (tornD bs s p).1, [(0, some (rdO bs (tornD bs s p).2))], []⟩
  | _, _ => no⟩
theorem s_tornD_e : EnterOk Tryz.prog 134 := ⟨_, Tryz.func134, rfl, by decide⟩
@[go_sem] def s_tornD_lv : List (List Nat) := [[0, 1], [0, 1, 13], [4], [0, 1, 5], [4]]
@[go_sem] noncomputable def s_tornD_K : Known := ((Known.nil).cons 170 ctPick s_pick s_pick_e).cons 174 ctOf s_of s_of_e
set_option maxHeartbeats 8000000 in
theorem s_tornD : Sound Tryz.prog 134 ctTornD := by
  have ke := s_tornD_K.env []
  have kl : Lives s_tornD_lv := trivial
  refine sound_intro (E := ⟨ti, s_tornD_K.Γ, []⟩) ke Tryz.func134 Tryz.ntmps134 rfl (rs := [.tmp 4]) rfl ?_
  intro args os hp
  unfold ctTornD at hp ⊢
  dsimp only at hp ⊢
  split at hp
  · rename_i s bs p
    obtain ⟨⟨h1, h2, h3⟩, hs⟩ : (0 ≤ p ∧ p ≤ 1000 ∧ bs.length ≤ 2000) ∧ s.size ≤ 1000 := hp
    refine ⟨by simp, fun φ0 w0 => ?_⟩
    by_cases z : s.size = 0
    · have c0 : ((s.size : Int) == 0) = true := by simp [z]
      have e : tornD bs s p = (s, p) := by unfold tornD; rw [if_pos z]
      refine goh c0 ?_
      refine W_cnd ?_ ?_ <;> intro hlit <;> try (cases hlit; done)
      refine goh trivial ?_
      exact finh [some 0] e
    · have c0 : ((s.size : Int) == 0) = false := by simp [z]
      refine goh c0 ?_
      refine W_cnd ?_ ?_ <;> (try simp only [cnd_r]) <;> intro c1
      · have e : tornD bs s p = (s, p + 1) := by unfold tornD; rw [if_neg z, if_pos c1]
        refine goh trivial ?_
        exact finh [some 0] e
      · simp only [beq_eq_false_iff_ne, ne_eq] at c1
        have v1 := pickV_in bs (p + 1) s.size (by omega) (by omega) (by omega)
        have v2 := pickV_in bs (p + 3) 2 (by omega) (by omega) (by omega)
        have v3 := pickV_in bs (p + 2) 8 (by omega) (by omega) (by omega)
        have g1 : p + 1 + 1 = p + 2 := by omega
        have g2 : p + 2 + 1 = p + 3 := by omega
        have g3 : p + 3 + 1 = p + 4 := by omega
        obtain ⟨k, hk⟩ := Int.eq_ofNat_of_zero_le v1.1
        obtain ⟨j, hj⟩ := Int.eq_ofNat_of_zero_le v2.1
        rw [hk] at v1
        rw [hj] at v2
        have w1 : IntKind.i64.wrap ((k : Int) + (j : Int)) = ((k + j : Nat) : Int) := wrap_id _ (by omega) (by omega)
        obtain ⟨u, hu⟩ : ∃ u, ET.str.at tears (pickV bs (p + 2) 8).toNat = u := ⟨_, rfl⟩
        have hus : u.size ≤ 1 := by
          have n1 : ∀ i, (ET.str.at tears i).size ≤ 1 := at_size (by decide)
          rw [← hu]; exact n1 _
        have e : tornD bs s p = (s.extract 0 k ++ u ++ s.extract (k + j) s.size, p + 4) := by
          unfold tornD
          rw [if_neg z, if_neg c1, hk, hj, hu, Int.toNat_natCast, show ((k : Int) + (j : Int)).toNat = k + j by omega]
        have hu2 := hu
        unfold ET.at tears at hu2
        have x1 : (s.extract 0 k).size ≤ 1000 := by rw [ByteArray.size_extract]; omega
        have x2 : (s.extract (k + j) s.size).size ≤ 1000 := by rw [ByteArray.size_extract]; omega
        refine goh (And.intro hk (And.intro hj (And.intro g1 (And.intro g2 (And.intro g3 (And.intro w1 (And.intro hu hu2))))))) ?_
        exact finh [some 0] e
  · simp [no] at hp
theorem tornD_size (bs : List UInt8) (s : ByteArray) (p : Int) : (tornD bs s p).1.size ≤ 2 * s.size + 1 := by
  have n1 : ∀ i, (ET.str.at tears i).size ≤ 1 := at_size (by decide)
  unfold tornD
  repeat' split
  · simp only; omega
  · simp only; omega
  · simp only [ByteArray.size_append, ByteArray.size_extract]
    have := n1 (pickV bs (p + 2) 8).toNat
    omega
noncomputable def txtV (code : List UInt8) : ByteArray := (tornD (code.take 2000) (logT (recV code)) (recD (code.take 2000) 0).2).1
@[go_sem] noncomputable def ctDrawTxt : Ct := ⟨false, [[some .byte]], fun args os => match args, os with
  | [.one (.isl .byte code)], [] => ifp (code.length ≤ 1048576) (vs (txtV code))
  | _, _ => no⟩
theorem s_drawTxt_e : EnterOk Tryz.prog 60 := ⟨_, Tryz.func60, rfl, by decide⟩
@[go_sem] def s_drawTxt_lv : List (List Nat) := [[0], [3], [2]]
@[go_sem] noncomputable def s_drawTxt_K : Known := ((((Known.nil).cons 96 ctOpen s_open s_open_e).cons 126 ctRecD s_recD s_recD_e).cons 59 ctLogText s_specLogText s_specLogText_e).cons 134 ctTornD s_tornD s_tornD_e
set_option maxHeartbeats 8000000 in
theorem s_drawTxt : Sound Tryz.prog 60 ctDrawTxt := by
  have ke := s_drawTxt_K.env []
  have kl : Lives s_drawTxt_lv := trivial
  refine sound_intro (E := ⟨ti, s_drawTxt_K.Γ, []⟩) ke Tryz.func60 Tryz.ntmps60 rfl (rs := [.tmp 2]) rfl ?_
  intro args os hp
  unfold ctDrawTxt at hp ⊢
  dsimp only at hp ⊢
  split at hp
  · rename_i code
    refine ⟨by simp, fun φ0 w0 => ?_⟩
    have hlen : code.length ≤ 1048576 := hp
    have hb := take2000 code
    obtain ⟨k1, k2, k3⟩ := recD_all (code.take 2000) (p := 0) (by omega) (by omega) hb
    obtain ⟨⟨r, q⟩, hr⟩ : ∃ x, recD (code.take 2000) 0 = x := ⟨_, rfl⟩
    rw [hr] at k1 k2 k3
    simp only at k1 k2 k3
    have e : txtV code = (tornD (code.take 2000) (logT r) q).1 := by unfold txtV recV; rw [hr]
    have hz := logT_size r
    obtain ⟨t, s, ⟨k, a, b, i, x⟩⟩ := r
    simp only at k1
    have ka : a.size ≤ 9223372036854775807 := by omega
    clear hp
    refine goh (And.intro hr ka) ?_
    exact finh [] e
  · simp [no, ifp] at hp
end Go.Proofs.YtjedcphhajlnoaaGreatDoor
