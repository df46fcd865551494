/- strings.Trim at the small letters. -/
import Derived.Test.YtfmeopnankeaeaaDoorTBel
import Derived.Test.YtfmeopnankeaeaaDoorTSh1
set_option linter.unusedSimpArgs false
set_option linter.unusedVariables false
set_option linter.unusedSectionVars false
namespace Go.Proofs.YtfmeopnankeaeaaDoor
open Go.RowKit

def small : ByteArray := ⟨#[97, 98, 99, 100, 101, 102, 103, 104, 105, 106, 107, 108, 109, 110, 111, 112, 113, 114, 115, 116, 117, 118, 119, 120, 121, 122]⟩
def trimmed (s : ByteArray) : ByteArray := ⟨(Lib.trimS s.data.toList small.data.toList).toArray⟩
@[go_sem] def ctTrim : Ct := ⟨false, [], fun args os => match args, os with
  | [.one (.val (.string s)), .one (.val (.string c))], [] => ifp (s.size ≤ 9223372036854775807 ∧ c = small) (vs (trimmed s))
  | _, _ => no⟩
theorem s_trim_e : EnterOk Tryd.prog 59 := ⟨_, Tryd.func59, rfl, by decide⟩
theorem s_trim : Sound Tryd.prog 59 ctTrim := by
  refine sound_plain fun args os hp => ?_
  unfold ctTrim at hp ⊢
  dsimp only at hp ⊢
  split at hp
  · rename_i s c
    obtain ⟨hs, rfl⟩ : s.size ≤ 9223372036854775807 ∧ c = small := hp
    refine ⟨rfl, [.string s, .string small], .string (trimmed s), rfl, rfl, fun w => ?_⟩
    exact Any.strings_Trim_laid Tryd.lays160 (by kernel_rfl) s small w hs (by decide) (ascii_of_all (by decide))
  · exact hp.elim
end Go.Proofs.YtfmeopnankeaeaaDoor
