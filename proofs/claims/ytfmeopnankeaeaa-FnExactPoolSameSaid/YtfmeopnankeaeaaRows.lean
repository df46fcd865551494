/-
  No cell of these rows narrows 'for every input' (looked for: loops, veiled, ifaces, maps, wideKeys, modest, calm, conditions, laid).
  DERIVED. THE GIVEN ROWS OF THIS SEAT. 7 by the template 'for every input the law returns true; each argument reads behind the call as it read before'; 0 by the template 'total and deterministic' (their statements: YtfmeopnankeaeaaTotals.lean).
  GIVEN WITH THE SEED: the statements are not yours to turn. If you find one false, say at which input.
  Laid BY PROGRAM, IN A SANDBOX (cutbox-rows.mjs): the forced cells as the released guide's own fill.sh prints them over the translation 9137dbb7aca0ce27… (all of the seat's roots in one cut). By AI agents, Wed Nov 11 2026. No macro, syntax, notation, axiom, sorry.
-/
import Derived.Test.YtfmeopnankeaeaaChecked
import GoSem.Claim
import GoSem.ClaimJoined
import GoSem.ClaimMapViews
import Derived.JoinedTies
import Derived.KernelRfl
namespace Go.Proofs.Ytfmeopnankeaeaa
/- THE CELL 'sum', in the pinned program and in every row, IS THE sha256 OF THE DUMP (.gsa) THAT YtfmeopnankeaeaaProg.lean LOADS. Nothing in Lean hashes anything: it is a label: what it is worth is what the hold of that sum in a sandbox is worth. -/
noncomputable def Try.pinned : Pinned := { name := "ytfmeopnankeaeaa", sum := "9137dbb7aca0ce279344165ffd2ced5a833f10bc2b3bf10d1107f9dfedb68b65", checked := Try.checked }
namespace Rows
def none {H : Type} : Left H := { results := [], args := [] }

/-- 'laws.FnExactDiskRot': WHATEVER THE INPUT: true; the input reads as it did. -/
def fnExactDiskRotSpec : ChangeSpec := { name := "fnExactDiskRot", fn := fun _ => fun
  | [d1, d2, d3, d4, d5] => { results := [.lit (.bool true)], args := [d1, d2, d3, d4, d5] }
  | _ => none }
def fnExactDiskRotRow : OpenClaim := { program := "ytfmeopnankeaeaa", sum := "9137dbb7aca0ce279344165ffd2ced5a833f10bc2b3bf10d1107f9dfedb68b65", func := "loop.example/palim/laws.FnExactDiskRot", spec := "fnExactDiskRot", unfollowed := true, recurses := true, apart := false }
def FnExactDiskRotSaid : Prop := fnExactDiskRotRow.holds Try.pinned (OpenSpec.ofChange fnExactDiskRotSpec)

/-- ITS FALSE NEIGHBOUR: 'it returns false'. Refute it at one input. -/
def fnExactDiskRotWrong : ChangeSpec := { name := "fnExactDiskRot", fn := fun _ => fun
  | [d1, d2, d3, d4, d5] => { results := [.lit (.bool false)], args := [d1, d2, d3, d4, d5] }
  | _ => none }
def FnExactDiskRotWrongFalsely : Prop := fnExactDiskRotRow.holds Try.pinned (OpenSpec.ofChange fnExactDiskRotWrong)

/-- 'laws.FnExactDiskFlush': WHATEVER THE INPUT: true; the input reads as it did. -/
def fnExactDiskFlushSpec : ChangeSpec := { name := "fnExactDiskFlush", fn := fun _ => fun
  | [d] => { results := [.lit (.bool true)], args := [d] }
  | _ => none }
def fnExactDiskFlushRow : OpenClaim := { program := "ytfmeopnankeaeaa", sum := "9137dbb7aca0ce279344165ffd2ced5a833f10bc2b3bf10d1107f9dfedb68b65", func := "loop.example/palim/laws.FnExactDiskFlush", spec := "fnExactDiskFlush", unfollowed := true, recurses := true, apart := false }
def FnExactDiskFlushSaid : Prop := fnExactDiskFlushRow.holds Try.pinned (OpenSpec.ofChange fnExactDiskFlushSpec)

/-- ITS FALSE NEIGHBOUR: 'it returns false'. Refute it at one input. -/
def fnExactDiskFlushWrong : ChangeSpec := { name := "fnExactDiskFlush", fn := fun _ => fun
  | [d] => { results := [.lit (.bool false)], args := [d] }
  | _ => none }
def FnExactDiskFlushWrongFalsely : Prop := fnExactDiskFlushRow.holds Try.pinned (OpenSpec.ofChange fnExactDiskFlushWrong)

/-- 'laws.FnExactDiskWrite': WHATEVER THE INPUT: true; the input reads as it did. -/
def fnExactDiskWriteSpec : ChangeSpec := { name := "fnExactDiskWrite", fn := fun _ => fun
  | [d1, d2, d3, d4] => { results := [.lit (.bool true)], args := [d1, d2, d3, d4] }
  | _ => none }
def fnExactDiskWriteRow : OpenClaim := { program := "ytfmeopnankeaeaa", sum := "9137dbb7aca0ce279344165ffd2ced5a833f10bc2b3bf10d1107f9dfedb68b65", func := "loop.example/palim/laws.FnExactDiskWrite", spec := "fnExactDiskWrite", unfollowed := true, recurses := true, apart := false }
def FnExactDiskWriteSaid : Prop := fnExactDiskWriteRow.holds Try.pinned (OpenSpec.ofChange fnExactDiskWriteSpec)

/-- ITS FALSE NEIGHBOUR: 'it returns false'. Refute it at one input. -/
def fnExactDiskWriteWrong : ChangeSpec := { name := "fnExactDiskWrite", fn := fun _ => fun
  | [d1, d2, d3, d4] => { results := [.lit (.bool false)], args := [d1, d2, d3, d4] }
  | _ => none }
def FnExactDiskWriteWrongFalsely : Prop := fnExactDiskWriteRow.holds Try.pinned (OpenSpec.ofChange fnExactDiskWriteWrong)

/-- 'laws.FnExactBlkWrite': WHATEVER THE INPUT: true; the input reads as it did. -/
def fnExactBlkWriteSpec : ChangeSpec := { name := "fnExactBlkWrite", fn := fun _ => fun
  | [d1, d2, d3] => { results := [.lit (.bool true)], args := [d1, d2, d3] }
  | _ => none }
def fnExactBlkWriteRow : OpenClaim := { program := "ytfmeopnankeaeaa", sum := "9137dbb7aca0ce279344165ffd2ced5a833f10bc2b3bf10d1107f9dfedb68b65", func := "loop.example/palim/laws.FnExactBlkWrite", spec := "fnExactBlkWrite", unfollowed := true, recurses := true, apart := false }
def FnExactBlkWriteSaid : Prop := fnExactBlkWriteRow.holds Try.pinned (OpenSpec.ofChange fnExactBlkWriteSpec)

/-- ITS FALSE NEIGHBOUR: 'it returns false'. Refute it at one input. -/
def fnExactBlkWriteWrong : ChangeSpec := { name := "fnExactBlkWrite", fn := fun _ => fun
  | [d1, d2, d3] => { results := [.lit (.bool false)], args := [d1, d2, d3] }
  | _ => none }
def FnExactBlkWriteWrongFalsely : Prop := fnExactBlkWriteRow.holds Try.pinned (OpenSpec.ofChange fnExactBlkWriteWrong)

/-- 'laws.FnExactDiskFall': WHATEVER THE INPUT: true; the input reads as it did. -/
def fnExactDiskFallSpec : ChangeSpec := { name := "fnExactDiskFall", fn := fun _ => fun
  | [d1, d2] => { results := [.lit (.bool true)], args := [d1, d2] }
  | _ => none }
def fnExactDiskFallRow : OpenClaim := { program := "ytfmeopnankeaeaa", sum := "9137dbb7aca0ce279344165ffd2ced5a833f10bc2b3bf10d1107f9dfedb68b65", func := "loop.example/palim/laws.FnExactDiskFall", spec := "fnExactDiskFall", unfollowed := true, recurses := true, apart := false }
def FnExactDiskFallSaid : Prop := fnExactDiskFallRow.holds Try.pinned (OpenSpec.ofChange fnExactDiskFallSpec)

/-- ITS FALSE NEIGHBOUR: 'it returns false'. Refute it at one input. -/
def fnExactDiskFallWrong : ChangeSpec := { name := "fnExactDiskFall", fn := fun _ => fun
  | [d1, d2] => { results := [.lit (.bool false)], args := [d1, d2] }
  | _ => none }
def FnExactDiskFallWrongFalsely : Prop := fnExactDiskFallRow.holds Try.pinned (OpenSpec.ofChange fnExactDiskFallWrong)

/-- 'laws.FnExactBlkHeal': WHATEVER THE INPUT: true; the input reads as it did. -/
def fnExactBlkHealSpec : ChangeSpec := { name := "fnExactBlkHeal", fn := fun _ => fun
  | [d1, d2] => { results := [.lit (.bool true)], args := [d1, d2] }
  | _ => none }
def fnExactBlkHealRow : OpenClaim := { program := "ytfmeopnankeaeaa", sum := "9137dbb7aca0ce279344165ffd2ced5a833f10bc2b3bf10d1107f9dfedb68b65", func := "loop.example/palim/laws.FnExactBlkHeal", spec := "fnExactBlkHeal", unfollowed := true, recurses := true, apart := false }
def FnExactBlkHealSaid : Prop := fnExactBlkHealRow.holds Try.pinned (OpenSpec.ofChange fnExactBlkHealSpec)

/-- ITS FALSE NEIGHBOUR: 'it returns false'. Refute it at one input. -/
def fnExactBlkHealWrong : ChangeSpec := { name := "fnExactBlkHeal", fn := fun _ => fun
  | [d1, d2] => { results := [.lit (.bool false)], args := [d1, d2] }
  | _ => none }
def FnExactBlkHealWrongFalsely : Prop := fnExactBlkHealRow.holds Try.pinned (OpenSpec.ofChange fnExactBlkHealWrong)

/-- 'laws.FnExactPoolSame': WHATEVER THE INPUT: true; the input reads as it did. -/
def fnExactPoolSameSpec : ChangeSpec := { name := "fnExactPoolSame", fn := fun _ => fun
  | [d1, d2] => { results := [.lit (.bool true)], args := [d1, d2] }
  | _ => none }
def fnExactPoolSameRow : OpenClaim := { program := "ytfmeopnankeaeaa", sum := "9137dbb7aca0ce279344165ffd2ced5a833f10bc2b3bf10d1107f9dfedb68b65", func := "loop.example/palim/laws.FnExactPoolSame", spec := "fnExactPoolSame", apart := false }
def FnExactPoolSameSaid : Prop := fnExactPoolSameRow.holds Try.pinned (OpenSpec.ofChange fnExactPoolSameSpec)

/-- ITS FALSE NEIGHBOUR: 'it returns false'. Refute it at one input. -/
def fnExactPoolSameWrong : ChangeSpec := { name := "fnExactPoolSame", fn := fun _ => fun
  | [d1, d2] => { results := [.lit (.bool false)], args := [d1, d2] }
  | _ => none }
def FnExactPoolSameWrongFalsely : Prop := fnExactPoolSameRow.holds Try.pinned (OpenSpec.ofChange fnExactPoolSameWrong)

/- THE SECOND FORM. 'bulk': how many values and letters a reading holds, each counted each time it is reached (what is shared counts as often as it is met; a slice's spare places count too). A statement '..UptoSaid' is the law's where the arguments, and the package variables that the reading takes, are together of bulk at most 1048576: NARROWER than '..Said'. Prove '..Said' where nothing that the law and all that it calls make is longer than what came in: it says more and counts as full. Else prove '..UptoSaid'. A law counts once. -/
mutual
def uptoBulk {H : Type} : DataW H → Nat
  | .lit (.string bytes) => bytes.length + 1
  | .lit _ => 1
  | .nil => 1
  | .ptr d => uptoBulk d + 1
  | .slice elems spare => uptoBulkAll elems + uptoBulkAll spare + 1
  | .agg parts => uptoBulkAll parts + 1
  | .iface _ d => uptoBulk d + 1
  | .map entries => uptoBulkEntries entries + 1
  | .held _ => 1
def uptoBulkAll {H : Type} : List (DataW H) → Nat
  | [] => 0
  | d :: r => uptoBulk d + uptoBulkAll r
def uptoBulkEntries {H : Type} : List (Lit × DataW H) → Nat
  | [] => 0
  | x :: r => uptoBulkEntry x + uptoBulkEntries r
def uptoBulkEntry {H : Type} : Lit × DataW H → Nat
  | (.string bytes, d) => bytes.length + uptoBulk d + 1
  | (_, d) => uptoBulk d + 1
 end
def uptoSmall : (H : Type) → List (DataW H) → Bool := fun _ ds => decide (uptoBulkAll ds ≤ 1048576)
def OpenSpec.upto (s : _root_.Go.ChangeSpec) : _root_.Go.OpenSpec := { _root_.Go.OpenSpec.ofChange s with cond := some uptoSmall }

/-- 'laws.FnExactDiskRot', WHERE WHAT IT READS IS OF BULK AT MOST 1048576: true; the input reads as it did. -/
def fnExactDiskRotUptoRow : OpenClaim := { program := "ytfmeopnankeaeaa", sum := "9137dbb7aca0ce279344165ffd2ced5a833f10bc2b3bf10d1107f9dfedb68b65", func := "loop.example/palim/laws.FnExactDiskRot", spec := "fnExactDiskRot", unfollowed := true, recurses := true, apart := false, narrowed := true }
def FnExactDiskRotUptoSaid : Prop := fnExactDiskRotUptoRow.holds Try.pinned (OpenSpec.upto fnExactDiskRotSpec)

/-- 'laws.FnExactDiskFlush', WHERE WHAT IT READS IS OF BULK AT MOST 1048576: true; the input reads as it did. -/
def fnExactDiskFlushUptoRow : OpenClaim := { program := "ytfmeopnankeaeaa", sum := "9137dbb7aca0ce279344165ffd2ced5a833f10bc2b3bf10d1107f9dfedb68b65", func := "loop.example/palim/laws.FnExactDiskFlush", spec := "fnExactDiskFlush", unfollowed := true, recurses := true, apart := false, narrowed := true }
def FnExactDiskFlushUptoSaid : Prop := fnExactDiskFlushUptoRow.holds Try.pinned (OpenSpec.upto fnExactDiskFlushSpec)

/-- 'laws.FnExactDiskWrite', WHERE WHAT IT READS IS OF BULK AT MOST 1048576: true; the input reads as it did. -/
def fnExactDiskWriteUptoRow : OpenClaim := { program := "ytfmeopnankeaeaa", sum := "9137dbb7aca0ce279344165ffd2ced5a833f10bc2b3bf10d1107f9dfedb68b65", func := "loop.example/palim/laws.FnExactDiskWrite", spec := "fnExactDiskWrite", unfollowed := true, recurses := true, apart := false, narrowed := true }
def FnExactDiskWriteUptoSaid : Prop := fnExactDiskWriteUptoRow.holds Try.pinned (OpenSpec.upto fnExactDiskWriteSpec)

/-- 'laws.FnExactBlkWrite', WHERE WHAT IT READS IS OF BULK AT MOST 1048576: true; the input reads as it did. -/
def fnExactBlkWriteUptoRow : OpenClaim := { program := "ytfmeopnankeaeaa", sum := "9137dbb7aca0ce279344165ffd2ced5a833f10bc2b3bf10d1107f9dfedb68b65", func := "loop.example/palim/laws.FnExactBlkWrite", spec := "fnExactBlkWrite", unfollowed := true, recurses := true, apart := false, narrowed := true }
def FnExactBlkWriteUptoSaid : Prop := fnExactBlkWriteUptoRow.holds Try.pinned (OpenSpec.upto fnExactBlkWriteSpec)

/-- 'laws.FnExactDiskFall', WHERE WHAT IT READS IS OF BULK AT MOST 1048576: true; the input reads as it did. -/
def fnExactDiskFallUptoRow : OpenClaim := { program := "ytfmeopnankeaeaa", sum := "9137dbb7aca0ce279344165ffd2ced5a833f10bc2b3bf10d1107f9dfedb68b65", func := "loop.example/palim/laws.FnExactDiskFall", spec := "fnExactDiskFall", unfollowed := true, recurses := true, apart := false, narrowed := true }
def FnExactDiskFallUptoSaid : Prop := fnExactDiskFallUptoRow.holds Try.pinned (OpenSpec.upto fnExactDiskFallSpec)

/-- 'laws.FnExactBlkHeal', WHERE WHAT IT READS IS OF BULK AT MOST 1048576: true; the input reads as it did. -/
def fnExactBlkHealUptoRow : OpenClaim := { program := "ytfmeopnankeaeaa", sum := "9137dbb7aca0ce279344165ffd2ced5a833f10bc2b3bf10d1107f9dfedb68b65", func := "loop.example/palim/laws.FnExactBlkHeal", spec := "fnExactBlkHeal", unfollowed := true, recurses := true, apart := false, narrowed := true }
def FnExactBlkHealUptoSaid : Prop := fnExactBlkHealUptoRow.holds Try.pinned (OpenSpec.upto fnExactBlkHealSpec)

/-- 'laws.FnExactPoolSame', WHERE WHAT IT READS IS OF BULK AT MOST 1048576: true; the input reads as it did. -/
def fnExactPoolSameUptoRow : OpenClaim := { program := "ytfmeopnankeaeaa", sum := "9137dbb7aca0ce279344165ffd2ced5a833f10bc2b3bf10d1107f9dfedb68b65", func := "loop.example/palim/laws.FnExactPoolSame", spec := "fnExactPoolSame", apart := false, narrowed := true }
def FnExactPoolSameUptoSaid : Prop := fnExactPoolSameUptoRow.holds Try.pinned (OpenSpec.upto fnExactPoolSameSpec)

end Rows
end Go.Proofs.Ytfmeopnankeaeaa
