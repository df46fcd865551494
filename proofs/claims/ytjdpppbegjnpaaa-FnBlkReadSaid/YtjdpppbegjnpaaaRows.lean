/-
  No cell of these rows narrows 'for every input' (looked for: loops, veiled, ifaces, maps, wideKeys, modest, calm, conditions, laid).
  DERIVED. THE GIVEN ROWS OF THIS SEAT. 6 by the template 'for every input the law returns true; each argument reads behind the call as it read before'; 0 by the template 'total and deterministic' (their statements: YtjdpppbegjnpaaaTotals.lean).
  GIVEN WITH THE SEED: the statements are not yours to turn. If you find one false, say at which input.
  Laid BY PROGRAM, IN A SANDBOX (cutbox-rows.mjs): the forced cells as the released guide's own fill.sh prints them over the translation 1bb46b5d8723d026… (all of the seat's roots in one cut). By AI agents, Wed Nov 11 2026. No macro, syntax, notation, axiom, sorry.
-/
import Derived.Test.YtjdpppbegjnpaaaChecked
import GoSem.Claim
import GoSem.ClaimJoined
import GoSem.ClaimMapViews
import Derived.JoinedTies
import Derived.KernelRfl
namespace Go.Proofs.Ytjdpppbegjnpaaa
/- THE CELL 'sum', in the pinned program and in every row, IS THE sha256 OF THE DUMP (.gsa) THAT YtjdpppbegjnpaaaProg.lean LOADS. Nothing in Lean hashes anything: it is a label: what it is worth is what the hold of that sum in a sandbox is worth. -/
noncomputable def Try.pinned : Pinned := { name := "ytjdpppbegjnpaaa", sum := "1bb46b5d8723d0268da69c1feff5228ad676c34aa8f5c55b7abcdc6fbf37fcd3", checked := Try.checked }
namespace Rows
def none {H : Type} : Left H := { results := [], args := [] }

/-- 'laws.FnDiskRot': WHATEVER THE INPUT: true; the input reads as it did. -/
def fnDiskRotSpec : ChangeSpec := { name := "fnDiskRot", fn := fun _ => fun
  | [d] => { results := [.lit (.bool true)], args := [d] }
  | _ => none }
def fnDiskRotRow : OpenClaim := { program := "ytjdpppbegjnpaaa", sum := "1bb46b5d8723d0268da69c1feff5228ad676c34aa8f5c55b7abcdc6fbf37fcd3", func := "loop.example/palim/laws.FnDiskRot", spec := "fnDiskRot", unfollowed := true, recurses := true, apart := false }
def FnDiskRotSaid : Prop := fnDiskRotRow.holds Try.pinned (OpenSpec.ofChange fnDiskRotSpec)

/-- ITS FALSE NEIGHBOUR: 'it returns false'. Refute it at one input. -/
def fnDiskRotWrong : ChangeSpec := { name := "fnDiskRot", fn := fun _ => fun
  | [d] => { results := [.lit (.bool false)], args := [d] }
  | _ => none }
def FnDiskRotWrongFalsely : Prop := fnDiskRotRow.holds Try.pinned (OpenSpec.ofChange fnDiskRotWrong)

/-- 'laws.FnDiskFall': WHATEVER THE INPUT: true; the input reads as it did. -/
def fnDiskFallSpec : ChangeSpec := { name := "fnDiskFall", fn := fun _ => fun
  | [d] => { results := [.lit (.bool true)], args := [d] }
  | _ => none }
def fnDiskFallRow : OpenClaim := { program := "ytjdpppbegjnpaaa", sum := "1bb46b5d8723d0268da69c1feff5228ad676c34aa8f5c55b7abcdc6fbf37fcd3", func := "loop.example/palim/laws.FnDiskFall", spec := "fnDiskFall", unfollowed := true, recurses := true, apart := false }
def FnDiskFallSaid : Prop := fnDiskFallRow.holds Try.pinned (OpenSpec.ofChange fnDiskFallSpec)

/-- ITS FALSE NEIGHBOUR: 'it returns false'. Refute it at one input. -/
def fnDiskFallWrong : ChangeSpec := { name := "fnDiskFall", fn := fun _ => fun
  | [d] => { results := [.lit (.bool false)], args := [d] }
  | _ => none }
def FnDiskFallWrongFalsely : Prop := fnDiskFallRow.holds Try.pinned (OpenSpec.ofChange fnDiskFallWrong)

/-- 'laws.FnDiskLast': WHATEVER THE INPUT: true; the input reads as it did. -/
def fnDiskLastSpec : ChangeSpec := { name := "fnDiskLast", fn := fun _ => fun
  | [d1, d2] => { results := [.lit (.bool true)], args := [d1, d2] }
  | _ => none }
def fnDiskLastRow : OpenClaim := { program := "ytjdpppbegjnpaaa", sum := "1bb46b5d8723d0268da69c1feff5228ad676c34aa8f5c55b7abcdc6fbf37fcd3", func := "loop.example/palim/laws.FnDiskLast", spec := "fnDiskLast", unfollowed := true, recurses := true, apart := false }
def FnDiskLastSaid : Prop := fnDiskLastRow.holds Try.pinned (OpenSpec.ofChange fnDiskLastSpec)

/-- ITS FALSE NEIGHBOUR: 'it returns false'. Refute it at one input. -/
def fnDiskLastWrong : ChangeSpec := { name := "fnDiskLast", fn := fun _ => fun
  | [d1, d2] => { results := [.lit (.bool false)], args := [d1, d2] }
  | _ => none }
def FnDiskLastWrongFalsely : Prop := fnDiskLastRow.holds Try.pinned (OpenSpec.ofChange fnDiskLastWrong)

/-- 'laws.FnBlkOne': WHATEVER THE INPUT: true; the input reads as it did. -/
def fnBlkOneSpec : ChangeSpec := { name := "fnBlkOne", fn := fun _ => fun
  | [d1, d2] => { results := [.lit (.bool true)], args := [d1, d2] }
  | _ => none }
def fnBlkOneRow : OpenClaim := { program := "ytjdpppbegjnpaaa", sum := "1bb46b5d8723d0268da69c1feff5228ad676c34aa8f5c55b7abcdc6fbf37fcd3", func := "loop.example/palim/laws.FnBlkOne", spec := "fnBlkOne", unfollowed := true, recurses := true, apart := false }
def FnBlkOneSaid : Prop := fnBlkOneRow.holds Try.pinned (OpenSpec.ofChange fnBlkOneSpec)

/-- ITS FALSE NEIGHBOUR: 'it returns false'. Refute it at one input. -/
def fnBlkOneWrong : ChangeSpec := { name := "fnBlkOne", fn := fun _ => fun
  | [d1, d2] => { results := [.lit (.bool false)], args := [d1, d2] }
  | _ => none }
def FnBlkOneWrongFalsely : Prop := fnBlkOneRow.holds Try.pinned (OpenSpec.ofChange fnBlkOneWrong)

/-- 'laws.FnBlkRead': WHATEVER THE INPUT: true; the input reads as it did. -/
def fnBlkReadSpec : ChangeSpec := { name := "fnBlkRead", fn := fun _ => fun
  | [d1, d2] => { results := [.lit (.bool true)], args := [d1, d2] }
  | _ => none }
def fnBlkReadRow : OpenClaim := { program := "ytjdpppbegjnpaaa", sum := "1bb46b5d8723d0268da69c1feff5228ad676c34aa8f5c55b7abcdc6fbf37fcd3", func := "loop.example/palim/laws.FnBlkRead", spec := "fnBlkRead", unfollowed := true, recurses := true, apart := false }
def FnBlkReadSaid : Prop := fnBlkReadRow.holds Try.pinned (OpenSpec.ofChange fnBlkReadSpec)

/-- ITS FALSE NEIGHBOUR: 'it returns false'. Refute it at one input. -/
def fnBlkReadWrong : ChangeSpec := { name := "fnBlkRead", fn := fun _ => fun
  | [d1, d2] => { results := [.lit (.bool false)], args := [d1, d2] }
  | _ => none }
def FnBlkReadWrongFalsely : Prop := fnBlkReadRow.holds Try.pinned (OpenSpec.ofChange fnBlkReadWrong)

/-- 'laws.FnDiskRead': WHATEVER THE INPUT: true; the input reads as it did. -/
def fnDiskReadSpec : ChangeSpec := { name := "fnDiskRead", fn := fun _ => fun
  | [d1, d2] => { results := [.lit (.bool true)], args := [d1, d2] }
  | _ => none }
def fnDiskReadRow : OpenClaim := { program := "ytjdpppbegjnpaaa", sum := "1bb46b5d8723d0268da69c1feff5228ad676c34aa8f5c55b7abcdc6fbf37fcd3", func := "loop.example/palim/laws.FnDiskRead", spec := "fnDiskRead", unfollowed := true, recurses := true, apart := false }
def FnDiskReadSaid : Prop := fnDiskReadRow.holds Try.pinned (OpenSpec.ofChange fnDiskReadSpec)

/-- ITS FALSE NEIGHBOUR: 'it returns false'. Refute it at one input. -/
def fnDiskReadWrong : ChangeSpec := { name := "fnDiskRead", fn := fun _ => fun
  | [d1, d2] => { results := [.lit (.bool false)], args := [d1, d2] }
  | _ => none }
def FnDiskReadWrongFalsely : Prop := fnDiskReadRow.holds Try.pinned (OpenSpec.ofChange fnDiskReadWrong)

/- THE SECOND FORM. 'bulk': how many values and letters a reading holds, each counted each time it is reached (what is shared counts as often as it is met; a slice's spare places count too). A statement '..UptoSaid' is the law's where the arguments, and the package variables that the reading takes, are together of bulk at most 1048576: NARROWER than '..Said'. Prove '..Said' where nothing that the law and all that it calls make is longer than what came in: it says more and counts as full. Else prove '..UptoSaid'. A law counts once. -/
mutual
def uptoBulk {H : Type} : DataW H → Nat
  | .lit (.string bytes) => bytes.length + 1
  | .lit _ => 1
  | .nil => 1
  | .ptr d => uptoBulk d + 1
  | .slice elems spare => uptoBulkAll elems + uptoBulkAll spare + 1
  | .agg parts => uptoBulkAll parts + 1
  | .iface _ d => uptoBulk d + 1
  | .map entries => uptoBulkEntries entries + 1
  | .held _ => 1
def uptoBulkAll {H : Type} : List (DataW H) → Nat
  | [] => 0
  | d :: r => uptoBulk d + uptoBulkAll r
def uptoBulkEntries {H : Type} : List (Lit × DataW H) → Nat
  | [] => 0
  | x :: r => uptoBulkEntry x + uptoBulkEntries r
def uptoBulkEntry {H : Type} : Lit × DataW H → Nat
  | (.string bytes, d) => bytes.length + uptoBulk d + 1
  | (_, d) => uptoBulk d + 1
 end
def uptoSmall : (H : Type) → List (DataW H) → Bool := fun _ ds => decide (uptoBulkAll ds ≤ 1048576)
def OpenSpec.upto (s : _root_.Go.ChangeSpec) : _root_.Go.OpenSpec := { _root_.Go.OpenSpec.ofChange s with cond := some uptoSmall }

/-- 'laws.FnDiskRot', WHERE WHAT IT READS IS OF BULK AT MOST 1048576: true; the input reads as it did. -/
def fnDiskRotUptoRow : OpenClaim := { program := "ytjdpppbegjnpaaa", sum := "1bb46b5d8723d0268da69c1feff5228ad676c34aa8f5c55b7abcdc6fbf37fcd3", func := "loop.example/palim/laws.FnDiskRot", spec := "fnDiskRot", unfollowed := true, recurses := true, apart := false, narrowed := true }
def FnDiskRotUptoSaid : Prop := fnDiskRotUptoRow.holds Try.pinned (OpenSpec.upto fnDiskRotSpec)

/-- 'laws.FnDiskFall', WHERE WHAT IT READS IS OF BULK AT MOST 1048576: true; the input reads as it did. -/
def fnDiskFallUptoRow : OpenClaim := { program := "ytjdpppbegjnpaaa", sum := "1bb46b5d8723d0268da69c1feff5228ad676c34aa8f5c55b7abcdc6fbf37fcd3", func := "loop.example/palim/laws.FnDiskFall", spec := "fnDiskFall", unfollowed := true, recurses := true, apart := false, narrowed := true }
def FnDiskFallUptoSaid : Prop := fnDiskFallUptoRow.holds Try.pinned (OpenSpec.upto fnDiskFallSpec)

/-- 'laws.FnDiskLast', WHERE WHAT IT READS IS OF BULK AT MOST 1048576: true; the input reads as it did. -/
def fnDiskLastUptoRow : OpenClaim := { program := "ytjdpppbegjnpaaa", sum := "1bb46b5d8723d0268da69c1feff5228ad676c34aa8f5c55b7abcdc6fbf37fcd3", func := "loop.example/palim/laws.FnDiskLast", spec := "fnDiskLast", unfollowed := true, recurses := true, apart := false, narrowed := true }
def FnDiskLastUptoSaid : Prop := fnDiskLastUptoRow.holds Try.pinned (OpenSpec.upto fnDiskLastSpec)

/-- 'laws.FnBlkOne', WHERE WHAT IT READS IS OF BULK AT MOST 1048576: true; the input reads as it did. -/
def fnBlkOneUptoRow : OpenClaim := { program := "ytjdpppbegjnpaaa", sum := "1bb46b5d8723d0268da69c1feff5228ad676c34aa8f5c55b7abcdc6fbf37fcd3", func := "loop.example/palim/laws.FnBlkOne", spec := "fnBlkOne", unfollowed := true, recurses := true, apart := false, narrowed := true }
def FnBlkOneUptoSaid : Prop := fnBlkOneUptoRow.holds Try.pinned (OpenSpec.upto fnBlkOneSpec)

/-- 'laws.FnBlkRead', WHERE WHAT IT READS IS OF BULK AT MOST 1048576: true; the input reads as it did. -/
def fnBlkReadUptoRow : OpenClaim := { program := "ytjdpppbegjnpaaa", sum := "1bb46b5d8723d0268da69c1feff5228ad676c34aa8f5c55b7abcdc6fbf37fcd3", func := "loop.example/palim/laws.FnBlkRead", spec := "fnBlkRead", unfollowed := true, recurses := true, apart := false, narrowed := true }
def FnBlkReadUptoSaid : Prop := fnBlkReadUptoRow.holds Try.pinned (OpenSpec.upto fnBlkReadSpec)

/-- 'laws.FnDiskRead', WHERE WHAT IT READS IS OF BULK AT MOST 1048576: true; the input reads as it did. -/
def fnDiskReadUptoRow : OpenClaim := { program := "ytjdpppbegjnpaaa", sum := "1bb46b5d8723d0268da69c1feff5228ad676c34aa8f5c55b7abcdc6fbf37fcd3", func := "loop.example/palim/laws.FnDiskRead", spec := "fnDiskRead", unfollowed := true, recurses := true, apart := false, narrowed := true }
def FnDiskReadUptoSaid : Prop := fnDiskReadUptoRow.holds Try.pinned (OpenSpec.upto fnDiskReadSpec)

end Rows
end Go.Proofs.Ytjdpppbegjnpaaa
