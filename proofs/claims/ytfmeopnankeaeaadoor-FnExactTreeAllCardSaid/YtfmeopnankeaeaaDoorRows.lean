/-
  NARROWER THAN 'FOR EVERY INPUT', by the rows' own cells (each row's printed sentence says how): FnExactTreeKids: laid · FnExactTreeLine: laid · FnExactTreeAll: laid · FnExactSendDiff: laid · FnExactTreeUnder: laid.
  DERIVED. THE GIVEN ROWS OF THIS SEAT. 5 by the template 'for every input the law returns true; each argument reads behind the call as it read before'; 0 by the template 'total and deterministic' (their statements: YtfmeopnankeaeaaDoorTotals.lean).
  GIVEN WITH THE SEED: the statements are not yours to turn. If you find one false, say at which input.
  Laid BY PROGRAM, IN A SANDBOX (cutbox-rows.mjs): the forced cells as the released guide's own fill.sh prints them over the translation 1fbc12b62c8eddbe… (all of the seat's roots in one cut). By AI agents, Wed Nov 11 2026. No macro, syntax, notation, axiom, sorry.
-/
import Derived.Test.YtfmeopnankeaeaaDoorChecked
import GoSem.PinnedTables
import GoSem.Claim
import GoSem.ClaimJoined
import GoSem.ClaimMapViews
import Derived.JoinedTies
import Derived.KernelRfl
namespace Go.Proofs.YtfmeopnankeaeaaDoor
/- THE CELL 'sum', in the pinned program and in every row, IS THE sha256 OF THE DUMP (.gsa) THAT YtfmeopnankeaeaaDoorProg.lean LOADS. Nothing in Lean hashes anything: it is a label: what it is worth is what the hold of that sum in a sandbox is worth. -/
noncomputable def Tryd.pinned : Pinned := { name := "ytfmeopnankeaeaadoor", sum := "1fbc12b62c8eddbe0f9557167f2a0497b92c797edfdd7635f6bd13bd1081bf77", checked := Tryd.checked }
namespace Rows
def none {H : Type} : Left H := { results := [], args := [] }

/- WHAT THE LISTED PACKAGE-LEVEL VARIABLES READ AS WHEN THE CALL BEGINS. Each datum BY PROGRAM (the guide's laid-datum.mjs) off the statement by which the dump's own 'gosem.cut.vars' lays the variable. In a bare row this is a premise. The card (YtfmeopnankeaeaaDoorCards.lean) ties it to the program's text. -/
def laid_unicode_utf8_acceptRanges {H : Type} : DataW H := .agg [.agg [.lit (.int .u8 128), .lit (.int .u8 191)], .agg [.lit (.int .u8 160), .lit (.int .u8 191)], .agg [.lit (.int .u8 128), .lit (.int .u8 159)], .agg [.lit (.int .u8 144), .lit (.int .u8 191)], .agg [.lit (.int .u8 128), .lit (.int .u8 143)], .agg [.lit (.int .u8 0), .lit (.int .u8 0)], .agg [.lit (.int .u8 0), .lit (.int .u8 0)], .agg [.lit (.int .u8 0), .lit (.int .u8 0)], .agg [.lit (.int .u8 0), .lit (.int .u8 0)], .agg [.lit (.int .u8 0), .lit (.int .u8 0)], .agg [.lit (.int .u8 0), .lit (.int .u8 0)], .agg [.lit (.int .u8 0), .lit (.int .u8 0)], .agg [.lit (.int .u8 0), .lit (.int .u8 0)], .agg [.lit (.int .u8 0), .lit (.int .u8 0)], .agg [.lit (.int .u8 0), .lit (.int .u8 0)], .agg [.lit (.int .u8 0), .lit (.int .u8 0)]]
/-- One of Go's own tables, pinned by name: the form's constant. -/
def laid_unicode_utf8_first : DataW Unit := Go.Pinned.utf8First

/-- 'laws.FnExactTreeKids': WHATEVER THE INPUT: true; the input reads as it did. -/
def fnExactTreeKidsSpec : ChangeSpec := { name := "fnExactTreeKids", fn := fun _ => fun
  | [d1, d2] => { results := [.lit (.bool true)], args := [d1, d2] }
  | _ => none }
def fnExactTreeKidsRow : OpenClaim := { program := "ytfmeopnankeaeaadoor", sum := "1fbc12b62c8eddbe0f9557167f2a0497b92c797edfdd7635f6bd13bd1081bf77", func := "loop.example/palim/laws.FnExactTreeKids", spec := "fnExactTreeKids", inPlace := ["internal/bytealg.IndexByteString", "internal/bytealg.IndexString"], unfollowed := true, recurses := true, named := ["unicode/utf8.first", "unicode/utf8.acceptRanges", "internal/bytealg.MaxLen"], apart := false, laid := [("unicode/utf8.acceptRanges", laid_unicode_utf8_acceptRanges), ("unicode/utf8.first", laid_unicode_utf8_first)] }
def FnExactTreeKidsSaid : Prop := fnExactTreeKidsRow.holds Tryd.pinned (OpenSpec.ofChange fnExactTreeKidsSpec)

/-- ITS FALSE NEIGHBOUR: 'it returns false'. Refute it at one input. -/
def fnExactTreeKidsWrong : ChangeSpec := { name := "fnExactTreeKids", fn := fun _ => fun
  | [d1, d2] => { results := [.lit (.bool false)], args := [d1, d2] }
  | _ => none }
def FnExactTreeKidsWrongFalsely : Prop := fnExactTreeKidsRow.holds Tryd.pinned (OpenSpec.ofChange fnExactTreeKidsWrong)

/-- 'laws.FnExactTreeLine': WHATEVER THE INPUT: true; the input reads as it did. -/
def fnExactTreeLineSpec : ChangeSpec := { name := "fnExactTreeLine", fn := fun _ => fun
  | [d1, d2] => { results := [.lit (.bool true)], args := [d1, d2] }
  | _ => none }
def fnExactTreeLineRow : OpenClaim := { program := "ytfmeopnankeaeaadoor", sum := "1fbc12b62c8eddbe0f9557167f2a0497b92c797edfdd7635f6bd13bd1081bf77", func := "loop.example/palim/laws.FnExactTreeLine", spec := "fnExactTreeLine", inPlace := ["internal/bytealg.IndexByteString", "internal/bytealg.IndexString", "internal/bytealg.abigen_runtime_cmpstring"], unfollowed := true, recurses := true, named := ["unicode/utf8.first", "unicode/utf8.acceptRanges", "internal/bytealg.MaxLen"], apart := false, laid := [("unicode/utf8.acceptRanges", laid_unicode_utf8_acceptRanges), ("unicode/utf8.first", laid_unicode_utf8_first)] }
def FnExactTreeLineSaid : Prop := fnExactTreeLineRow.holds Tryd.pinned (OpenSpec.ofChange fnExactTreeLineSpec)

/-- ITS FALSE NEIGHBOUR: 'it returns false'. Refute it at one input. -/
def fnExactTreeLineWrong : ChangeSpec := { name := "fnExactTreeLine", fn := fun _ => fun
  | [d1, d2] => { results := [.lit (.bool false)], args := [d1, d2] }
  | _ => none }
def FnExactTreeLineWrongFalsely : Prop := fnExactTreeLineRow.holds Tryd.pinned (OpenSpec.ofChange fnExactTreeLineWrong)

/-- 'laws.FnExactTreeAll': WHATEVER THE INPUT: true; the input reads as it did. -/
def fnExactTreeAllSpec : ChangeSpec := { name := "fnExactTreeAll", fn := fun _ => fun
  | [d] => { results := [.lit (.bool true)], args := [d] }
  | _ => none }
def fnExactTreeAllRow : OpenClaim := { program := "ytfmeopnankeaeaadoor", sum := "1fbc12b62c8eddbe0f9557167f2a0497b92c797edfdd7635f6bd13bd1081bf77", func := "loop.example/palim/laws.FnExactTreeAll", spec := "fnExactTreeAll", inPlace := ["internal/bytealg.IndexByteString", "internal/bytealg.IndexString"], unfollowed := true, recurses := true, named := ["unicode/utf8.first", "unicode/utf8.acceptRanges", "internal/bytealg.MaxLen"], apart := false, laid := [("unicode/utf8.acceptRanges", laid_unicode_utf8_acceptRanges), ("unicode/utf8.first", laid_unicode_utf8_first)] }
def FnExactTreeAllSaid : Prop := fnExactTreeAllRow.holds Tryd.pinned (OpenSpec.ofChange fnExactTreeAllSpec)

/-- ITS FALSE NEIGHBOUR: 'it returns false'. Refute it at one input. -/
def fnExactTreeAllWrong : ChangeSpec := { name := "fnExactTreeAll", fn := fun _ => fun
  | [d] => { results := [.lit (.bool false)], args := [d] }
  | _ => none }
def FnExactTreeAllWrongFalsely : Prop := fnExactTreeAllRow.holds Tryd.pinned (OpenSpec.ofChange fnExactTreeAllWrong)

/-- 'laws.FnExactSendDiff': WHATEVER THE INPUT: true; the input reads as it did. -/
def fnExactSendDiffSpec : ChangeSpec := { name := "fnExactSendDiff", fn := fun _ => fun
  | [d1, d2, d3] => { results := [.lit (.bool true)], args := [d1, d2, d3] }
  | _ => none }
def fnExactSendDiffRow : OpenClaim := { program := "ytfmeopnankeaeaadoor", sum := "1fbc12b62c8eddbe0f9557167f2a0497b92c797edfdd7635f6bd13bd1081bf77", func := "loop.example/palim/laws.FnExactSendDiff", spec := "fnExactSendDiff", inPlace := ["internal/bytealg.IndexByteString", "internal/bytealg.IndexString", "internal/bytealg.abigen_runtime_cmpstring"], unfollowed := true, recurses := true, named := ["unicode/utf8.first", "unicode/utf8.acceptRanges", "internal/bytealg.MaxLen"], apart := false, laid := [("unicode/utf8.acceptRanges", laid_unicode_utf8_acceptRanges), ("unicode/utf8.first", laid_unicode_utf8_first)] }
def FnExactSendDiffSaid : Prop := fnExactSendDiffRow.holds Tryd.pinned (OpenSpec.ofChange fnExactSendDiffSpec)

/-- ITS FALSE NEIGHBOUR: 'it returns false'. Refute it at one input. -/
def fnExactSendDiffWrong : ChangeSpec := { name := "fnExactSendDiff", fn := fun _ => fun
  | [d1, d2, d3] => { results := [.lit (.bool false)], args := [d1, d2, d3] }
  | _ => none }
def FnExactSendDiffWrongFalsely : Prop := fnExactSendDiffRow.holds Tryd.pinned (OpenSpec.ofChange fnExactSendDiffWrong)

/-- 'laws.FnExactTreeUnder': WHATEVER THE INPUT: true; the input reads as it did. -/
def fnExactTreeUnderSpec : ChangeSpec := { name := "fnExactTreeUnder", fn := fun _ => fun
  | [d1, d2] => { results := [.lit (.bool true)], args := [d1, d2] }
  | _ => none }
def fnExactTreeUnderRow : OpenClaim := { program := "ytfmeopnankeaeaadoor", sum := "1fbc12b62c8eddbe0f9557167f2a0497b92c797edfdd7635f6bd13bd1081bf77", func := "loop.example/palim/laws.FnExactTreeUnder", spec := "fnExactTreeUnder", inPlace := ["internal/bytealg.IndexByteString", "internal/bytealg.IndexString", "internal/bytealg.abigen_runtime_cmpstring"], unfollowed := true, recurses := true, named := ["unicode/utf8.first", "unicode/utf8.acceptRanges", "internal/bytealg.MaxLen"], apart := false, laid := [("unicode/utf8.acceptRanges", laid_unicode_utf8_acceptRanges), ("unicode/utf8.first", laid_unicode_utf8_first)] }
def FnExactTreeUnderSaid : Prop := fnExactTreeUnderRow.holds Tryd.pinned (OpenSpec.ofChange fnExactTreeUnderSpec)

/-- ITS FALSE NEIGHBOUR: 'it returns false'. Refute it at one input. -/
def fnExactTreeUnderWrong : ChangeSpec := { name := "fnExactTreeUnder", fn := fun _ => fun
  | [d1, d2] => { results := [.lit (.bool false)], args := [d1, d2] }
  | _ => none }
def FnExactTreeUnderWrongFalsely : Prop := fnExactTreeUnderRow.holds Tryd.pinned (OpenSpec.ofChange fnExactTreeUnderWrong)

/- THE SECOND FORM. 'bulk': how many values and letters a reading holds, each counted each time it is reached (what is shared counts as often as it is met; a slice's spare places count too). A statement '..UptoSaid' is the law's where the arguments, and the package variables that the reading takes, are together of bulk at most 1048576: NARROWER than '..Said'. Prove '..Said' where nothing that the law and all that it calls make is longer than what came in: it says more and counts as full. Else prove '..UptoSaid'. A law counts once. -/
mutual
def uptoBulk {H : Type} : DataW H → Nat
  | .lit (.string bytes) => bytes.length + 1
  | .lit _ => 1
  | .nil => 1
  | .ptr d => uptoBulk d + 1
  | .slice elems spare => uptoBulkAll elems + uptoBulkAll spare + 1
  | .agg parts => uptoBulkAll parts + 1
  | .iface _ d => uptoBulk d + 1
  | .map entries => uptoBulkEntries entries + 1
  | .held _ => 1
def uptoBulkAll {H : Type} : List (DataW H) → Nat
  | [] => 0
  | d :: r => uptoBulk d + uptoBulkAll r
def uptoBulkEntries {H : Type} : List (Lit × DataW H) → Nat
  | [] => 0
  | x :: r => uptoBulkEntry x + uptoBulkEntries r
def uptoBulkEntry {H : Type} : Lit × DataW H → Nat
  | (.string bytes, d) => bytes.length + uptoBulk d + 1
  | (_, d) => uptoBulk d + 1
 end
def uptoSmall : (H : Type) → List (DataW H) → Bool := fun _ ds => decide (uptoBulkAll ds ≤ 1048576)
def OpenSpec.upto (s : _root_.Go.ChangeSpec) : _root_.Go.OpenSpec := { _root_.Go.OpenSpec.ofChange s with cond := some uptoSmall }

/-- 'laws.FnExactTreeKids', WHERE WHAT IT READS IS OF BULK AT MOST 1048576: true; the input reads as it did. -/
def fnExactTreeKidsUptoRow : OpenClaim := { program := "ytfmeopnankeaeaadoor", sum := "1fbc12b62c8eddbe0f9557167f2a0497b92c797edfdd7635f6bd13bd1081bf77", func := "loop.example/palim/laws.FnExactTreeKids", spec := "fnExactTreeKids", inPlace := ["internal/bytealg.IndexByteString", "internal/bytealg.IndexString"], unfollowed := true, recurses := true, named := ["unicode/utf8.first", "unicode/utf8.acceptRanges", "internal/bytealg.MaxLen"], apart := false, laid := [("unicode/utf8.acceptRanges", laid_unicode_utf8_acceptRanges), ("unicode/utf8.first", laid_unicode_utf8_first)], narrowed := true }
def FnExactTreeKidsUptoSaid : Prop := fnExactTreeKidsUptoRow.holds Tryd.pinned (OpenSpec.upto fnExactTreeKidsSpec)

/-- 'laws.FnExactTreeLine', WHERE WHAT IT READS IS OF BULK AT MOST 1048576: true; the input reads as it did. -/
def fnExactTreeLineUptoRow : OpenClaim := { program := "ytfmeopnankeaeaadoor", sum := "1fbc12b62c8eddbe0f9557167f2a0497b92c797edfdd7635f6bd13bd1081bf77", func := "loop.example/palim/laws.FnExactTreeLine", spec := "fnExactTreeLine", inPlace := ["internal/bytealg.IndexByteString", "internal/bytealg.IndexString", "internal/bytealg.abigen_runtime_cmpstring"], unfollowed := true, recurses := true, named := ["unicode/utf8.first", "unicode/utf8.acceptRanges", "internal/bytealg.MaxLen"], apart := false, laid := [("unicode/utf8.acceptRanges", laid_unicode_utf8_acceptRanges), ("unicode/utf8.first", laid_unicode_utf8_first)], narrowed := true }
def FnExactTreeLineUptoSaid : Prop := fnExactTreeLineUptoRow.holds Tryd.pinned (OpenSpec.upto fnExactTreeLineSpec)

/-- 'laws.FnExactTreeAll', WHERE WHAT IT READS IS OF BULK AT MOST 1048576: true; the input reads as it did. -/
def fnExactTreeAllUptoRow : OpenClaim := { program := "ytfmeopnankeaeaadoor", sum := "1fbc12b62c8eddbe0f9557167f2a0497b92c797edfdd7635f6bd13bd1081bf77", func := "loop.example/palim/laws.FnExactTreeAll", spec := "fnExactTreeAll", inPlace := ["internal/bytealg.IndexByteString", "internal/bytealg.IndexString"], unfollowed := true, recurses := true, named := ["unicode/utf8.first", "unicode/utf8.acceptRanges", "internal/bytealg.MaxLen"], apart := false, laid := [("unicode/utf8.acceptRanges", laid_unicode_utf8_acceptRanges), ("unicode/utf8.first", laid_unicode_utf8_first)], narrowed := true }
def FnExactTreeAllUptoSaid : Prop := fnExactTreeAllUptoRow.holds Tryd.pinned (OpenSpec.upto fnExactTreeAllSpec)

/-- 'laws.FnExactSendDiff', WHERE WHAT IT READS IS OF BULK AT MOST 1048576: true; the input reads as it did. -/
def fnExactSendDiffUptoRow : OpenClaim := { program := "ytfmeopnankeaeaadoor", sum := "1fbc12b62c8eddbe0f9557167f2a0497b92c797edfdd7635f6bd13bd1081bf77", func := "loop.example/palim/laws.FnExactSendDiff", spec := "fnExactSendDiff", inPlace := ["internal/bytealg.IndexByteString", "internal/bytealg.IndexString", "internal/bytealg.abigen_runtime_cmpstring"], unfollowed := true, recurses := true, named := ["unicode/utf8.first", "unicode/utf8.acceptRanges", "internal/bytealg.MaxLen"], apart := false, laid := [("unicode/utf8.acceptRanges", laid_unicode_utf8_acceptRanges), ("unicode/utf8.first", laid_unicode_utf8_first)], narrowed := true }
def FnExactSendDiffUptoSaid : Prop := fnExactSendDiffUptoRow.holds Tryd.pinned (OpenSpec.upto fnExactSendDiffSpec)

/-- 'laws.FnExactTreeUnder', WHERE WHAT IT READS IS OF BULK AT MOST 1048576: true; the input reads as it did. -/
def fnExactTreeUnderUptoRow : OpenClaim := { program := "ytfmeopnankeaeaadoor", sum := "1fbc12b62c8eddbe0f9557167f2a0497b92c797edfdd7635f6bd13bd1081bf77", func := "loop.example/palim/laws.FnExactTreeUnder", spec := "fnExactTreeUnder", inPlace := ["internal/bytealg.IndexByteString", "internal/bytealg.IndexString", "internal/bytealg.abigen_runtime_cmpstring"], unfollowed := true, recurses := true, named := ["unicode/utf8.first", "unicode/utf8.acceptRanges", "internal/bytealg.MaxLen"], apart := false, laid := [("unicode/utf8.acceptRanges", laid_unicode_utf8_acceptRanges), ("unicode/utf8.first", laid_unicode_utf8_first)], narrowed := true }
def FnExactTreeUnderUptoSaid : Prop := fnExactTreeUnderUptoRow.holds Tryd.pinned (OpenSpec.upto fnExactTreeUnderSpec)

end Rows
end Go.Proofs.YtfmeopnankeaeaaDoor
