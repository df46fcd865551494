/-
  DERIVED. GIVEN WITH THE SEED: THE CARDS: each row of YtfmeopnankeaeaaDoorRows.lean that lists a variable, with what it lists TIED to the program's text (the seventh form; the later family's looks); each row that meets fmt, with fmt's text TOLD by the authors' own Lean function (tested against real Go, not proved from fmt's source: count such statements apart). THE CARD IS WHAT COUNTS. Prove the row's statement (the work); the ties are given (YtfmeopnankeaeaaDoorTie.lean); close each card by the builder's one call (the guide's Derived/Test/ToyasCard.lean, 'card_holds'). Laid BY PROGRAM, IN A SANDBOX (cutbox-door.mjs). By AI agents, Wed Nov 11 2026. No macro, syntax, notation, axiom, sorry.
-/
import Derived.Test.YtfmeopnankeaeaaDoorRows
import GoSem.ClaimSeven
namespace Go.Proofs.YtfmeopnankeaeaaDoor
namespace Rows

/-- THE TIED CARD OF 'laws.FnExactTreeKids'. -/
def fnExactTreeKidsCard : Claim7 := { stood := { row := fnExactTreeKidsRow, standIns := [], harness := (true, "ccd35189bb28188675dd8c03c9e308f197a7496a9be88afa0b35e12221ab5a96"), looks := false }, kinds := [], alts := [], laidByText := true, laidKinds := [.data, .pinned], laidTests := true, laidLooks := .later }
def FnExactTreeKidsCardSaid : Prop := Claim7.holds Tryd.pinned (.plain (OpenSpec.ofChange fnExactTreeKidsSpec)) fnExactTreeKidsCard

/-- THE TIED CARD OF 'laws.FnExactTreeLine'. -/
def fnExactTreeLineCard : Claim7 := { stood := { row := fnExactTreeLineRow, standIns := [], harness := (true, "ccd35189bb28188675dd8c03c9e308f197a7496a9be88afa0b35e12221ab5a96"), looks := false }, kinds := [], alts := [], laidByText := true, laidKinds := [.data, .pinned], laidTests := true, laidLooks := .later }
def FnExactTreeLineCardSaid : Prop := Claim7.holds Tryd.pinned (.plain (OpenSpec.ofChange fnExactTreeLineSpec)) fnExactTreeLineCard

/-- THE TIED CARD OF 'laws.FnExactTreeAll'. -/
def fnExactTreeAllCard : Claim7 := { stood := { row := fnExactTreeAllRow, standIns := [], harness := (true, "ccd35189bb28188675dd8c03c9e308f197a7496a9be88afa0b35e12221ab5a96"), looks := false }, kinds := [], alts := [], laidByText := true, laidKinds := [.data, .pinned], laidTests := true, laidLooks := .later }
def FnExactTreeAllCardSaid : Prop := Claim7.holds Tryd.pinned (.plain (OpenSpec.ofChange fnExactTreeAllSpec)) fnExactTreeAllCard

/-- THE TIED CARD OF 'laws.FnExactSendDiff'. -/
def fnExactSendDiffCard : Claim7 := { stood := { row := fnExactSendDiffRow, standIns := [], harness := (true, "ccd35189bb28188675dd8c03c9e308f197a7496a9be88afa0b35e12221ab5a96"), looks := false }, kinds := [], alts := [], laidByText := true, laidKinds := [.data, .pinned], laidTests := true, laidLooks := .later }
def FnExactSendDiffCardSaid : Prop := Claim7.holds Tryd.pinned (.plain (OpenSpec.ofChange fnExactSendDiffSpec)) fnExactSendDiffCard

/-- THE TIED CARD OF 'laws.FnExactTreeUnder'. -/
def fnExactTreeUnderCard : Claim7 := { stood := { row := fnExactTreeUnderRow, standIns := [], harness := (true, "ccd35189bb28188675dd8c03c9e308f197a7496a9be88afa0b35e12221ab5a96"), looks := false }, kinds := [], alts := [], laidByText := true, laidKinds := [.data, .pinned], laidTests := true, laidLooks := .later }
def FnExactTreeUnderCardSaid : Prop := Claim7.holds Tryd.pinned (.plain (OpenSpec.ofChange fnExactTreeUnderSpec)) fnExactTreeUnderCard

/-- THE SECOND FORM's CARD OF 'laws.FnExactTreeKids'. -/
def fnExactTreeKidsUptoCard : Claim7 := { stood := { row := fnExactTreeKidsUptoRow, standIns := [], harness := (true, "ccd35189bb28188675dd8c03c9e308f197a7496a9be88afa0b35e12221ab5a96"), looks := false }, kinds := [], alts := [], laidByText := true, laidKinds := [.data, .pinned], laidTests := true, laidLooks := .later }
def FnExactTreeKidsUptoCardSaid : Prop := Claim7.holds Tryd.pinned (.plain (OpenSpec.upto fnExactTreeKidsSpec)) fnExactTreeKidsUptoCard

/-- THE SECOND FORM's CARD OF 'laws.FnExactTreeLine'. -/
def fnExactTreeLineUptoCard : Claim7 := { stood := { row := fnExactTreeLineUptoRow, standIns := [], harness := (true, "ccd35189bb28188675dd8c03c9e308f197a7496a9be88afa0b35e12221ab5a96"), looks := false }, kinds := [], alts := [], laidByText := true, laidKinds := [.data, .pinned], laidTests := true, laidLooks := .later }
def FnExactTreeLineUptoCardSaid : Prop := Claim7.holds Tryd.pinned (.plain (OpenSpec.upto fnExactTreeLineSpec)) fnExactTreeLineUptoCard

/-- THE SECOND FORM's CARD OF 'laws.FnExactTreeAll'. -/
def fnExactTreeAllUptoCard : Claim7 := { stood := { row := fnExactTreeAllUptoRow, standIns := [], harness := (true, "ccd35189bb28188675dd8c03c9e308f197a7496a9be88afa0b35e12221ab5a96"), looks := false }, kinds := [], alts := [], laidByText := true, laidKinds := [.data, .pinned], laidTests := true, laidLooks := .later }
def FnExactTreeAllUptoCardSaid : Prop := Claim7.holds Tryd.pinned (.plain (OpenSpec.upto fnExactTreeAllSpec)) fnExactTreeAllUptoCard

/-- THE SECOND FORM's CARD OF 'laws.FnExactSendDiff'. -/
def fnExactSendDiffUptoCard : Claim7 := { stood := { row := fnExactSendDiffUptoRow, standIns := [], harness := (true, "ccd35189bb28188675dd8c03c9e308f197a7496a9be88afa0b35e12221ab5a96"), looks := false }, kinds := [], alts := [], laidByText := true, laidKinds := [.data, .pinned], laidTests := true, laidLooks := .later }
def FnExactSendDiffUptoCardSaid : Prop := Claim7.holds Tryd.pinned (.plain (OpenSpec.upto fnExactSendDiffSpec)) fnExactSendDiffUptoCard

/-- THE SECOND FORM's CARD OF 'laws.FnExactTreeUnder'. -/
def fnExactTreeUnderUptoCard : Claim7 := { stood := { row := fnExactTreeUnderUptoRow, standIns := [], harness := (true, "ccd35189bb28188675dd8c03c9e308f197a7496a9be88afa0b35e12221ab5a96"), looks := false }, kinds := [], alts := [], laidByText := true, laidKinds := [.data, .pinned], laidTests := true, laidLooks := .later }
def FnExactTreeUnderUptoCardSaid : Prop := Claim7.holds Tryd.pinned (.plain (OpenSpec.upto fnExactTreeUnderSpec)) fnExactTreeUnderUptoCard
end Rows
end Go.Proofs.YtfmeopnankeaeaaDoor
