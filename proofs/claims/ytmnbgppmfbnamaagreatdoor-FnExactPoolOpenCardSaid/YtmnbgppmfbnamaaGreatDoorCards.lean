/-
  DERIVED. GIVEN WITH THE SEED: THE CARDS: each row of YtmnbgppmfbnamaaGreatDoorRows.lean that lists a variable, with what it lists TIED to the program's text (the seventh form; the later family's looks); each row that meets fmt, with fmt's text TOLD by the authors' own Lean function (tested against real Go, not proved from fmt's source: count such statements apart). THE CARD IS WHAT COUNTS. Prove the row's statement (the work); the ties are given (YtmnbgppmfbnamaaGreatDoorTie.lean); close each card by the builder's one call (the guide's Derived/Test/ToyasCard.lean, 'card_holds'). Laid BY PROGRAM, IN A SANDBOX (cutbox-door.mjs). By AI agents, Wed Nov 11 2026. No macro, syntax, notation, axiom, sorry.
-/
import Derived.Test.YtmnbgppmfbnamaaGreatDoorRows
import GoSem.ClaimSeven
namespace Go.Proofs.YtmnbgppmfbnamaaGreatDoor
namespace Rows

/-- THE TIED CARD OF 'laws.FnLogBack'. -/
def fnLogBackCard : Claim7 := { stood := { row := fnLogBackRow, standIns := [], harness := (true, "d37ab77a90e9ae1cd9d77bb4dd5e03f8d6ad38592211423ec9cb017514598641"), looks := true }, kinds := [], alts := [], laidByText := true, laidKinds := [.data, .data, .data, .data, .sentinel, .sentinel, .pinned], laidTests := true, laidLooks := .later }
def FnLogBackCardSaid : Prop := Claim7.holds Tryz.pinned (.plain (OpenSpec.ofChange fnLogBackSpec)) fnLogBackCard

/-- THE TIED CARD OF 'laws.FnExactLogFind'. -/
def fnExactLogFindCard : Claim7 := { stood := { row := fnExactLogFindRow, standIns := [], harness := (true, "d37ab77a90e9ae1cd9d77bb4dd5e03f8d6ad38592211423ec9cb017514598641"), looks := true }, kinds := [], alts := [], laidByText := true, laidKinds := [.data, .data, .data, .data, .sentinel, .sentinel, .pinned], laidTests := true, laidLooks := .later }
def FnExactLogFindCardSaid : Prop := Claim7.holds Tryz.pinned (.plain (OpenSpec.ofChange fnExactLogFindSpec)) fnExactLogFindCard

/-- THE TIED CARD OF 'laws.FnExactLogPut'. -/
def fnExactLogPutCard : Claim7 := { stood := { row := fnExactLogPutRow, standIns := [], harness := (true, "d37ab77a90e9ae1cd9d77bb4dd5e03f8d6ad38592211423ec9cb017514598641"), looks := true }, kinds := [], alts := [], laidByText := true, laidKinds := [.data, .data, .data, .data, .pinned], laidTests := true, laidLooks := .later }
def FnExactLogPutCardSaid : Prop := Claim7.holds Tryz.pinned (.plain (OpenSpec.ofChange fnExactLogPutSpec)) fnExactLogPutCard

/-- THE TIED CARD OF 'laws.FnExactCommitNew'. -/
def fnExactCommitNewCard : Claim7 := { stood := { row := fnExactCommitNewRow, standIns := [], harness := (true, "d37ab77a90e9ae1cd9d77bb4dd5e03f8d6ad38592211423ec9cb017514598641"), looks := true }, kinds := [], alts := [], laidByText := true, laidKinds := [.data, .data, .data, .data, .pinned], laidTests := true, laidLooks := .later }
def FnExactCommitNewCardSaid : Prop := Claim7.holds Tryz.pinned (.plain (OpenSpec.ofChange fnExactCommitNewSpec)) fnExactCommitNewCard

/-- THE TIED CARD OF 'laws.FnExactPoolOpen'. -/
def fnExactPoolOpenCard : Claim7 := { stood := { row := fnExactPoolOpenRow, standIns := [], harness := (true, "d37ab77a90e9ae1cd9d77bb4dd5e03f8d6ad38592211423ec9cb017514598641"), looks := true }, kinds := [], alts := [], laidByText := true, laidKinds := [.data, .data, .data, .data, .pinned], laidTests := true, laidLooks := .later }
def FnExactPoolOpenCardSaid : Prop := Claim7.holds Tryz.pinned (.plain (OpenSpec.ofChange fnExactPoolOpenSpec)) fnExactPoolOpenCard

/-- THE SECOND FORM's CARD OF 'laws.FnLogBack'. -/
def fnLogBackUptoCard : Claim7 := { stood := { row := fnLogBackUptoRow, standIns := [], harness := (true, "d37ab77a90e9ae1cd9d77bb4dd5e03f8d6ad38592211423ec9cb017514598641"), looks := true }, kinds := [], alts := [], laidByText := true, laidKinds := [.data, .data, .data, .data, .sentinel, .sentinel, .pinned], laidTests := true, laidLooks := .later }
def FnLogBackUptoCardSaid : Prop := Claim7.holds Tryz.pinned (.plain (OpenSpec.upto fnLogBackSpec)) fnLogBackUptoCard

/-- THE SECOND FORM's CARD OF 'laws.FnExactLogFind'. -/
def fnExactLogFindUptoCard : Claim7 := { stood := { row := fnExactLogFindUptoRow, standIns := [], harness := (true, "d37ab77a90e9ae1cd9d77bb4dd5e03f8d6ad38592211423ec9cb017514598641"), looks := true }, kinds := [], alts := [], laidByText := true, laidKinds := [.data, .data, .data, .data, .sentinel, .sentinel, .pinned], laidTests := true, laidLooks := .later }
def FnExactLogFindUptoCardSaid : Prop := Claim7.holds Tryz.pinned (.plain (OpenSpec.upto fnExactLogFindSpec)) fnExactLogFindUptoCard

/-- THE SECOND FORM's CARD OF 'laws.FnExactLogPut'. -/
def fnExactLogPutUptoCard : Claim7 := { stood := { row := fnExactLogPutUptoRow, standIns := [], harness := (true, "d37ab77a90e9ae1cd9d77bb4dd5e03f8d6ad38592211423ec9cb017514598641"), looks := true }, kinds := [], alts := [], laidByText := true, laidKinds := [.data, .data, .data, .data, .pinned], laidTests := true, laidLooks := .later }
def FnExactLogPutUptoCardSaid : Prop := Claim7.holds Tryz.pinned (.plain (OpenSpec.upto fnExactLogPutSpec)) fnExactLogPutUptoCard

/-- THE SECOND FORM's CARD OF 'laws.FnExactCommitNew'. -/
def fnExactCommitNewUptoCard : Claim7 := { stood := { row := fnExactCommitNewUptoRow, standIns := [], harness := (true, "d37ab77a90e9ae1cd9d77bb4dd5e03f8d6ad38592211423ec9cb017514598641"), looks := true }, kinds := [], alts := [], laidByText := true, laidKinds := [.data, .data, .data, .data, .pinned], laidTests := true, laidLooks := .later }
def FnExactCommitNewUptoCardSaid : Prop := Claim7.holds Tryz.pinned (.plain (OpenSpec.upto fnExactCommitNewSpec)) fnExactCommitNewUptoCard

/-- THE SECOND FORM's CARD OF 'laws.FnExactPoolOpen'. -/
def fnExactPoolOpenUptoCard : Claim7 := { stood := { row := fnExactPoolOpenUptoRow, standIns := [], harness := (true, "d37ab77a90e9ae1cd9d77bb4dd5e03f8d6ad38592211423ec9cb017514598641"), looks := true }, kinds := [], alts := [], laidByText := true, laidKinds := [.data, .data, .data, .data, .pinned], laidTests := true, laidLooks := .later }
def FnExactPoolOpenUptoCardSaid : Prop := Claim7.holds Tryz.pinned (.plain (OpenSpec.upto fnExactPoolOpenSpec)) fnExactPoolOpenUptoCard
end Rows
end Go.Proofs.YtmnbgppmfbnamaaGreatDoor
