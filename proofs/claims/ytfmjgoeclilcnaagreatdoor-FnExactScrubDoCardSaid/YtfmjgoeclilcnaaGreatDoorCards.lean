/-
  DERIVED. GIVEN WITH THE SEED: THE CARDS: each row of YtfmjgoeclilcnaaGreatDoorRows.lean that lists a variable, with what it lists TIED to the program's text (the seventh form; the later family's looks); each row that meets fmt, with fmt's text TOLD by the authors' own Lean function (tested against real Go, not proved from fmt's source: count such statements apart). THE CARD IS WHAT COUNTS. Prove the row's statement (the work); the ties are given (YtfmjgoeclilcnaaGreatDoorTie.lean); close each card by the builder's one call (the guide's Derived/Test/ToyasCard.lean, 'card_holds'). Laid BY PROGRAM, IN A SANDBOX (cutbox-door.mjs). By AI agents, Wed Nov 11 2026. No macro, syntax, notation, axiom, sorry.
-/
import Derived.Test.YtfmjgoeclilcnaaGreatDoorRows
import GoSem.ClaimSeven
namespace Go.Proofs.YtfmjgoeclilcnaaGreatDoor
namespace Rows

/-- THE TIED CARD OF 'laws.FnExactScrubDo'. -/
def fnExactScrubDoCard : Claim7 := { stood := { row := fnExactScrubDoRow, standIns := [], harness := (true, "130a41317742f05490f0aa41ce9f958503d245d45b261623b21b2bda7c0fba27"), looks := true }, kinds := [], alts := [], laidByText := true, laidKinds := [.data, .data, .data, .data, .sentinel, .sentinel, .pinned], laidTests := true, laidLooks := .later }
def FnExactScrubDoCardSaid : Prop := Claim7.holds Tryz.pinned (.plain (OpenSpec.ofChange fnExactScrubDoSpec)) fnExactScrubDoCard

/-- THE TIED CARD OF 'laws.FnExactRiseRead'. -/
def fnExactRiseReadCard : Claim7 := { stood := { row := fnExactRiseReadRow, standIns := [], harness := (true, "130a41317742f05490f0aa41ce9f958503d245d45b261623b21b2bda7c0fba27"), looks := true }, kinds := [], alts := [], laidByText := true, laidKinds := [.data, .data, .data, .data, .sentinel, .sentinel, .pinned], laidTests := true, laidLooks := .later }
def FnExactRiseReadCardSaid : Prop := Claim7.holds Tryz.pinned (.plain (OpenSpec.ofChange fnExactRiseReadSpec)) fnExactRiseReadCard

/-- THE TIED CARD OF 'laws.FnExactScrubSound'. -/
def fnExactScrubSoundCard : Claim7 := { stood := { row := fnExactScrubSoundRow, standIns := [], harness := (true, "130a41317742f05490f0aa41ce9f958503d245d45b261623b21b2bda7c0fba27"), looks := true }, kinds := [], alts := [], laidByText := true, laidKinds := [.data, .data, .data, .data, .sentinel, .sentinel, .pinned], laidTests := true, laidLooks := .later }
def FnExactScrubSoundCardSaid : Prop := Claim7.holds Tryz.pinned (.plain (OpenSpec.ofChange fnExactScrubSoundSpec)) fnExactScrubSoundCard

/-- THE TIED CARD OF 'laws.FnExactScrubAll'. -/
def fnExactScrubAllCard : Claim7 := { stood := { row := fnExactScrubAllRow, standIns := [], harness := (true, "130a41317742f05490f0aa41ce9f958503d245d45b261623b21b2bda7c0fba27"), looks := true }, kinds := [], alts := [], laidByText := true, laidKinds := [.data, .data, .data, .data, .sentinel, .sentinel, .pinned], laidTests := true, laidLooks := .later }
def FnExactScrubAllCardSaid : Prop := Claim7.holds Tryz.pinned (.plain (OpenSpec.ofChange fnExactScrubAllSpec)) fnExactScrubAllCard

/-- THE SECOND FORM's CARD OF 'laws.FnExactScrubDo'. -/
def fnExactScrubDoUptoCard : Claim7 := { stood := { row := fnExactScrubDoUptoRow, standIns := [], harness := (true, "130a41317742f05490f0aa41ce9f958503d245d45b261623b21b2bda7c0fba27"), looks := true }, kinds := [], alts := [], laidByText := true, laidKinds := [.data, .data, .data, .data, .sentinel, .sentinel, .pinned], laidTests := true, laidLooks := .later }
def FnExactScrubDoUptoCardSaid : Prop := Claim7.holds Tryz.pinned (.plain (OpenSpec.upto fnExactScrubDoSpec)) fnExactScrubDoUptoCard

/-- THE SECOND FORM's CARD OF 'laws.FnExactRiseRead'. -/
def fnExactRiseReadUptoCard : Claim7 := { stood := { row := fnExactRiseReadUptoRow, standIns := [], harness := (true, "130a41317742f05490f0aa41ce9f958503d245d45b261623b21b2bda7c0fba27"), looks := true }, kinds := [], alts := [], laidByText := true, laidKinds := [.data, .data, .data, .data, .sentinel, .sentinel, .pinned], laidTests := true, laidLooks := .later }
def FnExactRiseReadUptoCardSaid : Prop := Claim7.holds Tryz.pinned (.plain (OpenSpec.upto fnExactRiseReadSpec)) fnExactRiseReadUptoCard

/-- THE SECOND FORM's CARD OF 'laws.FnExactScrubSound'. -/
def fnExactScrubSoundUptoCard : Claim7 := { stood := { row := fnExactScrubSoundUptoRow, standIns := [], harness := (true, "130a41317742f05490f0aa41ce9f958503d245d45b261623b21b2bda7c0fba27"), looks := true }, kinds := [], alts := [], laidByText := true, laidKinds := [.data, .data, .data, .data, .sentinel, .sentinel, .pinned], laidTests := true, laidLooks := .later }
def FnExactScrubSoundUptoCardSaid : Prop := Claim7.holds Tryz.pinned (.plain (OpenSpec.upto fnExactScrubSoundSpec)) fnExactScrubSoundUptoCard

/-- THE SECOND FORM's CARD OF 'laws.FnExactScrubAll'. -/
def fnExactScrubAllUptoCard : Claim7 := { stood := { row := fnExactScrubAllUptoRow, standIns := [], harness := (true, "130a41317742f05490f0aa41ce9f958503d245d45b261623b21b2bda7c0fba27"), looks := true }, kinds := [], alts := [], laidByText := true, laidKinds := [.data, .data, .data, .data, .sentinel, .sentinel, .pinned], laidTests := true, laidLooks := .later }
def FnExactScrubAllUptoCardSaid : Prop := Claim7.holds Tryz.pinned (.plain (OpenSpec.upto fnExactScrubAllSpec)) fnExactScrubAllUptoCard
end Rows
end Go.Proofs.YtfmjgoeclilcnaaGreatDoor
