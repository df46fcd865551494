/-
  DERIVED. GIVEN WITH THE SEED: THE CARDS: each row of YtjedcphhajlnoaaGreatDoorRows.lean that lists a variable, with what it lists TIED to the program's text (the seventh form; the later family's looks); each row that meets fmt, with fmt's text TOLD by the authors' own Lean function (tested against real Go, not proved from fmt's source: count such statements apart). THE CARD IS WHAT COUNTS. Prove the row's statement (the work); the ties are given (YtjedcphhajlnoaaGreatDoorTie.lean); close each card by the builder's one call (the guide's Derived/Test/ToyasCard.lean, 'card_holds'). Laid BY PROGRAM, IN A SANDBOX (cutbox-door.mjs). By AI agents, Wed Nov 11 2026. No macro, syntax, notation, axiom, sorry.
-/
import Derived.Test.YtjedcphhajlnoaaGreatDoorRows
import GoSem.ClaimSeven
namespace Go.Proofs.YtjedcphhajlnoaaGreatDoor
namespace Rows

/-- THE TIED CARD OF 'laws.FnExactPoolOk'. -/
def fnExactPoolOkCard : Claim7 := { stood := { row := fnExactPoolOkRow, standIns := [], harness := (true, "07e5e12bf4a1a0b5aff3a2f16cab16efbcc2b7ccef920bf4ee764bf3ad746ba2"), looks := true }, kinds := [], alts := [], laidByText := true, laidKinds := [.data, .pinned], laidTests := true, laidLooks := .later }
def FnExactPoolOkCardSaid : Prop := Claim7.holds Tryz.pinned (.plain (OpenSpec.ofChange fnExactPoolOkSpec)) fnExactPoolOkCard

/-- THE TIED CARD OF 'laws.FnExactPoolGet'. -/
def fnExactPoolGetCard : Claim7 := { stood := { row := fnExactPoolGetRow, standIns := [], harness := (true, "07e5e12bf4a1a0b5aff3a2f16cab16efbcc2b7ccef920bf4ee764bf3ad746ba2"), looks := true }, kinds := [], alts := [], laidByText := true, laidKinds := [.data, .pinned], laidTests := true, laidLooks := .later }
def FnExactPoolGetCardSaid : Prop := Claim7.holds Tryz.pinned (.plain (OpenSpec.ofChange fnExactPoolGetSpec)) fnExactPoolGetCard

/-- THE TIED CARD OF 'laws.FnBlkHeal'. -/
def fnBlkHealCard : Claim7 := { stood := { row := fnBlkHealRow, standIns := [], harness := (true, "07e5e12bf4a1a0b5aff3a2f16cab16efbcc2b7ccef920bf4ee764bf3ad746ba2"), looks := true }, kinds := [], alts := [], laidByText := true, laidKinds := [.data, .data, .data, .data, .sentinel, .sentinel, .pinned], laidTests := true, laidLooks := .later }
def FnBlkHealCardSaid : Prop := Claim7.holds Tryz.pinned (.plain (OpenSpec.ofChange fnBlkHealSpec)) fnBlkHealCard

/-- THE TIED CARD OF 'laws.FnCoreTorn'. -/
def fnCoreTornCard : Claim7 := { stood := { row := fnCoreTornRow, standIns := [], harness := (true, "07e5e12bf4a1a0b5aff3a2f16cab16efbcc2b7ccef920bf4ee764bf3ad746ba2"), looks := true }, kinds := [], alts := [], laidByText := true, laidKinds := [.data, .data, .data, .data, .sentinel, .sentinel, .pinned], laidTests := true, laidLooks := .later }
def FnCoreTornCardSaid : Prop := Claim7.holds Tryz.pinned (.plain (OpenSpec.ofChange fnCoreTornSpec)) fnCoreTornCard

/-- THE TIED CARD OF 'laws.FnExactRiseBest'. -/
def fnExactRiseBestCard : Claim7 := { stood := { row := fnExactRiseBestRow, standIns := [], harness := (true, "07e5e12bf4a1a0b5aff3a2f16cab16efbcc2b7ccef920bf4ee764bf3ad746ba2"), looks := true }, kinds := [], alts := [], laidByText := true, laidKinds := [.data, .data, .data, .data, .sentinel, .sentinel, .pinned], laidTests := true, laidLooks := .later }
def FnExactRiseBestCardSaid : Prop := Claim7.holds Tryz.pinned (.plain (OpenSpec.ofChange fnExactRiseBestSpec)) fnExactRiseBestCard

/-- THE TIED CARD OF 'laws.FnExactPoolSync'. -/
def fnExactPoolSyncCard : Claim7 := { stood := { row := fnExactPoolSyncRow, standIns := [], harness := (true, "07e5e12bf4a1a0b5aff3a2f16cab16efbcc2b7ccef920bf4ee764bf3ad746ba2"), looks := true }, kinds := [], alts := [], laidByText := true, laidKinds := [.data, .pinned], laidTests := true, laidLooks := .later }
def FnExactPoolSyncCardSaid : Prop := Claim7.holds Tryz.pinned (.plain (OpenSpec.ofChange fnExactPoolSyncSpec)) fnExactPoolSyncCard

/-- THE TIED CARD OF 'laws.FnExactPoolFall'. -/
def fnExactPoolFallCard : Claim7 := { stood := { row := fnExactPoolFallRow, standIns := [], harness := (true, "07e5e12bf4a1a0b5aff3a2f16cab16efbcc2b7ccef920bf4ee764bf3ad746ba2"), looks := true }, kinds := [], alts := [], laidByText := true, laidKinds := [.data, .pinned], laidTests := true, laidLooks := .later }
def FnExactPoolFallCardSaid : Prop := Claim7.holds Tryz.pinned (.plain (OpenSpec.ofChange fnExactPoolFallSpec)) fnExactPoolFallCard

/-- THE TIED CARD OF 'laws.FnExactPoolRot'. -/
def fnExactPoolRotCard : Claim7 := { stood := { row := fnExactPoolRotRow, standIns := [], harness := (true, "07e5e12bf4a1a0b5aff3a2f16cab16efbcc2b7ccef920bf4ee764bf3ad746ba2"), looks := true }, kinds := [], alts := [], laidByText := true, laidKinds := [.data, .pinned], laidTests := true, laidLooks := .later }
def FnExactPoolRotCardSaid : Prop := Claim7.holds Tryz.pinned (.plain (OpenSpec.ofChange fnExactPoolRotSpec)) fnExactPoolRotCard

/-- THE TIED CARD OF 'laws.FnLogBack'. -/
def fnLogBackCard : Claim7 := { stood := { row := fnLogBackRow, standIns := [], harness := (true, "07e5e12bf4a1a0b5aff3a2f16cab16efbcc2b7ccef920bf4ee764bf3ad746ba2"), looks := true }, kinds := [], alts := [], laidByText := true, laidKinds := [.data, .data, .data, .data, .sentinel, .sentinel, .pinned], laidTests := true, laidLooks := .later }
def FnLogBackCardSaid : Prop := Claim7.holds Tryz.pinned (.plain (OpenSpec.ofChange fnLogBackSpec)) fnLogBackCard

/-- THE TIED CARD OF 'laws.FnExactLogFind'. -/
def fnExactLogFindCard : Claim7 := { stood := { row := fnExactLogFindRow, standIns := [], harness := (true, "07e5e12bf4a1a0b5aff3a2f16cab16efbcc2b7ccef920bf4ee764bf3ad746ba2"), looks := true }, kinds := [], alts := [], laidByText := true, laidKinds := [.data, .data, .data, .data, .sentinel, .sentinel, .pinned], laidTests := true, laidLooks := .later }
def FnExactLogFindCardSaid : Prop := Claim7.holds Tryz.pinned (.plain (OpenSpec.ofChange fnExactLogFindSpec)) fnExactLogFindCard

/-- THE SECOND FORM's CARD OF 'laws.FnExactPoolOk'. -/
def fnExactPoolOkUptoCard : Claim7 := { stood := { row := fnExactPoolOkUptoRow, standIns := [], harness := (true, "07e5e12bf4a1a0b5aff3a2f16cab16efbcc2b7ccef920bf4ee764bf3ad746ba2"), looks := true }, kinds := [], alts := [], laidByText := true, laidKinds := [.data, .pinned], laidTests := true, laidLooks := .later }
def FnExactPoolOkUptoCardSaid : Prop := Claim7.holds Tryz.pinned (.plain (OpenSpec.upto fnExactPoolOkSpec)) fnExactPoolOkUptoCard

/-- THE SECOND FORM's CARD OF 'laws.FnExactPoolGet'. -/
def fnExactPoolGetUptoCard : Claim7 := { stood := { row := fnExactPoolGetUptoRow, standIns := [], harness := (true, "07e5e12bf4a1a0b5aff3a2f16cab16efbcc2b7ccef920bf4ee764bf3ad746ba2"), looks := true }, kinds := [], alts := [], laidByText := true, laidKinds := [.data, .pinned], laidTests := true, laidLooks := .later }
def FnExactPoolGetUptoCardSaid : Prop := Claim7.holds Tryz.pinned (.plain (OpenSpec.upto fnExactPoolGetSpec)) fnExactPoolGetUptoCard

/-- THE SECOND FORM's CARD OF 'laws.FnBlkHeal'. -/
def fnBlkHealUptoCard : Claim7 := { stood := { row := fnBlkHealUptoRow, standIns := [], harness := (true, "07e5e12bf4a1a0b5aff3a2f16cab16efbcc2b7ccef920bf4ee764bf3ad746ba2"), looks := true }, kinds := [], alts := [], laidByText := true, laidKinds := [.data, .data, .data, .data, .sentinel, .sentinel, .pinned], laidTests := true, laidLooks := .later }
def FnBlkHealUptoCardSaid : Prop := Claim7.holds Tryz.pinned (.plain (OpenSpec.upto fnBlkHealSpec)) fnBlkHealUptoCard

/-- THE SECOND FORM's CARD OF 'laws.FnCoreTorn'. -/
def fnCoreTornUptoCard : Claim7 := { stood := { row := fnCoreTornUptoRow, standIns := [], harness := (true, "07e5e12bf4a1a0b5aff3a2f16cab16efbcc2b7ccef920bf4ee764bf3ad746ba2"), looks := true }, kinds := [], alts := [], laidByText := true, laidKinds := [.data, .data, .data, .data, .sentinel, .sentinel, .pinned], laidTests := true, laidLooks := .later }
def FnCoreTornUptoCardSaid : Prop := Claim7.holds Tryz.pinned (.plain (OpenSpec.upto fnCoreTornSpec)) fnCoreTornUptoCard

/-- THE SECOND FORM's CARD OF 'laws.FnExactRiseBest'. -/
def fnExactRiseBestUptoCard : Claim7 := { stood := { row := fnExactRiseBestUptoRow, standIns := [], harness := (true, "07e5e12bf4a1a0b5aff3a2f16cab16efbcc2b7ccef920bf4ee764bf3ad746ba2"), looks := true }, kinds := [], alts := [], laidByText := true, laidKinds := [.data, .data, .data, .data, .sentinel, .sentinel, .pinned], laidTests := true, laidLooks := .later }
def FnExactRiseBestUptoCardSaid : Prop := Claim7.holds Tryz.pinned (.plain (OpenSpec.upto fnExactRiseBestSpec)) fnExactRiseBestUptoCard

/-- THE SECOND FORM's CARD OF 'laws.FnExactPoolSync'. -/
def fnExactPoolSyncUptoCard : Claim7 := { stood := { row := fnExactPoolSyncUptoRow, standIns := [], harness := (true, "07e5e12bf4a1a0b5aff3a2f16cab16efbcc2b7ccef920bf4ee764bf3ad746ba2"), looks := true }, kinds := [], alts := [], laidByText := true, laidKinds := [.data, .pinned], laidTests := true, laidLooks := .later }
def FnExactPoolSyncUptoCardSaid : Prop := Claim7.holds Tryz.pinned (.plain (OpenSpec.upto fnExactPoolSyncSpec)) fnExactPoolSyncUptoCard

/-- THE SECOND FORM's CARD OF 'laws.FnExactPoolFall'. -/
def fnExactPoolFallUptoCard : Claim7 := { stood := { row := fnExactPoolFallUptoRow, standIns := [], harness := (true, "07e5e12bf4a1a0b5aff3a2f16cab16efbcc2b7ccef920bf4ee764bf3ad746ba2"), looks := true }, kinds := [], alts := [], laidByText := true, laidKinds := [.data, .pinned], laidTests := true, laidLooks := .later }
def FnExactPoolFallUptoCardSaid : Prop := Claim7.holds Tryz.pinned (.plain (OpenSpec.upto fnExactPoolFallSpec)) fnExactPoolFallUptoCard

/-- THE SECOND FORM's CARD OF 'laws.FnExactPoolRot'. -/
def fnExactPoolRotUptoCard : Claim7 := { stood := { row := fnExactPoolRotUptoRow, standIns := [], harness := (true, "07e5e12bf4a1a0b5aff3a2f16cab16efbcc2b7ccef920bf4ee764bf3ad746ba2"), looks := true }, kinds := [], alts := [], laidByText := true, laidKinds := [.data, .pinned], laidTests := true, laidLooks := .later }
def FnExactPoolRotUptoCardSaid : Prop := Claim7.holds Tryz.pinned (.plain (OpenSpec.upto fnExactPoolRotSpec)) fnExactPoolRotUptoCard

/-- THE SECOND FORM's CARD OF 'laws.FnLogBack'. -/
def fnLogBackUptoCard : Claim7 := { stood := { row := fnLogBackUptoRow, standIns := [], harness := (true, "07e5e12bf4a1a0b5aff3a2f16cab16efbcc2b7ccef920bf4ee764bf3ad746ba2"), looks := true }, kinds := [], alts := [], laidByText := true, laidKinds := [.data, .data, .data, .data, .sentinel, .sentinel, .pinned], laidTests := true, laidLooks := .later }
def FnLogBackUptoCardSaid : Prop := Claim7.holds Tryz.pinned (.plain (OpenSpec.upto fnLogBackSpec)) fnLogBackUptoCard

/-- THE SECOND FORM's CARD OF 'laws.FnExactLogFind'. -/
def fnExactLogFindUptoCard : Claim7 := { stood := { row := fnExactLogFindUptoRow, standIns := [], harness := (true, "07e5e12bf4a1a0b5aff3a2f16cab16efbcc2b7ccef920bf4ee764bf3ad746ba2"), looks := true }, kinds := [], alts := [], laidByText := true, laidKinds := [.data, .data, .data, .data, .sentinel, .sentinel, .pinned], laidTests := true, laidLooks := .later }
def FnExactLogFindUptoCardSaid : Prop := Claim7.holds Tryz.pinned (.plain (OpenSpec.upto fnExactLogFindSpec)) fnExactLogFindUptoCard
end Rows
end Go.Proofs.YtjedcphhajlnoaaGreatDoor
