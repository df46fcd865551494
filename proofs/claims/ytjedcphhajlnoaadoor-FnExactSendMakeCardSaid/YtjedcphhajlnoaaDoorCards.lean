/-
  DERIVED. GIVEN WITH THE SEED: THE CARDS: each row of YtjedcphhajlnoaaDoorRows.lean that lists a variable, with what it lists TIED to the program's text (the seventh form; the later family's looks); each row that meets fmt, with fmt's text TOLD by the authors' own Lean function (tested against real Go, not proved from fmt's source: count such statements apart). THE CARD IS WHAT COUNTS. Prove the row's statement (the work); the ties are given (YtjedcphhajlnoaaDoorTie.lean); close each card by the builder's one call (the guide's Derived/Test/ToyasCard.lean, 'card_holds'). Laid BY PROGRAM, IN A SANDBOX (cutbox-door.mjs). By AI agents, Wed Nov 11 2026. No macro, syntax, notation, axiom, sorry.
-/
import Derived.Test.YtjedcphhajlnoaaDoorRows
import GoSem.ClaimSeven
namespace Go.Proofs.YtjedcphhajlnoaaDoor
namespace Rows

/-- THE TIED CARD OF 'laws.FnTreeLine'. -/
def fnTreeLineCard : Claim7 := { stood := { row := fnTreeLineRow, standIns := [], harness := (true, "51696609994b3de4a9fb0fb659d2069f5739a0f876ead686023365afcc534afd"), looks := false }, kinds := [], alts := [], laidByText := true, laidKinds := [.data, .pinned], laidTests := true, laidLooks := .later }
def FnTreeLineCardSaid : Prop := Claim7.holds Tryd.pinned (.plain (OpenSpec.ofChange fnTreeLineSpec)) fnTreeLineCard

/-- THE TIED CARD OF 'laws.FnExactSendMake'. -/
def fnExactSendMakeCard : Claim7 := { stood := { row := fnExactSendMakeRow, standIns := [], harness := (true, "51696609994b3de4a9fb0fb659d2069f5739a0f876ead686023365afcc534afd"), looks := false }, kinds := [], alts := [], laidByText := true, laidKinds := [.data, .data, .data, .data, .pinned], laidTests := true, laidLooks := .later }
def FnExactSendMakeCardSaid : Prop := Claim7.holds Tryd.pinned (.plain (OpenSpec.ofChange fnExactSendMakeSpec)) fnExactSendMakeCard

/-- THE SECOND FORM's CARD OF 'laws.FnTreeLine'. -/
def fnTreeLineUptoCard : Claim7 := { stood := { row := fnTreeLineUptoRow, standIns := [], harness := (true, "51696609994b3de4a9fb0fb659d2069f5739a0f876ead686023365afcc534afd"), looks := false }, kinds := [], alts := [], laidByText := true, laidKinds := [.data, .pinned], laidTests := true, laidLooks := .later }
def FnTreeLineUptoCardSaid : Prop := Claim7.holds Tryd.pinned (.plain (OpenSpec.upto fnTreeLineSpec)) fnTreeLineUptoCard

/-- THE SECOND FORM's CARD OF 'laws.FnExactSendMake'. -/
def fnExactSendMakeUptoCard : Claim7 := { stood := { row := fnExactSendMakeUptoRow, standIns := [], harness := (true, "51696609994b3de4a9fb0fb659d2069f5739a0f876ead686023365afcc534afd"), looks := false }, kinds := [], alts := [], laidByText := true, laidKinds := [.data, .data, .data, .data, .pinned], laidTests := true, laidLooks := .later }
def FnExactSendMakeUptoCardSaid : Prop := Claim7.holds Tryd.pinned (.plain (OpenSpec.upto fnExactSendMakeSpec)) fnExactSendMakeUptoCard
end Rows
end Go.Proofs.YtjedcphhajlnoaaDoor
