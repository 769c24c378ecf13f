/-
  DERIVED. GIVEN WITH THE SEED: THE CARDS: each row of YtaonhnkojkkmbaaDoorRows.lean that lists a variable, with what it lists TIED to the program's text (the seventh form; the later family's looks); each row that meets fmt, with fmt's text TOLD by the authors' own Lean function (tested against real Go, not proved from fmt's source: count such statements apart). THE CARD IS WHAT COUNTS. Prove the row's statement (the work); the ties are given (YtaonhnkojkkmbaaDoorTie.lean); close each card by the builder's one call (the guide's Derived/Test/ToyasCard.lean, 'card_holds'). Laid BY PROGRAM, IN A SANDBOX (cutbox-door.mjs). By AI agents, Wed Nov 11 2026. No macro, syntax, notation, axiom, sorry.
-/
import Derived.Test.YtaonhnkojkkmbaaDoorRows
import GoSem.ClaimSeven
namespace Go.Proofs.YtaonhnkojkkmbaaDoor
namespace Rows

/-- THE TIED CARD OF 'tintlaw2.EditSteps'. -/
def editStepsCard : Claim7 := { stood := { row := editStepsRow, standIns := [], harness := (true, "d3cd9468b662f76bb679c7c1b54b8acd733517981234ed730abb76e5e30b403e"), looks := true }, kinds := [], alts := [], laidByText := true, laidKinds := [.data, .data, .data, .data, .sentinel, .sentinel, .pinned], laidTests := true, laidLooks := .later }
def EditStepsCardSaid : Prop := Claim7.holds Tryd.pinned (.plain (OpenSpec.ofChange editStepsSpec)) editStepsCard

/-- THE TIED CARD OF 'tintlaw2.WherePacks'. -/
def wherePacksCard : Claim7 := { stood := { row := wherePacksRow, standIns := [], harness := (true, "d3cd9468b662f76bb679c7c1b54b8acd733517981234ed730abb76e5e30b403e"), looks := true }, kinds := [], alts := [], laidByText := true, laidKinds := [.sentinel], laidTests := true, laidLooks := .later }
def WherePacksCardSaid : Prop := Claim7.holds Tryd.pinned (.plain (OpenSpec.ofChange wherePacksSpec)) wherePacksCard

/-- THE TIED CARD OF 'tintlaw2.SyncFacts'. -/
def syncFactsCard : Claim7 := { stood := { row := syncFactsRow, standIns := [], harness := (true, "d3cd9468b662f76bb679c7c1b54b8acd733517981234ed730abb76e5e30b403e"), looks := true }, kinds := [], alts := [], laidByText := true, laidKinds := [.data, .pinned], laidTests := true, laidLooks := .later }
def SyncFactsCardSaid : Prop := Claim7.holds Tryd.pinned (.plain (OpenSpec.ofChange syncFactsSpec)) syncFactsCard

/-- THE SECOND FORM's CARD OF 'tintlaw2.EditSteps'. -/
def editStepsUptoCard : Claim7 := { stood := { row := editStepsUptoRow, standIns := [], harness := (true, "d3cd9468b662f76bb679c7c1b54b8acd733517981234ed730abb76e5e30b403e"), looks := true }, kinds := [], alts := [], laidByText := true, laidKinds := [.data, .data, .data, .data, .sentinel, .sentinel, .pinned], laidTests := true, laidLooks := .later }
def EditStepsUptoCardSaid : Prop := Claim7.holds Tryd.pinned (.plain (OpenSpec.upto editStepsSpec)) editStepsUptoCard

/-- THE SECOND FORM's CARD OF 'tintlaw2.WherePacks'. -/
def wherePacksUptoCard : Claim7 := { stood := { row := wherePacksUptoRow, standIns := [], harness := (true, "d3cd9468b662f76bb679c7c1b54b8acd733517981234ed730abb76e5e30b403e"), looks := true }, kinds := [], alts := [], laidByText := true, laidKinds := [.sentinel], laidTests := true, laidLooks := .later }
def WherePacksUptoCardSaid : Prop := Claim7.holds Tryd.pinned (.plain (OpenSpec.upto wherePacksSpec)) wherePacksUptoCard

/-- THE SECOND FORM's CARD OF 'tintlaw2.SyncFacts'. -/
def syncFactsUptoCard : Claim7 := { stood := { row := syncFactsUptoRow, standIns := [], harness := (true, "d3cd9468b662f76bb679c7c1b54b8acd733517981234ed730abb76e5e30b403e"), looks := true }, kinds := [], alts := [], laidByText := true, laidKinds := [.data, .pinned], laidTests := true, laidLooks := .later }
def SyncFactsUptoCardSaid : Prop := Claim7.holds Tryd.pinned (.plain (OpenSpec.upto syncFactsSpec)) syncFactsUptoCard
end Rows
end Go.Proofs.YtaonhnkojkkmbaaDoor
