/-
  DERIVED. GIVEN WITH THE SEED: THE CARDS: each row of YtohdhdiaahiicaaGreatDoorRows.lean that lists a variable, with what it lists TIED to the program's text (the seventh form; the later family's looks); each row that meets fmt, with fmt's text TOLD by the authors' own Lean function (tested against real Go, not proved from fmt's source: count such statements apart). THE CARD IS WHAT COUNTS. Prove the row's statement (the work); the ties are given (YtohdhdiaahiicaaGreatDoorTie.lean); close each card by the builder's one call (the guide's Derived/Test/ToyasCard.lean, 'card_holds'). Laid BY PROGRAM, IN A SANDBOX (cutbox-door.mjs). By AI agents, Wed Nov 11 2026. No macro, syntax, notation, axiom, sorry.
-/
import Derived.Test.YtohdhdiaahiicaaGreatDoorRows
import GoSem.ClaimSeven
namespace Go.Proofs.YtohdhdiaahiicaaGreatDoor
namespace Rows

/-- THE TIED CARD OF 'tintlaw2.TagValues'. -/
def tagValuesCard : Claim7 := { stood := { row := tagValuesRow, standIns := [], harness := (true, "134370990fe87ec16a8d4c8aef2b239484cc0c607d1ab74b87095881ccf16f61"), looks := true }, kinds := [], alts := [], laidByText := true, laidKinds := [.data, .data, .data, .data, .sentinel, .sentinel, .pinned], laidTests := true, laidLooks := .later }
def TagValuesCardSaid : Prop := Claim7.holds Tryz.pinned (.plain (OpenSpec.ofChange tagValuesSpec)) tagValuesCard

/-- THE SECOND FORM's CARD OF 'tintlaw2.TagValues'. -/
def tagValuesUptoCard : Claim7 := { stood := { row := tagValuesUptoRow, standIns := [], harness := (true, "134370990fe87ec16a8d4c8aef2b239484cc0c607d1ab74b87095881ccf16f61"), looks := true }, kinds := [], alts := [], laidByText := true, laidKinds := [.data, .data, .data, .data, .sentinel, .sentinel, .pinned], laidTests := true, laidLooks := .later }
def TagValuesUptoCardSaid : Prop := Claim7.holds Tryz.pinned (.plain (OpenSpec.upto tagValuesSpec)) tagValuesUptoCard
end Rows
end Go.Proofs.YtohdhdiaahiicaaGreatDoor
