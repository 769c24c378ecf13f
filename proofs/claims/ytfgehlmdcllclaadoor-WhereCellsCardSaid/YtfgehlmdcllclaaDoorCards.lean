/-
  DERIVED. GIVEN WITH THE SEED: THE CARDS: each row of YtfgehlmdcllclaaDoorRows.lean that lists a variable, with what it lists TIED to the program's text (the seventh form; the later family's looks); each row that meets fmt, with fmt's text TOLD by the authors' own Lean function (tested against real Go, not proved from fmt's source: count such statements apart). THE CARD IS WHAT COUNTS. Prove the row's statement (the work); the ties are given (YtfgehlmdcllclaaDoorTie.lean); close each card by the builder's one call (the guide's Derived/Test/ToyasCard.lean, 'card_holds'). Laid BY PROGRAM, IN A SANDBOX (cutbox-door.mjs). By AI agents, Wed Nov 11 2026. No macro, syntax, notation, axiom, sorry.
-/
import Derived.Test.YtfgehlmdcllclaaDoorRows
import GoSem.ClaimSeven
namespace Go.Proofs.YtfgehlmdcllclaaDoor
namespace Rows

/-- THE TIED CARD OF 'tintlaw2.WherePacks'. -/
def wherePacksCard : Claim7 := { stood := { row := wherePacksRow, standIns := [], harness := (true, "c500ae7d0a10f45f5bd06992b91c99bd74c46badd6fa0c1e7e30a65cdfaa4f27"), looks := false }, kinds := [], alts := [], laidByText := true, laidKinds := [.sentinel], laidTests := true, laidLooks := .later }
def WherePacksCardSaid : Prop := Claim7.holds Tryd.pinned (.plain (OpenSpec.ofChange wherePacksSpec)) wherePacksCard

/-- THE TIED CARD OF 'tintlaw2.WhereCells'. -/
def whereCellsCard : Claim7 := { stood := { row := whereCellsRow, standIns := [], harness := (true, "c500ae7d0a10f45f5bd06992b91c99bd74c46badd6fa0c1e7e30a65cdfaa4f27"), looks := false }, kinds := [], alts := [], laidByText := true, laidKinds := [.data, .pinned], laidTests := true, laidLooks := .later }
def WhereCellsCardSaid : Prop := Claim7.holds Tryd.pinned (.plain (OpenSpec.ofChange whereCellsSpec)) whereCellsCard

/-- THE TIED CARD OF 'tintkeep2.WherePacksBack'. -/
def wherePacksBackCard : Claim7 := { stood := { row := wherePacksBackRow, standIns := [], harness := (true, "c500ae7d0a10f45f5bd06992b91c99bd74c46badd6fa0c1e7e30a65cdfaa4f27"), looks := false }, kinds := [], alts := [], laidByText := true, laidKinds := [.data, .data, .data], laidTests := true, laidLooks := .later }
def WherePacksBackCardSaid : Prop := Claim7.holds Tryd.pinned (.plain (OpenSpec.ofChange wherePacksBackSpec)) wherePacksBackCard

/-- THE TIED CARD OF 'tintkeep2.WhereAround'. -/
def whereAroundCard : Claim7 := { stood := { row := whereAroundRow, standIns := [], harness := (true, "c500ae7d0a10f45f5bd06992b91c99bd74c46badd6fa0c1e7e30a65cdfaa4f27"), looks := false }, kinds := [], alts := [], laidByText := true, laidKinds := [.data, .data, .data], laidTests := true, laidLooks := .later }
def WhereAroundCardSaid : Prop := Claim7.holds Tryd.pinned (.plain (OpenSpec.ofChange whereAroundSpec)) whereAroundCard

/-- THE SECOND FORM's CARD OF 'tintlaw2.WherePacks'. -/
def wherePacksUptoCard : Claim7 := { stood := { row := wherePacksUptoRow, standIns := [], harness := (true, "c500ae7d0a10f45f5bd06992b91c99bd74c46badd6fa0c1e7e30a65cdfaa4f27"), looks := false }, kinds := [], alts := [], laidByText := true, laidKinds := [.sentinel], laidTests := true, laidLooks := .later }
def WherePacksUptoCardSaid : Prop := Claim7.holds Tryd.pinned (.plain (OpenSpec.upto wherePacksSpec)) wherePacksUptoCard

/-- THE SECOND FORM's CARD OF 'tintlaw2.WhereCells'. -/
def whereCellsUptoCard : Claim7 := { stood := { row := whereCellsUptoRow, standIns := [], harness := (true, "c500ae7d0a10f45f5bd06992b91c99bd74c46badd6fa0c1e7e30a65cdfaa4f27"), looks := false }, kinds := [], alts := [], laidByText := true, laidKinds := [.data, .pinned], laidTests := true, laidLooks := .later }
def WhereCellsUptoCardSaid : Prop := Claim7.holds Tryd.pinned (.plain (OpenSpec.upto whereCellsSpec)) whereCellsUptoCard

/-- THE SECOND FORM's CARD OF 'tintkeep2.WherePacksBack'. -/
def wherePacksBackUptoCard : Claim7 := { stood := { row := wherePacksBackUptoRow, standIns := [], harness := (true, "c500ae7d0a10f45f5bd06992b91c99bd74c46badd6fa0c1e7e30a65cdfaa4f27"), looks := false }, kinds := [], alts := [], laidByText := true, laidKinds := [.data, .data, .data], laidTests := true, laidLooks := .later }
def WherePacksBackUptoCardSaid : Prop := Claim7.holds Tryd.pinned (.plain (OpenSpec.upto wherePacksBackSpec)) wherePacksBackUptoCard

/-- THE SECOND FORM's CARD OF 'tintkeep2.WhereAround'. -/
def whereAroundUptoCard : Claim7 := { stood := { row := whereAroundUptoRow, standIns := [], harness := (true, "c500ae7d0a10f45f5bd06992b91c99bd74c46badd6fa0c1e7e30a65cdfaa4f27"), looks := false }, kinds := [], alts := [], laidByText := true, laidKinds := [.data, .data, .data], laidTests := true, laidLooks := .later }
def WhereAroundUptoCardSaid : Prop := Claim7.holds Tryd.pinned (.plain (OpenSpec.upto whereAroundSpec)) whereAroundUptoCard
end Rows
end Go.Proofs.YtfgehlmdcllclaaDoor
