/-
  DERIVED. GIVEN WITH THE SEED: THE CARDS: each row of YtcfckcchalpkdaaDoorRows.lean that lists a variable, with what it lists TIED to the program's text (the seventh form; the later family's looks); each row that meets fmt, with fmt's text TOLD by the authors' own Lean function (tested against real Go, not proved from fmt's source: count such statements apart). THE CARD IS WHAT COUNTS. Prove the row's statement (the work); the ties are given (YtcfckcchalpkdaaDoorTie.lean); close each card by the builder's one call (the guide's Derived/Test/ToyasCard.lean, 'card_holds'). Laid BY PROGRAM, IN A SANDBOX (cutbox-door.mjs). By AI agents, Wed Nov 11 2026. No macro, syntax, notation, axiom, sorry.
-/
import Derived.Test.YtcfckcchalpkdaaDoorRows
import GoSem.ClaimSeven
namespace Go.Proofs.YtcfckcchalpkdaaDoor
namespace Rows

/-- THE TIED CARD OF 'tintkeep2.WhereStopsHold'. -/
def whereStopsHoldCard : Claim7 := { stood := { row := whereStopsHoldRow, standIns := [], harness := (true, "854125f9c64c1a776e2ed1395dc7ebc833031894bb705c887e531e1acb3e3bd1"), looks := true }, kinds := [], alts := [], laidByText := true, laidKinds := [.data, .data, .data], laidTests := true, laidLooks := .later }
def WhereStopsHoldCardSaid : Prop := Claim7.holds Tryd.pinned (.plain (OpenSpec.ofChange whereStopsHoldSpec)) whereStopsHoldCard

/-- THE TIED CARD OF 'tintkeep2.WhereSimpleNear'. -/
def whereSimpleNearCard : Claim7 := { stood := { row := whereSimpleNearRow, standIns := [], harness := (true, "854125f9c64c1a776e2ed1395dc7ebc833031894bb705c887e531e1acb3e3bd1"), looks := true }, kinds := [], alts := [], laidByText := true, laidKinds := [.data, .data, .data], laidTests := true, laidLooks := .later }
def WhereSimpleNearCardSaid : Prop := Claim7.holds Tryd.pinned (.plain (OpenSpec.ofChange whereSimpleNearSpec)) whereSimpleNearCard

/-- THE TIED CARD OF 'tintkeep2.WhereCellsHold'. -/
def whereCellsHoldCard : Claim7 := { stood := { row := whereCellsHoldRow, standIns := [], harness := (true, "854125f9c64c1a776e2ed1395dc7ebc833031894bb705c887e531e1acb3e3bd1"), looks := true }, kinds := [], alts := [], laidByText := true, laidKinds := [.data, .data, .data, .data, .pinned], laidTests := true, laidLooks := .later }
def WhereCellsHoldCardSaid : Prop := Claim7.holds Tryd.pinned (.plain (OpenSpec.ofChange whereCellsHoldSpec)) whereCellsHoldCard

/-- THE TIED CARD OF 'tintlaw2.WhereAreas'. -/
def whereAreasCard : Claim7 := { stood := { row := whereAreasRow, standIns := [], harness := (true, "854125f9c64c1a776e2ed1395dc7ebc833031894bb705c887e531e1acb3e3bd1"), looks := true }, kinds := [], alts := [], laidByText := true, laidKinds := [.data, .pinned], laidTests := true, laidLooks := .later }
def WhereAreasCardSaid : Prop := Claim7.holds Tryd.pinned (.plain (OpenSpec.ofChange whereAreasSpec)) whereAreasCard

/-- THE TIED CARD OF 'tintkeep2.WhereEnds'. -/
def whereEndsCard : Claim7 := { stood := { row := whereEndsRow, standIns := [], harness := (true, "854125f9c64c1a776e2ed1395dc7ebc833031894bb705c887e531e1acb3e3bd1"), looks := true }, kinds := [], alts := [], laidByText := true, laidKinds := [.data, .data, .data, .data, .sentinel, .sentinel, .pinned], laidTests := true, laidLooks := .later }
def WhereEndsCardSaid : Prop := Claim7.holds Tryd.pinned (.plain (OpenSpec.ofChange whereEndsSpec)) whereEndsCard

/-- THE TIED CARD OF 'tintlaw2.WherePlaces'. -/
def wherePlacesCard : Claim7 := { stood := { row := wherePlacesRow, standIns := [], harness := (true, "854125f9c64c1a776e2ed1395dc7ebc833031894bb705c887e531e1acb3e3bd1"), looks := true }, kinds := [], alts := [], laidByText := true, laidKinds := [.data, .data, .data, .data, .sentinel, .sentinel, .pinned], laidTests := true, laidLooks := .later }
def WherePlacesCardSaid : Prop := Claim7.holds Tryd.pinned (.plain (OpenSpec.ofChange wherePlacesSpec)) wherePlacesCard

/-- THE SECOND FORM's CARD OF 'tintkeep2.WhereStopsHold'. -/
def whereStopsHoldUptoCard : Claim7 := { stood := { row := whereStopsHoldUptoRow, standIns := [], harness := (true, "854125f9c64c1a776e2ed1395dc7ebc833031894bb705c887e531e1acb3e3bd1"), looks := true }, kinds := [], alts := [], laidByText := true, laidKinds := [.data, .data, .data], laidTests := true, laidLooks := .later }
def WhereStopsHoldUptoCardSaid : Prop := Claim7.holds Tryd.pinned (.plain (OpenSpec.upto whereStopsHoldSpec)) whereStopsHoldUptoCard

/-- THE SECOND FORM's CARD OF 'tintkeep2.WhereSimpleNear'. -/
def whereSimpleNearUptoCard : Claim7 := { stood := { row := whereSimpleNearUptoRow, standIns := [], harness := (true, "854125f9c64c1a776e2ed1395dc7ebc833031894bb705c887e531e1acb3e3bd1"), looks := true }, kinds := [], alts := [], laidByText := true, laidKinds := [.data, .data, .data], laidTests := true, laidLooks := .later }
def WhereSimpleNearUptoCardSaid : Prop := Claim7.holds Tryd.pinned (.plain (OpenSpec.upto whereSimpleNearSpec)) whereSimpleNearUptoCard

/-- THE SECOND FORM's CARD OF 'tintkeep2.WhereCellsHold'. -/
def whereCellsHoldUptoCard : Claim7 := { stood := { row := whereCellsHoldUptoRow, standIns := [], harness := (true, "854125f9c64c1a776e2ed1395dc7ebc833031894bb705c887e531e1acb3e3bd1"), looks := true }, kinds := [], alts := [], laidByText := true, laidKinds := [.data, .data, .data, .data, .pinned], laidTests := true, laidLooks := .later }
def WhereCellsHoldUptoCardSaid : Prop := Claim7.holds Tryd.pinned (.plain (OpenSpec.upto whereCellsHoldSpec)) whereCellsHoldUptoCard

/-- THE SECOND FORM's CARD OF 'tintlaw2.WhereAreas'. -/
def whereAreasUptoCard : Claim7 := { stood := { row := whereAreasUptoRow, standIns := [], harness := (true, "854125f9c64c1a776e2ed1395dc7ebc833031894bb705c887e531e1acb3e3bd1"), looks := true }, kinds := [], alts := [], laidByText := true, laidKinds := [.data, .pinned], laidTests := true, laidLooks := .later }
def WhereAreasUptoCardSaid : Prop := Claim7.holds Tryd.pinned (.plain (OpenSpec.upto whereAreasSpec)) whereAreasUptoCard

/-- THE SECOND FORM's CARD OF 'tintkeep2.WhereEnds'. -/
def whereEndsUptoCard : Claim7 := { stood := { row := whereEndsUptoRow, standIns := [], harness := (true, "854125f9c64c1a776e2ed1395dc7ebc833031894bb705c887e531e1acb3e3bd1"), looks := true }, kinds := [], alts := [], laidByText := true, laidKinds := [.data, .data, .data, .data, .sentinel, .sentinel, .pinned], laidTests := true, laidLooks := .later }
def WhereEndsUptoCardSaid : Prop := Claim7.holds Tryd.pinned (.plain (OpenSpec.upto whereEndsSpec)) whereEndsUptoCard

/-- THE SECOND FORM's CARD OF 'tintlaw2.WherePlaces'. -/
def wherePlacesUptoCard : Claim7 := { stood := { row := wherePlacesUptoRow, standIns := [], harness := (true, "854125f9c64c1a776e2ed1395dc7ebc833031894bb705c887e531e1acb3e3bd1"), looks := true }, kinds := [], alts := [], laidByText := true, laidKinds := [.data, .data, .data, .data, .sentinel, .sentinel, .pinned], laidTests := true, laidLooks := .later }
def WherePlacesUptoCardSaid : Prop := Claim7.holds Tryd.pinned (.plain (OpenSpec.upto wherePlacesSpec)) wherePlacesUptoCard
end Rows
end Go.Proofs.YtcfckcchalpkdaaDoor
