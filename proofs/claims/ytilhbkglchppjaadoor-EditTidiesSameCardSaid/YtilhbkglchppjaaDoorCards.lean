/-
  DERIVED. GIVEN WITH THE SEED: THE CARDS: each row of YtilhbkglchppjaaDoorRows.lean that lists a variable, with what it lists TIED to the program's text (the seventh form; the later family's looks); each row that meets fmt, with fmt's text TOLD by the authors' own Lean function (tested against real Go, not proved from fmt's source: count such statements apart). THE CARD IS WHAT COUNTS. Prove the row's statement (the work); the ties are given (YtilhbkglchppjaaDoorTie.lean); close each card by the builder's one call (the guide's Derived/Test/ToyasCard.lean, 'card_holds'). Laid BY PROGRAM, IN A SANDBOX (cutbox-door.mjs). By AI agents, Wed Nov 11 2026. No macro, syntax, notation, axiom, sorry.
-/
import Derived.Test.YtilhbkglchppjaaDoorRows
import GoSem.ClaimSeven
namespace Go.Proofs.YtilhbkglchppjaaDoor
namespace Rows

/-- THE TIED CARD OF 'tintlaw2.EditOthers'. -/
def editOthersCard : Claim7 := { stood := { row := editOthersRow, standIns := [], harness := (true, "2f8ebd8fd34adc90973da19d6ba47734371b0592f02ff347639a3d0962c27f2c"), looks := false }, kinds := [], alts := [], laidByText := true, laidKinds := [.data, .data, .data], laidTests := true, laidLooks := .later }
def EditOthersCardSaid : Prop := Claim7.holds Tryd.pinned (.plain (OpenSpec.ofChange editOthersSpec)) editOthersCard

/-- THE TIED CARD OF 'tintkeep2.EditTidiesSame'. -/
def editTidiesSameCard : Claim7 := { stood := { row := editTidiesSameRow, standIns := [], harness := (true, "2f8ebd8fd34adc90973da19d6ba47734371b0592f02ff347639a3d0962c27f2c"), looks := false }, kinds := [], alts := [], laidByText := true, laidKinds := [.data, .data, .data], laidTests := true, laidLooks := .later }
def EditTidiesSameCardSaid : Prop := Claim7.holds Tryd.pinned (.plain (OpenSpec.ofChange editTidiesSameSpec)) editTidiesSameCard

/-- THE TIED CARD OF 'tintlaw2.WherePacks'. -/
def wherePacksCard : Claim7 := { stood := { row := wherePacksRow, standIns := [], harness := (true, "2f8ebd8fd34adc90973da19d6ba47734371b0592f02ff347639a3d0962c27f2c"), looks := false }, kinds := [], alts := [], laidByText := true, laidKinds := [.sentinel], laidTests := true, laidLooks := .later }
def WherePacksCardSaid : Prop := Claim7.holds Tryd.pinned (.plain (OpenSpec.ofChange wherePacksSpec)) wherePacksCard

/-- THE TIED CARD OF 'tintlaw2.WhereAreas'. -/
def whereAreasCard : Claim7 := { stood := { row := whereAreasRow, standIns := [], harness := (true, "2f8ebd8fd34adc90973da19d6ba47734371b0592f02ff347639a3d0962c27f2c"), looks := false }, kinds := [], alts := [], laidByText := true, laidKinds := [.data, .pinned], laidTests := true, laidLooks := .later }
def WhereAreasCardSaid : Prop := Claim7.holds Tryd.pinned (.plain (OpenSpec.ofChange whereAreasSpec)) whereAreasCard

/-- THE TIED CARD OF 'tintlaw2.SyncFacts'. -/
def syncFactsCard : Claim7 := { stood := { row := syncFactsRow, standIns := [], harness := (true, "2f8ebd8fd34adc90973da19d6ba47734371b0592f02ff347639a3d0962c27f2c"), looks := false }, kinds := [], alts := [], laidByText := true, laidKinds := [.data, .pinned], laidTests := true, laidLooks := .later }
def SyncFactsCardSaid : Prop := Claim7.holds Tryd.pinned (.plain (OpenSpec.ofChange syncFactsSpec)) syncFactsCard

/-- THE SECOND FORM's CARD OF 'tintlaw2.EditOthers'. -/
def editOthersUptoCard : Claim7 := { stood := { row := editOthersUptoRow, standIns := [], harness := (true, "2f8ebd8fd34adc90973da19d6ba47734371b0592f02ff347639a3d0962c27f2c"), looks := false }, kinds := [], alts := [], laidByText := true, laidKinds := [.data, .data, .data], laidTests := true, laidLooks := .later }
def EditOthersUptoCardSaid : Prop := Claim7.holds Tryd.pinned (.plain (OpenSpec.upto editOthersSpec)) editOthersUptoCard

/-- THE SECOND FORM's CARD OF 'tintkeep2.EditTidiesSame'. -/
def editTidiesSameUptoCard : Claim7 := { stood := { row := editTidiesSameUptoRow, standIns := [], harness := (true, "2f8ebd8fd34adc90973da19d6ba47734371b0592f02ff347639a3d0962c27f2c"), looks := false }, kinds := [], alts := [], laidByText := true, laidKinds := [.data, .data, .data], laidTests := true, laidLooks := .later }
def EditTidiesSameUptoCardSaid : Prop := Claim7.holds Tryd.pinned (.plain (OpenSpec.upto editTidiesSameSpec)) editTidiesSameUptoCard

/-- THE SECOND FORM's CARD OF 'tintlaw2.WherePacks'. -/
def wherePacksUptoCard : Claim7 := { stood := { row := wherePacksUptoRow, standIns := [], harness := (true, "2f8ebd8fd34adc90973da19d6ba47734371b0592f02ff347639a3d0962c27f2c"), looks := false }, kinds := [], alts := [], laidByText := true, laidKinds := [.sentinel], laidTests := true, laidLooks := .later }
def WherePacksUptoCardSaid : Prop := Claim7.holds Tryd.pinned (.plain (OpenSpec.upto wherePacksSpec)) wherePacksUptoCard

/-- THE SECOND FORM's CARD OF 'tintlaw2.WhereAreas'. -/
def whereAreasUptoCard : Claim7 := { stood := { row := whereAreasUptoRow, standIns := [], harness := (true, "2f8ebd8fd34adc90973da19d6ba47734371b0592f02ff347639a3d0962c27f2c"), looks := false }, kinds := [], alts := [], laidByText := true, laidKinds := [.data, .pinned], laidTests := true, laidLooks := .later }
def WhereAreasUptoCardSaid : Prop := Claim7.holds Tryd.pinned (.plain (OpenSpec.upto whereAreasSpec)) whereAreasUptoCard

/-- THE SECOND FORM's CARD OF 'tintlaw2.SyncFacts'. -/
def syncFactsUptoCard : Claim7 := { stood := { row := syncFactsUptoRow, standIns := [], harness := (true, "2f8ebd8fd34adc90973da19d6ba47734371b0592f02ff347639a3d0962c27f2c"), looks := false }, kinds := [], alts := [], laidByText := true, laidKinds := [.data, .pinned], laidTests := true, laidLooks := .later }
def SyncFactsUptoCardSaid : Prop := Claim7.holds Tryd.pinned (.plain (OpenSpec.upto syncFactsSpec)) syncFactsUptoCard
end Rows
end Go.Proofs.YtilhbkglchppjaaDoor
