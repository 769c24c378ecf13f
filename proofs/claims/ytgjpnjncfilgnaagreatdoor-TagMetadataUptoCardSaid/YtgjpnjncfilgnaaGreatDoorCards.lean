/-
  DERIVED. GIVEN WITH THE SEED: THE CARDS: each row of YtgjpnjncfilgnaaGreatDoorRows.lean that lists a variable, with what it lists TIED to the program's text (the seventh form; the later family's looks); each row that meets fmt, with fmt's text TOLD by the authors' own Lean function (tested against real Go, not proved from fmt's source: count such statements apart). THE CARD IS WHAT COUNTS. Prove the row's statement (the work); the ties are given (YtgjpnjncfilgnaaGreatDoorTie.lean); close each card by the builder's one call (the guide's Derived/Test/ToyasCard.lean, 'card_holds'). Laid BY PROGRAM, IN A SANDBOX (cutbox-door.mjs). By AI agents, Wed Nov 11 2026. No macro, syntax, notation, axiom, sorry.
-/
import Derived.Test.YtgjpnjncfilgnaaGreatDoorRows
import GoSem.ClaimSeven
namespace Go.Proofs.YtgjpnjncfilgnaaGreatDoor
namespace Rows

/-- THE TIED CARD OF 'tinttop.TopCarried'. -/
def topCarriedCard : Claim7 := { stood := { row := topCarriedRow, standIns := [], harness := (true, "6b4f02d79d41f9d077401aa2edc11aa3241399d8777678ad994a38179de759fe"), looks := true }, kinds := [], alts := [], laidByText := true, laidKinds := [.data, .data, .data], laidTests := true, laidLooks := .later }
def TopCarriedCardSaid : Prop := Claim7.holds Tryz.pinned (.plain (OpenSpec.ofChange topCarriedSpec)) topCarriedCard

/-- THE TIED CARD OF 'tintlaw2.TagReads'. -/
def tagReadsCard : Claim7 := { stood := { row := tagReadsRow, standIns := [], harness := (true, "6b4f02d79d41f9d077401aa2edc11aa3241399d8777678ad994a38179de759fe"), looks := true }, kinds := [], alts := [], laidByText := true, laidKinds := [.data, .data, .data], laidTests := true, laidLooks := .later }
def TagReadsCardSaid : Prop := Claim7.holds Tryz.pinned (.plain (OpenSpec.ofChange tagReadsSpec)) tagReadsCard

/-- THE TIED CARD OF 'tintlaw2.TagPatches'. -/
def tagPatchesCard : Claim7 := { stood := { row := tagPatchesRow, standIns := [], harness := (true, "6b4f02d79d41f9d077401aa2edc11aa3241399d8777678ad994a38179de759fe"), looks := true }, kinds := [], alts := [], laidByText := true, laidKinds := [.data, .data, .data], laidTests := true, laidLooks := .later }
def TagPatchesCardSaid : Prop := Claim7.holds Tryz.pinned (.plain (OpenSpec.ofChange tagPatchesSpec)) tagPatchesCard

/-- THE TIED CARD OF 'tintlaw2.TagMetadata'. -/
def tagMetadataCard : Claim7 := { stood := { row := tagMetadataRow, standIns := [], harness := (true, "6b4f02d79d41f9d077401aa2edc11aa3241399d8777678ad994a38179de759fe"), looks := true }, kinds := [], alts := [], laidByText := true, laidKinds := [.data, .data, .data], laidTests := true, laidLooks := .later }
def TagMetadataCardSaid : Prop := Claim7.holds Tryz.pinned (.plain (OpenSpec.ofChange tagMetadataSpec)) tagMetadataCard

/-- THE TIED CARD OF 'tintlaw2.TagTexts'. -/
def tagTextsCard : Claim7 := { stood := { row := tagTextsRow, standIns := [], harness := (true, "6b4f02d79d41f9d077401aa2edc11aa3241399d8777678ad994a38179de759fe"), looks := true }, kinds := [], alts := [], laidByText := true, laidKinds := [.data, .data, .data, .data, .sentinel, .sentinel, .pinned], laidTests := true, laidLooks := .later }
def TagTextsCardSaid : Prop := Claim7.holds Tryz.pinned (.plain (OpenSpec.ofChange tagTextsSpec)) tagTextsCard

/-- THE TIED CARD OF 'tintkeep2.TagRound'. -/
def tagRoundCard : Claim7 := { stood := { row := tagRoundRow, standIns := [], harness := (true, "6b4f02d79d41f9d077401aa2edc11aa3241399d8777678ad994a38179de759fe"), looks := true }, kinds := [], alts := [], laidByText := true, laidKinds := [.data, .data, .data, .data, .sentinel, .sentinel, .pinned], laidTests := true, laidLooks := .later }
def TagRoundCardSaid : Prop := Claim7.holds Tryz.pinned (.plain (OpenSpec.ofChange tagRoundSpec)) tagRoundCard

/-- THE SECOND FORM's CARD OF 'tinttop.TopCarried'. -/
def topCarriedUptoCard : Claim7 := { stood := { row := topCarriedUptoRow, standIns := [], harness := (true, "6b4f02d79d41f9d077401aa2edc11aa3241399d8777678ad994a38179de759fe"), looks := true }, kinds := [], alts := [], laidByText := true, laidKinds := [.data, .data, .data], laidTests := true, laidLooks := .later }
def TopCarriedUptoCardSaid : Prop := Claim7.holds Tryz.pinned (.plain (OpenSpec.upto topCarriedSpec)) topCarriedUptoCard

/-- THE SECOND FORM's CARD OF 'tintlaw2.TagReads'. -/
def tagReadsUptoCard : Claim7 := { stood := { row := tagReadsUptoRow, standIns := [], harness := (true, "6b4f02d79d41f9d077401aa2edc11aa3241399d8777678ad994a38179de759fe"), looks := true }, kinds := [], alts := [], laidByText := true, laidKinds := [.data, .data, .data], laidTests := true, laidLooks := .later }
def TagReadsUptoCardSaid : Prop := Claim7.holds Tryz.pinned (.plain (OpenSpec.upto tagReadsSpec)) tagReadsUptoCard

/-- THE SECOND FORM's CARD OF 'tintlaw2.TagPatches'. -/
def tagPatchesUptoCard : Claim7 := { stood := { row := tagPatchesUptoRow, standIns := [], harness := (true, "6b4f02d79d41f9d077401aa2edc11aa3241399d8777678ad994a38179de759fe"), looks := true }, kinds := [], alts := [], laidByText := true, laidKinds := [.data, .data, .data], laidTests := true, laidLooks := .later }
def TagPatchesUptoCardSaid : Prop := Claim7.holds Tryz.pinned (.plain (OpenSpec.upto tagPatchesSpec)) tagPatchesUptoCard

/-- THE SECOND FORM's CARD OF 'tintlaw2.TagMetadata'. -/
def tagMetadataUptoCard : Claim7 := { stood := { row := tagMetadataUptoRow, standIns := [], harness := (true, "6b4f02d79d41f9d077401aa2edc11aa3241399d8777678ad994a38179de759fe"), looks := true }, kinds := [], alts := [], laidByText := true, laidKinds := [.data, .data, .data], laidTests := true, laidLooks := .later }
def TagMetadataUptoCardSaid : Prop := Claim7.holds Tryz.pinned (.plain (OpenSpec.upto tagMetadataSpec)) tagMetadataUptoCard

/-- THE SECOND FORM's CARD OF 'tintlaw2.TagTexts'. -/
def tagTextsUptoCard : Claim7 := { stood := { row := tagTextsUptoRow, standIns := [], harness := (true, "6b4f02d79d41f9d077401aa2edc11aa3241399d8777678ad994a38179de759fe"), looks := true }, kinds := [], alts := [], laidByText := true, laidKinds := [.data, .data, .data, .data, .sentinel, .sentinel, .pinned], laidTests := true, laidLooks := .later }
def TagTextsUptoCardSaid : Prop := Claim7.holds Tryz.pinned (.plain (OpenSpec.upto tagTextsSpec)) tagTextsUptoCard

/-- THE SECOND FORM's CARD OF 'tintkeep2.TagRound'. -/
def tagRoundUptoCard : Claim7 := { stood := { row := tagRoundUptoRow, standIns := [], harness := (true, "6b4f02d79d41f9d077401aa2edc11aa3241399d8777678ad994a38179de759fe"), looks := true }, kinds := [], alts := [], laidByText := true, laidKinds := [.data, .data, .data, .data, .sentinel, .sentinel, .pinned], laidTests := true, laidLooks := .later }
def TagRoundUptoCardSaid : Prop := Claim7.holds Tryz.pinned (.plain (OpenSpec.upto tagRoundSpec)) tagRoundUptoCard
end Rows
end Go.Proofs.YtgjpnjncfilgnaaGreatDoor
