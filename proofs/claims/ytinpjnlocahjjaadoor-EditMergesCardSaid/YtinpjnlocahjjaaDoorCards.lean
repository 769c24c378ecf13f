/-
  DERIVED. GIVEN WITH THE SEED: THE CARDS: each row of YtinpjnlocahjjaaDoorRows.lean that lists a variable, with what it lists TIED to the program's text (the seventh form; the later family's looks); each row that meets fmt, with fmt's text TOLD by the authors' own Lean function (tested against real Go, not proved from fmt's source: count such statements apart). THE CARD IS WHAT COUNTS. Prove the row's statement (the work); the ties are given (YtinpjnlocahjjaaDoorTie.lean); close each card by the builder's one call (the guide's Derived/Test/ToyasCard.lean, 'card_holds'). Laid BY PROGRAM, IN A SANDBOX (cutbox-door.mjs). By AI agents, Wed Nov 11 2026. No macro, syntax, notation, axiom, sorry.
-/
import Derived.Test.YtinpjnlocahjjaaDoorRows
import GoSem.ClaimSeven
namespace Go.Proofs.YtinpjnlocahjjaaDoor
namespace Rows

/-- THE TIED CARD OF 'tintlaw2.EditOthers'. -/
def editOthersCard : Claim7 := { stood := { row := editOthersRow, standIns := [], harness := (true, "b29eebfdab6cd989e1aa4dede9312b7b6e4690b718b3f8926f14f6079cca076c"), looks := false }, kinds := [], alts := [], laidByText := true, laidKinds := [.data, .data, .data], laidTests := true, laidLooks := .later }
def EditOthersCardSaid : Prop := Claim7.holds Tryd.pinned (.plain (OpenSpec.ofChange editOthersSpec)) editOthersCard

/-- THE TIED CARD OF 'tintkeep2.EditMerges'. -/
def editMergesCard : Claim7 := { stood := { row := editMergesRow, standIns := [], harness := (true, "b29eebfdab6cd989e1aa4dede9312b7b6e4690b718b3f8926f14f6079cca076c"), looks := false }, kinds := [], alts := [], laidByText := true, laidKinds := [.data, .data, .data], laidTests := true, laidLooks := .later }
def EditMergesCardSaid : Prop := Claim7.holds Tryd.pinned (.plain (OpenSpec.ofChange editMergesSpec)) editMergesCard

/-- THE TIED CARD OF 'tintkeep2.EditTurns'. -/
def editTurnsCard : Claim7 := { stood := { row := editTurnsRow, standIns := [], harness := (true, "b29eebfdab6cd989e1aa4dede9312b7b6e4690b718b3f8926f14f6079cca076c"), looks := false }, kinds := [], alts := [], laidByText := true, laidKinds := [.data, .data, .data], laidTests := true, laidLooks := .later }
def EditTurnsCardSaid : Prop := Claim7.holds Tryd.pinned (.plain (OpenSpec.ofChange editTurnsSpec)) editTurnsCard

/-- THE TIED CARD OF 'tintkeep2.EditApart'. -/
def editApartCard : Claim7 := { stood := { row := editApartRow, standIns := [], harness := (true, "b29eebfdab6cd989e1aa4dede9312b7b6e4690b718b3f8926f14f6079cca076c"), looks := false }, kinds := [], alts := [], laidByText := true, laidKinds := [.data, .data, .data], laidTests := true, laidLooks := .later }
def EditApartCardSaid : Prop := Claim7.holds Tryd.pinned (.plain (OpenSpec.ofChange editApartSpec)) editApartCard

/-- THE TIED CARD OF 'tintkeep2.EditComes'. -/
def editComesCard : Claim7 := { stood := { row := editComesRow, standIns := [], harness := (true, "b29eebfdab6cd989e1aa4dede9312b7b6e4690b718b3f8926f14f6079cca076c"), looks := false }, kinds := [], alts := [], laidByText := true, laidKinds := [.data, .data, .data], laidTests := true, laidLooks := .later }
def EditComesCardSaid : Prop := Claim7.holds Tryd.pinned (.plain (OpenSpec.ofChange editComesSpec)) editComesCard

/-- THE TIED CARD OF 'tintkeep2.EditTidiesSame'. -/
def editTidiesSameCard : Claim7 := { stood := { row := editTidiesSameRow, standIns := [], harness := (true, "b29eebfdab6cd989e1aa4dede9312b7b6e4690b718b3f8926f14f6079cca076c"), looks := false }, kinds := [], alts := [], laidByText := true, laidKinds := [.data, .data, .data], laidTests := true, laidLooks := .later }
def EditTidiesSameCardSaid : Prop := Claim7.holds Tryd.pinned (.plain (OpenSpec.ofChange editTidiesSameSpec)) editTidiesSameCard

/-- THE TIED CARD OF 'tintlaw2.WherePacks'. -/
def wherePacksCard : Claim7 := { stood := { row := wherePacksRow, standIns := [], harness := (true, "b29eebfdab6cd989e1aa4dede9312b7b6e4690b718b3f8926f14f6079cca076c"), looks := false }, kinds := [], alts := [], laidByText := true, laidKinds := [.sentinel], laidTests := true, laidLooks := .later }
def WherePacksCardSaid : Prop := Claim7.holds Tryd.pinned (.plain (OpenSpec.ofChange wherePacksSpec)) wherePacksCard

/-- THE TIED CARD OF 'tintlaw2.WhereAreas'. -/
def whereAreasCard : Claim7 := { stood := { row := whereAreasRow, standIns := [], harness := (true, "b29eebfdab6cd989e1aa4dede9312b7b6e4690b718b3f8926f14f6079cca076c"), looks := false }, kinds := [], alts := [], laidByText := true, laidKinds := [.data, .pinned], laidTests := true, laidLooks := .later }
def WhereAreasCardSaid : Prop := Claim7.holds Tryd.pinned (.plain (OpenSpec.ofChange whereAreasSpec)) whereAreasCard

/-- THE SECOND FORM's CARD OF 'tintlaw2.EditOthers'. -/
def editOthersUptoCard : Claim7 := { stood := { row := editOthersUptoRow, standIns := [], harness := (true, "b29eebfdab6cd989e1aa4dede9312b7b6e4690b718b3f8926f14f6079cca076c"), looks := false }, kinds := [], alts := [], laidByText := true, laidKinds := [.data, .data, .data], laidTests := true, laidLooks := .later }
def EditOthersUptoCardSaid : Prop := Claim7.holds Tryd.pinned (.plain (OpenSpec.upto editOthersSpec)) editOthersUptoCard

/-- THE SECOND FORM's CARD OF 'tintkeep2.EditMerges'. -/
def editMergesUptoCard : Claim7 := { stood := { row := editMergesUptoRow, standIns := [], harness := (true, "b29eebfdab6cd989e1aa4dede9312b7b6e4690b718b3f8926f14f6079cca076c"), looks := false }, kinds := [], alts := [], laidByText := true, laidKinds := [.data, .data, .data], laidTests := true, laidLooks := .later }
def EditMergesUptoCardSaid : Prop := Claim7.holds Tryd.pinned (.plain (OpenSpec.upto editMergesSpec)) editMergesUptoCard

/-- THE SECOND FORM's CARD OF 'tintkeep2.EditTurns'. -/
def editTurnsUptoCard : Claim7 := { stood := { row := editTurnsUptoRow, standIns := [], harness := (true, "b29eebfdab6cd989e1aa4dede9312b7b6e4690b718b3f8926f14f6079cca076c"), looks := false }, kinds := [], alts := [], laidByText := true, laidKinds := [.data, .data, .data], laidTests := true, laidLooks := .later }
def EditTurnsUptoCardSaid : Prop := Claim7.holds Tryd.pinned (.plain (OpenSpec.upto editTurnsSpec)) editTurnsUptoCard

/-- THE SECOND FORM's CARD OF 'tintkeep2.EditApart'. -/
def editApartUptoCard : Claim7 := { stood := { row := editApartUptoRow, standIns := [], harness := (true, "b29eebfdab6cd989e1aa4dede9312b7b6e4690b718b3f8926f14f6079cca076c"), looks := false }, kinds := [], alts := [], laidByText := true, laidKinds := [.data, .data, .data], laidTests := true, laidLooks := .later }
def EditApartUptoCardSaid : Prop := Claim7.holds Tryd.pinned (.plain (OpenSpec.upto editApartSpec)) editApartUptoCard

/-- THE SECOND FORM's CARD OF 'tintkeep2.EditComes'. -/
def editComesUptoCard : Claim7 := { stood := { row := editComesUptoRow, standIns := [], harness := (true, "b29eebfdab6cd989e1aa4dede9312b7b6e4690b718b3f8926f14f6079cca076c"), looks := false }, kinds := [], alts := [], laidByText := true, laidKinds := [.data, .data, .data], laidTests := true, laidLooks := .later }
def EditComesUptoCardSaid : Prop := Claim7.holds Tryd.pinned (.plain (OpenSpec.upto editComesSpec)) editComesUptoCard

/-- THE SECOND FORM's CARD OF 'tintkeep2.EditTidiesSame'. -/
def editTidiesSameUptoCard : Claim7 := { stood := { row := editTidiesSameUptoRow, standIns := [], harness := (true, "b29eebfdab6cd989e1aa4dede9312b7b6e4690b718b3f8926f14f6079cca076c"), looks := false }, kinds := [], alts := [], laidByText := true, laidKinds := [.data, .data, .data], laidTests := true, laidLooks := .later }
def EditTidiesSameUptoCardSaid : Prop := Claim7.holds Tryd.pinned (.plain (OpenSpec.upto editTidiesSameSpec)) editTidiesSameUptoCard

/-- THE SECOND FORM's CARD OF 'tintlaw2.WherePacks'. -/
def wherePacksUptoCard : Claim7 := { stood := { row := wherePacksUptoRow, standIns := [], harness := (true, "b29eebfdab6cd989e1aa4dede9312b7b6e4690b718b3f8926f14f6079cca076c"), looks := false }, kinds := [], alts := [], laidByText := true, laidKinds := [.sentinel], laidTests := true, laidLooks := .later }
def WherePacksUptoCardSaid : Prop := Claim7.holds Tryd.pinned (.plain (OpenSpec.upto wherePacksSpec)) wherePacksUptoCard

/-- THE SECOND FORM's CARD OF 'tintlaw2.WhereAreas'. -/
def whereAreasUptoCard : Claim7 := { stood := { row := whereAreasUptoRow, standIns := [], harness := (true, "b29eebfdab6cd989e1aa4dede9312b7b6e4690b718b3f8926f14f6079cca076c"), looks := false }, kinds := [], alts := [], laidByText := true, laidKinds := [.data, .pinned], laidTests := true, laidLooks := .later }
def WhereAreasUptoCardSaid : Prop := Claim7.holds Tryd.pinned (.plain (OpenSpec.upto whereAreasSpec)) whereAreasUptoCard
end Rows
end Go.Proofs.YtinpjnlocahjjaaDoor
