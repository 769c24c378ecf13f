/-
  DERIVED. GIVEN WITH THE SEED: THE CARDS: each row of YtkbiccgjkiifpaaGreatDoorRows.lean that lists a variable, with what it lists TIED to the program's text (the seventh form; the later family's looks); each row that meets fmt, with fmt's text TOLD by the authors' own Lean function (tested against real Go, not proved from fmt's source: count such statements apart). THE CARD IS WHAT COUNTS. Prove the row's statement (the work); the ties are given (YtkbiccgjkiifpaaGreatDoorTie.lean); close each card by the builder's one call (the guide's Derived/Test/ToyasCard.lean, 'card_holds'). Laid BY PROGRAM, IN A SANDBOX (cutbox-door.mjs). By AI agents, Wed Nov 11 2026. No macro, syntax, notation, axiom, sorry.
-/
import Derived.Test.YtkbiccgjkiifpaaGreatDoorRows
import GoSem.ClaimSeven
namespace Go.Proofs.YtkbiccgjkiifpaaGreatDoor
namespace Rows

/-- THE TIED CARD OF 'tintlaw2.TagTexts'. -/
def tagTextsCard : Claim7 := { stood := { row := tagTextsRow, standIns := [], harness := (true, "4f4693078e72ca56790f6a3b3e924644f9a2ca10ffcd899c2798ac5a7483e602"), looks := true }, kinds := [], alts := [], laidByText := true, laidKinds := [.data, .data, .data, .data, .sentinel, .sentinel, .pinned], laidTests := true, laidLooks := .later }
def TagTextsCardSaid : Prop := Claim7.holds Tryz.pinned (.plain (OpenSpec.ofChange tagTextsSpec)) tagTextsCard

/-- THE TIED CARD OF 'tintkeep2.TagRound'. -/
def tagRoundCard : Claim7 := { stood := { row := tagRoundRow, standIns := [], harness := (true, "4f4693078e72ca56790f6a3b3e924644f9a2ca10ffcd899c2798ac5a7483e602"), looks := true }, kinds := [], alts := [], laidByText := true, laidKinds := [.data, .data, .data, .data, .sentinel, .sentinel, .pinned], laidTests := true, laidLooks := .later }
def TagRoundCardSaid : Prop := Claim7.holds Tryz.pinned (.plain (OpenSpec.ofChange tagRoundSpec)) tagRoundCard

/-- THE SECOND FORM's CARD OF 'tintlaw2.TagTexts'. -/
def tagTextsUptoCard : Claim7 := { stood := { row := tagTextsUptoRow, standIns := [], harness := (true, "4f4693078e72ca56790f6a3b3e924644f9a2ca10ffcd899c2798ac5a7483e602"), looks := true }, kinds := [], alts := [], laidByText := true, laidKinds := [.data, .data, .data, .data, .sentinel, .sentinel, .pinned], laidTests := true, laidLooks := .later }
def TagTextsUptoCardSaid : Prop := Claim7.holds Tryz.pinned (.plain (OpenSpec.upto tagTextsSpec)) tagTextsUptoCard

/-- THE SECOND FORM's CARD OF 'tintkeep2.TagRound'. -/
def tagRoundUptoCard : Claim7 := { stood := { row := tagRoundUptoRow, standIns := [], harness := (true, "4f4693078e72ca56790f6a3b3e924644f9a2ca10ffcd899c2798ac5a7483e602"), looks := true }, kinds := [], alts := [], laidByText := true, laidKinds := [.data, .data, .data, .data, .sentinel, .sentinel, .pinned], laidTests := true, laidLooks := .later }
def TagRoundUptoCardSaid : Prop := Claim7.holds Tryz.pinned (.plain (OpenSpec.upto tagRoundSpec)) tagRoundUptoCard
end Rows
end Go.Proofs.YtkbiccgjkiifpaaGreatDoor
