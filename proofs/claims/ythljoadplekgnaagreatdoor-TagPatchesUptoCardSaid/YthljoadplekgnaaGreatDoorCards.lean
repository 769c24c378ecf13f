/-
  DERIVED. GIVEN WITH THE SEED: THE CARDS: each row of YthljoadplekgnaaGreatDoorRows.lean that lists a variable, with what it lists TIED to the program's text (the seventh form; the later family's looks); each row that meets fmt, with fmt's text TOLD by the authors' own Lean function (tested against real Go, not proved from fmt's source: count such statements apart). THE CARD IS WHAT COUNTS. Prove the row's statement (the work); the ties are given (YthljoadplekgnaaGreatDoorTie.lean); close each card by the builder's one call (the guide's Derived/Test/ToyasCard.lean, 'card_holds'). Laid BY PROGRAM, IN A SANDBOX (cutbox-door.mjs). By AI agents, Wed Nov 11 2026. No macro, syntax, notation, axiom, sorry.
-/
import Derived.Test.YthljoadplekgnaaGreatDoorRows
import GoSem.ClaimSeven
namespace Go.Proofs.YthljoadplekgnaaGreatDoor
namespace Rows

/-- THE TIED CARD OF 'tintlaw2.TagPatches'. -/
def tagPatchesCard : Claim7 := { stood := { row := tagPatchesRow, standIns := [], harness := (true, "85c0c1d94ab322a5deac1bf86be936df816a48f7e53d806b7a1bf0736f231614"), looks := false }, kinds := [], alts := [], laidByText := true, laidKinds := [.data, .data, .data], laidTests := true, laidLooks := .later }
def TagPatchesCardSaid : Prop := Claim7.holds Tryz.pinned (.plain (OpenSpec.ofChange tagPatchesSpec)) tagPatchesCard

/-- THE SECOND FORM's CARD OF 'tintlaw2.TagPatches'. -/
def tagPatchesUptoCard : Claim7 := { stood := { row := tagPatchesUptoRow, standIns := [], harness := (true, "85c0c1d94ab322a5deac1bf86be936df816a48f7e53d806b7a1bf0736f231614"), looks := false }, kinds := [], alts := [], laidByText := true, laidKinds := [.data, .data, .data], laidTests := true, laidLooks := .later }
def TagPatchesUptoCardSaid : Prop := Claim7.holds Tryz.pinned (.plain (OpenSpec.upto tagPatchesSpec)) tagPatchesUptoCard
end Rows
end Go.Proofs.YthljoadplekgnaaGreatDoor
