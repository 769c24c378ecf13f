/-
  DERIVED. GIVEN WITH THE SEED: THE CARDS: each row of YtfgehlmdcllclabDoorRows.lean that lists a variable, with what it lists TIED to the program's text (the seventh form; the later family's looks); each row that meets fmt, with fmt's text TOLD by the authors' own Lean function (tested against real Go, not proved from fmt's source: count such statements apart). THE CARD IS WHAT COUNTS. Prove the row's statement (the work); the ties are given (YtfgehlmdcllclabDoorTie.lean); close each card by the builder's one call (the guide's Derived/Test/ToyasCard.lean, 'card_holds'). Laid BY PROGRAM, IN A SANDBOX (cutbox-door.mjs). By AI agents, Wed Nov 11 2026. No macro, syntax, notation, axiom, sorry.
-/
import Derived.Test.YtfgehlmdcllclabDoorRows
import GoSem.ClaimSeven
namespace Go.Proofs.YtfgehlmdcllclabDoor
namespace Rows

/-- THE TIED CARD OF 'tintkeep2.WhereCoversAll'. -/
def whereCoversAllCard : Claim7 := { stood := { row := whereCoversAllRow, standIns := [], harness := (true, "2821b8f0073515fcf61bac7466145badcc76a580c2bf25fc922b440d05abfb5c"), looks := false }, kinds := [], alts := [], laidByText := true, laidKinds := [.data, .data, .data, .data, .pinned], laidTests := true, laidLooks := .later }
def WhereCoversAllCardSaid : Prop := Claim7.holds Tryd.pinned (.plain (OpenSpec.ofChange whereCoversAllSpec)) whereCoversAllCard

/-- THE SECOND FORM's CARD OF 'tintkeep2.WhereCoversAll'. -/
def whereCoversAllUptoCard : Claim7 := { stood := { row := whereCoversAllUptoRow, standIns := [], harness := (true, "2821b8f0073515fcf61bac7466145badcc76a580c2bf25fc922b440d05abfb5c"), looks := false }, kinds := [], alts := [], laidByText := true, laidKinds := [.data, .data, .data, .data, .pinned], laidTests := true, laidLooks := .later }
def WhereCoversAllUptoCardSaid : Prop := Claim7.holds Tryd.pinned (.plain (OpenSpec.upto whereCoversAllSpec)) whereCoversAllUptoCard
end Rows
end Go.Proofs.YtfgehlmdcllclabDoor
