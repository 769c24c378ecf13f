/-
  DERIVED. GIVEN WITH THE SEED: THE CARDS: each row of YtajcmignhnbmiaaGreatDoorRows.lean that lists a variable, with what it lists TIED to the program's text (the seventh form; the later family's looks); each row that meets fmt, with fmt's text TOLD by the authors' own Lean function (tested against real Go, not proved from fmt's source: count such statements apart). THE CARD IS WHAT COUNTS. Prove the row's statement (the work); the ties are given (YtajcmignhnbmiaaGreatDoorTie.lean); close each card by the builder's one call (the guide's Derived/Test/ToyasCard.lean, 'card_holds'). Laid BY PROGRAM, IN A SANDBOX (cutbox-door.mjs). By AI agents, Wed Nov 11 2026. No macro, syntax, notation, axiom, sorry.
-/
import Derived.Test.YtajcmignhnbmiaaGreatDoorRows
import GoSem.ClaimSeven
namespace Go.Proofs.YtajcmignhnbmiaaGreatDoor
namespace Rows

/-- THE TIED CARD OF 'tintkeep2.SyncStays'. -/
def syncStaysCard : Claim7 := { stood := { row := syncStaysRow, standIns := [], harness := (true, "002622143dfe2da6331b1a73786d1aa2da3663babd7699fe2fc6c91bea3022ba"), looks := false }, kinds := [], alts := [], laidByText := true, laidKinds := [.data, .pinned], laidTests := true, laidLooks := .later }
def SyncStaysCardSaid : Prop := Claim7.holds Tryz.pinned (.plain (OpenSpec.ofChange syncStaysSpec)) syncStaysCard

/-- THE SECOND FORM's CARD OF 'tintkeep2.SyncStays'. -/
def syncStaysUptoCard : Claim7 := { stood := { row := syncStaysUptoRow, standIns := [], harness := (true, "002622143dfe2da6331b1a73786d1aa2da3663babd7699fe2fc6c91bea3022ba"), looks := false }, kinds := [], alts := [], laidByText := true, laidKinds := [.data, .pinned], laidTests := true, laidLooks := .later }
def SyncStaysUptoCardSaid : Prop := Claim7.holds Tryz.pinned (.plain (OpenSpec.upto syncStaysSpec)) syncStaysUptoCard
end Rows
end Go.Proofs.YtajcmignhnbmiaaGreatDoor
