/-
  DERIVED. GIVEN WITH THE SEED: THE CARDS: each row of YtlkaenijicgfcaaGreatDoorRows.lean that lists a variable, with what it lists TIED to the program's text (the seventh form; the later family's looks); each row that meets fmt, with fmt's text TOLD by the authors' own Lean function (tested against real Go, not proved from fmt's source: count such statements apart). THE CARD IS WHAT COUNTS. Prove the row's statement (the work); the ties are given (YtlkaenijicgfcaaGreatDoorTie.lean); close each card by the builder's one call (the guide's Derived/Test/ToyasCard.lean, 'card_holds'). Laid BY PROGRAM, IN A SANDBOX (cutbox-door.mjs). By AI agents, Wed Nov 11 2026. No macro, syntax, notation, axiom, sorry.
-/
import Derived.Test.YtlkaenijicgfcaaGreatDoorRows
import GoSem.ClaimSeven
namespace Go.Proofs.YtlkaenijicgfcaaGreatDoor
namespace Rows

/-- THE TIED CARD OF 'tintlaw2.FaceTexts'. -/
def faceTextsCard : Claim7 := { stood := { row := faceTextsRow, standIns := [], harness := (true, "09379713c9b90c013fbb71ffc8b6ce92ebeecd9ccf12b5c8d17b9502fb13e53a"), looks := true }, kinds := [], alts := [], laidByText := true, laidKinds := [.data, .data, .data, .data, .sentinel, .sentinel, .pinned], laidTests := true, laidLooks := .later }
def FaceTextsCardSaid : Prop := Claim7.holds Tryz.pinned (.plain (OpenSpec.ofChange faceTextsSpec)) faceTextsCard

/-- THE TIED CARD OF 'tintlaw2.SyncTexts'. -/
def syncTextsCard : Claim7 := { stood := { row := syncTextsRow, standIns := [], harness := (true, "09379713c9b90c013fbb71ffc8b6ce92ebeecd9ccf12b5c8d17b9502fb13e53a"), looks := true }, kinds := [], alts := [], laidByText := true, laidKinds := [.data, .data, .data, .data, .sentinel, .sentinel, .pinned], laidTests := true, laidLooks := .later }
def SyncTextsCardSaid : Prop := Claim7.holds Tryz.pinned (.plain (OpenSpec.ofChange syncTextsSpec)) syncTextsCard

/-- THE TIED CARD OF 'tintlaw2.SyncLearns'. -/
def syncLearnsCard : Claim7 := { stood := { row := syncLearnsRow, standIns := [], harness := (true, "09379713c9b90c013fbb71ffc8b6ce92ebeecd9ccf12b5c8d17b9502fb13e53a"), looks := true }, kinds := [], alts := [], laidByText := true, laidKinds := [.data, .data, .data, .data, .sentinel, .sentinel, .pinned], laidTests := true, laidLooks := .later }
def SyncLearnsCardSaid : Prop := Claim7.holds Tryz.pinned (.plain (OpenSpec.ofChange syncLearnsSpec)) syncLearnsCard

/-- THE SECOND FORM's CARD OF 'tintlaw2.FaceTexts'. -/
def faceTextsUptoCard : Claim7 := { stood := { row := faceTextsUptoRow, standIns := [], harness := (true, "09379713c9b90c013fbb71ffc8b6ce92ebeecd9ccf12b5c8d17b9502fb13e53a"), looks := true }, kinds := [], alts := [], laidByText := true, laidKinds := [.data, .data, .data, .data, .sentinel, .sentinel, .pinned], laidTests := true, laidLooks := .later }
def FaceTextsUptoCardSaid : Prop := Claim7.holds Tryz.pinned (.plain (OpenSpec.upto faceTextsSpec)) faceTextsUptoCard

/-- THE SECOND FORM's CARD OF 'tintlaw2.SyncTexts'. -/
def syncTextsUptoCard : Claim7 := { stood := { row := syncTextsUptoRow, standIns := [], harness := (true, "09379713c9b90c013fbb71ffc8b6ce92ebeecd9ccf12b5c8d17b9502fb13e53a"), looks := true }, kinds := [], alts := [], laidByText := true, laidKinds := [.data, .data, .data, .data, .sentinel, .sentinel, .pinned], laidTests := true, laidLooks := .later }
def SyncTextsUptoCardSaid : Prop := Claim7.holds Tryz.pinned (.plain (OpenSpec.upto syncTextsSpec)) syncTextsUptoCard

/-- THE SECOND FORM's CARD OF 'tintlaw2.SyncLearns'. -/
def syncLearnsUptoCard : Claim7 := { stood := { row := syncLearnsUptoRow, standIns := [], harness := (true, "09379713c9b90c013fbb71ffc8b6ce92ebeecd9ccf12b5c8d17b9502fb13e53a"), looks := true }, kinds := [], alts := [], laidByText := true, laidKinds := [.data, .data, .data, .data, .sentinel, .sentinel, .pinned], laidTests := true, laidLooks := .later }
def SyncLearnsUptoCardSaid : Prop := Claim7.holds Tryz.pinned (.plain (OpenSpec.upto syncLearnsSpec)) syncLearnsUptoCard
end Rows
end Go.Proofs.YtlkaenijicgfcaaGreatDoor
