/-
  DERIVED. GIVEN WITH THE SEED: THE CARDS: each row of YtfplifpbobfemaaDoorRows.lean that lists a variable, with what it lists TIED to the program's text (the seventh form; the later family's looks); each row that meets fmt, with fmt's text TOLD by the authors' own Lean function (tested against real Go, not proved from fmt's source: count such statements apart). THE CARD IS WHAT COUNTS. Prove the row's statement (the work); the ties are given (YtfplifpbobfemaaDoorTie.lean); close each card by the builder's one call (the guide's Derived/Test/ToyasCard.lean, 'card_holds'). Laid BY PROGRAM, IN A SANDBOX (cutbox-door.mjs). By AI agents, Wed Nov 11 2026. No macro, syntax, notation, axiom, sorry.
-/
import Derived.Test.YtfplifpbobfemaaDoorRows
import GoSem.ClaimSeven
namespace Go.Proofs.YtfplifpbobfemaaDoor
namespace Rows

/-- THE TIED CARD OF 'tinttop.TopTurned'. -/
def topTurnedCard : Claim7 := { stood := { row := topTurnedRow, standIns := [], harness := (true, "1429440ab253e50e1cdb1bd8a36fc69203a16e62e6373a34f2d26dc2a1ff9398"), looks := false }, kinds := [], alts := [], laidByText := true, laidKinds := [.data, .data, .data], laidTests := true, laidLooks := .later }
def TopTurnedCardSaid : Prop := Claim7.holds Tryd.pinned (.plain (OpenSpec.ofChange topTurnedSpec)) topTurnedCard

/-- THE SECOND FORM's CARD OF 'tinttop.TopTurned'. -/
def topTurnedUptoCard : Claim7 := { stood := { row := topTurnedUptoRow, standIns := [], harness := (true, "1429440ab253e50e1cdb1bd8a36fc69203a16e62e6373a34f2d26dc2a1ff9398"), looks := false }, kinds := [], alts := [], laidByText := true, laidKinds := [.data, .data, .data], laidTests := true, laidLooks := .later }
def TopTurnedUptoCardSaid : Prop := Claim7.holds Tryd.pinned (.plain (OpenSpec.upto topTurnedSpec)) topTurnedUptoCard
end Rows
end Go.Proofs.YtfplifpbobfemaaDoor
