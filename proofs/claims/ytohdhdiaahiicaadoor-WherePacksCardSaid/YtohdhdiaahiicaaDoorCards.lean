/-
  DERIVED. GIVEN WITH THE SEED: THE CARDS: each row of YtohdhdiaahiicaaDoorRows.lean that lists a variable, with what it lists TIED to the program's text (the seventh form; the later family's looks); each row that meets fmt, with fmt's text TOLD by the authors' own Lean function (tested against real Go, not proved from fmt's source: count such statements apart). THE CARD IS WHAT COUNTS. Prove the row's statement (the work); the ties are given (YtohdhdiaahiicaaDoorTie.lean); close each card by the builder's one call (the guide's Derived/Test/ToyasCard.lean, 'card_holds'). Laid BY PROGRAM, IN A SANDBOX (cutbox-door.mjs). By AI agents, Wed Nov 11 2026. No macro, syntax, notation, axiom, sorry.
-/
import Derived.Test.YtohdhdiaahiicaaDoorRows
import GoSem.ClaimSeven
namespace Go.Proofs.YtohdhdiaahiicaaDoor
namespace Rows

/-- THE TIED CARD OF 'tintlaw2.WherePacks'. -/
def wherePacksCard : Claim7 := { stood := { row := wherePacksRow, standIns := [], harness := (true, "d6080e58f52354e2295e09bcb813aa9ccc5d8eccbff4361a6c887be9eda794e0"), looks := false }, kinds := [], alts := [], laidByText := true, laidKinds := [.sentinel], laidTests := true, laidLooks := .later }
def WherePacksCardSaid : Prop := Claim7.holds Tryd.pinned (.plain (OpenSpec.ofChange wherePacksSpec)) wherePacksCard

/-- THE SECOND FORM's CARD OF 'tintlaw2.WherePacks'. -/
def wherePacksUptoCard : Claim7 := { stood := { row := wherePacksUptoRow, standIns := [], harness := (true, "d6080e58f52354e2295e09bcb813aa9ccc5d8eccbff4361a6c887be9eda794e0"), looks := false }, kinds := [], alts := [], laidByText := true, laidKinds := [.sentinel], laidTests := true, laidLooks := .later }
def WherePacksUptoCardSaid : Prop := Claim7.holds Tryd.pinned (.plain (OpenSpec.upto wherePacksSpec)) wherePacksUptoCard
end Rows
end Go.Proofs.YtohdhdiaahiicaaDoor
