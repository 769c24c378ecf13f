/-
  DERIVED. GIVEN WITH THE SEED: THE CARDS: each row of YtamacljplianfaaDoorRows.lean that lists a variable, with what it lists TIED to the program's text (the seventh form; the later family's looks); each row that meets fmt, with fmt's text TOLD by the authors' own Lean function (tested against real Go, not proved from fmt's source: count such statements apart). THE CARD IS WHAT COUNTS. Prove the row's statement (the work); the ties are given (YtamacljplianfaaDoorTie.lean); close each card by the builder's one call (the guide's Derived/Test/ToyasCard.lean, 'card_holds'). Laid BY PROGRAM, IN A SANDBOX (cutbox-door.mjs). By AI agents, Wed Nov 11 2026. No macro, syntax, notation, axiom, sorry.
-/
import Derived.Test.YtamacljplianfaaDoorRows
import GoSem.ClaimSeven
namespace Go.Proofs.YtamacljplianfaaDoor
namespace Rows

/-- THE TIED CARD OF 'tintlaw2.WherePlaces'. -/
def wherePlacesCard : Claim7 := { stood := { row := wherePlacesRow, standIns := [], harness := (true, "1fb1f73c714ed13ce47905d05b01b994bc60996d45b27033366769143313d22e"), looks := true }, kinds := [], alts := [], laidByText := true, laidKinds := [.data, .data, .data, .data, .sentinel, .sentinel, .pinned], laidTests := true, laidLooks := .later }
def WherePlacesCardSaid : Prop := Claim7.holds Tryd.pinned (.plain (OpenSpec.ofChange wherePlacesSpec)) wherePlacesCard

/-- THE TIED CARD OF 'tintkeep2.WhereEnds'. -/
def whereEndsCard : Claim7 := { stood := { row := whereEndsRow, standIns := [], harness := (true, "1fb1f73c714ed13ce47905d05b01b994bc60996d45b27033366769143313d22e"), looks := true }, kinds := [], alts := [], laidByText := true, laidKinds := [.data, .data, .data, .data, .sentinel, .sentinel, .pinned], laidTests := true, laidLooks := .later }
def WhereEndsCardSaid : Prop := Claim7.holds Tryd.pinned (.plain (OpenSpec.ofChange whereEndsSpec)) whereEndsCard

/-- THE SECOND FORM's CARD OF 'tintlaw2.WherePlaces'. -/
def wherePlacesUptoCard : Claim7 := { stood := { row := wherePlacesUptoRow, standIns := [], harness := (true, "1fb1f73c714ed13ce47905d05b01b994bc60996d45b27033366769143313d22e"), looks := true }, kinds := [], alts := [], laidByText := true, laidKinds := [.data, .data, .data, .data, .sentinel, .sentinel, .pinned], laidTests := true, laidLooks := .later }
def WherePlacesUptoCardSaid : Prop := Claim7.holds Tryd.pinned (.plain (OpenSpec.upto wherePlacesSpec)) wherePlacesUptoCard

/-- THE SECOND FORM's CARD OF 'tintkeep2.WhereEnds'. -/
def whereEndsUptoCard : Claim7 := { stood := { row := whereEndsUptoRow, standIns := [], harness := (true, "1fb1f73c714ed13ce47905d05b01b994bc60996d45b27033366769143313d22e"), looks := true }, kinds := [], alts := [], laidByText := true, laidKinds := [.data, .data, .data, .data, .sentinel, .sentinel, .pinned], laidTests := true, laidLooks := .later }
def WhereEndsUptoCardSaid : Prop := Claim7.holds Tryd.pinned (.plain (OpenSpec.upto whereEndsSpec)) whereEndsUptoCard
end Rows
end Go.Proofs.YtamacljplianfaaDoor
