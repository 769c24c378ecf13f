/-
  No cell of these rows narrows 'for every input' (looked for: loops, veiled, ifaces, maps, wideKeys, modest, calm, conditions, laid).
  DERIVED. THE GIVEN ROWS OF THIS SEAT. 8 by the template 'for every input the law returns true; each argument reads behind the call as it read before'; 0 by the template 'total and deterministic' (their statements: YtfgehlmdcllclaaTotals.lean).
  GIVEN WITH THE SEED: the statements are not yours to turn. If you find one false, say at which input.
  Laid BY PROGRAM, IN A SANDBOX (cutbox-rows.mjs): the forced cells as the released guide's own fill.sh prints them over the translation f59077bebbbbdaf6… (all of the seat's roots in one cut). By AI agents, Wed Nov 11 2026. No macro, syntax, notation, axiom, sorry.
-/
import Derived.Test.YtfgehlmdcllclaaChecked
import GoSem.Claim
import GoSem.ClaimJoined
import GoSem.ClaimMapViews
import Derived.JoinedTies
import Derived.KernelRfl
namespace Go.Proofs.Ytfgehlmdcllclaa
/- THE CELL 'sum', in the pinned program and in every row, IS THE sha256 OF THE DUMP (.gsa) THAT YtfgehlmdcllclaaProg.lean LOADS. Nothing in Lean hashes anything: it is a label: what it is worth is what the hold of that sum in a sandbox is worth. -/
noncomputable def Try.pinned : Pinned := { name := "ytfgehlmdcllclaa", sum := "f59077bebbbbdaf6d75f1bb666e8f5992c8cbfcbbc2cd6225602a8ff1620d8c6", checked := Try.checked }
namespace Rows
def none {H : Type} : Left H := { results := [], args := [] }

/-- 'tintlaw2.WhereBoxes': WHATEVER THE INPUT: true; the input reads as it did. -/
def whereBoxesSpec : ChangeSpec := { name := "whereBoxes", fn := fun _ => fun
  | [d1, d2, d3, d4] => { results := [.lit (.bool true)], args := [d1, d2, d3, d4] }
  | _ => none }
def whereBoxesRow : OpenClaim := { program := "ytfgehlmdcllclaa", sum := "f59077bebbbbdaf6d75f1bb666e8f5992c8cbfcbbc2cd6225602a8ff1620d8c6", func := "tintype/tintlaw2.WhereBoxes", spec := "whereBoxes", apart := false }
def WhereBoxesSaid : Prop := whereBoxesRow.holds Try.pinned (OpenSpec.ofChange whereBoxesSpec)

/-- ITS FALSE NEIGHBOUR: 'it returns false'. Refute it at one input. -/
def whereBoxesWrong : ChangeSpec := { name := "whereBoxes", fn := fun _ => fun
  | [d1, d2, d3, d4] => { results := [.lit (.bool false)], args := [d1, d2, d3, d4] }
  | _ => none }
def WhereBoxesWrongFalsely : Prop := whereBoxesRow.holds Try.pinned (OpenSpec.ofChange whereBoxesWrong)

/-- 'tintlaw2.WhereCovers': WHATEVER THE INPUT: true; the input reads as it did. -/
def whereCoversSpec : ChangeSpec := { name := "whereCovers", fn := fun _ => fun
  | [d1, d2] => { results := [.lit (.bool true)], args := [d1, d2] }
  | _ => none }
def whereCoversRow : OpenClaim := { program := "ytfgehlmdcllclaa", sum := "f59077bebbbbdaf6d75f1bb666e8f5992c8cbfcbbc2cd6225602a8ff1620d8c6", func := "tintype/tintlaw2.WhereCovers", spec := "whereCovers", recurses := true, apart := false }
def WhereCoversSaid : Prop := whereCoversRow.holds Try.pinned (OpenSpec.ofChange whereCoversSpec)

/-- ITS FALSE NEIGHBOUR: 'it returns false'. Refute it at one input. -/
def whereCoversWrong : ChangeSpec := { name := "whereCovers", fn := fun _ => fun
  | [d1, d2] => { results := [.lit (.bool false)], args := [d1, d2] }
  | _ => none }
def WhereCoversWrongFalsely : Prop := whereCoversRow.holds Try.pinned (OpenSpec.ofChange whereCoversWrong)

/-- 'tintlaw2.WherePlaced': WHATEVER THE INPUT: true; the input reads as it did. -/
def wherePlacedSpec : ChangeSpec := { name := "wherePlaced", fn := fun _ => fun
  | [d1, d2, d3] => { results := [.lit (.bool true)], args := [d1, d2, d3] }
  | _ => none }
def wherePlacedRow : OpenClaim := { program := "ytfgehlmdcllclaa", sum := "f59077bebbbbdaf6d75f1bb666e8f5992c8cbfcbbc2cd6225602a8ff1620d8c6", func := "tintype/tintlaw2.WherePlaced", spec := "wherePlaced", unfollowed := true, recurses := true, apart := false }
def WherePlacedSaid : Prop := wherePlacedRow.holds Try.pinned (OpenSpec.ofChange wherePlacedSpec)

/-- ITS FALSE NEIGHBOUR: 'it returns false'. Refute it at one input. -/
def wherePlacedWrong : ChangeSpec := { name := "wherePlaced", fn := fun _ => fun
  | [d1, d2, d3] => { results := [.lit (.bool false)], args := [d1, d2, d3] }
  | _ => none }
def WherePlacedWrongFalsely : Prop := wherePlacedRow.holds Try.pinned (OpenSpec.ofChange wherePlacedWrong)

/-- 'tintlaw2.WhereDistances': WHATEVER THE INPUT: true; the input reads as it did. -/
def whereDistancesSpec : ChangeSpec := { name := "whereDistances", fn := fun _ => fun
  | [d1, d2, d3, d4] => { results := [.lit (.bool true)], args := [d1, d2, d3, d4] }
  | _ => none }
def whereDistancesRow : OpenClaim := { program := "ytfgehlmdcllclaa", sum := "f59077bebbbbdaf6d75f1bb666e8f5992c8cbfcbbc2cd6225602a8ff1620d8c6", func := "tintype/tintlaw2.WhereDistances", spec := "whereDistances", inPlace := ["math.sqrt"], apart := false }
def WhereDistancesSaid : Prop := whereDistancesRow.holds Try.pinned (OpenSpec.ofChange whereDistancesSpec)

/-- ITS FALSE NEIGHBOUR: 'it returns false'. Refute it at one input. -/
def whereDistancesWrong : ChangeSpec := { name := "whereDistances", fn := fun _ => fun
  | [d1, d2, d3, d4] => { results := [.lit (.bool false)], args := [d1, d2, d3, d4] }
  | _ => none }
def WhereDistancesWrongFalsely : Prop := whereDistancesRow.holds Try.pinned (OpenSpec.ofChange whereDistancesWrong)

/-- 'tintlaw2.WhereSimple': WHATEVER THE INPUT: true; the input reads as it did. -/
def whereSimpleSpec : ChangeSpec := { name := "whereSimple", fn := fun _ => fun
  | [d1, d2] => { results := [.lit (.bool true)], args := [d1, d2] }
  | _ => none }
def whereSimpleRow : OpenClaim := { program := "ytfgehlmdcllclaa", sum := "f59077bebbbbdaf6d75f1bb666e8f5992c8cbfcbbc2cd6225602a8ff1620d8c6", func := "tintype/tintlaw2.WhereSimple", spec := "whereSimple", inPlace := ["math.sqrt"], unfollowed := true, recurses := true, apart := false }
def WhereSimpleSaid : Prop := whereSimpleRow.holds Try.pinned (OpenSpec.ofChange whereSimpleSpec)

/-- ITS FALSE NEIGHBOUR: 'it returns false'. Refute it at one input. -/
def whereSimpleWrong : ChangeSpec := { name := "whereSimple", fn := fun _ => fun
  | [d1, d2] => { results := [.lit (.bool false)], args := [d1, d2] }
  | _ => none }
def WhereSimpleWrongFalsely : Prop := whereSimpleRow.holds Try.pinned (OpenSpec.ofChange whereSimpleWrong)

/-- 'tintlaw2.WhereTracks': WHATEVER THE INPUT: true; the input reads as it did. -/
def whereTracksSpec : ChangeSpec := { name := "whereTracks", fn := fun _ => fun
  | [d1, d2, d3] => { results := [.lit (.bool true)], args := [d1, d2, d3] }
  | _ => none }
def whereTracksRow : OpenClaim := { program := "ytfgehlmdcllclaa", sum := "f59077bebbbbdaf6d75f1bb666e8f5992c8cbfcbbc2cd6225602a8ff1620d8c6", func := "tintype/tintlaw2.WhereTracks", spec := "whereTracks", inPlace := ["math.sqrt"], unfollowed := true, recurses := true, apart := false }
def WhereTracksSaid : Prop := whereTracksRow.holds Try.pinned (OpenSpec.ofChange whereTracksSpec)

/-- ITS FALSE NEIGHBOUR: 'it returns false'. Refute it at one input. -/
def whereTracksWrong : ChangeSpec := { name := "whereTracks", fn := fun _ => fun
  | [d1, d2, d3] => { results := [.lit (.bool false)], args := [d1, d2, d3] }
  | _ => none }
def WhereTracksWrongFalsely : Prop := whereTracksRow.holds Try.pinned (OpenSpec.ofChange whereTracksWrong)

/-- 'tintlaw2.WhereStops': WHATEVER THE INPUT: true; the input reads as it did. -/
def whereStopsSpec : ChangeSpec := { name := "whereStops", fn := fun _ => fun
  | [d1, d2, d3] => { results := [.lit (.bool true)], args := [d1, d2, d3] }
  | _ => none }
def whereStopsRow : OpenClaim := { program := "ytfgehlmdcllclaa", sum := "f59077bebbbbdaf6d75f1bb666e8f5992c8cbfcbbc2cd6225602a8ff1620d8c6", func := "tintype/tintlaw2.WhereStops", spec := "whereStops", inPlace := ["math.sqrt"], unfollowed := true, recurses := true, apart := false }
def WhereStopsSaid : Prop := whereStopsRow.holds Try.pinned (OpenSpec.ofChange whereStopsSpec)

/-- ITS FALSE NEIGHBOUR: 'it returns false'. Refute it at one input. -/
def whereStopsWrong : ChangeSpec := { name := "whereStops", fn := fun _ => fun
  | [d1, d2, d3] => { results := [.lit (.bool false)], args := [d1, d2, d3] }
  | _ => none }
def WhereStopsWrongFalsely : Prop := whereStopsRow.holds Try.pinned (OpenSpec.ofChange whereStopsWrong)

/-- 'tintlaw2.WhereLists': WHATEVER THE INPUT: true; the input reads as it did. -/
def whereListsSpec : ChangeSpec := { name := "whereLists", fn := fun _ => fun
  | [d1, d2, d3] => { results := [.lit (.bool true)], args := [d1, d2, d3] }
  | _ => none }
def whereListsRow : OpenClaim := { program := "ytfgehlmdcllclaa", sum := "f59077bebbbbdaf6d75f1bb666e8f5992c8cbfcbbc2cd6225602a8ff1620d8c6", func := "tintype/tintlaw2.WhereLists", spec := "whereLists", inPlace := ["math.sqrt"], unfollowed := true, recurses := true, apart := false }
def WhereListsSaid : Prop := whereListsRow.holds Try.pinned (OpenSpec.ofChange whereListsSpec)

/-- ITS FALSE NEIGHBOUR: 'it returns false'. Refute it at one input. -/
def whereListsWrong : ChangeSpec := { name := "whereLists", fn := fun _ => fun
  | [d1, d2, d3] => { results := [.lit (.bool false)], args := [d1, d2, d3] }
  | _ => none }
def WhereListsWrongFalsely : Prop := whereListsRow.holds Try.pinned (OpenSpec.ofChange whereListsWrong)

/- THE SECOND FORM. 'bulk': how many values and letters a reading holds, each counted each time it is reached (what is shared counts as often as it is met; a slice's spare places count too). A statement '..UptoSaid' is the law's where the arguments, and the package variables that the reading takes, are together of bulk at most 1048576: NARROWER than '..Said'. Prove '..Said' where nothing that the law and all that it calls make is longer than what came in: it says more and counts as full. Else prove '..UptoSaid'. A law counts once. -/
mutual
def uptoBulk {H : Type} : DataW H → Nat
  | .lit (.string bytes) => bytes.length + 1
  | .lit _ => 1
  | .nil => 1
  | .ptr d => uptoBulk d + 1
  | .slice elems spare => uptoBulkAll elems + uptoBulkAll spare + 1
  | .agg parts => uptoBulkAll parts + 1
  | .iface _ d => uptoBulk d + 1
  | .map entries => uptoBulkEntries entries + 1
  | .held _ => 1
def uptoBulkAll {H : Type} : List (DataW H) → Nat
  | [] => 0
  | d :: r => uptoBulk d + uptoBulkAll r
def uptoBulkEntries {H : Type} : List (Lit × DataW H) → Nat
  | [] => 0
  | x :: r => uptoBulkEntry x + uptoBulkEntries r
def uptoBulkEntry {H : Type} : Lit × DataW H → Nat
  | (.string bytes, d) => bytes.length + uptoBulk d + 1
  | (_, d) => uptoBulk d + 1
 end
def uptoSmall : (H : Type) → List (DataW H) → Bool := fun _ ds => decide (uptoBulkAll ds ≤ 1048576)
def OpenSpec.upto (s : _root_.Go.ChangeSpec) : _root_.Go.OpenSpec := { _root_.Go.OpenSpec.ofChange s with cond := some uptoSmall }

/-- 'tintlaw2.WhereBoxes', WHERE WHAT IT READS IS OF BULK AT MOST 1048576: true; the input reads as it did. -/
def whereBoxesUptoRow : OpenClaim := { program := "ytfgehlmdcllclaa", sum := "f59077bebbbbdaf6d75f1bb666e8f5992c8cbfcbbc2cd6225602a8ff1620d8c6", func := "tintype/tintlaw2.WhereBoxes", spec := "whereBoxes", apart := false, narrowed := true }
def WhereBoxesUptoSaid : Prop := whereBoxesUptoRow.holds Try.pinned (OpenSpec.upto whereBoxesSpec)

/-- 'tintlaw2.WhereCovers', WHERE WHAT IT READS IS OF BULK AT MOST 1048576: true; the input reads as it did. -/
def whereCoversUptoRow : OpenClaim := { program := "ytfgehlmdcllclaa", sum := "f59077bebbbbdaf6d75f1bb666e8f5992c8cbfcbbc2cd6225602a8ff1620d8c6", func := "tintype/tintlaw2.WhereCovers", spec := "whereCovers", recurses := true, apart := false, narrowed := true }
def WhereCoversUptoSaid : Prop := whereCoversUptoRow.holds Try.pinned (OpenSpec.upto whereCoversSpec)

/-- 'tintlaw2.WherePlaced', WHERE WHAT IT READS IS OF BULK AT MOST 1048576: true; the input reads as it did. -/
def wherePlacedUptoRow : OpenClaim := { program := "ytfgehlmdcllclaa", sum := "f59077bebbbbdaf6d75f1bb666e8f5992c8cbfcbbc2cd6225602a8ff1620d8c6", func := "tintype/tintlaw2.WherePlaced", spec := "wherePlaced", unfollowed := true, recurses := true, apart := false, narrowed := true }
def WherePlacedUptoSaid : Prop := wherePlacedUptoRow.holds Try.pinned (OpenSpec.upto wherePlacedSpec)

/-- 'tintlaw2.WhereDistances', WHERE WHAT IT READS IS OF BULK AT MOST 1048576: true; the input reads as it did. -/
def whereDistancesUptoRow : OpenClaim := { program := "ytfgehlmdcllclaa", sum := "f59077bebbbbdaf6d75f1bb666e8f5992c8cbfcbbc2cd6225602a8ff1620d8c6", func := "tintype/tintlaw2.WhereDistances", spec := "whereDistances", inPlace := ["math.sqrt"], apart := false, narrowed := true }
def WhereDistancesUptoSaid : Prop := whereDistancesUptoRow.holds Try.pinned (OpenSpec.upto whereDistancesSpec)

/-- 'tintlaw2.WhereSimple', WHERE WHAT IT READS IS OF BULK AT MOST 1048576: true; the input reads as it did. -/
def whereSimpleUptoRow : OpenClaim := { program := "ytfgehlmdcllclaa", sum := "f59077bebbbbdaf6d75f1bb666e8f5992c8cbfcbbc2cd6225602a8ff1620d8c6", func := "tintype/tintlaw2.WhereSimple", spec := "whereSimple", inPlace := ["math.sqrt"], unfollowed := true, recurses := true, apart := false, narrowed := true }
def WhereSimpleUptoSaid : Prop := whereSimpleUptoRow.holds Try.pinned (OpenSpec.upto whereSimpleSpec)

/-- 'tintlaw2.WhereTracks', WHERE WHAT IT READS IS OF BULK AT MOST 1048576: true; the input reads as it did. -/
def whereTracksUptoRow : OpenClaim := { program := "ytfgehlmdcllclaa", sum := "f59077bebbbbdaf6d75f1bb666e8f5992c8cbfcbbc2cd6225602a8ff1620d8c6", func := "tintype/tintlaw2.WhereTracks", spec := "whereTracks", inPlace := ["math.sqrt"], unfollowed := true, recurses := true, apart := false, narrowed := true }
def WhereTracksUptoSaid : Prop := whereTracksUptoRow.holds Try.pinned (OpenSpec.upto whereTracksSpec)

/-- 'tintlaw2.WhereStops', WHERE WHAT IT READS IS OF BULK AT MOST 1048576: true; the input reads as it did. -/
def whereStopsUptoRow : OpenClaim := { program := "ytfgehlmdcllclaa", sum := "f59077bebbbbdaf6d75f1bb666e8f5992c8cbfcbbc2cd6225602a8ff1620d8c6", func := "tintype/tintlaw2.WhereStops", spec := "whereStops", inPlace := ["math.sqrt"], unfollowed := true, recurses := true, apart := false, narrowed := true }
def WhereStopsUptoSaid : Prop := whereStopsUptoRow.holds Try.pinned (OpenSpec.upto whereStopsSpec)

/-- 'tintlaw2.WhereLists', WHERE WHAT IT READS IS OF BULK AT MOST 1048576: true; the input reads as it did. -/
def whereListsUptoRow : OpenClaim := { program := "ytfgehlmdcllclaa", sum := "f59077bebbbbdaf6d75f1bb666e8f5992c8cbfcbbc2cd6225602a8ff1620d8c6", func := "tintype/tintlaw2.WhereLists", spec := "whereLists", inPlace := ["math.sqrt"], unfollowed := true, recurses := true, apart := false, narrowed := true }
def WhereListsUptoSaid : Prop := whereListsUptoRow.holds Try.pinned (OpenSpec.upto whereListsSpec)

end Rows
end Go.Proofs.Ytfgehlmdcllclaa
