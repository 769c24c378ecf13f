/-
  No cell of these rows narrows 'for every input' (looked for: loops, veiled, ifaces, maps, wideKeys, modest, calm, conditions, laid).
  DERIVED. THE GIVEN ROWS OF THIS SEAT. 2 by the template 'for every input the law returns true; each argument reads behind the call as it read before'; 0 by the template 'total and deterministic' (their statements: YthhaabhnlndnoaaGreatTotals.lean).
  GIVEN WITH THE SEED: the statements are not yours to turn. If you find one false, say at which input.
  Laid BY PROGRAM, IN A SANDBOX (cutbox-rows.mjs): the forced cells as the released guide's own fill.sh prints them over the translation 1d78d1d19f207d7a… (all of the seat's roots in one cut). By AI agents, Wed Nov 11 2026. No macro, syntax, notation, axiom, sorry.
-/
import Derived.Test.YthhaabhnlndnoaaGreatChecked
import GoSem.Claim
import GoSem.ClaimJoined
import GoSem.ClaimMapViews
import Derived.JoinedTies
import Derived.KernelRfl
namespace Go.Proofs.YthhaabhnlndnoaaGreat
/- THE CELL 'sum', in the pinned program and in every row, IS THE sha256 OF THE DUMP (.gsa) THAT YthhaabhnlndnoaaGreatProg.lean LOADS. Nothing in Lean hashes anything: it is a label: what it is worth is what the hold of that sum in a sandbox is worth. -/
noncomputable def Tryz.pinned : Pinned := { name := "ythhaabhnlndnoaagreat", sum := "1d78d1d19f207d7ac9c84524a53c394a80f4c0165addf319716617a314a787a4", checked := Tryz.checked }
namespace Rows
def none {H : Type} : Left H := { results := [], args := [] }

/-- 'tintkeep2.FaceSplits': WHATEVER THE INPUT: true; the input reads as it did. -/
def faceSplitsSpec : ChangeSpec := { name := "faceSplits", fn := fun _ => fun
  | [d1, d2, d3, d4, d5] => { results := [.lit (.bool true)], args := [d1, d2, d3, d4, d5] }
  | _ => none }
def faceSplitsRow : OpenClaim := { program := "ythhaabhnlndnoaagreat", sum := "1d78d1d19f207d7ac9c84524a53c394a80f4c0165addf319716617a314a787a4", func := "tintype/tintkeep2.FaceSplits", spec := "faceSplits", inPlace := ["slices.overlaps[tintype/face.Person]"], unfollowed := true, recurses := true, apart := false }
def FaceSplitsSaid : Prop := faceSplitsRow.holds Tryz.pinned (OpenSpec.ofChange faceSplitsSpec)

/-- ITS FALSE NEIGHBOUR: 'it returns false'. Refute it at one input. -/
def faceSplitsWrong : ChangeSpec := { name := "faceSplits", fn := fun _ => fun
  | [d1, d2, d3, d4, d5] => { results := [.lit (.bool false)], args := [d1, d2, d3, d4, d5] }
  | _ => none }
def FaceSplitsWrongFalsely : Prop := faceSplitsRow.holds Tryz.pinned (OpenSpec.ofChange faceSplitsWrong)

/-- 'tintlaw2.FaceChanges': WHATEVER THE INPUT: true; the input reads as it did. -/
def faceChangesSpec : ChangeSpec := { name := "faceChanges", fn := fun _ => fun
  | [d1, d2, d3, d4, d5, d6, d7, d8] => { results := [.lit (.bool true)], args := [d1, d2, d3, d4, d5, d6, d7, d8] }
  | _ => none }
def faceChangesRow : OpenClaim := { program := "ythhaabhnlndnoaagreat", sum := "1d78d1d19f207d7ac9c84524a53c394a80f4c0165addf319716617a314a787a4", func := "tintype/tintlaw2.FaceChanges", spec := "faceChanges", inPlace := ["slices.overlaps[tintype/face.Person]"], unfollowed := true, recurses := true, apart := false }
def FaceChangesSaid : Prop := faceChangesRow.holds Tryz.pinned (OpenSpec.ofChange faceChangesSpec)

/-- ITS FALSE NEIGHBOUR: 'it returns false'. Refute it at one input. -/
def faceChangesWrong : ChangeSpec := { name := "faceChanges", fn := fun _ => fun
  | [d1, d2, d3, d4, d5, d6, d7, d8] => { results := [.lit (.bool false)], args := [d1, d2, d3, d4, d5, d6, d7, d8] }
  | _ => none }
def FaceChangesWrongFalsely : Prop := faceChangesRow.holds Tryz.pinned (OpenSpec.ofChange faceChangesWrong)

/- THE SECOND FORM. 'bulk': how many values and letters a reading holds, each counted each time it is reached (what is shared counts as often as it is met; a slice's spare places count too). A statement '..UptoSaid' is the law's where the arguments, and the package variables that the reading takes, are together of bulk at most 1048576: NARROWER than '..Said'. Prove '..Said' where nothing that the law and all that it calls make is longer than what came in: it says more and counts as full. Else prove '..UptoSaid'. A law counts once. -/
mutual
def uptoBulk {H : Type} : DataW H → Nat
  | .lit (.string bytes) => bytes.length + 1
  | .lit _ => 1
  | .nil => 1
  | .ptr d => uptoBulk d + 1
  | .slice elems spare => uptoBulkAll elems + uptoBulkAll spare + 1
  | .agg parts => uptoBulkAll parts + 1
  | .iface _ d => uptoBulk d + 1
  | .map entries => uptoBulkEntries entries + 1
  | .held _ => 1
def uptoBulkAll {H : Type} : List (DataW H) → Nat
  | [] => 0
  | d :: r => uptoBulk d + uptoBulkAll r
def uptoBulkEntries {H : Type} : List (Lit × DataW H) → Nat
  | [] => 0
  | x :: r => uptoBulkEntry x + uptoBulkEntries r
def uptoBulkEntry {H : Type} : Lit × DataW H → Nat
  | (.string bytes, d) => bytes.length + uptoBulk d + 1
  | (_, d) => uptoBulk d + 1
 end
def uptoSmall : (H : Type) → List (DataW H) → Bool := fun _ ds => decide (uptoBulkAll ds ≤ 1048576)
def OpenSpec.upto (s : _root_.Go.ChangeSpec) : _root_.Go.OpenSpec := { _root_.Go.OpenSpec.ofChange s with cond := some uptoSmall }

/-- 'tintkeep2.FaceSplits', WHERE WHAT IT READS IS OF BULK AT MOST 1048576: true; the input reads as it did. -/
def faceSplitsUptoRow : OpenClaim := { program := "ythhaabhnlndnoaagreat", sum := "1d78d1d19f207d7ac9c84524a53c394a80f4c0165addf319716617a314a787a4", func := "tintype/tintkeep2.FaceSplits", spec := "faceSplits", inPlace := ["slices.overlaps[tintype/face.Person]"], unfollowed := true, recurses := true, apart := false, narrowed := true }
def FaceSplitsUptoSaid : Prop := faceSplitsUptoRow.holds Tryz.pinned (OpenSpec.upto faceSplitsSpec)

/-- 'tintlaw2.FaceChanges', WHERE WHAT IT READS IS OF BULK AT MOST 1048576: true; the input reads as it did. -/
def faceChangesUptoRow : OpenClaim := { program := "ythhaabhnlndnoaagreat", sum := "1d78d1d19f207d7ac9c84524a53c394a80f4c0165addf319716617a314a787a4", func := "tintype/tintlaw2.FaceChanges", spec := "faceChanges", inPlace := ["slices.overlaps[tintype/face.Person]"], unfollowed := true, recurses := true, apart := false, narrowed := true }
def FaceChangesUptoSaid : Prop := faceChangesUptoRow.holds Tryz.pinned (OpenSpec.upto faceChangesSpec)

end Rows
end Go.Proofs.YthhaabhnlndnoaaGreat
