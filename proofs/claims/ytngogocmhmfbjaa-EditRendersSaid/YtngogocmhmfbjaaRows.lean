/-
  NARROWER THAN 'FOR EVERY INPUT', by the rows' own cells (each row's printed sentence says how): TagWrites: loops.
  DERIVED. THE GIVEN ROWS OF THIS SEAT. 9 by the template 'for every input the law returns true; each argument reads behind the call as it read before'; 0 by the template 'total and deterministic' (their statements: YtngogocmhmfbjaaTotals.lean).
  GIVEN WITH THE SEED: the statements are not yours to turn. If you find one false, say at which input.
  Laid BY PROGRAM, IN A SANDBOX (cutbox-rows.mjs): the forced cells as the released guide's own fill.sh prints them over the translation c04ff1ec79c5cdcc… (all of the seat's roots in one cut). By AI agents, Wed Nov 11 2026. No macro, syntax, notation, axiom, sorry.
-/
import Derived.Test.YtngogocmhmfbjaaChecked
import GoSem.Claim
import GoSem.ClaimJoined
import GoSem.ClaimMapViews
import Derived.JoinedTies
import Derived.KernelRfl
namespace Go.Proofs.Ytngogocmhmfbjaa
/- THE CELL 'sum', in the pinned program and in every row, IS THE sha256 OF THE DUMP (.gsa) THAT YtngogocmhmfbjaaProg.lean LOADS. Nothing in Lean hashes anything: it is a label: what it is worth is what the hold of that sum in a sandbox is worth. -/
noncomputable def Try.pinned : Pinned := { name := "ytngogocmhmfbjaa", sum := "c04ff1ec79c5cdcc38bf6ea3ce2b8353f7e275b1a6ac3bbfb3d17337d983007e", checked := Try.checked }
namespace Rows
def none {H : Type} : Left H := { results := [], args := [] }

/-- 'tintlaw2.FaceVecs': WHATEVER THE INPUT: true; the input reads as it did. -/
def faceVecsSpec : ChangeSpec := { name := "faceVecs", fn := fun _ => fun
  | [d1, d2, d3, d4] => { results := [.lit (.bool true)], args := [d1, d2, d3, d4] }
  | _ => none }
def faceVecsRow : OpenClaim := { program := "ytngogocmhmfbjaa", sum := "c04ff1ec79c5cdcc38bf6ea3ce2b8353f7e275b1a6ac3bbfb3d17337d983007e", func := "tintype/tintlaw2.FaceVecs", spec := "faceVecs", apart := false }
def FaceVecsSaid : Prop := faceVecsRow.holds Try.pinned (OpenSpec.ofChange faceVecsSpec)

/-- ITS FALSE NEIGHBOUR: 'it returns false'. Refute it at one input. -/
def faceVecsWrong : ChangeSpec := { name := "faceVecs", fn := fun _ => fun
  | [d1, d2, d3, d4] => { results := [.lit (.bool false)], args := [d1, d2, d3, d4] }
  | _ => none }
def FaceVecsWrongFalsely : Prop := faceVecsRow.holds Try.pinned (OpenSpec.ofChange faceVecsWrong)

/-- 'tintkeep2.TagDegrees': WHATEVER THE INPUT: true; the input reads as it did. -/
def tagDegreesSpec : ChangeSpec := { name := "tagDegrees", fn := fun _ => fun
  | [d] => { results := [.lit (.bool true)], args := [d] }
  | _ => none }
def tagDegreesRow : OpenClaim := { program := "ytngogocmhmfbjaa", sum := "c04ff1ec79c5cdcc38bf6ea3ce2b8353f7e275b1a6ac3bbfb3d17337d983007e", func := "tintype/tintkeep2.TagDegrees", spec := "tagDegrees", inPlace := ["math/bits.Add64"], apart := false }
def TagDegreesSaid : Prop := tagDegreesRow.holds Try.pinned (OpenSpec.ofChange tagDegreesSpec)

/-- ITS FALSE NEIGHBOUR: 'it returns false'. Refute it at one input. -/
def tagDegreesWrong : ChangeSpec := { name := "tagDegrees", fn := fun _ => fun
  | [d] => { results := [.lit (.bool false)], args := [d] }
  | _ => none }
def TagDegreesWrongFalsely : Prop := tagDegreesRow.holds Try.pinned (OpenSpec.ofChange tagDegreesWrong)

/-- 'tintlaw2.TagSegments': WHATEVER THE INPUT: true; the input reads as it did. -/
def tagSegmentsSpec : ChangeSpec := { name := "tagSegments", fn := fun _ => fun
  | [d1, d2] => { results := [.lit (.bool true)], args := [d1, d2] }
  | _ => none }
def tagSegmentsRow : OpenClaim := { program := "ytngogocmhmfbjaa", sum := "c04ff1ec79c5cdcc38bf6ea3ce2b8353f7e275b1a6ac3bbfb3d17337d983007e", func := "tintype/tintlaw2.TagSegments", spec := "tagSegments", apart := false }
def TagSegmentsSaid : Prop := tagSegmentsRow.holds Try.pinned (OpenSpec.ofChange tagSegmentsSpec)

/-- ITS FALSE NEIGHBOUR: 'it returns false'. Refute it at one input. -/
def tagSegmentsWrong : ChangeSpec := { name := "tagSegments", fn := fun _ => fun
  | [d1, d2] => { results := [.lit (.bool false)], args := [d1, d2] }
  | _ => none }
def TagSegmentsWrongFalsely : Prop := tagSegmentsRow.holds Try.pinned (OpenSpec.ofChange tagSegmentsWrong)

/-- 'tintlaw2.TagFractions': WHATEVER THE INPUT: true; the input reads as it did. -/
def tagFractionsSpec : ChangeSpec := { name := "tagFractions", fn := fun _ => fun
  | [d1, d2, d3] => { results := [.lit (.bool true)], args := [d1, d2, d3] }
  | _ => none }
def tagFractionsRow : OpenClaim := { program := "ytngogocmhmfbjaa", sum := "c04ff1ec79c5cdcc38bf6ea3ce2b8353f7e275b1a6ac3bbfb3d17337d983007e", func := "tintype/tintlaw2.TagFractions", spec := "tagFractions", inPlace := ["math/bits.Add64", "math/bits.Sub64"], apart := false }
def TagFractionsSaid : Prop := tagFractionsRow.holds Try.pinned (OpenSpec.ofChange tagFractionsSpec)

/-- ITS FALSE NEIGHBOUR: 'it returns false'. Refute it at one input. -/
def tagFractionsWrong : ChangeSpec := { name := "tagFractions", fn := fun _ => fun
  | [d1, d2, d3] => { results := [.lit (.bool false)], args := [d1, d2, d3] }
  | _ => none }
def TagFractionsWrongFalsely : Prop := tagFractionsRow.holds Try.pinned (OpenSpec.ofChange tagFractionsWrong)

/-- 'tintlaw2.EditHistories': WHATEVER THE INPUT: true; the input reads as it did. -/
def editHistoriesSpec : ChangeSpec := { name := "editHistories", fn := fun _ => fun
  | [d1, d2] => { results := [.lit (.bool true)], args := [d1, d2] }
  | _ => none }
def editHistoriesRow : OpenClaim := { program := "ytngogocmhmfbjaa", sum := "c04ff1ec79c5cdcc38bf6ea3ce2b8353f7e275b1a6ac3bbfb3d17337d983007e", func := "tintype/tintlaw2.EditHistories", spec := "editHistories", unfollowed := true, recurses := true, apart := false }
def EditHistoriesSaid : Prop := editHistoriesRow.holds Try.pinned (OpenSpec.ofChange editHistoriesSpec)

/-- ITS FALSE NEIGHBOUR: 'it returns false'. Refute it at one input. -/
def editHistoriesWrong : ChangeSpec := { name := "editHistories", fn := fun _ => fun
  | [d1, d2] => { results := [.lit (.bool false)], args := [d1, d2] }
  | _ => none }
def EditHistoriesWrongFalsely : Prop := editHistoriesRow.holds Try.pinned (OpenSpec.ofChange editHistoriesWrong)

/-- 'tintlaw2.EditPixels': WHATEVER THE INPUT: true; the input reads as it did. -/
def editPixelsSpec : ChangeSpec := { name := "editPixels", fn := fun _ => fun
  | [d1, d2, d3, d4, d5, d6] => { results := [.lit (.bool true)], args := [d1, d2, d3, d4, d5, d6] }
  | _ => none }
def editPixelsRow : OpenClaim := { program := "ytngogocmhmfbjaa", sum := "c04ff1ec79c5cdcc38bf6ea3ce2b8353f7e275b1a6ac3bbfb3d17337d983007e", func := "tintype/tintlaw2.EditPixels", spec := "editPixels", unfollowed := true, recurses := true, apart := false }
def EditPixelsSaid : Prop := editPixelsRow.holds Try.pinned (OpenSpec.ofChange editPixelsSpec)

/-- ITS FALSE NEIGHBOUR: 'it returns false'. Refute it at one input. -/
def editPixelsWrong : ChangeSpec := { name := "editPixels", fn := fun _ => fun
  | [d1, d2, d3, d4, d5, d6] => { results := [.lit (.bool false)], args := [d1, d2, d3, d4, d5, d6] }
  | _ => none }
def EditPixelsWrongFalsely : Prop := editPixelsRow.holds Try.pinned (OpenSpec.ofChange editPixelsWrong)

/-- 'tintlaw2.EditRenders': WHATEVER THE INPUT: true; the input reads as it did. -/
def editRendersSpec : ChangeSpec := { name := "editRenders", fn := fun _ => fun
  | [d1, d2, d3, d4] => { results := [.lit (.bool true)], args := [d1, d2, d3, d4] }
  | _ => none }
def editRendersRow : OpenClaim := { program := "ytngogocmhmfbjaa", sum := "c04ff1ec79c5cdcc38bf6ea3ce2b8353f7e275b1a6ac3bbfb3d17337d983007e", func := "tintype/tintlaw2.EditRenders", spec := "editRenders", unfollowed := true, recurses := true, apart := false }
def EditRendersSaid : Prop := editRendersRow.holds Try.pinned (OpenSpec.ofChange editRendersSpec)

/-- ITS FALSE NEIGHBOUR: 'it returns false'. Refute it at one input. -/
def editRendersWrong : ChangeSpec := { name := "editRenders", fn := fun _ => fun
  | [d1, d2, d3, d4] => { results := [.lit (.bool false)], args := [d1, d2, d3, d4] }
  | _ => none }
def EditRendersWrongFalsely : Prop := editRendersRow.holds Try.pinned (OpenSpec.ofChange editRendersWrong)

/-- 'tintlaw2.TagWrites': WHATEVER THE INPUT: true; the input reads as it did. -/
def tagWritesSpec : ChangeSpec := { name := "tagWrites", fn := fun _ => fun
  | [d] => { results := [.lit (.bool true)], args := [d] }
  | _ => none }
def tagWritesRow : OpenClaim := { program := "ytngogocmhmfbjaa", sum := "c04ff1ec79c5cdcc38bf6ea3ce2b8353f7e275b1a6ac3bbfb3d17337d983007e", func := "tintype/tintlaw2.TagWrites", spec := "tagWrites", inPlace := ["internal/bytealg.IndexByteString", "internal/abi.NoEscape", "internal/bytealg.MakeNoZero"], recurses := true, loops := true, apart := false }
def TagWritesSaid : Prop := tagWritesRow.holds Try.pinned (OpenSpec.ofChange tagWritesSpec)

/-- ITS FALSE NEIGHBOUR: 'it returns false'. Refute it at one input. -/
def tagWritesWrong : ChangeSpec := { name := "tagWrites", fn := fun _ => fun
  | [d] => { results := [.lit (.bool false)], args := [d] }
  | _ => none }
def TagWritesWrongFalsely : Prop := tagWritesRow.holds Try.pinned (OpenSpec.ofChange tagWritesWrong)

/-- 'tintlaw2.EditTidies': WHATEVER THE INPUT: true; the input reads as it did. -/
def editTidiesSpec : ChangeSpec := { name := "editTidies", fn := fun _ => fun
  | [d1, d2, d3] => { results := [.lit (.bool true)], args := [d1, d2, d3] }
  | _ => none }
def editTidiesRow : OpenClaim := { program := "ytngogocmhmfbjaa", sum := "c04ff1ec79c5cdcc38bf6ea3ce2b8353f7e275b1a6ac3bbfb3d17337d983007e", func := "tintype/tintlaw2.EditTidies", spec := "editTidies", unfollowed := true, recurses := true, apart := false }
def EditTidiesSaid : Prop := editTidiesRow.holds Try.pinned (OpenSpec.ofChange editTidiesSpec)

/-- ITS FALSE NEIGHBOUR: 'it returns false'. Refute it at one input. -/
def editTidiesWrong : ChangeSpec := { name := "editTidies", fn := fun _ => fun
  | [d1, d2, d3] => { results := [.lit (.bool false)], args := [d1, d2, d3] }
  | _ => none }
def EditTidiesWrongFalsely : Prop := editTidiesRow.holds Try.pinned (OpenSpec.ofChange editTidiesWrong)

/- THE SECOND FORM. 'bulk': how many values and letters a reading holds, each counted each time it is reached (what is shared counts as often as it is met; a slice's spare places count too). A statement '..UptoSaid' is the law's where the arguments, and the package variables that the reading takes, are together of bulk at most 1048576: NARROWER than '..Said'. Prove '..Said' where nothing that the law and all that it calls make is longer than what came in: it says more and counts as full. Else prove '..UptoSaid'. A law counts once. -/
mutual
def uptoBulk {H : Type} : DataW H → Nat
  | .lit (.string bytes) => bytes.length + 1
  | .lit _ => 1
  | .nil => 1
  | .ptr d => uptoBulk d + 1
  | .slice elems spare => uptoBulkAll elems + uptoBulkAll spare + 1
  | .agg parts => uptoBulkAll parts + 1
  | .iface _ d => uptoBulk d + 1
  | .map entries => uptoBulkEntries entries + 1
  | .held _ => 1
def uptoBulkAll {H : Type} : List (DataW H) → Nat
  | [] => 0
  | d :: r => uptoBulk d + uptoBulkAll r
def uptoBulkEntries {H : Type} : List (Lit × DataW H) → Nat
  | [] => 0
  | x :: r => uptoBulkEntry x + uptoBulkEntries r
def uptoBulkEntry {H : Type} : Lit × DataW H → Nat
  | (.string bytes, d) => bytes.length + uptoBulk d + 1
  | (_, d) => uptoBulk d + 1
 end
def uptoSmall : (H : Type) → List (DataW H) → Bool := fun _ ds => decide (uptoBulkAll ds ≤ 1048576)
def OpenSpec.upto (s : _root_.Go.ChangeSpec) : _root_.Go.OpenSpec := { _root_.Go.OpenSpec.ofChange s with cond := some uptoSmall }

/-- 'tintlaw2.FaceVecs', WHERE WHAT IT READS IS OF BULK AT MOST 1048576: true; the input reads as it did. -/
def faceVecsUptoRow : OpenClaim := { program := "ytngogocmhmfbjaa", sum := "c04ff1ec79c5cdcc38bf6ea3ce2b8353f7e275b1a6ac3bbfb3d17337d983007e", func := "tintype/tintlaw2.FaceVecs", spec := "faceVecs", apart := false, narrowed := true }
def FaceVecsUptoSaid : Prop := faceVecsUptoRow.holds Try.pinned (OpenSpec.upto faceVecsSpec)

/-- 'tintkeep2.TagDegrees', WHERE WHAT IT READS IS OF BULK AT MOST 1048576: true; the input reads as it did. -/
def tagDegreesUptoRow : OpenClaim := { program := "ytngogocmhmfbjaa", sum := "c04ff1ec79c5cdcc38bf6ea3ce2b8353f7e275b1a6ac3bbfb3d17337d983007e", func := "tintype/tintkeep2.TagDegrees", spec := "tagDegrees", inPlace := ["math/bits.Add64"], apart := false, narrowed := true }
def TagDegreesUptoSaid : Prop := tagDegreesUptoRow.holds Try.pinned (OpenSpec.upto tagDegreesSpec)

/-- 'tintlaw2.TagSegments', WHERE WHAT IT READS IS OF BULK AT MOST 1048576: true; the input reads as it did. -/
def tagSegmentsUptoRow : OpenClaim := { program := "ytngogocmhmfbjaa", sum := "c04ff1ec79c5cdcc38bf6ea3ce2b8353f7e275b1a6ac3bbfb3d17337d983007e", func := "tintype/tintlaw2.TagSegments", spec := "tagSegments", apart := false, narrowed := true }
def TagSegmentsUptoSaid : Prop := tagSegmentsUptoRow.holds Try.pinned (OpenSpec.upto tagSegmentsSpec)

/-- 'tintlaw2.TagFractions', WHERE WHAT IT READS IS OF BULK AT MOST 1048576: true; the input reads as it did. -/
def tagFractionsUptoRow : OpenClaim := { program := "ytngogocmhmfbjaa", sum := "c04ff1ec79c5cdcc38bf6ea3ce2b8353f7e275b1a6ac3bbfb3d17337d983007e", func := "tintype/tintlaw2.TagFractions", spec := "tagFractions", inPlace := ["math/bits.Add64", "math/bits.Sub64"], apart := false, narrowed := true }
def TagFractionsUptoSaid : Prop := tagFractionsUptoRow.holds Try.pinned (OpenSpec.upto tagFractionsSpec)

/-- 'tintlaw2.EditHistories', WHERE WHAT IT READS IS OF BULK AT MOST 1048576: true; the input reads as it did. -/
def editHistoriesUptoRow : OpenClaim := { program := "ytngogocmhmfbjaa", sum := "c04ff1ec79c5cdcc38bf6ea3ce2b8353f7e275b1a6ac3bbfb3d17337d983007e", func := "tintype/tintlaw2.EditHistories", spec := "editHistories", unfollowed := true, recurses := true, apart := false, narrowed := true }
def EditHistoriesUptoSaid : Prop := editHistoriesUptoRow.holds Try.pinned (OpenSpec.upto editHistoriesSpec)

/-- 'tintlaw2.EditPixels', WHERE WHAT IT READS IS OF BULK AT MOST 1048576: true; the input reads as it did. -/
def editPixelsUptoRow : OpenClaim := { program := "ytngogocmhmfbjaa", sum := "c04ff1ec79c5cdcc38bf6ea3ce2b8353f7e275b1a6ac3bbfb3d17337d983007e", func := "tintype/tintlaw2.EditPixels", spec := "editPixels", unfollowed := true, recurses := true, apart := false, narrowed := true }
def EditPixelsUptoSaid : Prop := editPixelsUptoRow.holds Try.pinned (OpenSpec.upto editPixelsSpec)

/-- 'tintlaw2.EditRenders', WHERE WHAT IT READS IS OF BULK AT MOST 1048576: true; the input reads as it did. -/
def editRendersUptoRow : OpenClaim := { program := "ytngogocmhmfbjaa", sum := "c04ff1ec79c5cdcc38bf6ea3ce2b8353f7e275b1a6ac3bbfb3d17337d983007e", func := "tintype/tintlaw2.EditRenders", spec := "editRenders", unfollowed := true, recurses := true, apart := false, narrowed := true }
def EditRendersUptoSaid : Prop := editRendersUptoRow.holds Try.pinned (OpenSpec.upto editRendersSpec)

/-- 'tintlaw2.TagWrites', WHERE WHAT IT READS IS OF BULK AT MOST 1048576: true; the input reads as it did. -/
def tagWritesUptoRow : OpenClaim := { program := "ytngogocmhmfbjaa", sum := "c04ff1ec79c5cdcc38bf6ea3ce2b8353f7e275b1a6ac3bbfb3d17337d983007e", func := "tintype/tintlaw2.TagWrites", spec := "tagWrites", inPlace := ["internal/bytealg.IndexByteString", "internal/abi.NoEscape", "internal/bytealg.MakeNoZero"], recurses := true, loops := true, apart := false, narrowed := true }
def TagWritesUptoSaid : Prop := tagWritesUptoRow.holds Try.pinned (OpenSpec.upto tagWritesSpec)

/-- 'tintlaw2.EditTidies', WHERE WHAT IT READS IS OF BULK AT MOST 1048576: true; the input reads as it did. -/
def editTidiesUptoRow : OpenClaim := { program := "ytngogocmhmfbjaa", sum := "c04ff1ec79c5cdcc38bf6ea3ce2b8353f7e275b1a6ac3bbfb3d17337d983007e", func := "tintype/tintlaw2.EditTidies", spec := "editTidies", unfollowed := true, recurses := true, apart := false, narrowed := true }
def EditTidiesUptoSaid : Prop := editTidiesUptoRow.holds Try.pinned (OpenSpec.upto editTidiesSpec)

end Rows
end Go.Proofs.Ytngogocmhmfbjaa
