/-
  NARROWER THAN 'FOR EVERY INPUT', by the rows' own cells (each row's printed sentence says how): TagPaths: loops · TagDiffers: loops · TagSpans: loops · TagPictures: loops · TagPatchKeeps: loops.
  DERIVED. THE GIVEN ROWS OF THIS SEAT. 5 by the template 'for every input the law returns true; each argument reads behind the call as it read before'; 0 by the template 'total and deterministic' (their statements: YtemkoikdkfkijaaTotals.lean).
  GIVEN WITH THE SEED: the statements are not yours to turn. If you find one false, say at which input.
  Laid BY PROGRAM, IN A SANDBOX (cutbox-rows.mjs): the forced cells as the released guide's own fill.sh prints them over the translation 998c707778ba5064… (all of the seat's roots in one cut). By AI agents, Wed Nov 11 2026. No macro, syntax, notation, axiom, sorry.
-/
import Derived.Test.YtemkoikdkfkijaaChecked
import GoSem.Claim
import GoSem.ClaimJoined
import GoSem.ClaimMapViews
import Derived.JoinedTies
import Derived.KernelRfl
namespace Go.Proofs.Ytemkoikdkfkijaa
/- THE CELL 'sum', in the pinned program and in every row, IS THE sha256 OF THE DUMP (.gsa) THAT YtemkoikdkfkijaaProg.lean LOADS. Nothing in Lean hashes anything: it is a label: what it is worth is what the hold of that sum in a sandbox is worth. -/
noncomputable def Try.pinned : Pinned := { name := "ytemkoikdkfkijaa", sum := "998c707778ba5064a54c546865ff2a1a4798824a4ef616c69bda15edb4d5b32f", checked := Try.checked }
namespace Rows
def none {H : Type} : Left H := { results := [], args := [] }

/-- 'tintlaw2.TagPaths': WHATEVER THE INPUT: true; the input reads as it did. -/
def tagPathsSpec : ChangeSpec := { name := "tagPaths", fn := fun _ => fun
  | [d1, d2, d3] => { results := [.lit (.bool true)], args := [d1, d2, d3] }
  | _ => none }
def tagPathsRow : OpenClaim := { program := "ytemkoikdkfkijaa", sum := "998c707778ba5064a54c546865ff2a1a4798824a4ef616c69bda15edb4d5b32f", func := "tintype/tintlaw2.TagPaths", spec := "tagPaths", inPlace := ["internal/bytealg.IndexByteString", "internal/abi.NoEscape", "internal/bytealg.MakeNoZero", "slices.overlaps[tintype/tag.Entry]"], unfollowed := true, recurses := true, loops := true, apart := false }
def TagPathsSaid : Prop := tagPathsRow.holds Try.pinned (OpenSpec.ofChange tagPathsSpec)

/-- ITS FALSE NEIGHBOUR: 'it returns false'. Refute it at one input. -/
def tagPathsWrong : ChangeSpec := { name := "tagPaths", fn := fun _ => fun
  | [d1, d2, d3] => { results := [.lit (.bool false)], args := [d1, d2, d3] }
  | _ => none }
def TagPathsWrongFalsely : Prop := tagPathsRow.holds Try.pinned (OpenSpec.ofChange tagPathsWrong)

/-- 'tintlaw2.TagDiffers': WHATEVER THE INPUT: true; the input reads as it did. -/
def tagDiffersSpec : ChangeSpec := { name := "tagDiffers", fn := fun _ => fun
  | [d1, d2] => { results := [.lit (.bool true)], args := [d1, d2] }
  | _ => none }
def tagDiffersRow : OpenClaim := { program := "ytemkoikdkfkijaa", sum := "998c707778ba5064a54c546865ff2a1a4798824a4ef616c69bda15edb4d5b32f", func := "tintype/tintlaw2.TagDiffers", spec := "tagDiffers", inPlace := ["internal/bytealg.IndexByteString", "internal/abi.NoEscape", "internal/bytealg.MakeNoZero"], unfollowed := true, recurses := true, loops := true, apart := false }
def TagDiffersSaid : Prop := tagDiffersRow.holds Try.pinned (OpenSpec.ofChange tagDiffersSpec)

/-- ITS FALSE NEIGHBOUR: 'it returns false'. Refute it at one input. -/
def tagDiffersWrong : ChangeSpec := { name := "tagDiffers", fn := fun _ => fun
  | [d1, d2] => { results := [.lit (.bool false)], args := [d1, d2] }
  | _ => none }
def TagDiffersWrongFalsely : Prop := tagDiffersRow.holds Try.pinned (OpenSpec.ofChange tagDiffersWrong)

/-- 'tintkeep2.TagSpans': WHATEVER THE INPUT: true; the input reads as it did. -/
def tagSpansSpec : ChangeSpec := { name := "tagSpans", fn := fun _ => fun
  | [d1, d2] => { results := [.lit (.bool true)], args := [d1, d2] }
  | _ => none }
def tagSpansRow : OpenClaim := { program := "ytemkoikdkfkijaa", sum := "998c707778ba5064a54c546865ff2a1a4798824a4ef616c69bda15edb4d5b32f", func := "tintype/tintkeep2.TagSpans", spec := "tagSpans", unfollowed := true, recurses := true, loops := true, apart := false }
def TagSpansSaid : Prop := tagSpansRow.holds Try.pinned (OpenSpec.ofChange tagSpansSpec)

/-- ITS FALSE NEIGHBOUR: 'it returns false'. Refute it at one input. -/
def tagSpansWrong : ChangeSpec := { name := "tagSpans", fn := fun _ => fun
  | [d1, d2] => { results := [.lit (.bool false)], args := [d1, d2] }
  | _ => none }
def TagSpansWrongFalsely : Prop := tagSpansRow.holds Try.pinned (OpenSpec.ofChange tagSpansWrong)

/-- 'tintkeep2.TagPictures': WHATEVER THE INPUT: true; the input reads as it did. -/
def tagPicturesSpec : ChangeSpec := { name := "tagPictures", fn := fun _ => fun
  | [d1, d2] => { results := [.lit (.bool true)], args := [d1, d2] }
  | _ => none }
def tagPicturesRow : OpenClaim := { program := "ytemkoikdkfkijaa", sum := "998c707778ba5064a54c546865ff2a1a4798824a4ef616c69bda15edb4d5b32f", func := "tintype/tintkeep2.TagPictures", spec := "tagPictures", inPlace := ["slices.overlaps[tintype/tag.Segment]"], unfollowed := true, recurses := true, loops := true, apart := false }
def TagPicturesSaid : Prop := tagPicturesRow.holds Try.pinned (OpenSpec.ofChange tagPicturesSpec)

/-- ITS FALSE NEIGHBOUR: 'it returns false'. Refute it at one input. -/
def tagPicturesWrong : ChangeSpec := { name := "tagPictures", fn := fun _ => fun
  | [d1, d2] => { results := [.lit (.bool false)], args := [d1, d2] }
  | _ => none }
def TagPicturesWrongFalsely : Prop := tagPicturesRow.holds Try.pinned (OpenSpec.ofChange tagPicturesWrong)

/-- 'tintkeep2.TagPatchKeeps': WHATEVER THE INPUT: true; the input reads as it did. -/
def tagPatchKeepsSpec : ChangeSpec := { name := "tagPatchKeeps", fn := fun _ => fun
  | [d1, d2, d3] => { results := [.lit (.bool true)], args := [d1, d2, d3] }
  | _ => none }
def tagPatchKeepsRow : OpenClaim := { program := "ytemkoikdkfkijaa", sum := "998c707778ba5064a54c546865ff2a1a4798824a4ef616c69bda15edb4d5b32f", func := "tintype/tintkeep2.TagPatchKeeps", spec := "tagPatchKeeps", inPlace := ["slices.overlaps[tintype/tag.Entry]"], unfollowed := true, recurses := true, loops := true, apart := false }
def TagPatchKeepsSaid : Prop := tagPatchKeepsRow.holds Try.pinned (OpenSpec.ofChange tagPatchKeepsSpec)

/-- ITS FALSE NEIGHBOUR: 'it returns false'. Refute it at one input. -/
def tagPatchKeepsWrong : ChangeSpec := { name := "tagPatchKeeps", fn := fun _ => fun
  | [d1, d2, d3] => { results := [.lit (.bool false)], args := [d1, d2, d3] }
  | _ => none }
def TagPatchKeepsWrongFalsely : Prop := tagPatchKeepsRow.holds Try.pinned (OpenSpec.ofChange tagPatchKeepsWrong)

/- THE SECOND FORM. 'bulk': how many values and letters a reading holds, each counted each time it is reached (what is shared counts as often as it is met; a slice's spare places count too). A statement '..UptoSaid' is the law's where the arguments, and the package variables that the reading takes, are together of bulk at most 1048576: NARROWER than '..Said'. Prove '..Said' where nothing that the law and all that it calls make is longer than what came in: it says more and counts as full. Else prove '..UptoSaid'. A law counts once. -/
mutual
def uptoBulk {H : Type} : DataW H → Nat
  | .lit (.string bytes) => bytes.length + 1
  | .lit _ => 1
  | .nil => 1
  | .ptr d => uptoBulk d + 1
  | .slice elems spare => uptoBulkAll elems + uptoBulkAll spare + 1
  | .agg parts => uptoBulkAll parts + 1
  | .iface _ d => uptoBulk d + 1
  | .map entries => uptoBulkEntries entries + 1
  | .held _ => 1
def uptoBulkAll {H : Type} : List (DataW H) → Nat
  | [] => 0
  | d :: r => uptoBulk d + uptoBulkAll r
def uptoBulkEntries {H : Type} : List (Lit × DataW H) → Nat
  | [] => 0
  | x :: r => uptoBulkEntry x + uptoBulkEntries r
def uptoBulkEntry {H : Type} : Lit × DataW H → Nat
  | (.string bytes, d) => bytes.length + uptoBulk d + 1
  | (_, d) => uptoBulk d + 1
 end
def uptoSmall : (H : Type) → List (DataW H) → Bool := fun _ ds => decide (uptoBulkAll ds ≤ 1048576)
def OpenSpec.upto (s : _root_.Go.ChangeSpec) : _root_.Go.OpenSpec := { _root_.Go.OpenSpec.ofChange s with cond := some uptoSmall }

/-- 'tintlaw2.TagPaths', WHERE WHAT IT READS IS OF BULK AT MOST 1048576: true; the input reads as it did. -/
def tagPathsUptoRow : OpenClaim := { program := "ytemkoikdkfkijaa", sum := "998c707778ba5064a54c546865ff2a1a4798824a4ef616c69bda15edb4d5b32f", func := "tintype/tintlaw2.TagPaths", spec := "tagPaths", inPlace := ["internal/bytealg.IndexByteString", "internal/abi.NoEscape", "internal/bytealg.MakeNoZero", "slices.overlaps[tintype/tag.Entry]"], unfollowed := true, recurses := true, loops := true, apart := false, narrowed := true }
def TagPathsUptoSaid : Prop := tagPathsUptoRow.holds Try.pinned (OpenSpec.upto tagPathsSpec)

/-- 'tintlaw2.TagDiffers', WHERE WHAT IT READS IS OF BULK AT MOST 1048576: true; the input reads as it did. -/
def tagDiffersUptoRow : OpenClaim := { program := "ytemkoikdkfkijaa", sum := "998c707778ba5064a54c546865ff2a1a4798824a4ef616c69bda15edb4d5b32f", func := "tintype/tintlaw2.TagDiffers", spec := "tagDiffers", inPlace := ["internal/bytealg.IndexByteString", "internal/abi.NoEscape", "internal/bytealg.MakeNoZero"], unfollowed := true, recurses := true, loops := true, apart := false, narrowed := true }
def TagDiffersUptoSaid : Prop := tagDiffersUptoRow.holds Try.pinned (OpenSpec.upto tagDiffersSpec)

/-- 'tintkeep2.TagSpans', WHERE WHAT IT READS IS OF BULK AT MOST 1048576: true; the input reads as it did. -/
def tagSpansUptoRow : OpenClaim := { program := "ytemkoikdkfkijaa", sum := "998c707778ba5064a54c546865ff2a1a4798824a4ef616c69bda15edb4d5b32f", func := "tintype/tintkeep2.TagSpans", spec := "tagSpans", unfollowed := true, recurses := true, loops := true, apart := false, narrowed := true }
def TagSpansUptoSaid : Prop := tagSpansUptoRow.holds Try.pinned (OpenSpec.upto tagSpansSpec)

/-- 'tintkeep2.TagPictures', WHERE WHAT IT READS IS OF BULK AT MOST 1048576: true; the input reads as it did. -/
def tagPicturesUptoRow : OpenClaim := { program := "ytemkoikdkfkijaa", sum := "998c707778ba5064a54c546865ff2a1a4798824a4ef616c69bda15edb4d5b32f", func := "tintype/tintkeep2.TagPictures", spec := "tagPictures", inPlace := ["slices.overlaps[tintype/tag.Segment]"], unfollowed := true, recurses := true, loops := true, apart := false, narrowed := true }
def TagPicturesUptoSaid : Prop := tagPicturesUptoRow.holds Try.pinned (OpenSpec.upto tagPicturesSpec)

/-- 'tintkeep2.TagPatchKeeps', WHERE WHAT IT READS IS OF BULK AT MOST 1048576: true; the input reads as it did. -/
def tagPatchKeepsUptoRow : OpenClaim := { program := "ytemkoikdkfkijaa", sum := "998c707778ba5064a54c546865ff2a1a4798824a4ef616c69bda15edb4d5b32f", func := "tintype/tintkeep2.TagPatchKeeps", spec := "tagPatchKeeps", inPlace := ["slices.overlaps[tintype/tag.Entry]"], unfollowed := true, recurses := true, loops := true, apart := false, narrowed := true }
def TagPatchKeepsUptoSaid : Prop := tagPatchKeepsUptoRow.holds Try.pinned (OpenSpec.upto tagPatchKeepsSpec)

end Rows
end Go.Proofs.Ytemkoikdkfkijaa
