/-
  NARROWER THAN 'FOR EVERY INPUT', by the rows' own cells (each row's printed sentence says how): TagWrites: loops · TagPaths: loops · TagDiffers: loops.
  DERIVED. THE GIVEN ROWS OF THIS SEAT. 4 by the template 'for every input the law returns true; each argument reads behind the call as it read before'; 0 by the template 'total and deterministic' (their statements: YtaonhnkojkkmbaaTotals.lean).
  GIVEN WITH THE SEED: the statements are not yours to turn. If you find one false, say at which input.
  Laid BY PROGRAM, IN A SANDBOX (cutbox-rows.mjs): the forced cells as the released guide's own fill.sh prints them over the translation 6f04b6ef435a45be… (all of the seat's roots in one cut). By AI agents, Wed Nov 11 2026. No macro, syntax, notation, axiom, sorry.
-/
import Derived.Test.YtaonhnkojkkmbaaChecked
import GoSem.Claim
import GoSem.ClaimJoined
import GoSem.ClaimMapViews
import Derived.JoinedTies
import Derived.KernelRfl
namespace Go.Proofs.Ytaonhnkojkkmbaa
/- THE CELL 'sum', in the pinned program and in every row, IS THE sha256 OF THE DUMP (.gsa) THAT YtaonhnkojkkmbaaProg.lean LOADS. Nothing in Lean hashes anything: it is a label: what it is worth is what the hold of that sum in a sandbox is worth. -/
noncomputable def Try.pinned : Pinned := { name := "ytaonhnkojkkmbaa", sum := "6f04b6ef435a45be0f05f19b2db9580904b524d364280df88336c942663793ac", checked := Try.checked }
namespace Rows
def none {H : Type} : Left H := { results := [], args := [] }

/-- 'tintlaw2.TagWrites': WHATEVER THE INPUT: true; the input reads as it did. -/
def tagWritesSpec : ChangeSpec := { name := "tagWrites", fn := fun _ => fun
  | [d] => { results := [.lit (.bool true)], args := [d] }
  | _ => none }
def tagWritesRow : OpenClaim := { program := "ytaonhnkojkkmbaa", sum := "6f04b6ef435a45be0f05f19b2db9580904b524d364280df88336c942663793ac", func := "tintype/tintlaw2.TagWrites", spec := "tagWrites", inPlace := ["internal/bytealg.IndexByteString", "internal/abi.NoEscape", "internal/bytealg.MakeNoZero"], recurses := true, loops := true, apart := false }
def TagWritesSaid : Prop := tagWritesRow.holds Try.pinned (OpenSpec.ofChange tagWritesSpec)

/-- ITS FALSE NEIGHBOUR: 'it returns false'. Refute it at one input. -/
def tagWritesWrong : ChangeSpec := { name := "tagWrites", fn := fun _ => fun
  | [d] => { results := [.lit (.bool false)], args := [d] }
  | _ => none }
def TagWritesWrongFalsely : Prop := tagWritesRow.holds Try.pinned (OpenSpec.ofChange tagWritesWrong)

/-- 'tintlaw2.EditHistories': WHATEVER THE INPUT: true; the input reads as it did. -/
def editHistoriesSpec : ChangeSpec := { name := "editHistories", fn := fun _ => fun
  | [d1, d2] => { results := [.lit (.bool true)], args := [d1, d2] }
  | _ => none }
def editHistoriesRow : OpenClaim := { program := "ytaonhnkojkkmbaa", sum := "6f04b6ef435a45be0f05f19b2db9580904b524d364280df88336c942663793ac", func := "tintype/tintlaw2.EditHistories", spec := "editHistories", unfollowed := true, recurses := true, apart := false }
def EditHistoriesSaid : Prop := editHistoriesRow.holds Try.pinned (OpenSpec.ofChange editHistoriesSpec)

/-- ITS FALSE NEIGHBOUR: 'it returns false'. Refute it at one input. -/
def editHistoriesWrong : ChangeSpec := { name := "editHistories", fn := fun _ => fun
  | [d1, d2] => { results := [.lit (.bool false)], args := [d1, d2] }
  | _ => none }
def EditHistoriesWrongFalsely : Prop := editHistoriesRow.holds Try.pinned (OpenSpec.ofChange editHistoriesWrong)

/-- 'tintlaw2.TagPaths': WHATEVER THE INPUT: true; the input reads as it did. -/
def tagPathsSpec : ChangeSpec := { name := "tagPaths", fn := fun _ => fun
  | [d1, d2, d3] => { results := [.lit (.bool true)], args := [d1, d2, d3] }
  | _ => none }
def tagPathsRow : OpenClaim := { program := "ytaonhnkojkkmbaa", sum := "6f04b6ef435a45be0f05f19b2db9580904b524d364280df88336c942663793ac", func := "tintype/tintlaw2.TagPaths", spec := "tagPaths", inPlace := ["internal/bytealg.IndexByteString", "internal/abi.NoEscape", "internal/bytealg.MakeNoZero", "slices.overlaps[tintype/tag.Entry]"], unfollowed := true, recurses := true, loops := true, apart := false }
def TagPathsSaid : Prop := tagPathsRow.holds Try.pinned (OpenSpec.ofChange tagPathsSpec)

/-- ITS FALSE NEIGHBOUR: 'it returns false'. Refute it at one input. -/
def tagPathsWrong : ChangeSpec := { name := "tagPaths", fn := fun _ => fun
  | [d1, d2, d3] => { results := [.lit (.bool false)], args := [d1, d2, d3] }
  | _ => none }
def TagPathsWrongFalsely : Prop := tagPathsRow.holds Try.pinned (OpenSpec.ofChange tagPathsWrong)

/-- 'tintlaw2.TagDiffers': WHATEVER THE INPUT: true; the input reads as it did. -/
def tagDiffersSpec : ChangeSpec := { name := "tagDiffers", fn := fun _ => fun
  | [d1, d2] => { results := [.lit (.bool true)], args := [d1, d2] }
  | _ => none }
def tagDiffersRow : OpenClaim := { program := "ytaonhnkojkkmbaa", sum := "6f04b6ef435a45be0f05f19b2db9580904b524d364280df88336c942663793ac", func := "tintype/tintlaw2.TagDiffers", spec := "tagDiffers", inPlace := ["internal/bytealg.IndexByteString", "internal/abi.NoEscape", "internal/bytealg.MakeNoZero"], unfollowed := true, recurses := true, loops := true, apart := false }
def TagDiffersSaid : Prop := tagDiffersRow.holds Try.pinned (OpenSpec.ofChange tagDiffersSpec)

/-- ITS FALSE NEIGHBOUR: 'it returns false'. Refute it at one input. -/
def tagDiffersWrong : ChangeSpec := { name := "tagDiffers", fn := fun _ => fun
  | [d1, d2] => { results := [.lit (.bool false)], args := [d1, d2] }
  | _ => none }
def TagDiffersWrongFalsely : Prop := tagDiffersRow.holds Try.pinned (OpenSpec.ofChange tagDiffersWrong)

/- THE SECOND FORM. 'bulk': how many values and letters a reading holds, each counted each time it is reached (what is shared counts as often as it is met; a slice's spare places count too). A statement '..UptoSaid' is the law's where the arguments, and the package variables that the reading takes, are together of bulk at most 1048576: NARROWER than '..Said'. Prove '..Said' where nothing that the law and all that it calls make is longer than what came in: it says more and counts as full. Else prove '..UptoSaid'. A law counts once. -/
mutual
def uptoBulk {H : Type} : DataW H → Nat
  | .lit (.string bytes) => bytes.length + 1
  | .lit _ => 1
  | .nil => 1
  | .ptr d => uptoBulk d + 1
  | .slice elems spare => uptoBulkAll elems + uptoBulkAll spare + 1
  | .agg parts => uptoBulkAll parts + 1
  | .iface _ d => uptoBulk d + 1
  | .map entries => uptoBulkEntries entries + 1
  | .held _ => 1
def uptoBulkAll {H : Type} : List (DataW H) → Nat
  | [] => 0
  | d :: r => uptoBulk d + uptoBulkAll r
def uptoBulkEntries {H : Type} : List (Lit × DataW H) → Nat
  | [] => 0
  | x :: r => uptoBulkEntry x + uptoBulkEntries r
def uptoBulkEntry {H : Type} : Lit × DataW H → Nat
  | (.string bytes, d) => bytes.length + uptoBulk d + 1
  | (_, d) => uptoBulk d + 1
 end
def uptoSmall : (H : Type) → List (DataW H) → Bool := fun _ ds => decide (uptoBulkAll ds ≤ 1048576)
def OpenSpec.upto (s : _root_.Go.ChangeSpec) : _root_.Go.OpenSpec := { _root_.Go.OpenSpec.ofChange s with cond := some uptoSmall }

/-- 'tintlaw2.TagWrites', WHERE WHAT IT READS IS OF BULK AT MOST 1048576: true; the input reads as it did. -/
def tagWritesUptoRow : OpenClaim := { program := "ytaonhnkojkkmbaa", sum := "6f04b6ef435a45be0f05f19b2db9580904b524d364280df88336c942663793ac", func := "tintype/tintlaw2.TagWrites", spec := "tagWrites", inPlace := ["internal/bytealg.IndexByteString", "internal/abi.NoEscape", "internal/bytealg.MakeNoZero"], recurses := true, loops := true, apart := false, narrowed := true }
def TagWritesUptoSaid : Prop := tagWritesUptoRow.holds Try.pinned (OpenSpec.upto tagWritesSpec)

/-- 'tintlaw2.EditHistories', WHERE WHAT IT READS IS OF BULK AT MOST 1048576: true; the input reads as it did. -/
def editHistoriesUptoRow : OpenClaim := { program := "ytaonhnkojkkmbaa", sum := "6f04b6ef435a45be0f05f19b2db9580904b524d364280df88336c942663793ac", func := "tintype/tintlaw2.EditHistories", spec := "editHistories", unfollowed := true, recurses := true, apart := false, narrowed := true }
def EditHistoriesUptoSaid : Prop := editHistoriesUptoRow.holds Try.pinned (OpenSpec.upto editHistoriesSpec)

/-- 'tintlaw2.TagPaths', WHERE WHAT IT READS IS OF BULK AT MOST 1048576: true; the input reads as it did. -/
def tagPathsUptoRow : OpenClaim := { program := "ytaonhnkojkkmbaa", sum := "6f04b6ef435a45be0f05f19b2db9580904b524d364280df88336c942663793ac", func := "tintype/tintlaw2.TagPaths", spec := "tagPaths", inPlace := ["internal/bytealg.IndexByteString", "internal/abi.NoEscape", "internal/bytealg.MakeNoZero", "slices.overlaps[tintype/tag.Entry]"], unfollowed := true, recurses := true, loops := true, apart := false, narrowed := true }
def TagPathsUptoSaid : Prop := tagPathsUptoRow.holds Try.pinned (OpenSpec.upto tagPathsSpec)

/-- 'tintlaw2.TagDiffers', WHERE WHAT IT READS IS OF BULK AT MOST 1048576: true; the input reads as it did. -/
def tagDiffersUptoRow : OpenClaim := { program := "ytaonhnkojkkmbaa", sum := "6f04b6ef435a45be0f05f19b2db9580904b524d364280df88336c942663793ac", func := "tintype/tintlaw2.TagDiffers", spec := "tagDiffers", inPlace := ["internal/bytealg.IndexByteString", "internal/abi.NoEscape", "internal/bytealg.MakeNoZero"], unfollowed := true, recurses := true, loops := true, apart := false, narrowed := true }
def TagDiffersUptoSaid : Prop := tagDiffersUptoRow.holds Try.pinned (OpenSpec.upto tagDiffersSpec)

end Rows
end Go.Proofs.Ytaonhnkojkkmbaa
