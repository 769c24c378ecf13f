/-
  No cell of these rows narrows 'for every input' (looked for: loops, veiled, ifaces, maps, wideKeys, modest, calm, conditions, laid).
  DERIVED. THE GIVEN ROWS OF THIS SEAT. 4 by the template 'for every input the law returns true; each argument reads behind the call as it read before'; 0 by the template 'total and deterministic' (their statements: YtinpjnlocahjjaaTotals.lean).
  GIVEN WITH THE SEED: the statements are not yours to turn. If you find one false, say at which input.
  Laid BY PROGRAM, IN A SANDBOX (cutbox-rows.mjs): the forced cells as the released guide's own fill.sh prints them over the translation ede399b7c94336b0… (all of the seat's roots in one cut). By AI agents, Wed Nov 11 2026. No macro, syntax, notation, axiom, sorry.
-/
import Derived.Test.YtinpjnlocahjjaaChecked
import GoSem.Claim
import GoSem.ClaimJoined
import GoSem.ClaimMapViews
import Derived.JoinedTies
import Derived.KernelRfl
namespace Go.Proofs.Ytinpjnlocahjjaa
/- THE CELL 'sum', in the pinned program and in every row, IS THE sha256 OF THE DUMP (.gsa) THAT YtinpjnlocahjjaaProg.lean LOADS. Nothing in Lean hashes anything: it is a label: what it is worth is what the hold of that sum in a sandbox is worth. -/
noncomputable def Try.pinned : Pinned := { name := "ytinpjnlocahjjaa", sum := "ede399b7c94336b0f706ccd7c535c0bf311b5d45958b663784fe83c8525fdffc", checked := Try.checked }
namespace Rows
def none {H : Type} : Left H := { results := [], args := [] }

/-- 'tintlaw2.EditHistories': WHATEVER THE INPUT: true; the input reads as it did. -/
def editHistoriesSpec : ChangeSpec := { name := "editHistories", fn := fun _ => fun
  | [d1, d2] => { results := [.lit (.bool true)], args := [d1, d2] }
  | _ => none }
def editHistoriesRow : OpenClaim := { program := "ytinpjnlocahjjaa", sum := "ede399b7c94336b0f706ccd7c535c0bf311b5d45958b663784fe83c8525fdffc", func := "tintype/tintlaw2.EditHistories", spec := "editHistories", unfollowed := true, recurses := true, apart := false }
def EditHistoriesSaid : Prop := editHistoriesRow.holds Try.pinned (OpenSpec.ofChange editHistoriesSpec)

/-- ITS FALSE NEIGHBOUR: 'it returns false'. Refute it at one input. -/
def editHistoriesWrong : ChangeSpec := { name := "editHistories", fn := fun _ => fun
  | [d1, d2] => { results := [.lit (.bool false)], args := [d1, d2] }
  | _ => none }
def EditHistoriesWrongFalsely : Prop := editHistoriesRow.holds Try.pinned (OpenSpec.ofChange editHistoriesWrong)

/-- 'tintlaw2.EditTidies': WHATEVER THE INPUT: true; the input reads as it did. -/
def editTidiesSpec : ChangeSpec := { name := "editTidies", fn := fun _ => fun
  | [d1, d2, d3] => { results := [.lit (.bool true)], args := [d1, d2, d3] }
  | _ => none }
def editTidiesRow : OpenClaim := { program := "ytinpjnlocahjjaa", sum := "ede399b7c94336b0f706ccd7c535c0bf311b5d45958b663784fe83c8525fdffc", func := "tintype/tintlaw2.EditTidies", spec := "editTidies", unfollowed := true, recurses := true, apart := false }
def EditTidiesSaid : Prop := editTidiesRow.holds Try.pinned (OpenSpec.ofChange editTidiesSpec)

/-- ITS FALSE NEIGHBOUR: 'it returns false'. Refute it at one input. -/
def editTidiesWrong : ChangeSpec := { name := "editTidies", fn := fun _ => fun
  | [d1, d2, d3] => { results := [.lit (.bool false)], args := [d1, d2, d3] }
  | _ => none }
def EditTidiesWrongFalsely : Prop := editTidiesRow.holds Try.pinned (OpenSpec.ofChange editTidiesWrong)

/-- 'tintlaw2.WherePlaced': WHATEVER THE INPUT: true; the input reads as it did. -/
def wherePlacedSpec : ChangeSpec := { name := "wherePlaced", fn := fun _ => fun
  | [d1, d2, d3] => { results := [.lit (.bool true)], args := [d1, d2, d3] }
  | _ => none }
def wherePlacedRow : OpenClaim := { program := "ytinpjnlocahjjaa", sum := "ede399b7c94336b0f706ccd7c535c0bf311b5d45958b663784fe83c8525fdffc", func := "tintype/tintlaw2.WherePlaced", spec := "wherePlaced", unfollowed := true, recurses := true, apart := false }
def WherePlacedSaid : Prop := wherePlacedRow.holds Try.pinned (OpenSpec.ofChange wherePlacedSpec)

/-- ITS FALSE NEIGHBOUR: 'it returns false'. Refute it at one input. -/
def wherePlacedWrong : ChangeSpec := { name := "wherePlaced", fn := fun _ => fun
  | [d1, d2, d3] => { results := [.lit (.bool false)], args := [d1, d2, d3] }
  | _ => none }
def WherePlacedWrongFalsely : Prop := wherePlacedRow.holds Try.pinned (OpenSpec.ofChange wherePlacedWrong)

/-- 'tintlaw2.WhereLists': WHATEVER THE INPUT: true; the input reads as it did. -/
def whereListsSpec : ChangeSpec := { name := "whereLists", fn := fun _ => fun
  | [d1, d2, d3] => { results := [.lit (.bool true)], args := [d1, d2, d3] }
  | _ => none }
def whereListsRow : OpenClaim := { program := "ytinpjnlocahjjaa", sum := "ede399b7c94336b0f706ccd7c535c0bf311b5d45958b663784fe83c8525fdffc", func := "tintype/tintlaw2.WhereLists", spec := "whereLists", inPlace := ["math.sqrt"], unfollowed := true, recurses := true, apart := false }
def WhereListsSaid : Prop := whereListsRow.holds Try.pinned (OpenSpec.ofChange whereListsSpec)

/-- ITS FALSE NEIGHBOUR: 'it returns false'. Refute it at one input. -/
def whereListsWrong : ChangeSpec := { name := "whereLists", fn := fun _ => fun
  | [d1, d2, d3] => { results := [.lit (.bool false)], args := [d1, d2, d3] }
  | _ => none }
def WhereListsWrongFalsely : Prop := whereListsRow.holds Try.pinned (OpenSpec.ofChange whereListsWrong)

/- THE SECOND FORM. 'bulk': how many values and letters a reading holds, each counted each time it is reached (what is shared counts as often as it is met; a slice's spare places count too). A statement '..UptoSaid' is the law's where the arguments, and the package variables that the reading takes, are together of bulk at most 1048576: NARROWER than '..Said'. Prove '..Said' where nothing that the law and all that it calls make is longer than what came in: it says more and counts as full. Else prove '..UptoSaid'. A law counts once. -/
mutual
def uptoBulk {H : Type} : DataW H → Nat
  | .lit (.string bytes) => bytes.length + 1
  | .lit _ => 1
  | .nil => 1
  | .ptr d => uptoBulk d + 1
  | .slice elems spare => uptoBulkAll elems + uptoBulkAll spare + 1
  | .agg parts => uptoBulkAll parts + 1
  | .iface _ d => uptoBulk d + 1
  | .map entries => uptoBulkEntries entries + 1
  | .held _ => 1
def uptoBulkAll {H : Type} : List (DataW H) → Nat
  | [] => 0
  | d :: r => uptoBulk d + uptoBulkAll r
def uptoBulkEntries {H : Type} : List (Lit × DataW H) → Nat
  | [] => 0
  | x :: r => uptoBulkEntry x + uptoBulkEntries r
def uptoBulkEntry {H : Type} : Lit × DataW H → Nat
  | (.string bytes, d) => bytes.length + uptoBulk d + 1
  | (_, d) => uptoBulk d + 1
 end
def uptoSmall : (H : Type) → List (DataW H) → Bool := fun _ ds => decide (uptoBulkAll ds ≤ 1048576)
def OpenSpec.upto (s : _root_.Go.ChangeSpec) : _root_.Go.OpenSpec := { _root_.Go.OpenSpec.ofChange s with cond := some uptoSmall }

/-- 'tintlaw2.EditHistories', WHERE WHAT IT READS IS OF BULK AT MOST 1048576: true; the input reads as it did. -/
def editHistoriesUptoRow : OpenClaim := { program := "ytinpjnlocahjjaa", sum := "ede399b7c94336b0f706ccd7c535c0bf311b5d45958b663784fe83c8525fdffc", func := "tintype/tintlaw2.EditHistories", spec := "editHistories", unfollowed := true, recurses := true, apart := false, narrowed := true }
def EditHistoriesUptoSaid : Prop := editHistoriesUptoRow.holds Try.pinned (OpenSpec.upto editHistoriesSpec)

/-- 'tintlaw2.EditTidies', WHERE WHAT IT READS IS OF BULK AT MOST 1048576: true; the input reads as it did. -/
def editTidiesUptoRow : OpenClaim := { program := "ytinpjnlocahjjaa", sum := "ede399b7c94336b0f706ccd7c535c0bf311b5d45958b663784fe83c8525fdffc", func := "tintype/tintlaw2.EditTidies", spec := "editTidies", unfollowed := true, recurses := true, apart := false, narrowed := true }
def EditTidiesUptoSaid : Prop := editTidiesUptoRow.holds Try.pinned (OpenSpec.upto editTidiesSpec)

/-- 'tintlaw2.WherePlaced', WHERE WHAT IT READS IS OF BULK AT MOST 1048576: true; the input reads as it did. -/
def wherePlacedUptoRow : OpenClaim := { program := "ytinpjnlocahjjaa", sum := "ede399b7c94336b0f706ccd7c535c0bf311b5d45958b663784fe83c8525fdffc", func := "tintype/tintlaw2.WherePlaced", spec := "wherePlaced", unfollowed := true, recurses := true, apart := false, narrowed := true }
def WherePlacedUptoSaid : Prop := wherePlacedUptoRow.holds Try.pinned (OpenSpec.upto wherePlacedSpec)

/-- 'tintlaw2.WhereLists', WHERE WHAT IT READS IS OF BULK AT MOST 1048576: true; the input reads as it did. -/
def whereListsUptoRow : OpenClaim := { program := "ytinpjnlocahjjaa", sum := "ede399b7c94336b0f706ccd7c535c0bf311b5d45958b663784fe83c8525fdffc", func := "tintype/tintlaw2.WhereLists", spec := "whereLists", inPlace := ["math.sqrt"], unfollowed := true, recurses := true, apart := false, narrowed := true }
def WhereListsUptoSaid : Prop := whereListsUptoRow.holds Try.pinned (OpenSpec.upto whereListsSpec)

end Rows
end Go.Proofs.Ytinpjnlocahjjaa
