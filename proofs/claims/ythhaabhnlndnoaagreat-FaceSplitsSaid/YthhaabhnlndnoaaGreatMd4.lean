/- Models: what a strings.Builder holds. Conditions: none. -/
import Derived.Test.YthhaabhnlndnoaaGreatMd3
namespace Go.Md

/-- WriteString of a string that is not empty, and WriteByte. -/
def gBld (a s : List UInt8) : Option (List UInt8) := if s ≠ [] ∧ a.length + s.length ≤ 140737488355328 then some (a ++ s) else none
theorem gBld_some {a s r : List UInt8} (h : gBld a s = some r) : r = a ++ s ∧ s ≠ [] ∧ a.length + s.length ≤ 140737488355328 := by
  unfold gBld at h; split at h
  · cases h; rename_i h; exact ⟨rfl, h⟩
  · cases h
theorem gBld_ok {a s : List UInt8} (h : s ≠ [] ∧ a.length + s.length ≤ 140737488355328) : gBld a s = some (a ++ s) := if_pos h

/-- slices.Grow of the nil slice: nothing but room. -/
def gGrow (by_ : Nat) (n : Int) : Option Unit := if 0 ≤ n ∧ n ≤ 140737488355328 ∧ by_ * n.toNat ≤ 140737488355328 then some () else none
theorem gGrow_some {by_ : Nat} {n : Int} {u : Unit} (h : gGrow by_ n = some u) : 0 ≤ n ∧ n ≤ 140737488355328 ∧ by_ * n.toNat ≤ 140737488355328 := by
  unfold gGrow at h; split at h
  · assumption
  · cases h
theorem gGrow_ok {by_ : Nat} {n : Int} (h : 0 ≤ n ∧ n ≤ 140737488355328 ∧ by_ * n.toNat ≤ 140737488355328) : gGrow by_ n = some () := if_pos h
end Go.Md
