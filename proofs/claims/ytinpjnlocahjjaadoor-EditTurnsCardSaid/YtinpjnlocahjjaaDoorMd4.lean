/- Models: what a strings.Builder holds. Conditions: none. -/
import Derived.Test.YtinpjnlocahjjaaDoorMd3
namespace Go.Md

/-- WriteString of a string that is not empty, and WriteByte. -/
def gBld (a s : List UInt8) : Option (List UInt8) := if s ≠ [] ∧ a.length + s.length ≤ 140737488355328 then some (a ++ s) else none
theorem gBld_some {a s r : List UInt8} (h : gBld a s = some r) : r = a ++ s ∧ s ≠ [] ∧ a.length + s.length ≤ 140737488355328 := by
  unfold gBld at h; split at h
  · cases h; rename_i h; exact ⟨rfl, h⟩
  · cases h
theorem gBld_ok {a s : List UInt8} (h : s ≠ [] ∧ a.length + s.length ≤ 140737488355328) : gBld a s = some (a ++ s) := if_pos h
end Go.Md
