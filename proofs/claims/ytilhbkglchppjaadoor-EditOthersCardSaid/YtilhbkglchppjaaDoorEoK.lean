/- Kinds of steps, in plain Lean. Conditions: none. -/
import Derived.Test.YtilhbkglchppjaaDoorEoQ
namespace Go.M
open Go.Md Go.Pl

def shapeK (s : T_edit_Step) : Prop := 1 ≤ s.Kind ∧ s.Kind ≤ 3
instance (s : T_edit_Step) : Decidable (shapeK s) := by unfold shapeK; infer_instance

theorem Shape_eq (s : T_edit_Step) : edit_Shape s = some (decide (shapeK s)) := by
  unfold edit_Shape
  rw [outside_edit, bnd_pure]
  congr 1
  by_cases h : shapeK s
  · rw [decide_eq_true h, decide_eq_false (by unfold shapeK at h; omega), decide_eq_false (by unfold shapeK at h; omega)]; rfl
  · rw [decide_eq_false h]
    unfold shapeK at h
    by_cases h1 : s.Kind < 1
    · rw [decide_eq_true h1]; rfl
    · rw [decide_eq_false h1, decide_eq_true (by omega)]; rfl
theorem Shaped_eq (s : T_edit_Step) : R_Shaped s = some (decide (shapeK s)) := by
  unfold R_Shaped
  rw [cnd_if]
  by_cases h1 : 1 ≤ s.Kind
  · rw [if_pos h1]
    congr 1
    by_cases h2 : s.Kind ≤ 3
    · rw [decide_eq_true h2, decide_eq_true (show shapeK s from ⟨h1, h2⟩)]
    · rw [decide_eq_false h2, decide_eq_false (fun h : shapeK s => h2 h.2)]
  · rw [if_neg h1, decide_eq_false (fun h : shapeK s => h1 h.1)]


end Go.M
