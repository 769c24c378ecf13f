/- Recipes compared, in plain Lean. Conditions: none. -/
import Derived.Test.YtohdhdiaahiicaaEhP
namespace Go.M
open Go.Md Go.Pl

theorem eq_step {x y : T_edit_Step} : eq_edit_Step x y = true ↔ x = y := by
  cases x; cases y; simp [eq_edit_Step]
theorem ne_step {x y : T_edit_Step} (h : x ≠ y) : eq_edit_Step x y = false := by
  cases hb : eq_edit_Step x y
  · rfl
  · exact absurd (eq_step.1 hb) h

theorem Same_ex (a b : List T_edit_Step) (ha : a.length ≤ 3518437208780) : ∃ c, edit_Same a b = some c ∧ (c = true ↔ a = b) := by
  unfold edit_Same slices_Equal_edit_Step
  rw [cnd_if]
  by_cases hl : a.length = b.length
  · rw [if_neg (by omega)]
    have key := fix_of (F := fun next1 s => slices_Equal_edit_Step_l1 a b next1 s) (fun i => some (open Classical in decide (a.drop i.toNat = b.drop i.toNat))) (fun i => 0 ≤ i ∧ i ≤ a.length) (fun i => a.length - i.toNat) (by
      rintro next i ⟨g0, g1⟩ ih
      obtain ⟨k, rfl⟩ := Int.eq_ofNat_of_zero_le g0
      show slices_Equal_edit_Step_l1 a b next (k : Int) = _
      unfold slices_Equal_edit_Step_l1
      rw [Int.toNat_natCast, cnd_if]
      by_cases h1 : k < a.length
      · have h2 : k < b.length := by omega
        rw [if_pos (by omega), gAt_nat h1, bnd_pure, gAt_nat h2, bnd_pure, List.drop_eq_getElem_cons h1, List.drop_eq_getElem_cons h2]
        by_cases h : a[k] = b[k]
        · rw [eq_step.2 h, Bool.not_true, cnd_false, gI_ok (by omega), bnd_pure, ih _ ⟨by omega, by omega⟩ (by omega)]
          rw [show ((k : Int) + 1).toNat = k + 1 from by omega, h]
          exact congrArg some (decide_eq_decide.2 ⟨fun e => by rw [e], fun e => (List.cons.inj e).2⟩)
        · rw [ne_step h, Bool.not_false, cnd_true]
          exact congrArg some (decide_eq_false_iff_not.2 (fun e => h (List.cons.inj e).1)).symm
      · rw [if_neg (by omega), List.drop_of_length_le (l := a) (by omega), List.drop_of_length_le (l := b) (by omega)]
        simp) 0 ⟨by simp, by simp⟩
    rw [key, bnd_pure]
    exact ⟨_, rfl, by simp⟩
  · rw [if_pos (by omega), bnd_pure]
    exact ⟨false, rfl, by simp; exact fun h => hl (by rw [h])⟩

theorem Same_t {a b : List T_edit_Step} (ha : a.length ≤ 3518437208780) (h : a = b) : edit_Same a b = some true := by
  obtain ⟨c, h1, h2⟩ := Same_ex a b ha
  rw [h1, h2.2 h]
theorem Same_f {a b : List T_edit_Step} (ha : a.length ≤ 3518437208780) (h : a ≠ b) : edit_Same a b = some false := by
  obtain ⟨c, h1, h2⟩ := Same_ex a b ha
  cases c with
  | true => exact absurd (h2.1 rfl) h
  | false => exact h1


end Go.M
