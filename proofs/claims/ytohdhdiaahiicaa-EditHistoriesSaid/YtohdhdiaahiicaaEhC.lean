/- The first of two faults, in plain Lean. Conditions: none. -/
import Derived.Test.YtohdhdiaahiicaaEhD
namespace Go.M
open Go.Md Go.Pl

theorem fst_two (a b : Int) : Law_first [a, b] = some (if a ≠ 0 then a else b) := by
  unfold Law_first
  have st : ∀ (k : Nat) (l : Int) (next : Int → Option Int), gAt [a, b] (k : Int) = some l → k < 2 → Law_first_l1 [a, b] next (k : Int) = if l ≠ 0 then some l else next ((k : Int) + 1) := fun k l next hg hk => by
    unfold Law_first_l1
    rw [cnd_if, if_pos (by simp only [List.length_cons, List.length_nil]; omega), hg, bnd_pure, cnd_if]
    split
    · rfl
    · rw [gI_ok (by omega), bnd_pure]
  by_cases h0 : a ≠ 0
  · rw [if_pos h0]
    exact fix_done fun next => (st 0 a next rfl (by omega)).trans (if_pos h0)
  rw [if_neg h0]
  refine (fix_goto (F := fun next1 s => Law_first_l1 [a, b] next1 s) 1 fun next => (st 0 a next rfl (by omega)).trans (if_neg h0)).trans ?_
  by_cases h1 : b ≠ 0
  · exact fix_done fun next => (st 1 b next rfl (by omega)).trans (if_pos h1)
  · refine (fix_goto (F := fun next1 s => Law_first_l1 [a, b] next1 s) 2 fun next => (st 1 b next rfl (by omega)).trans (if_neg h1)).trans ?_
    have : b = 0 := by omega
    rw [this]
    exact fix_done fun next => rfl

end Go.M
