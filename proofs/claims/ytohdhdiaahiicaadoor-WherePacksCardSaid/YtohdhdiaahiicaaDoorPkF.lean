/- The law's own word on a list. Conditions: none. -/
import Derived.Test.YtohdhdiaahiicaaDoorPkB
namespace Go.M
open Go.Md Go.Pl Go.Vc.Where

def faultL (l : List T_api_Place) (b : Bool) : Int := if b = true ∧ l.length = 0 then 7 else listE l

theorem first2 (x c : Int) : firstS [x, c] = if x = 0 then c else x := by
  by_cases hx : x = 0 <;> by_cases hc : c = 0 <;> simp [firstS, hx, hc]

theorem listFault_eq (l : List T_api_Place) (hl : l.length ≤ 1000000000000000) (b : Bool) : Law_listFault l b = some (faultL l b) := by
  have key : ∀ (f n : Nat) (x : Int), n + f = l.length → fix (fun next2 s => Law_listFault_l2 l next2 s.1 s.2) (x, (n : Int)) = some (if x = 0 then firstE (fun k => placeS (l.getD k default).Lat (l.getD k default).Lon) f n else x) := by
    intro f
    induction f with
    | zero =>
      intro n x hn
      refine fix_done fun next => ?_
      show Law_listFault_l2 l next x n = _
      unfold Law_listFault_l2
      rw [cnd_if, if_neg (by omega)]
      simp only [firstE]
      split
      · rename_i h; rw [h]
      · rfl
    | succ f ih =>
      intro n x hn
      have hlt : n < l.length := by omega
      refine (fix_goto (firstS [x, placeS l[n].Lat l[n].Lon], (n : Int) + 1) fun next => ?_).trans ((ih (n + 1) _ (by omega)).trans ?_)
      · show Law_listFault_l2 l next x n = _
        unfold Law_listFault_l2
        rw [cnd_if, if_pos (by omega), gAt_nat hlt, bnd_pure, R_PlaceFault_eq, bnd_pure, Law_first_eq _ (by simp), bnd_pure, gI_ok (by omega), bnd_pure]
      · rw [first2]
        simp only [firstE]
        rw [getD_of hlt]
        by_cases hx : x = 0
        · simp only [hx, if_true]
        · simp only [hx, if_false]
  have j1 : ∀ x, Law_listFault_j1 l x = some (if x = 0 then firstE (fun k => placeS (l.getD k default).Lat (l.getD k default).Lon) l.length 0 else x) := fun x => by
    unfold Law_listFault_j1
    exact key l.length 0 x (by omega)
  unfold Law_listFault faultL listE
  simp only [unless_eq, bnd_pure, Law_first_eq _ (show ([_, _] : List Int).length ≤ 1000000 by simp), j1, cnd_if, firstS, decide_eq_true_eq]
  by_cases h0 : l.length = 0
  · have hnil : l = [] := List.eq_nil_of_length_eq_zero h0
    subst hnil
    cases b <;> simp [firstE]
  · have hn : ¬ (b = true ∧ l.length = 0) := fun h => h0 h.2
    rw [if_pos (show 0 < (l.length : Int) by omega), if_neg hn]
    by_cases h1 : (l.length : Int) ≤ 1000
    · rw [if_neg (show ¬ (1000 : Int) < l.length by omega)]
      simp [h1]
    · rw [if_pos (show (1000 : Int) < l.length by omega)]
      simp [h1]


end Go.M
