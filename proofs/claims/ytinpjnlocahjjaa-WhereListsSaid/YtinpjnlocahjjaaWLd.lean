/- The law WhereLists in plain Lean, joined. Conditions: none. -/
import Derived.Test.YtinpjnlocahjjaaWLc
namespace Go.M
open Go.Md Go.Pl Go.Vc.Where

theorem R_Groups_eq {l : List T_api_Place} (hl : PS l) (m : Int) : R_GroupsOf l m = some (groupsS l m) := by
  have hlen := hl.len
  unfold R_GroupsOf
  rw [gMake_ok (by omega), bnd_pure, Int.toNat_natCast, RGroups_ok hl]

theorem self_if {α : Type} {a z : α} {c : Prop} [Decidable c] (h : ¬ c → a = z) : a = if c then a else z := by
  by_cases hc : c
  · rw [if_pos hc]
  · rw [if_neg hc]; exact h hc

theorem lists_j3 (l : List T_api_Place) (m : Int) (p : T_api_Place) (g : List (List Int)) (hg : g = if firstS [listE l, metresS m] = 0 then groupsS l m else []) (x y z : Int) (hx : x = if faultL l true = 0 then midS l else 0)
    (hy : y = if f3S l p = 0 then (nearG l p l.length 0 0 0).1 else 0) (hz : z = if f3S l p = 0 then (nearG l p l.length 0 0 0).2 else 0) :
    Law_WhereLists_j3 (g, firstS [listE l, metresS m]) (x, faultL l true) (y, z, f3S l p) (firstS [listE l, metresS m]) (faultL l true) (f3S l p) g x y z = some true := by
  have hb : g.length ≤ 1000 ∧ ∀ q ∈ g, q.length ≤ 1000 := by
    rw [hg]
    split
    · rename_i h
      rw [first2] at h
      have h0 : listE l = 0 := by
        by_cases h1 : listE l = 0
        · exact h1
        · rw [if_neg h1] at h; exact absurd h h1
      have hl := (list_ok h0).len
      have hbd := groupsG_bd (l := l) (m := m) l.length 0 (List.replicate l.length false) [] (by omega) (by simp) (by simp) (by simp)
      exact ⟨Nat.le_trans hbd.1 hl, fun q hq => Nat.le_trans (hbd.2 q hq) hl⟩
    · simp
  unfold Law_WhereLists_j3
  rw [lists_ok (a := g) (c := g) (b := firstS [listE l, metresS m]) (d := firstS [listE l, metresS m]) (self_if fun h => by rw [hg, if_neg h]) rfl hb.1 hb.2, bnd_pure, cnd_true]
  rw [told_int_ok (a := x) (c := x) (b := faultL l true) (d := faultL l true) (self_if fun h => by rw [hx, if_neg h]) rfl, bnd_pure, cnd_true]
  rw [told_int_ok (a := y) (c := y) (b := f3S l p) (d := f3S l p) (self_if fun h => by rw [hy, if_neg h]) rfl, bnd_pure, cnd_true]
  simp

theorem lists_j2 (l : List T_api_Place) (m : Int) (p : T_api_Place) (g : List (List Int)) (hg : g = if firstS [listE l, metresS m] = 0 then groupsS l m else []) (x y z : Int) (hx : x = if faultL l true = 0 then midS l else 0)
    (hy : y = if f3S l p = 0 then (nearG l p l.length 0 0 0).1 else 0) (hz : z = if f3S l p = 0 then (nearG l p l.length 0 0 0).2 else 0) :
    Law_WhereLists_j2 l p (g, firstS [listE l, metresS m]) (x, faultL l true) (y, z, f3S l p) (firstS [listE l, metresS m]) (faultL l true) (f3S l p) g x = some true := by
  have j3 := lists_j3 l m p g hg x y z hx hy hz
  unfold Law_WhereLists_j2
  rw [cnd_if]
  by_cases h : f3S l p = 0
  · obtain ⟨g0, g1, g2⟩ := f3_zero h
    have hlen := g1.len
    rw [if_pos h]
    rw [if_pos h] at hy hz
    generalize hQ : (g, firstS [listE l, metresS m]) = Q at *
    generalize hX : (x, faultL l true) = X at *
    generalize hY : (y, z, f3S l p) = Y at *
    generalize firstS [listE l, metresS m] = t47 at *
    refine (near_go (F := fun next4 s => Law_WhereLists_l4 l p Q X Y t47 (faultL l true) (f3S l p) g x next4 s.1 s.2.1 s.2.2) (fun b e => Law_WhereLists_j3 Q X Y t47 (faultL l true) (f3S l p) g x b e) 0 g1 g2 ?_ ?_ l.length 0 0 0 (by omega) (fun _ => rfl) (by omega)).trans ?_
    · intro next i b e hi h0 h1
      show Law_WhereLists_l4 l p Q X Y t47 (faultL l true) (f3S l p) g x next b e i = _
      unfold Law_WhereLists_l4 Law_WhereLists_j5
      rw [cnd_if, if_pos (by omega), gAt_nat hi, bnd_pure, R_dist_eq g2 (g1.pl i hi), bnd_pure, cnd_if, cnd_if, gI_ok (by omega), bnd_pure, bnd_pure, getD_of hi]
      by_cases hz' : i = 0
      · rw [if_pos (by omega), if_pos (.inl hz')]
      · rw [if_neg (by omega)]
        by_cases h2 : distP p l[i] < e
        · rw [if_pos h2, if_pos (.inr h2)]
        · rw [if_neg h2, if_neg (fun h => h.elim hz' h2)]
    · intro next i b e hi
      show Law_WhereLists_l4 l p Q X Y t47 (faultL l true) (f3S l p) g x next b e i = _
      unfold Law_WhereLists_l4
      rw [cnd_if, if_neg (by omega)]
    · rw [← hy, ← hz]; exact j3
  · rw [if_neg h]
    rw [if_neg h] at hy hz
    rw [hy, hz] at j3 ⊢
    exact j3

theorem whereListsS (l : List T_api_Place) (m : Int) (p : T_api_Place) {φ φ2 φ3 φ4 : Prop} (hl : (φ ∧ l.length * 16 ≤ 140737488351232) ∧ φ2) (_ : φ3) (_ : φ4) : Law_WhereLists l m p = some true := by
  have hlen : l.length ≤ 1000000000000000 := by have := hl.1.2; omega
  have e1 : faultL l false = listE l := if_neg (fun h => by cases h.1)
  have e3 : firstS [if decide (0 < (l.length : Int)) = true then 0 else 7, if decide ((l.length : Int) ≤ 1000) = true then 0 else 4, placeS p.Lat p.Lon, faultL l true] = f3S l p := by
    unfold f3S
    have c0 : (if decide (0 < (l.length : Int)) = true then (0 : Int) else 7) = if 0 < l.length then 0 else 7 := by
      by_cases h0 : 0 < l.length
      · rw [if_pos h0, if_pos (decide_eq_true (show 0 < (l.length : Int) by omega))]
      · rw [if_neg h0, if_neg (fun h => h0 (by have := of_decide_eq_true h; omega))]
    have c1 : (if decide ((l.length : Int) ≤ 1000) = true then (0 : Int) else 4) = if l.length ≤ 1000 then 0 else 4 := by
      by_cases h0 : l.length ≤ 1000
      · rw [if_pos h0, if_pos (decide_eq_true (show (l.length : Int) ≤ 1000 by omega))]
      · rw [if_neg h0, if_neg (fun h => h0 (by have := of_decide_eq_true h; omega))]
    rw [c0, c1]
  unfold Law_WhereLists
  rw [Groups_eq, bnd_pure, Middle_eq, bnd_pure, Nearest_eq, bnd_pure, listFault_eq l hlen false, bnd_pure, metresFault_eq, bnd_pure, Law_first_eq _ (by simp), bnd_pure, listFault_eq l hlen true, bnd_pure, unless_eq, bnd_pure, unless_eq, bnd_pure, R_PlaceFault_eq, bnd_pure, Law_first_eq _ (by simp), bnd_pure, e1, e3, cnd_if]
  have j1 : ∀ g, g = (if firstS [listE l, metresS m] = 0 then groupsS l m else []) → Law_WhereLists_j1 l p (g, firstS [listE l, metresS m]) (if faultL l true = 0 then midS l else 0, faultL l true) (if f3S l p = 0 then (nearG l p l.length 0 0 0).1 else 0, if f3S l p = 0 then (nearG l p l.length 0 0 0).2 else 0, f3S l p) (firstS [listE l, metresS m]) (faultL l true) (f3S l p) g = some true := by
    intro g hg
    have j2 := lists_j2 l m p g hg _ _ _ rfl rfl rfl
    unfold Law_WhereLists_j1
    rw [cnd_if]
    by_cases h : faultL l true = 0
    · have h0 : listE l = 0 := by
        unfold faultL at h
        split at h
        · cases h
        · exact h
      rw [if_pos h, R_middle_eq (list_ok h0), bnd_pure]
      rw [if_pos h] at j2
      rw [if_pos h]
      exact j2
    · rw [if_neg h]
      rw [if_neg h] at j2
      rw [if_neg h]
      exact j2
  by_cases h : firstS [listE l, metresS m] = 0
  · have h0 : listE l = 0 := by
      have h' := h
      rw [first2] at h'
      by_cases h1 : listE l = 0
      · exact h1
      · rw [if_neg h1] at h'; exact absurd h' h1
    have := j1 (groupsS l m) (if_pos h).symm
    rw [if_pos h, R_Groups_eq (list_ok h0), bnd_pure, if_pos h]
    exact this
  · have := j1 [] (if_neg h).symm
    rw [if_neg h, if_neg h]
    exact this

end Go.M
