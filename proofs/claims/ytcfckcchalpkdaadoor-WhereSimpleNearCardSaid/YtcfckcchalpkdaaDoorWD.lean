/- Distance of two places, whatever they are; the middle of a list. Conditions: none. -/
import Derived.Test.YtcfckcchalpkdaaDoorWStp
import Derived.KernelRfl
namespace Go.M
open Go.Md Go.Pl Go.Vc.Where

theorem awake_eq : Keep_awakeWhere = some true := by kernel_rfl

theorem checkPlaces2 (p q : T_api_Place) : where_checkPlaces [p, q] = some (if placeS p.Lat p.Lon = 0 then placeS q.Lat q.Lon else placeS p.Lat p.Lon) := by
  unfold where_checkPlaces
  have key := scan (F := fun next1 s => where_checkPlaces_l1 [p, q] next1 s) 2 (fun k => placeS (([p, q] : List T_api_Place).getD k default).Lat (([p, q] : List T_api_Place).getD k default).Lon) (fun next k hk => by
    have hk' : k < ([p, q] : List T_api_Place).length := hk
    show where_checkPlaces_l1 [p, q] next k = _
    unfold where_checkPlaces_l1
    rw [cnd_if, if_pos (by simp only [List.length_cons, List.length_nil]; omega), gAt_nat hk', bnd_pure, CheckPlace_eq, bnd_pure, getD_of hk', cnd_if]
    by_cases h : placeS ([p, q][k]).Lat ([p, q][k]).Lon = 0
    · rw [if_neg (fun hh => hh h), if_pos h, gI_ok (by omega), bnd_pure]
    · rw [if_pos h, if_neg h]) (fun next => by
    show where_checkPlaces_l1 [p, q] next _ = _
    unfold where_checkPlaces_l1
    rw [cnd_if, if_neg (by simp)])
  rw [key]
  simp only [firstE]
  congr 1
  simp only [List.getD_cons_zero, List.getD_cons_succ]
  split
  · split <;> simp_all
  · rfl

theorem Distance_ok {p q : T_api_Place} (hp : PL p) (hq : PL q) : where_Distance p q = some (distP p q, 0) := by
  unfold where_Distance
  rw [checkPlaces2, PL_iff.2 hp, PL_iff.2 hq, if_pos rfl, bnd_pure, cnd_if, if_neg (by decide), dist_eq hp hq, bnd_pure]

theorem dist_self (p : T_api_Place) : distP p p = 0 := by
  unfold distP distS xwayS shortS eastS
  have h0 : (p.Lon - p.Lon) % 360000000 = 0 := by omega
  rw [h0, if_neg (by decide), Int.sub_self, Int.zero_mul, Int.zero_mul]
  rfl

end Go.M
