/- The models of Groups, Middle, Nearest and of their references, as plain functions. Conditions: none. -/
import Derived.Test.YtinpjnlocahjjaaWLg
namespace Go.M
open Go.Md Go.Pl Go.Vc.Where

def listE (l : List T_api_Place) : Int := if 1000 < (l.length : Int) then 4 else firstE (fun k => placeS (l.getD k default).Lat (l.getD k default).Lon) l.length 0

theorem checkPlaces_eq (l : List T_api_Place) (hl : l.length ≤ 1000000000) : where_checkPlaces l = some (firstE (fun k => placeS (l.getD k default).Lat (l.getD k default).Lon) l.length 0) := by
  unfold where_checkPlaces
  exact scan (F := fun next1 s => where_checkPlaces_l1 l next1 s) l.length (fun k => placeS (l.getD k default).Lat (l.getD k default).Lon) (fun next k hk => by
    show where_checkPlaces_l1 l next k = _
    unfold where_checkPlaces_l1
    rw [cnd_if, if_pos (by omega), gAt_nat hk, bnd_pure, CheckPlace_eq, bnd_pure, getD_of hk, cnd_if]
    by_cases h : placeS l[k].Lat l[k].Lon = 0
    · rw [if_neg (fun hh => hh h), if_pos h, gI_ok (by omega), bnd_pure]
    · rw [if_pos h, if_neg h]) (fun next => by
    show where_checkPlaces_l1 l next _ = _
    unfold where_checkPlaces_l1
    rw [cnd_if, if_neg (by omega)])

theorem checkList_eq (l : List T_api_Place) : where_checkList l = some (listE l) := by
  unfold where_checkList listE
  rw [cnd_if]
  split
  · rfl
  · rw [checkPlaces_eq l (by omega), bnd_pure]

theorem list_ok {l : List T_api_Place} (h : listE l = 0) : PS l := by
  unfold listE at h
  split at h
  · cases h
  · exact ⟨by omega, fun k hk => by
      have := firstE_zero h k (by omega) (by omega)
      rw [getD_of hk] at this
      exact PL_iff.1 this⟩

theorem getD_b {xs : List Bool} {n : Nat} (h : n < xs.length) : xs.getD n true = xs[n] := by rw [List.getD_eq_getElem?_getD, List.getElem?_eq_getElem h]; rfl
theorem getD_i {xs : List Int} {n : Nat} (h : n < xs.length) : xs.getD n 0 = xs[n] := by rw [List.getD_eq_getElem?_getD, List.getElem?_eq_getElem h]; rfl

theorem Groups_k {l : List T_api_Place} (hl : PS l) {m i : Int} {out : List (List Int)} (next2 : Int × List Bool × List (List Int) → Option (List (List Int) × Int)) {s0 : List Bool × List Int} (h0 : OKG l s0) :
    fix (fun next5 s => where_Groups_l5 l m i out next2 next5 s.1 s.2.1 s.2.2) (0, s0.1, s0.2) = where_Groups_j4 i out next2 (growG l m (l.length + 1) 0 s0).1 (growG l m (l.length + 1) 0 s0).2 := by
  have hlen := hl.len
  refine grow_go (F := fun next5 s => where_Groups_l5 l m i out next2 next5 s.1 s.2.1 s.2.2) (fun s => where_Groups_j4 i out next2 s.1 s.2) (m := m) ?_ ?_ (l.length + 1) 0 s0 (by omega) h0
  · intro next k s hk hs
    show where_Groups_l5 l m i out next2 next k s.1 s.2 = _
    unfold where_Groups_l5
    have hle := hs.le
    rw [cnd_if, if_pos (by omega)]
    have hq := hs.mem _ (List.getElem_mem hk)
    obtain ⟨q, hqe⟩ := Int.eq_ofNat_of_zero_le hq.1
    have hql : q < l.length := by omega
    rw [getD_i hk, hqe, Int.toNat_natCast, getD_of hql]
    refine inner_go (F := fun next7 s => where_Groups_l7 l m k next next7 s.1 s.2.1 s.2.2) (fun s => next ((k : Int) + 1, s.1, s.2)) (k := k) (q := (q : Int)) ?_ ?_ l.length 0 s (by omega) hs ⟨hk, hqe⟩
    · intro nx n s' hn hs' hq'
      show where_Groups_l7 l m k next nx n s'.1 s'.2 = _
      have hn' : n < s'.1.length := by rw [hs'.len]; exact hn
      have hle' := hs'.le
      unfold where_Groups_l7 where_Groups_j8 stepG
      rw [cnd_if, if_pos (by omega), gAt_nat hn', bnd_pure, getD_b hn', getD_of hn]
      cases hb : s'.1[n] with
      | true => rw [Bool.not_true, cnd_false, gI_ok (by omega), bnd_pure, if_neg (fun h => by cases h.1)]
      | false =>
        rw [Bool.not_false, cnd_true, hq', bnd_pure, gAt_nat hql, bnd_pure, gAt_nat hn, bnd_pure, dist_eq (hl.pl _ hql) (hl.pl _ hn), bnd_pure, cnd_if]
        by_cases hd : distP l[q] l[n] ≤ m
        · rw [if_pos hd, if_pos ⟨rfl, hd⟩, bnd_pure, gSet_ok (by omega) (by omega), bnd_pure, gApp_ok (by simp only [List.length_cons, List.length_nil]; omega), bnd_pure, gI_ok (by omega), bnd_pure, Int.toNat_natCast]
        · rw [if_neg hd, if_neg (fun h => hd h.2), gI_ok (by omega), bnd_pure]
    · intro nx n s' hn
      show where_Groups_l7 l m k next nx n s'.1 s'.2 = _
      unfold where_Groups_l7 where_Groups_j6
      rw [cnd_if, if_neg (by omega), gI_ok (by omega), bnd_pure]
  · intro next k s hk
    show where_Groups_l5 l m i out next2 next k s.1 s.2 = _
    unfold where_Groups_l5
    rw [cnd_if, if_neg (by omega)]

noncomputable def groupsS (l : List T_api_Place) (m : Int) : List (List Int) := groupsG l m l.length 0 (List.replicate l.length false) []

theorem Groups_ok {l : List T_api_Place} (hl : PS l) {m : Int} : fix (fun next2 s => where_Groups_l2 l m next2 s.1 s.2.1 s.2.2) (0, List.replicate l.length false, ([] : List (List Int))) = some (groupsS l m, 0) := by
  have hlen := hl.len
  refine groups_go (F := fun next2 s => where_Groups_l2 l m next2 s.1 s.2.1 s.2.2) (fun out => some (out, 0)) (l := l) (m := m) ?_ ?_ ?_ l.length 0 _ _ (by omega) (by simp) (by simp)
  · intro next i seen out hi hs hb
    show where_Groups_l2 l m next i seen out = _
    have hi' : i < seen.length := by omega
    rw [getD_b hi'] at hb
    unfold where_Groups_l2 where_Groups_j3
    rw [cnd_if, if_pos (by omega), gAt_nat hi', bnd_pure, hb, cnd_true, gI_ok (by omega), bnd_pure]
  · intro next i seen out hi hs ho hb
    show where_Groups_l2 l m next i seen out = _
    have hi' : i < seen.length := by omega
    have hok := first_ok hs hi hb
    rw [getD_b hi'] at hb
    unfold where_Groups_l2
    rw [cnd_if, if_pos (by omega), gAt_nat hi', bnd_pure, hb, cnd_false, bnd_pure, gSet_ok (by omega) (by omega), bnd_pure, Int.toNat_natCast]
    refine (Groups_k hl next hok).trans ?_
    have hg := growG_ok (m := m) (l.length + 1) 0 _ hok
    unfold where_Groups_j4 where_Groups_j3
    rw [sortL_eq hl hg, bnd_pure, gApp_ok (by simp only [List.length_cons, List.length_nil]; omega), bnd_pure, gI_ok (by omega), bnd_pure]
  · intro next i seen out hi
    show where_Groups_l2 l m next i seen out = _
    unfold where_Groups_l2 where_Groups_j1
    rw [cnd_if, if_neg (by omega)]

end Go.M
