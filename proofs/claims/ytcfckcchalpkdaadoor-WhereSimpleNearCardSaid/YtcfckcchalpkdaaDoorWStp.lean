/- The law WhereStops in plain Lean: what Stops and Trips are, and what the reference has. Conditions: none. -/
import Derived.Test.YtcfckcchalpkdaaDoorWP
import Derived.Test.YtcfckcchalpkdaaDoorPl2
namespace Go.M
open Go.Md Go.Pl Go.Vc.Where

/-! ### distances are the same both ways -/

theorem short_neg (a b : Int) : shortS a b = -shortS b a ∨ shortS a b = shortS b a := by
  unfold shortS eastS
  have h1 : (b - a) % 360000000 = 0 ∧ (a - b) % 360000000 = 0 ∨ (b - a) % 360000000 + (a - b) % 360000000 = 360000000 := by omega
  rcases h1 with ⟨h1, h2⟩ | h1
  · right; rw [h1, h2]
  · by_cases h2 : 180000000 < (b - a) % 360000000
    · left; rw [if_pos (by omega), if_neg (by omega)]; omega
    · by_cases h3 : (b - a) % 360000000 = 180000000
      · right; rw [if_pos (by omega), if_pos (by omega)]; omega
      · left; rw [if_neg (by omega), if_pos (by omega)]; omega

theorem dist_comm (p q : T_api_Place) : distP p q = distP q p := by
  unfold distP distS
  have hy : (q.Lat - p.Lat) * (q.Lat - p.Lat) = (p.Lat - q.Lat) * (p.Lat - q.Lat) := by
    have : q.Lat - p.Lat = -(p.Lat - q.Lat) := by omega
    rw [this, Int.neg_mul_neg]
  have hx : xwayS p.Lat p.Lon q.Lat q.Lon * xwayS p.Lat p.Lon q.Lat q.Lon = xwayS q.Lat q.Lon p.Lat p.Lon * xwayS q.Lat q.Lon p.Lat p.Lon := by
    unfold xwayS
    rw [Int.add_comm q.Lat p.Lat]
    rcases short_neg p.Lon q.Lon with h | h
    · rw [h, Int.neg_mul, Int.neg_tdiv, Int.neg_mul_neg]
    · rw [h]
  rw [hy, hx]

/-! ### the middle of a list -/

def sumD (p : T_api_Place) (l : List T_api_Place) : Int := l.foldl (fun s q => s + distP p q) 0

/-! ### parts of a track -/

def plcs (t : List T_where_Fix) (i e : Nat) : List T_api_Place := ((t.drop i).take (e + 1 - i)).map (·.Place)

theorem plcs_len {t : List T_where_Fix} {i e : Nat} (h : i ≤ e) (he : e < t.length) : (plcs t i e).length = e + 1 - i := by
  unfold plcs; rw [List.length_map, List.length_take, List.length_drop]; omega
theorem plcs_PL {t : List T_where_Fix} (ht : TR t) {i e : Nat} : ∀ p ∈ plcs t i e, PL p := by
  intro p hp
  unfold plcs at hp
  obtain ⟨f, hf, rfl⟩ := List.mem_map.1 hp
  obtain ⟨k, hk, rfl⟩ := List.mem_iff_getElem.1 (List.mem_of_mem_drop (List.mem_of_mem_take hf))
  exact ht.pl k hk

theorem cut_eq {t : List T_where_Fix} {i e : Nat} (h : i ≤ e) (he : e < t.length) : gCut t (i : Int) ((e : Int) + 1) = some ((t.drop i).take (e + 1 - i)) := by
  rw [gCut_ok (by omega)]
  congr 2

theorem collect {ρ : Type} (u : List T_where_Fix) (hu : u.length ≤ 2000) (F : (Int × List T_api_Place → Option ρ) → Int × List T_api_Place → Option ρ) (J : List T_api_Place → Option ρ)
    (hF : ∀ next k l, F next (k, l) = cnd (decide (k < (u.length : Int))) (bnd (gAt u k) fun t40 => bnd (gApp 16 l ([t40.Place] : List T_api_Place)) fun l46 => bnd (gI (k + 1)) fun t47 => next (t47, l46)) (J l)) : fix F (0, []) = J (u.map (·.Place)) := by
  have := fix_list (F := F) u (fun l f => l ++ [f.Place]) J (fun k l => l.length = k) (fun next k l hk hI => ⟨by
    rw [hF, cnd_if, if_pos (by omega), gAt_nat hk, bnd_pure, gApp_ok (by simp only [List.length_singleton]; omega), bnd_pure, gI_ok (by omega), bnd_pure], by simp [hI]⟩) (fun next l hI => by
    rw [hF, cnd_if, if_neg (by omega)]) [] rfl
  rw [this, foldl_app (fun f : T_where_Fix => f.Place)]
  rfl

/-! stops -/

def stopC (t : List T_where_Fix) (m : Int) (i k : Nat) : Bool := decide (k + 1 < t.length ∧ distP (t.getD i default).Place (t.getD (k + 1) default).Place ≤ m)
def stopEnd (t : List T_where_Fix) (m : Int) (i : Nat) : Nat := endGo (stopC t m i) (t.length - i) i

theorem stopEnd_lt {t : List T_where_Fix} {m : Int} {i : Nat} (hi : i < t.length) : i ≤ stopEnd t m i ∧ stopEnd t m i < t.length :=
  ⟨(endGo_le _ _ _).1, (endGo_false (stopC t m i) t.length (fun x h => (of_decide_eq_true h).1) _ _ hi (by omega)).2⟩
theorem stopEnd_no {t : List T_where_Fix} {m : Int} {i : Nat} (hi : i < t.length) : stopC t m i (stopEnd t m i) = false :=
  (endGo_false (stopC t m i) t.length (fun x h => (of_decide_eq_true h).1) _ _ hi (by omega)).1
theorem stopEnd_yes {t : List T_where_Fix} {m : Int} {i k : Nat} (h1 : i ≤ k) (h2 : k < stopEnd t m i) : stopC t m i k = true := endGo_true _ _ _ _ h1 h2

theorem stop_end {t : List T_where_Fix} (ht : TR t) {m : Int} {i : Nat} (hi : i < t.length) : where_Stops_1 m t i = some (stopEnd t m i : Int) := by
  have hl := ht.len
  obtain ⟨h1, h2⟩ := stopEnd_lt (m := m) hi
  unfold where_Stops_1
  refine fix_upto (F := fun next1 s => where_Stops_1_l1 m t i next1 s) i (stopEnd t m i) h1 (fun next k hk hke => ?_) fun next => ?_
  · have hc := of_decide_eq_true (stopEnd_yes hk hke)
    rw [getD_of hi, getD_of hc.1, dist_comm] at hc
    show where_Stops_1_l1 m t i next k = _
    unfold where_Stops_1_l1
    rw [gI_ok (by omega), bnd_pure, cnd_if, if_pos (by omega), bnd_pure, show (k : Int) + 1 = ((k + 1 : Nat) : Int) from rfl, gAt_nat hc.1, bnd_pure, gAt_nat hi, bnd_pure, dist_eq (ht.pl _ _) (ht.pl _ _), bnd_pure, cnd_if, if_pos hc.2, bnd_pure]
  · have hc := of_decide_eq_false (stopEnd_no (m := m) hi)
    show where_Stops_1_l1 m t i next (stopEnd t m i) = _
    generalize stopEnd t m i = e at *
    unfold where_Stops_1_l1
    rw [gI_ok (by omega), bnd_pure, cnd_if]
    by_cases h : e + 1 < t.length
    · rw [getD_of hi, getD_of h, dist_comm] at hc
      rw [if_pos (by omega), bnd_pure, show (e : Int) + 1 = ((e + 1 : Nat) : Int) from rfl, gAt_nat h, bnd_pure, gAt_nat hi, bnd_pure, dist_eq (ht.pl _ _) (ht.pl _ _), bnd_pure, cnd_if, if_neg (fun hh => hc ⟨h, hh⟩)]
    · rw [if_neg (by omega)]

/-! trips -/

def tripC (t : List T_where_Fix) (g m : Int) (k : Nat) : Bool := decide (k + 1 < t.length ∧ (t.getD (k + 1) default).Moment - (t.getD k default).Moment ≤ g ∧ distP (t.getD k default).Place (t.getD (k + 1) default).Place ≤ m)
def tripEnd (t : List T_where_Fix) (g m : Int) (i : Nat) : Nat := endGo (tripC t g m) (t.length - i) i

theorem tripEnd_lt {t : List T_where_Fix} {g m : Int} {i : Nat} (hi : i < t.length) : i ≤ tripEnd t g m i ∧ tripEnd t g m i < t.length :=
  ⟨(endGo_le _ _ _).1, (endGo_false (tripC t g m) t.length (fun x h => (of_decide_eq_true h).1) _ _ hi (by omega)).2⟩
theorem tripEnd_no {t : List T_where_Fix} {g m : Int} {i : Nat} (hi : i < t.length) : tripC t g m (tripEnd t g m i) = false :=
  (endGo_false (tripC t g m) t.length (fun x h => (of_decide_eq_true h).1) _ _ hi (by omega)).1
theorem tripEnd_yes {t : List T_where_Fix} {g m : Int} {i k : Nat} (h1 : i ≤ k) (h2 : k < tripEnd t g m i) : tripC t g m k = true := endGo_true _ _ _ _ h1 h2

theorem plcs_last {t : List T_where_Fix} {i e : Nat} (h : i ≤ e) (he : e < t.length) : gAt (plcs t i e) ((e : Int) + 1 - i - 1) = some t[e].Place := by
  have hl := plcs_len h he
  rw [show (e : Int) + 1 - i - 1 = ((e - i : Nat) : Int) from by omega, gAt_nat (by omega)]
  congr 1
  unfold plcs
  rw [List.getElem_map, List.getElem_take, List.getElem_drop]
  congr 2
  omega

/-! ### the law -/

end Go.M
