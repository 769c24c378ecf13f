/- The law WhereStops in plain Lean: what Stops and Trips are, and what the reference has. Conditions: none. -/
import Derived.Test.YtfgehlmdcllclaaWP
import Derived.Test.YtfgehlmdcllclaaPl2
namespace Go.M
open Go.Md Go.Pl Go.Vc.Where

/-! ### distances are the same both ways -/

theorem short_neg (a b : Int) : shortS a b = -shortS b a ∨ shortS a b = shortS b a := by
  unfold shortS eastS
  have h1 : (b - a) % 360000000 = 0 ∧ (a - b) % 360000000 = 0 ∨ (b - a) % 360000000 + (a - b) % 360000000 = 360000000 := by omega
  rcases h1 with ⟨h1, h2⟩ | h1
  · right; rw [h1, h2]
  · by_cases h2 : 180000000 < (b - a) % 360000000
    · left; rw [if_pos (by omega), if_neg (by omega)]; omega
    · by_cases h3 : (b - a) % 360000000 = 180000000
      · right; rw [if_pos (by omega), if_pos (by omega)]; omega
      · left; rw [if_neg (by omega), if_pos (by omega)]; omega

theorem dist_comm (p q : T_api_Place) : distP p q = distP q p := by
  unfold distP distS
  have hy : (q.Lat - p.Lat) * (q.Lat - p.Lat) = (p.Lat - q.Lat) * (p.Lat - q.Lat) := by
    have : q.Lat - p.Lat = -(p.Lat - q.Lat) := by omega
    rw [this, Int.neg_mul_neg]
  have hx : xwayS p.Lat p.Lon q.Lat q.Lon * xwayS p.Lat p.Lon q.Lat q.Lon = xwayS q.Lat q.Lon p.Lat p.Lon * xwayS q.Lat q.Lon p.Lat p.Lon := by
    unfold xwayS
    rw [Int.add_comm q.Lat p.Lat]
    rcases short_neg p.Lon q.Lon with h | h
    · rw [h, Int.neg_mul, Int.neg_tdiv, Int.neg_mul_neg]
    · rw [h]
  rw [hy, hx]

/-! ### the middle of a list -/

theorem mid_same (l : List T_api_Place) (hl : ∀ p ∈ l, PL p) : where_middle l = R_MiddleOf l := by
  unfold where_middle R_MiddleOf
  refine congrFun (fix_congr fun next s => ?_) _
  unfold where_middle_l1 R_MiddleOf_l1
  refine cnd_congr (fun _ => bnd_congr fun p hp => congrFun (fix_congr fun next4 s4 => ?_) _) fun _ => rfl
  unfold where_middle_l4 R_MiddleOf_l4
  refine cnd_congr (fun _ => bnd_congr fun q hq => ?_) fun _ => rfl
  have mem : ∀ {i : Int} {x : T_api_Place}, gAt l i = some x → PL x := fun h => hl _ (List.mem_of_getElem? (gAt_some h).2.2)
  rw [dist_eq (mem hp) (mem hq), R_dist_eq (mem hp) (mem hq)]

def sumD (p : T_api_Place) (l : List T_api_Place) : Int := l.foldl (fun s q => s + distP p q) 0

theorem mid_sum (l : List T_api_Place) (hl : ∀ p ∈ l, PL p) (hn : l.length ≤ 2000) (x3 x4 k : Int) (next1 : Int × Int × Int → Option Int) (p : T_api_Place) (hp : PL p) :
    fix (fun next4 (s : Int × Int) => R_MiddleOf_l4 l x3 x4 k next1 p next4 s.1 s.2) (0, 0) = R_MiddleOf_j3 x3 x4 k next1 (sumD p l) ∧ 0 ≤ sumD p l ∧ sumD p l ≤ 56800000000 := by
  have key : ∀ n (k' : Nat) (s : Int), k' ≤ l.length → l.length - k' < n → 0 ≤ s ∧ s ≤ 28400000 * k' → fix (fun next4 (s : Int × Int) => R_MiddleOf_l4 l x3 x4 k next1 p next4 s.1 s.2) (s, (k' : Int)) = R_MiddleOf_j3 x3 x4 k next1 ((l.drop k').foldl (fun s q => s + distP p q) s) ∧ 0 ≤ (l.drop k').foldl (fun s q => s + distP p q) s ∧ (l.drop k').foldl (fun s q => s + distP p q) s ≤ 28400000 * l.length := by
    intro n
    induction n with
    | zero => intro k' s _ h; omega
    | succ n ih =>
      intro k' s hk h hs
      rcases Nat.lt_or_ge k' l.length with h1 | h1
      · have hq := hl _ (List.getElem_mem h1)
        have hd := dist_bd hp hq
        rw [List.drop_eq_getElem_cons h1, List.foldl_cons]
        have := ih (k' + 1) (s + distP p l[k']) (by omega) (by omega) (by omega)
        rw [← this.1]
        refine ⟨fix_goto (s + distP p l[k'], ((k' + 1 : Nat) : Int)) fun next => ?_, this.2⟩
        show R_MiddleOf_l4 l x3 x4 k next1 p next s k' = _
        unfold R_MiddleOf_l4
        rw [cnd_if, if_pos (by omega), gAt_nat h1, bnd_pure, R_dist_eq hp hq, bnd_pure, gI_ok (by omega), bnd_pure, gI_ok (by omega), bnd_pure]
        rfl
      · have : k' = l.length := by omega
        subst this
        rw [List.drop_length]
        refine ⟨fix_done fun next => ?_, hs.1, hs.2⟩
        show R_MiddleOf_l4 l x3 x4 k next1 p next s _ = _
        unfold R_MiddleOf_l4
        rw [cnd_if, if_neg (by omega)]
        rfl
  have := key (l.length + 1) 0 0 (Nat.zero_le _) (by omega) (by simp)
  rw [List.drop_zero] at this
  exact ⟨this.1, this.2.1, by have := this.2.2; unfold sumD; omega⟩

theorem mid_ex (l : List T_api_Place) (hl : ∀ p ∈ l, PL p) (h0 : 0 < l.length) (hn : l.length ≤ 2000) : ∃ i : Nat, R_MiddleOf l = some (i : Int) ∧ i < l.length := by
  unfold R_MiddleOf
  obtain ⟨r, h1, h2⟩ := fix_run (F := fun next1 (s : Int × Int × Int) => R_MiddleOf_l1 l next1 s.1 s.2.1 s.2.2) (fun s => (0 ≤ s.1 ∧ s.1 < l.length) ∧ (0 ≤ s.2.2 ∧ s.2.2 ≤ l.length)) (fun s => l.length - s.2.2.toNat) (fun r => 0 ≤ r ∧ r < l.length) (by
    rintro ⟨b, least, k'⟩ ⟨⟨g0, g1⟩, g2, g3⟩
    simp only at g0 g1 g2 g3
    obtain ⟨k, rfl⟩ := Int.eq_ofNat_of_zero_le g2
    rcases Nat.lt_or_ge k l.length with h | h
    · have hp := hl _ (List.getElem_mem h)
      right
      have e : ∀ next, R_MiddleOf_l1 l next b least k = R_MiddleOf_j3 b least k next (sumD l[k] l) := fun next => by
        unfold R_MiddleOf_l1
        rw [cnd_if, if_pos (by omega), gAt_nat h, bnd_pure, (mid_sum l hl hn b least k next l[k] hp).1]
      have e2 : ∀ next x y, R_MiddleOf_j2 k next x y = next (x, y, (k : Int) + 1) := fun next x y => by
        unfold R_MiddleOf_j2; rw [gI_ok (by omega), bnd_pure]
      by_cases c1 : least < 0
      · exact ⟨((k : Int), sumD l[k] l, (k : Int) + 1), ⟨⟨by simp only; omega, by simp only; omega⟩, by simp only; omega, by simp only; omega⟩, by simp only; omega, fun next => by
          show R_MiddleOf_l1 l next b least k = _
          rw [e]; unfold R_MiddleOf_j3; rw [cnd_if, if_pos c1, e2]⟩
      · by_cases c2 : sumD l[k] l < least
        · exact ⟨((k : Int), sumD l[k] l, (k : Int) + 1), ⟨⟨by simp only; omega, by simp only; omega⟩, by simp only; omega, by simp only; omega⟩, by simp only; omega, fun next => by
            show R_MiddleOf_l1 l next b least k = _
            rw [e]; unfold R_MiddleOf_j3; rw [cnd_if, if_neg c1, cnd_if, if_pos c2, e2]⟩
        · exact ⟨(b, least, (k : Int) + 1), ⟨⟨by simp only; omega, by simp only; omega⟩, by simp only; omega, by simp only; omega⟩, by simp only; omega, fun next => by
            show R_MiddleOf_l1 l next b least k = _
            rw [e]; unfold R_MiddleOf_j3; rw [cnd_if, if_neg c1, cnd_if, if_neg c2, e2]⟩
    · left
      exact ⟨b, ⟨g0, g1⟩, fun next => by
        show R_MiddleOf_l1 l next b least k = _
        unfold R_MiddleOf_l1; rw [cnd_if, if_neg (by omega)]⟩) (0, -1, 0) ⟨by simp; omega, by simp⟩
  exact ⟨r.toNat, by rw [h1]; congr 1; omega, by omega⟩

/-! ### parts of a track -/

def plcs (t : List T_where_Fix) (i e : Nat) : List T_api_Place := ((t.drop i).take (e + 1 - i)).map (·.Place)

theorem plcs_len {t : List T_where_Fix} {i e : Nat} (h : i ≤ e) (he : e < t.length) : (plcs t i e).length = e + 1 - i := by
  unfold plcs; rw [List.length_map, List.length_take, List.length_drop]; omega
theorem plcs_PL {t : List T_where_Fix} (ht : TR t) {i e : Nat} : ∀ p ∈ plcs t i e, PL p := by
  intro p hp
  unfold plcs at hp
  obtain ⟨f, hf, rfl⟩ := List.mem_map.1 hp
  obtain ⟨k, hk, rfl⟩ := List.mem_iff_getElem.1 (List.mem_of_mem_drop (List.mem_of_mem_take hf))
  exact ht.pl k hk

theorem cut_eq {t : List T_where_Fix} {i e : Nat} (h : i ≤ e) (he : e < t.length) : gCut t (i : Int) ((e : Int) + 1) = some ((t.drop i).take (e + 1 - i)) := by
  rw [gCut_ok (by omega)]
  congr 2

theorem collect {ρ : Type} (u : List T_where_Fix) (hu : u.length ≤ 2000) (F : (Int × List T_api_Place → Option ρ) → Int × List T_api_Place → Option ρ) (J : List T_api_Place → Option ρ)
    (hF : ∀ next k l, F next (k, l) = cnd (decide (k < (u.length : Int))) (bnd (gAt u k) fun t40 => bnd (gApp 16 l ([t40.Place] : List T_api_Place)) fun l46 => bnd (gI (k + 1)) fun t47 => next (t47, l46)) (J l)) : fix F (0, []) = J (u.map (·.Place)) := by
  have := fix_list (F := F) u (fun l f => l ++ [f.Place]) J (fun k l => l.length = k) (fun next k l hk hI => ⟨by
    rw [hF, cnd_if, if_pos (by omega), gAt_nat hk, bnd_pure, gApp_ok (by simp only [List.length_singleton]; omega), bnd_pure, gI_ok (by omega), bnd_pure], by simp [hI]⟩) (fun next l hI => by
    rw [hF, cnd_if, if_neg (by omega)]) [] rfl
  rw [this, foldl_app (fun f : T_where_Fix => f.Place)]
  rfl

/-! stops -/

def stopC (t : List T_where_Fix) (m : Int) (i k : Nat) : Bool := decide (k + 1 < t.length ∧ distP (t.getD i default).Place (t.getD (k + 1) default).Place ≤ m)
def stopEnd (t : List T_where_Fix) (m : Int) (i : Nat) : Nat := endGo (stopC t m i) (t.length - i) i

theorem stopEnd_lt {t : List T_where_Fix} {m : Int} {i : Nat} (hi : i < t.length) : i ≤ stopEnd t m i ∧ stopEnd t m i < t.length :=
  ⟨(endGo_le _ _ _).1, (endGo_false (stopC t m i) t.length (fun x h => (of_decide_eq_true h).1) _ _ hi (by omega)).2⟩
theorem stopEnd_no {t : List T_where_Fix} {m : Int} {i : Nat} (hi : i < t.length) : stopC t m i (stopEnd t m i) = false :=
  (endGo_false (stopC t m i) t.length (fun x h => (of_decide_eq_true h).1) _ _ hi (by omega)).1
theorem stopEnd_yes {t : List T_where_Fix} {m : Int} {i k : Nat} (h1 : i ≤ k) (h2 : k < stopEnd t m i) : stopC t m i k = true := endGo_true _ _ _ _ h1 h2

theorem stop_end {t : List T_where_Fix} (ht : TR t) {m : Int} {i : Nat} (hi : i < t.length) : where_Stops_1 m t i = some (stopEnd t m i : Int) := by
  have hl := ht.len
  obtain ⟨h1, h2⟩ := stopEnd_lt (m := m) hi
  unfold where_Stops_1
  refine fix_upto (F := fun next1 s => where_Stops_1_l1 m t i next1 s) i (stopEnd t m i) h1 (fun next k hk hke => ?_) fun next => ?_
  · have hc := of_decide_eq_true (stopEnd_yes hk hke)
    rw [getD_of hi, getD_of hc.1, dist_comm] at hc
    show where_Stops_1_l1 m t i next k = _
    unfold where_Stops_1_l1
    rw [gI_ok (by omega), bnd_pure, cnd_if, if_pos (by omega), bnd_pure, show (k : Int) + 1 = ((k + 1 : Nat) : Int) from rfl, gAt_nat hc.1, bnd_pure, gAt_nat hi, bnd_pure, dist_eq (ht.pl _ _) (ht.pl _ _), bnd_pure, cnd_if, if_pos hc.2, bnd_pure]
  · have hc := of_decide_eq_false (stopEnd_no (m := m) hi)
    show where_Stops_1_l1 m t i next (stopEnd t m i) = _
    generalize stopEnd t m i = e at *
    unfold where_Stops_1_l1
    rw [gI_ok (by omega), bnd_pure, cnd_if]
    by_cases h : e + 1 < t.length
    · rw [getD_of hi, getD_of h, dist_comm] at hc
      rw [if_pos (by omega), bnd_pure, show (e : Int) + 1 = ((e + 1 : Nat) : Int) from rfl, gAt_nat h, bnd_pure, gAt_nat hi, bnd_pure, dist_eq (ht.pl _ _) (ht.pl _ _), bnd_pure, cnd_if, if_neg (fun hh => hc ⟨h, hh⟩)]
    · rw [if_neg (by omega)]

theorem R_stop_end {t : List T_where_Fix} (ht : TR t) {m s : Int} {i : Nat} (hi : i < t.length) (l : List T_where_Stop) (next1 : Int × List T_where_Stop → Option (List T_where_Stop)) :
    fix (fun next5 s5 => R_StopsOf_l5 t m s i l next1 next5 s5) (i : Int) = R_StopsOf_j2 t s i l next1 (stopEnd t m i) := by
  have hl := ht.len
  obtain ⟨h1, h2⟩ := stopEnd_lt (m := m) hi
  refine fix_upto (F := fun next5 s5 => R_StopsOf_l5 t m s i l next1 next5 s5) i (stopEnd t m i) h1 (fun next k hk hke => ?_) fun next => ?_
  · have hc := of_decide_eq_true (stopEnd_yes hk hke)
    rw [getD_of hi, getD_of hc.1] at hc
    show R_StopsOf_l5 t m s i l next1 next k = _
    unfold R_StopsOf_l5
    rw [gI_ok (by omega), bnd_pure, cnd_if, if_pos (by omega), gAt_nat hi, bnd_pure, bnd_pure, show (k : Int) + 1 = ((k + 1 : Nat) : Int) from rfl, gAt_nat hc.1, bnd_pure, R_dist_eq (ht.pl _ _) (ht.pl _ _), bnd_pure, cnd_if, if_pos hc.2, bnd_pure]
  · have hc := of_decide_eq_false (stopEnd_no (m := m) hi)
    show R_StopsOf_l5 t m s i l next1 next (stopEnd t m i) = _
    generalize stopEnd t m i = e at *
    unfold R_StopsOf_l5
    rw [gI_ok (by omega), bnd_pure, cnd_if]
    by_cases h : e + 1 < t.length
    · rw [getD_of hi, getD_of h] at hc
      rw [if_pos (by omega), gAt_nat hi, bnd_pure, bnd_pure, show (e : Int) + 1 = ((e + 1 : Nat) : Int) from rfl, gAt_nat h, bnd_pure, R_dist_eq (ht.pl _ _) (ht.pl _ _), bnd_pure, cnd_if, if_neg (fun hh => hc ⟨h, hh⟩)]
    · rw [if_neg (by omega)]

theorem stops_same {t : List T_where_Fix} (ht : TR t) {m s : Int} : ∃ r : List T_where_Stop, r.length ≤ 2000 ∧ where_part_parts ⟨where_Stops_1 m, where_Stops_2 s, where_Stops_3, where_Stops_4⟩ t = some r ∧ R_StopsOf t m s = some r := by
  have hl := ht.len
  unfold where_part_parts R_StopsOf
  refine fix_sim (fun (a b : Int × List T_where_Stop) => a = b ∧ (0 ≤ a.1 ∧ a.1 ≤ t.length) ∧ (a.2.length : Int) ≤ a.1) (fun a => t.length - a.1.toNat) (fun (r : List T_where_Stop) => r.length ≤ 2000) ?_ (0, []) (0, []) ⟨rfl, by simp, by simp⟩
  rintro ⟨i', l⟩ b ⟨rfl, ⟨h0, h1⟩, h2⟩
  simp only at h0 h1 h2
  obtain ⟨i, rfl⟩ := Int.eq_ofNat_of_zero_le h0
  rcases Nat.lt_or_ge i t.length with hi | hi
  · right
    obtain ⟨e1, e2⟩ := stopEnd_lt (m := m) hi
    have hee := stop_end ht (m := m) hi
    have hRe := fun next => R_stop_end ht (m := m) (s := s) hi l next
    generalize stopEnd t m i = e at *
    have hmi := ht.mom i hi
    have hme := ht.mom e e2
    by_cases hc : s ≤ t[e].Moment - t[i].Moment
    · -- a part that counts
      have hlen := plcs_len e1 e2
      obtain ⟨j, hj, hjl⟩ := mid_ex (plcs t i e) (plcs_PL ht) (by omega) (by omega)
      have hsame := (mid_same (plcs t i e) (plcs_PL ht)).trans hj
      refine ⟨((e : Int) + 1, l ++ [⟨i, e, (plcs t i e)[j]⟩]), _, ⟨rfl, ⟨by simp only; omega, by simp only; omega⟩, by simp only [List.length_append, List.length_singleton]; omega⟩, by simp only; omega, fix_goto _ fun next => ?_, fix_goto _ fun next => ?_⟩
      · show where_part_parts_l2 _ t next i l = _
        unfold where_part_parts_l2
        rw [cnd_if, if_pos (by omega)]
        simp only
        rw [hee, bnd_pure]
        unfold where_Stops_2
        rw [gAt_nat e2, bnd_pure, gAt_nat hi, bnd_pure, gI_ok (by omega), bnd_pure, bnd_pure, decide_eq_true hc, Bool.not_true, cnd_false, gI_ok (by omega), bnd_pure, cut_eq e1 e2, bnd_pure]
        rw [collect ((t.drop i).take (e + 1 - i)) (by rw [List.length_take]; omega) _ (where_part_parts_j3 ⟨where_Stops_1 m, fun a0 a1 a2 => bnd (gAt a0 a2) fun t10 => bnd (gAt a0 a1) fun t15 => bnd (gI (t10.Moment - t15.Moment)) fun t18 => some (decide (s ≤ t18)), where_Stops_3, where_Stops_4⟩ i l next e) (fun _ _ _ => rfl)]
        unfold where_part_parts_j3 where_Stops_4
        simp only
        rw [show ((t.drop i).take (e + 1 - i)).map (·.Place) = plcs t i e from rfl, hsame, bnd_pure, gAt_nat hjl, bnd_pure, bnd_pure, gApp_ok (by simp only [List.length_singleton]; omega), bnd_pure, gI_ok (by omega), bnd_pure]
      · show R_StopsOf_l1 t m s next i l = _
        unfold R_StopsOf_l1
        rw [cnd_if, if_pos (by omega), hRe]
        unfold R_StopsOf_j2
        rw [gAt_nat e2, bnd_pure, gAt_nat hi, bnd_pure, gI_ok (by omega), bnd_pure, cnd_if, if_neg (by omega), gI_ok (by omega), bnd_pure, cut_eq e1 e2, bnd_pure]
        rw [collect ((t.drop i).take (e + 1 - i)) (by rw [List.length_take]; omega) _ (R_StopsOf_j3 i l next e) (fun _ _ _ => rfl)]
        unfold R_StopsOf_j3
        rw [show ((t.drop i).take (e + 1 - i)).map (·.Place) = plcs t i e from rfl, hj, bnd_pure, gAt_nat hjl, bnd_pure, gApp_ok (by simp only [List.length_singleton]; omega), bnd_pure, gI_ok (by omega), bnd_pure]
    · refine ⟨((i : Int) + 1, l), _, ⟨rfl, ⟨by simp only; omega, by simp only; omega⟩, by simp only; omega⟩, by simp only; omega, fix_goto _ fun next => ?_, fix_goto _ fun next => ?_⟩
      · show where_part_parts_l2 _ t next i l = _
        unfold where_part_parts_l2
        rw [cnd_if, if_pos (by omega)]
        simp only
        rw [hee, bnd_pure]
        unfold where_Stops_2
        rw [gAt_nat e2, bnd_pure, gAt_nat hi, bnd_pure, gI_ok (by omega), bnd_pure, bnd_pure, decide_eq_false hc, Bool.not_false, cnd_true]
        unfold where_Stops_3
        rw [gI_ok (by omega), bnd_pure, bnd_pure]
      · show R_StopsOf_l1 t m s next i l = _
        unfold R_StopsOf_l1
        rw [cnd_if, if_pos (by omega), hRe]
        unfold R_StopsOf_j2
        rw [gAt_nat e2, bnd_pure, gAt_nat hi, bnd_pure, gI_ok (by omega), bnd_pure, cnd_if, if_pos (by omega), gI_ok (by omega), bnd_pure]
  · left
    refine ⟨l, by omega, fix_done fun next => ?_, fix_done fun next => ?_⟩
    · show where_part_parts_l2 _ t next i l = _
      unfold where_part_parts_l2 where_part_parts_j1
      rw [cnd_if, if_neg (by omega)]
    · show R_StopsOf_l1 t m s next i l = _
      unfold R_StopsOf_l1
      rw [cnd_if, if_neg (by omega)]

/-! trips -/

def tripC (t : List T_where_Fix) (g m : Int) (k : Nat) : Bool := decide (k + 1 < t.length ∧ (t.getD (k + 1) default).Moment - (t.getD k default).Moment ≤ g ∧ distP (t.getD k default).Place (t.getD (k + 1) default).Place ≤ m)
def tripEnd (t : List T_where_Fix) (g m : Int) (i : Nat) : Nat := endGo (tripC t g m) (t.length - i) i

theorem tripEnd_lt {t : List T_where_Fix} {g m : Int} {i : Nat} (hi : i < t.length) : i ≤ tripEnd t g m i ∧ tripEnd t g m i < t.length :=
  ⟨(endGo_le _ _ _).1, (endGo_false (tripC t g m) t.length (fun x h => (of_decide_eq_true h).1) _ _ hi (by omega)).2⟩
theorem tripEnd_no {t : List T_where_Fix} {g m : Int} {i : Nat} (hi : i < t.length) : tripC t g m (tripEnd t g m i) = false :=
  (endGo_false (tripC t g m) t.length (fun x h => (of_decide_eq_true h).1) _ _ hi (by omega)).1
theorem tripEnd_yes {t : List T_where_Fix} {g m : Int} {i k : Nat} (h1 : i ≤ k) (h2 : k < tripEnd t g m i) : tripC t g m k = true := endGo_true _ _ _ _ h1 h2

theorem trip_end {t : List T_where_Fix} (ht : TR t) {g m : Int} {i : Nat} (hi : i < t.length) : where_Trips_1 g m t i = some (tripEnd t g m i : Int) := by
  have hl := ht.len
  obtain ⟨h1, h2⟩ := tripEnd_lt (g := g) (m := m) hi
  unfold where_Trips_1
  refine fix_upto (F := fun next1 s => where_Trips_1_l1 g m t next1 s) i (tripEnd t g m i) h1 (fun next k hk hke => ?_) fun next => ?_
  · have hc := of_decide_eq_true (tripEnd_yes hk hke)
    have hk1 : k < t.length := by omega
    rw [getD_of hk1, getD_of hc.1] at hc
    have m1 := ht.mom k hk1
    have m2 := ht.mom (k + 1) hc.1
    show where_Trips_1_l1 g m t next k = _
    unfold where_Trips_1_l1
    rw [gI_ok (by omega), bnd_pure, cnd_if, if_pos (by omega), bnd_pure, show (k : Int) + 1 = ((k + 1 : Nat) : Int) from rfl, gAt_nat hc.1, bnd_pure, gAt_nat hk1, bnd_pure, gI_ok (by omega), bnd_pure, cnd_if, if_pos hc.2.1, bnd_pure, bnd_pure, gAt_nat hc.1, bnd_pure, dist_eq (ht.pl _ _) (ht.pl _ _), bnd_pure, cnd_if, if_pos hc.2.2, bnd_pure]
  · have hc := of_decide_eq_false (tripEnd_no (g := g) (m := m) hi)
    show where_Trips_1_l1 g m t next (tripEnd t g m i) = _
    generalize tripEnd t g m i = e at *
    unfold where_Trips_1_l1
    rw [gI_ok (by omega), bnd_pure, cnd_if]
    by_cases h : e + 1 < t.length
    · rw [getD_of h2, getD_of h] at hc
      have m1 := ht.mom e h2
      have m2 := ht.mom (e + 1) h
      rw [if_pos (by omega), bnd_pure, show (e : Int) + 1 = ((e + 1 : Nat) : Int) from rfl, gAt_nat h, bnd_pure, gAt_nat h2, bnd_pure, gI_ok (by omega), bnd_pure, cnd_if]
      by_cases h3 : t[e + 1].Moment - t[e].Moment ≤ g
      · rw [if_pos h3, bnd_pure, bnd_pure, gAt_nat h, bnd_pure, dist_eq (ht.pl _ _) (ht.pl _ _), bnd_pure, cnd_if, if_neg (fun hh => hc ⟨h, h3, hh⟩)]
      · rw [if_neg h3]
    · rw [if_neg (by omega)]

/-- The reference goes on to the end of a trip, and puts it down. -/
theorem R_trip_go {t : List T_where_Fix} (ht : TR t) {g m : Int} {i : Nat} (hi : i < t.length) (l : List T_where_Stop) (hl2 : l.length ≤ 2000) :
    fix (fun next1 (s : Int × Int × List T_where_Stop) => R_TripsOf_l1 t g m next1 s.1 s.2.1 s.2.2) ((i : Int), (i : Int), l) =
    fix (fun next1 (s : Int × Int × List T_where_Stop) => R_TripsOf_l1 t g m next1 s.1 s.2.1 s.2.2) ((tripEnd t g m i : Int) + 1, (tripEnd t g m i : Int) + 1, if i < tripEnd t g m i then l ++ [⟨i, tripEnd t g m i, (t.getD (tripEnd t g m i) default).Place⟩] else l) := by
  have hl := ht.len
  obtain ⟨h1, h2⟩ := tripEnd_lt (g := g) (m := m) hi
  have more : ∀ k, i ≤ k → k < tripEnd t g m i → ∀ next, R_TripsOf_l1 t g m next i k l = next ((i : Int), (k : Int) + 1, l) := by
    intro k hk hke next
    have hc := of_decide_eq_true (tripEnd_yes hk hke)
    have hk1 : k < t.length := by omega
    rw [getD_of hk1, getD_of hc.1] at hc
    have m1 := ht.mom k hk1
    have m2 := ht.mom (k + 1) hc.1
    unfold R_TripsOf_l1
    rw [cnd_if, if_pos (by omega), gI_ok (by omega), bnd_pure, cnd_if, if_pos (by omega), bnd_pure, show (k : Int) + 1 = ((k + 1 : Nat) : Int) from rfl, gAt_nat hc.1, bnd_pure, gAt_nat hk1, bnd_pure, gI_ok (by omega), bnd_pure, cnd_if, if_pos hc.2.1, bnd_pure, bnd_pure, gAt_nat hc.1, bnd_pure, R_dist_eq (ht.pl _ _) (ht.pl _ _), bnd_pure, cnd_if, if_pos hc.2.2]
    unfold R_TripsOf_j2
    rw [gI_ok (by omega), bnd_pure]
    rfl
  have last : ∀ next, R_TripsOf_l1 t g m next i (tripEnd t g m i) l = R_TripsOf_j3 t i (tripEnd t g m i) l next := by
    intro next
    have hc := of_decide_eq_false (tripEnd_no (g := g) (m := m) hi)
    generalize tripEnd t g m i = e at *
    unfold R_TripsOf_l1
    rw [cnd_if, if_pos (by omega), gI_ok (by omega), bnd_pure, cnd_if]
    by_cases h : e + 1 < t.length
    · rw [getD_of h2, getD_of h] at hc
      have m1 := ht.mom e h2
      have m2 := ht.mom (e + 1) h
      rw [if_pos (by omega), bnd_pure, show (e : Int) + 1 = ((e + 1 : Nat) : Int) from rfl, gAt_nat h, bnd_pure, gAt_nat h2, bnd_pure, gI_ok (by omega), bnd_pure, cnd_if]
      by_cases h3 : t[e + 1].Moment - t[e].Moment ≤ g
      · rw [if_pos h3, bnd_pure, bnd_pure, gAt_nat h, bnd_pure, R_dist_eq (ht.pl _ _) (ht.pl _ _), bnd_pure, cnd_if, if_neg (fun hh => hc ⟨h, h3, hh⟩)]
      · rw [if_neg h3]
    · rw [if_neg (by omega)]
  have fin : ∀ next, R_TripsOf_j3 t i (tripEnd t g m i) l next = next ((tripEnd t g m i : Int) + 1, (tripEnd t g m i : Int) + 1, if i < tripEnd t g m i then l ++ [⟨i, tripEnd t g m i, (t.getD (tripEnd t g m i) default).Place⟩] else l) := by
    intro next
    generalize tripEnd t g m i = e at *
    unfold R_TripsOf_j3 R_TripsOf_j4 R_TripsOf_j2
    rw [cnd_if, getD_of h2]
    by_cases h : i < e
    · rw [if_pos (by omega), if_pos h, gAt_nat h2, bnd_pure, gApp_ok (by simp only [List.length_singleton]; omega), bnd_pure, gI_ok (by omega), bnd_pure, bnd_pure]
    · rw [if_neg (by omega), if_neg h, gI_ok (by omega), bnd_pure, bnd_pure]
  have key : ∀ n k, i ≤ k → k ≤ tripEnd t g m i → tripEnd t g m i - k < n → fix (fun next1 (s : Int × Int × List T_where_Stop) => R_TripsOf_l1 t g m next1 s.1 s.2.1 s.2.2) ((i : Int), (k : Int), l) = fix (fun next1 (s : Int × Int × List T_where_Stop) => R_TripsOf_l1 t g m next1 s.1 s.2.1 s.2.2) ((tripEnd t g m i : Int) + 1, (tripEnd t g m i : Int) + 1, if i < tripEnd t g m i then l ++ [⟨i, tripEnd t g m i, (t.getD (tripEnd t g m i) default).Place⟩] else l) := by
    intro n
    induction n with
    | zero => intro k _ _ h; omega
    | succ n ih =>
      intro k hk hke h
      rcases Nat.lt_or_ge k (tripEnd t g m i) with h3 | h3
      · rw [fix_goto ((i : Int), (k : Int) + 1, l) (fun next => more k hk h3 next)]
        exact ih (k + 1) (by omega) (by omega) (by omega)
      · have : k = tripEnd t g m i := by omega
        subst this
        exact fix_goto _ fun next => (last next).trans (fin next)
  exact key (tripEnd t g m i - i + 1) i (Nat.le_refl _) h1 (by omega)

theorem plcs_last {t : List T_where_Fix} {i e : Nat} (h : i ≤ e) (he : e < t.length) : gAt (plcs t i e) ((e : Int) + 1 - i - 1) = some t[e].Place := by
  have hl := plcs_len h he
  rw [show (e : Int) + 1 - i - 1 = ((e - i : Nat) : Int) from by omega, gAt_nat (by omega)]
  congr 1
  unfold plcs
  rw [List.getElem_map, List.getElem_take, List.getElem_drop]
  congr 2
  omega

theorem trips_same {t : List T_where_Fix} (ht : TR t) {g m : Int} : ∃ r : List T_where_Stop, r.length ≤ 2000 ∧ where_part_parts ⟨where_Trips_1 g m, where_Trips_2, where_Trips_3, where_Trips_4⟩ t = some r ∧ R_TripsOf t g m = some r := by
  have hl := ht.len
  unfold where_part_parts R_TripsOf
  refine fix_sim (fun (a : Int × List T_where_Stop) (b : Int × Int × List T_where_Stop) => b = (a.1, a.1, a.2) ∧ (0 ≤ a.1 ∧ a.1 ≤ t.length) ∧ (a.2.length : Int) ≤ a.1) (fun a => t.length - a.1.toNat) (fun (r : List T_where_Stop) => r.length ≤ 2000) ?_ (0, []) (0, 0, []) ⟨rfl, by simp, by simp⟩
  rintro ⟨i', l⟩ b ⟨rfl, ⟨h0, h1⟩, h2⟩
  simp only at h0 h1 h2
  obtain ⟨i, rfl⟩ := Int.eq_ofNat_of_zero_le h0
  rcases Nat.lt_or_ge i t.length with hi | hi
  · right
    obtain ⟨e1, e2⟩ := tripEnd_lt (g := g) (m := m) hi
    have hee := trip_end ht (g := g) (m := m) hi
    have hRe := R_trip_go ht (g := g) (m := m) hi l (by omega)
    generalize tripEnd t g m i = e at *
    refine ⟨((e : Int) + 1, if i < e then l ++ [⟨i, e, (t.getD e default).Place⟩] else l), _, ⟨rfl, ⟨by simp only; omega, by simp only; omega⟩, ?_⟩, by simp only; omega, fix_goto _ fun next => ?_, hRe⟩
    · simp only
      split
      · simp only [List.length_append, List.length_singleton]; omega
      · omega
    · show where_part_parts_l2 _ t next i l = _
      unfold where_part_parts_l2
      rw [cnd_if, if_pos (by omega)]
      simp only
      rw [hee, bnd_pure]
      unfold where_Trips_2
      rw [bnd_pure]
      by_cases h : i < e
      · rw [decide_eq_true (by omega), Bool.not_true, cnd_false, gI_ok (by omega), bnd_pure, cut_eq e1 e2, bnd_pure]
        rw [collect ((t.drop i).take (e + 1 - i)) (by rw [List.length_take]; omega) _ (where_part_parts_j3 ⟨where_Trips_1 g m, fun a0 a1 a2 => some (decide (a1 < a2)), where_Trips_3, where_Trips_4⟩ i l next e) (fun _ _ _ => rfl)]
        unfold where_part_parts_j3 where_Trips_4
        simp only
        have hpl := plcs_len e1 e2
        rw [show ((t.drop i).take (e + 1 - i)).map (·.Place) = plcs t i e from rfl, gI_ok (by omega), bnd_pure, show ((plcs t i e).length : Int) - 1 = (e : Int) + 1 - i - 1 from by omega, plcs_last e1 e2, bnd_pure, bnd_pure, gApp_ok (by simp only [List.length_singleton]; omega), bnd_pure, gI_ok (by omega), bnd_pure, if_pos h, getD_of e2]
      · rw [decide_eq_false (by omega), Bool.not_false, cnd_true]
        unfold where_Trips_3
        rw [gI_ok (by omega), bnd_pure, bnd_pure, if_neg h]
  · left
    refine ⟨l, by omega, fix_done fun next => ?_, fix_done fun next => ?_⟩
    · show where_part_parts_l2 _ t next i l = _
      unfold where_part_parts_l2 where_part_parts_j1
      rw [cnd_if, if_neg (by omega)]
    · show R_TripsOf_l1 t g m next i i l = _
      unfold R_TripsOf_l1
      rw [cnd_if, if_neg (by omega)]

/-! ### the law -/

theorem equal_refl (l : List T_where_Stop) (hl : l.length ≤ 1000000) : slices_Equal_where_Stop l l = some true := by
  unfold slices_Equal_where_Stop
  rw [cnd_if, if_neg (fun h => h rfl)]
  refine fix_upto (F := fun next1 s => slices_Equal_where_Stop_l1 l l next1 s) 0 l.length (Nat.zero_le _) (fun next k _ hk => ?_) fun next => ?_
  · show slices_Equal_where_Stop_l1 l l next k = _
    unfold slices_Equal_where_Stop_l1
    rw [cnd_if, if_pos (by omega), gAt_nat hk, bnd_pure, bnd_pure, show eq_where_Stop l[k] l[k] = true from by simp [eq_where_Stop], Bool.not_true, cnd_false, gI_ok (by omega), bnd_pure]
  · show slices_Equal_where_Stop_l1 l l next _ = _
    unfold slices_Equal_where_Stop_l1
    rw [cnd_if, if_neg (by omega)]

theorem listed_ok {a c : List T_where_Stop} {b d : Int} (h : a = (if d = 0 then c else [])) (hb : b = d) (hl : a.length ≤ 1000000) : Law_listed_where_Stop a b c d = some true := by
  unfold Law_listed_where_Stop Law_listed_where_Stop_j1
  rw [cnd_if]
  by_cases h0 : d = 0
  · rw [if_neg (fun h => h h0)]
    rw [if_pos h0] at h
    rw [← h, equal_refl a hl, bnd_pure, cnd_true, decide_eq_true hb]
  · rw [if_pos h0]
    rw [if_neg h0] at h
    rw [← h, equal_refl a hl, bnd_pure, cnd_true, decide_eq_true hb]

theorem whereStopsS (t : List T_where_Fix) (m s : Int) {φ ψ χ : Prop} (_ : φ) (_ : ψ) (_ : χ) : Law_WhereStops t m s = some true := by
  have parts : ∀ a b, where_checkParts t a b = some (firstS [trackE t, metresS a, momE b]) := by
    intro a b
    unfold where_checkParts
    rw [CheckTrack_eq, bnd_pure, cnd_if, outside_eq, isMoment_eq]
    simp only [bnd_pure, firstS]
    by_cases h1 : trackE t = 0
    · rw [if_neg (fun h => h h1), if_pos h1, cnd_if]
      unfold metresS momE
      by_cases h2 : 0 ≤ a ∧ a ≤ 30000000
      · rw [if_neg (by omega), if_pos h2, if_pos rfl]
        by_cases h3 : 0 ≤ b ∧ b ≤ 6311433599
        · rw [decide_eq_true h3, if_pos h3]; rfl
        · rw [decide_eq_false h3, if_neg h3]; rfl
      · rw [if_pos (by omega), if_neg h2, if_neg (by decide)]
    · rw [if_pos h1, if_neg h1]
  unfold Law_WhereStops where_Stops where_Trips
  rw [parts, bnd_pure, R_TrackFault_eq, metresFault_eq, momentFault_eq]
  simp only [bnd_pure]
  rw [Law_first_eq _ (by simp)]
  simp only [bnd_pure, cnd_if]
  by_cases h : firstS [trackE t, metresS m, momE s] = 0
  · have h1 : trackE t = 0 := by
      simp only [firstS] at h
      split at h
      · assumption
      · rename_i h1; exact absurd h h1
    obtain ⟨r1, g1, g2, g3⟩ := stops_same (track_ok h1) (m := m) (s := s)
    obtain ⟨r2, k1, k2, k3⟩ := trips_same (track_ok h1) (g := s) (m := m)
    rw [h]
    simp only [ne_eq, not_true_eq_false, if_false, if_true]
    rw [g2, bnd_pure, bnd_pure, k2, bnd_pure, bnd_pure, g3, bnd_pure, k3, bnd_pure]
    unfold Law_WhereStops_j1
    rw [listed_ok (by simp) rfl (by simp only; omega), bnd_pure, cnd_true, listed_ok (by simp) rfl (by simp only; omega), bnd_pure]
  · simp only [if_pos h, bnd_pure, if_neg h]
    unfold Law_WhereStops_j1
    rw [listed_ok (by simp) rfl (by simp), bnd_pure, cnd_true, bnd_pure]

end Go.M
