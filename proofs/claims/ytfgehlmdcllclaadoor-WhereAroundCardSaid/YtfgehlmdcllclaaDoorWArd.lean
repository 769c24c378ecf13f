/- The law WhereAround in plain Lean: each place that is at most so far away is in the box. Conditions: none. -/
import Derived.Test.YtfgehlmdcllclaaDoorWP
import Derived.KernelRfl
namespace Go.M
open Go.Md Go.Pl Go.Vc.Where

theorem awake_eq : Keep_awakeWhere = some true := by kernel_rfl

/-! ### the cosine falls to both sides -/

theorem sq_le {a b : Int} (h1 : -b ≤ a) (h2 : a ≤ b) : a * a ≤ b * b := by
  rcases Int.le_total 0 a with h | h
  · exact sq_mono h h2
  · have := sq_mono (show 0 ≤ -a by omega) (show -a ≤ b by omega)
    rwa [Int.neg_mul_neg] at this

theorem cosN_anti {a b : Int} (hb : -900000 ≤ b ∧ b ≤ 900000) (h : a * a ≤ b * b) : cosN b ≤ cosN a := by
  obtain ⟨b1, b2⟩ := sq_bd hb
  have a1 : 0 ≤ a * a := by
    rcases Int.le_total 0 a with h | h
    · exact Int.mul_nonneg h h
    · have := Int.mul_nonneg (show 0 ≤ -a by omega) (show 0 ≤ -a by omega)
      rwa [Int.neg_mul_neg] at this
  unfold cosN
  rw [four, four]
  generalize a * a = x at *
  generalize b * b = y at *
  rw [Int.tdiv_eq_ediv_of_nonneg (by omega), Int.tdiv_eq_ediv_of_nonneg (by omega)]
  -- (A - 4y) M / (A + y) ≤ (A - 4x) M / (A + x)
  have h1 : (3240000000000 - 4 * y) * 1000000 / (3240000000000 + y) ≤ (3240000000000 - 4 * x) * 1000000 / (3240000000000 + y) := Int.ediv_le_ediv (by omega) (by omega)
  have h2 : (3240000000000 - 4 * x) * 1000000 / (3240000000000 + y) ≤ (3240000000000 - 4 * x) * 1000000 / (3240000000000 + x) := by
    refine (Int.le_ediv_iff_mul_le (by omega)).2 ?_
    have h3 : (3240000000000 - 4 * x) * 1000000 / (3240000000000 + y) * (3240000000000 + y) ≤ (3240000000000 - 4 * x) * 1000000 := Int.ediv_mul_le _ (by omega)
    have h4 : 0 ≤ (3240000000000 - 4 * x) * 1000000 / (3240000000000 + y) := Int.ediv_nonneg (by omega) (by omega)
    have h5 : (3240000000000 - 4 * x) * 1000000 / (3240000000000 + y) * (3240000000000 + x) ≤ (3240000000000 - 4 * x) * 1000000 / (3240000000000 + y) * (3240000000000 + y) := Int.mul_le_mul_of_nonneg_left (by omega) h4
    omega
  omega

theorem tdiv100_mono {x y : Int} (h : x ≤ y) : x.tdiv 100 ≤ y.tdiv 100 := by
  have key : ∀ z : Int, z.tdiv 100 = if 0 ≤ z then z / 100 else -((-z) / 100) := by
    intro z
    split
    · rw [Int.tdiv_eq_ediv_of_nonneg (by assumption)]
    · rw [← Int.tdiv_eq_ediv_of_nonneg (by omega), Int.neg_tdiv]; omega
  rw [key, key]
  repeat' split
  all_goals omega

theorem cos_min {s m n : Int} (hs : -90000000 ≤ s) (h1 : s ≤ m) (h2 : m ≤ n) (hn : n ≤ 90000000) : min (cosS s) (cosS n) ≤ cosS m := by
  have d1 := tdiv100_mono h1
  have d2 := tdiv100_mono h2
  have bs := tdiv100 (x := s) (by omega)
  have bn := tdiv100 (x := n) (by omega)
  unfold cosS
  generalize s.tdiv 100 = a at *
  generalize m.tdiv 100 = b at *
  generalize n.tdiv 100 = c at *
  by_cases h : -c ≤ b
  · have := cosN_anti (a := b) (b := c) bn (sq_le (by omega) (by omega))
    omega
  · have hneg : b * b ≤ a * a := by
      have := sq_le (a := b) (b := -a) (by omega) (by omega)
      rwa [Int.neg_mul_neg] at this
    have := cosN_anti (a := b) (b := a) bs hneg
    omega

/-! ### boxes -/

theorem isLat_eq (n : Int) : where_isLat n = some (decide (-90000000 ≤ n ∧ n ≤ 90000000)) := by
  unfold where_isLat
  rw [outside_eq, bnd_pure, ← decide_not]
  congr 2
  simp only [eq_iff_iff]; omega
theorem isLon_eq (n : Int) : where_isLon n = some (decide (-180000000 ≤ n ∧ n ≤ 179999999)) := by
  unfold where_isLon
  rw [outside_eq, bnd_pure, ← decide_not]
  congr 2
  simp only [eq_iff_iff]; omega

theorem CheckBox_ok {b : T_where_Box} (h1 : -90000000 ≤ b.South ∧ b.South ≤ b.North ∧ b.North ≤ 90000000) (h2 : LON b.West) (h3 : LON b.East) : where_CheckBox b = some 0 := by
  unfold LON at h2 h3
  unfold where_CheckBox
  rw [isLat_eq, bnd_pure, decide_eq_true (by omega), Bool.not_true, cnd_false, isLat_eq, bnd_pure, decide_eq_true (by omega), Bool.not_true, cnd_false, isLon_eq, bnd_pure, decide_eq_true (by omega), Bool.not_true, cnd_false, isLon_eq, bnd_pure, decide_eq_true (by omega), Bool.not_true, cnd_false, cnd_if, if_neg (by omega)]

theorem In_ok {b : T_where_Box} {q : T_api_Place} (h1 : -90000000 ≤ b.South ∧ b.South ≤ b.North ∧ b.North ≤ 90000000) (h2 : LON b.West) (h3 : LON b.East) (hq : PL q) (h4 : b.South ≤ q.Lat ∧ q.Lat ≤ b.North) (h5 : eastS b.West q.Lon ≤ eastS b.West b.East) : where_In b q = some (true, 0) := by
  unfold where_In
  have hz := PL_iff.2 hq
  unfold LON at h2 h3
  obtain ⟨q1, q2⟩ := hq
  rw [CheckBox_ok h1 h2 h3, bnd_pure, cnd_if, if_neg (by decide), CheckPlace_eq, bnd_pure, hz, cnd_if, if_neg (by decide), outside_eq, bnd_pure, decide_eq_false (by omega), Bool.not_false, cnd_true]
  unfold where_Box_spans
  rw [east_eq (by omega) (by omega), bnd_pure, east_eq (by omega) (by omega), bnd_pure, bnd_pure, decide_eq_true h5]

theorem In_fine {b : T_where_Box} {q : T_api_Place} (h1 : -90000000 ≤ b.South ∧ b.South ≤ b.North ∧ b.North ≤ 90000000) (h2 : LON b.West) (h3 : LON b.East) (hq : PL q) : ∃ x, where_In b q = some (x, 0) := by
  unfold where_In
  have hz := PL_iff.2 hq
  unfold LON at h2 h3
  obtain ⟨q1, q2⟩ := hq
  rw [CheckBox_ok h1 h2 h3, bnd_pure, cnd_if, if_neg (by decide), CheckPlace_eq, bnd_pure, hz, cnd_if, if_neg (by decide), outside_eq, bnd_pure]
  by_cases h : q.Lat < b.South ∨ b.North < q.Lat
  · rw [decide_eq_true h]; exact ⟨false, rfl⟩
  · rw [decide_eq_false h, Bool.not_false, cnd_true]
    unfold where_Box_spans
    rw [east_eq (by omega) (by omega), bnd_pure, east_eq (by omega) (by omega), bnd_pure, bnd_pure]
    exact ⟨_, rfl⟩

/-- What is known of two places that are at most so far from each other. -/
theorem near {p q : T_api_Place} (hp : PL p) (hq : PL q) {n : Int} (hn : 0 ≤ n ∧ n ≤ 30000000) (h : distP p q ≤ n) :
    (-(reachS n - 1) ≤ q.Lat - p.Lat ∧ q.Lat - p.Lat ≤ reachS n - 1) ∧ -(reachS n - 1) ≤ xwayS p.Lat p.Lon q.Lat q.Lon ∧ xwayS p.Lat p.Lon q.Lat q.Lon ≤ reachS n - 1 := by
  obtain ⟨p1, p2⟩ := hp
  obtain ⟨q1, q2⟩ := hq
  unfold distP distS at h
  obtain ⟨x1, x2⟩ := xway_bd (lo1 := p.Lon) (lo2 := q.Lon) p1 q1
  have hy := sqb (x := q.Lat - p.Lat) (by omega)
  have hx := sqb x2
  generalize hY : q.Lat - p.Lat = y at *
  generalize hX : xwayS p.Lat p.Lon q.Lat q.Lon = x at *
  have hr := root_bd (n := y * y + x * x) (by omega)
  obtain ⟨r0, r1, r2⟩ := root_spec (n := y * y + x * x) (by omega)
  generalize rootS (y * y + x * x) = r at *
  rw [Int.tdiv_eq_ediv_of_nonneg (by omega)] at h
  have hrr : r ≤ reachS n - 1 := by
    unfold reachS
    rw [Int.tdiv_eq_ediv_of_nonneg (by omega)]
    omega
  have bound : ∀ z : Int, z * z ≤ y * y + x * x → -r ≤ z ∧ z ≤ r := by
    intro z hz
    have hz2 : z * z < (r + 1) * (r + 1) := by omega
    have u1 : z < r + 1 := sq_cancel (by omega) hz2
    have u2 : -z < r + 1 := sq_cancel (by omega) (by rw [Int.neg_mul_neg]; exact hz2)
    omega
  have b1 := bound y (by omega)
  have b2 := bound x (by omega)
  omega

theorem lon_in {w l X : Int} (hl : LON l) (hX : 0 ≤ X ∧ X < 180000000) (hs : -X ≤ shortS w l ∧ shortS w l ≤ X) (hw : LON w) : eastS (wrapS (w - X)) l ≤ eastS (wrapS (w - X)) (wrapS (w + X)) := by
  unfold LON at hl hw
  unfold shortS at hs
  unfold eastS wrapS at *
  split at hs <;> omega

theorem around_box {p q : T_api_Place} (hp : PL p) (hq : PL q) {n : Int} (hn : 0 ≤ n ∧ n ≤ 30000000) :
    ∃ b, where_Around p n = some (b, 0) ∧ (∃ x, where_In b q = some (x, 0)) ∧ (distP p q ≤ n → where_In b q = some (true, 0)) := by
  obtain ⟨r1, r2⟩ := reach_bd hn
  have hp' := hp
  have hq' := hq
  obtain ⟨p1, p2⟩ := hp
  obtain ⟨q1, q2⟩ := hq
  have hS : -90000000 ≤ max (p.Lat - reachS n) (-90000000) ∧ max (p.Lat - reachS n) (-90000000) ≤ p.Lat ∧ p.Lat ≤ min (p.Lat + reachS n) 90000000 ∧ min (p.Lat + reachS n) 90000000 ≤ 90000000 := by omega
  have c1 := cosS_bd (x := max (p.Lat - reachS n) (-90000000)) (by omega)
  have c2 := cosS_bd (x := min (p.Lat + reachS n) 90000000) (by omega)
  -- the walk through Around
  have hA : where_Around p n = (if min (cosS (max (p.Lat - reachS n) (-90000000))) (cosS (min (p.Lat + reachS n) 90000000)) = 0 then some (⟨max (p.Lat - reachS n) (-90000000), -180000000, min (p.Lat + reachS n) 90000000, 179999999⟩, 0)
      else if (reachS n * 1000000).tdiv (min (cosS (max (p.Lat - reachS n) (-90000000))) (cosS (min (p.Lat + reachS n) 90000000))) + 1 < 180000000 then some (⟨max (p.Lat - reachS n) (-90000000), wrapS (p.Lon - ((reachS n * 1000000).tdiv (min (cosS (max (p.Lat - reachS n) (-90000000))) (cosS (min (p.Lat + reachS n) 90000000))) + 1)), min (p.Lat + reachS n) 90000000, wrapS (p.Lon + ((reachS n * 1000000).tdiv (min (cosS (max (p.Lat - reachS n) (-90000000))) (cosS (min (p.Lat + reachS n) 90000000))) + 1))⟩, 0)
      else some (⟨max (p.Lat - reachS n) (-90000000), -180000000, min (p.Lat + reachS n) 90000000, 179999999⟩, 0)) := by
    unfold where_Around where_Around_j1
    have hr : ((n + 1) * 1000000).tdiv 111195 + 1 = reachS n := rfl
    have hrb : 0 ≤ ((n + 1) * 1000000).tdiv 111195 ∧ ((n + 1) * 1000000).tdiv 111195 ≤ 299999999 := by omega
    rw [CheckPlace_eq, bnd_pure, PL_iff.2 hp', cnd_if, if_neg (by decide), outside_eq, bnd_pure, decide_eq_false (by omega), cnd_false, gI_ok (by omega), bnd_pure, gI_ok (by omega), bnd_pure, gQuo_ok (by omega) (by omega), bnd_pure, gI_ok (by omega), bnd_pure, hr, gI_ok (by omega), bnd_pure, gI_ok (by omega), bnd_pure, cosine_eq (by omega), bnd_pure, cosine_eq (by omega), bnd_pure, cnd_if]
    have hc0 : 0 ≤ min (cosS (max (p.Lat - reachS n) (-90000000))) (cosS (min (p.Lat + reachS n) 90000000)) := by omega
    generalize min (cosS (max (p.Lat - reachS n) (-90000000))) (cosS (min (p.Lat + reachS n) 90000000)) = c at *
    by_cases h0 : c = 0
    · rw [if_pos h0, if_pos h0]
    · rw [if_neg h0, if_neg h0]
      have hx := x_bd (r := reachS n) (c := c) ⟨r1, r2⟩ (by omega)
      rw [gI_ok (by omega), bnd_pure, gQuo_ok (by omega) (by omega), bnd_pure, gI_ok (by omega), bnd_pure, cnd_if]
      by_cases h1 : (reachS n * 1000000).tdiv c + 1 < 180000000
      · rw [if_pos h1, if_pos h1, gI_ok (by omega), bnd_pure, wrap_eq (by omega), bnd_pure, gI_ok (by omega), bnd_pure, wrap_eq (by omega), bnd_pure]
      · rw [if_neg h1, if_neg h1]
  have hc : 0 ≤ min (cosS (max (p.Lat - reachS n) (-90000000))) (cosS (min (p.Lat + reachS n) 90000000)) := by omega
  have latIn : distP p q ≤ n → max (p.Lat - reachS n) (-90000000) ≤ q.Lat ∧ q.Lat ≤ min (p.Lat + reachS n) 90000000 := by
    intro h
    have := (near hp' hq' hn h).1
    omega
  have full : (∃ x, where_In ⟨max (p.Lat - reachS n) (-90000000), -180000000, min (p.Lat + reachS n) 90000000, 179999999⟩ q = some (x, 0)) ∧ (distP p q ≤ n → where_In ⟨max (p.Lat - reachS n) (-90000000), -180000000, min (p.Lat + reachS n) 90000000, 179999999⟩ q = some (true, 0)) := by
    have l1 : LON (-180000000) := by unfold LON; omega
    have l2 : LON 179999999 := by unfold LON; omega
    refine ⟨In_fine (by simp only; omega) l1 l2 hq', fun h => In_ok (by simp only; omega) l1 l2 hq' (latIn h) ?_⟩
    simp only
    unfold eastS
    omega
  by_cases h0 : min (cosS (max (p.Lat - reachS n) (-90000000))) (cosS (min (p.Lat + reachS n) 90000000)) = 0
  · rw [if_pos h0] at hA
    exact ⟨_, hA, full⟩
  · rw [if_neg h0] at hA
    by_cases h1 : (reachS n * 1000000).tdiv (min (cosS (max (p.Lat - reachS n) (-90000000))) (cosS (min (p.Lat + reachS n) 90000000))) + 1 < 180000000
    · rw [if_pos h1] at hA
      refine ⟨_, hA, In_fine (by simp only; omega) (wrap_bd _) (wrap_bd _) hq', fun h => In_ok (by simp only; omega) (wrap_bd _) (wrap_bd _) hq' (latIn h) ?_⟩
      simp only
      have hx := x_bd (r := reachS n) ⟨r1, r2⟩ hc
      refine lon_in q2 (by omega) ?_ p2
      -- the way along the parallel is short enough
      obtain ⟨⟨n1, n2⟩, n3, n4⟩ := near hp' hq' hn h
      have hmid : min (cosS (max (p.Lat - reachS n) (-90000000))) (cosS (min (p.Lat + reachS n) 90000000)) ≤ cosS ((p.Lat + q.Lat) / 2) := cos_min (by omega) (by have := latIn h; omega) (by have := latIn h; omega) (by omega)
      have hcm := cosS_bd (x := (p.Lat + q.Lat) / 2) (by omega)
      unfold xwayS at n3 n4
      generalize min (cosS (max (p.Lat - reachS n) (-90000000))) (cosS (min (p.Lat + reachS n) 90000000)) = c at *
      generalize cosS ((p.Lat + q.Lat) / 2) = d at *
      have hs := short_bd p.Lon q.Lon
      generalize shortS p.Lon q.Lon = s at *
      generalize reachS n = r at *
      have key : ∀ z : Int, 0 ≤ z → (z * d).tdiv 1000000 ≤ r - 1 → z ≤ (r * 1000000).tdiv c := by
        intro z hz hh
        rw [Int.tdiv_eq_ediv_of_nonneg (Int.mul_nonneg hz (by omega))] at hh
        rw [Int.tdiv_eq_ediv_of_nonneg (by omega)]
        refine (Int.le_ediv_iff_mul_le (by omega)).2 ?_
        have : z * c ≤ z * d := Int.mul_le_mul_of_nonneg_left hmid hz
        omega
      rcases Int.le_total 0 s with h2 | h2
      · have := key s h2 n4
        omega
      · have := key (-s) (by omega) (by rw [Int.neg_mul, Int.neg_tdiv]; omega)
        omega
    · rw [if_neg h1] at hA
      exact ⟨_, hA, full⟩

theorem around_no {p : T_api_Place} (hp : PL p) {n : Int} (hn : ¬ (0 ≤ n ∧ n ≤ 30000000)) : ∃ b, where_Around p n = some (b, 2) := by
  unfold where_Around
  rw [CheckPlace_eq, bnd_pure, PL_iff.2 hp, cnd_if, if_neg (by decide), outside_eq, bnd_pure, decide_eq_true (by omega), cnd_true]
  exact ⟨_, rfl⟩

theorem checkPlaces2 (p q : T_api_Place) : where_checkPlaces [p, q] = some (if placeS p.Lat p.Lon = 0 then placeS q.Lat q.Lon else placeS p.Lat p.Lon) := by
  unfold where_checkPlaces
  have key := scan (F := fun next1 s => where_checkPlaces_l1 [p, q] next1 s) 2 (fun k => placeS (([p, q] : List T_api_Place).getD k default).Lat (([p, q] : List T_api_Place).getD k default).Lon) (fun next k hk => by
    have hk' : k < ([p, q] : List T_api_Place).length := hk
    show where_checkPlaces_l1 [p, q] next k = _
    unfold where_checkPlaces_l1
    rw [cnd_if, if_pos (by simp only [List.length_cons, List.length_nil]; omega), gAt_nat hk', bnd_pure, CheckPlace_eq, bnd_pure, getD_of hk', cnd_if]
    by_cases h : placeS ([p, q][k]).Lat ([p, q][k]).Lon = 0
    · rw [if_neg (fun hh => hh h), if_pos h, gI_ok (by omega), bnd_pure]
    · rw [if_pos h, if_neg h]) (fun next => by
    show where_checkPlaces_l1 [p, q] next _ = _
    unfold where_checkPlaces_l1
    rw [cnd_if, if_neg (by simp)])
  rw [key]
  simp only [firstE]
  congr 1
  simp only [List.getD_cons_zero, List.getD_cons_succ]
  split
  · split <;> simp_all
  · rfl

theorem Distance_eq (p q : T_api_Place) : (PL p ∧ PL q ∧ where_Distance p q = some (distP p q, 0)) ∨ ∃ e, e ≠ 0 ∧ where_Distance p q = some (0, e) := by
  unfold where_Distance
  rw [checkPlaces2, bnd_pure, cnd_if]
  by_cases h1 : placeS p.Lat p.Lon = 0
  · by_cases h2 : placeS q.Lat q.Lon = 0
    · left
      rw [if_pos h1, h2, if_neg (by decide), dist_eq (PL_iff.1 h1) (PL_iff.1 h2), bnd_pure]
      exact ⟨PL_iff.1 h1, PL_iff.1 h2, rfl⟩
    · right
      rw [if_pos h1, if_pos h2]; exact ⟨_, h2, rfl⟩
  · right
    rw [if_neg h1, if_pos h1]; exact ⟨_, h1, rfl⟩

theorem whereAroundS (p q : T_api_Place) (m : Int) {φ ψ χ : Prop} (_ : φ) (_ : ψ) (_ : χ) : Keep_WhereAround p q m = some true := by
  unfold Keep_WhereAround
  rw [awake_eq, bnd_pure, Bool.not_true, cnd_false]
  rcases Distance_eq p q with ⟨hp, hq, hd⟩ | ⟨e, he, hd⟩
  · rw [hd, bnd_pure, cnd_if, if_neg (fun h => h rfl)]
    have hdb := dist_bd hp hq
    have step : ∀ (k : Nat) (n : Int) next, k < 2 → gAt ([m, distP p q] : List Int) (k : Int) = some n → Keep_WhereAround_l1 p q m (distP p q, 0) next k = next ((k : Int) + 1) := by
      intro k n next hk hn
      unfold Keep_WhereAround_l1 Keep_WhereAround_j2
      rw [cnd_if, if_pos (by omega), hn, bnd_pure]
      by_cases hr : 0 ≤ n ∧ n ≤ 30000000
      · obtain ⟨b, h1, ⟨x, h2⟩, h3⟩ := around_box hp hq hr
        rw [h1, bnd_pure, cnd_if, if_neg (fun h => h rfl)]
        by_cases hdn : distP p q ≤ n
        · rw [h3 hdn, bnd_pure, cnd_if, if_neg (fun h => h rfl), cnd_if, if_pos hdn, Bool.not_true, cnd_false, gI_ok (by omega), bnd_pure]
        · rw [h2, bnd_pure, cnd_if, if_neg (fun h => h rfl), cnd_if, if_neg hdn, gI_ok (by omega), bnd_pure]
      · obtain ⟨b, h1⟩ := around_no hp hr
        rw [h1, bnd_pure, cnd_if, if_pos (by decide : (2 : Int) ≠ 0), gI_ok (by omega), bnd_pure, cnd_if]
        split
        · rw [cnd_if, if_neg (by omega)]
        · rfl
    refine (fix_goto (F := fun next1 s => Keep_WhereAround_l1 p q m (distP p q, 0) next1 s) (a := ((0 : Nat) : Int)) (((0 : Nat) : Int) + 1) (fun next => step 0 m next (by omega) rfl)).trans ?_
    refine (fix_goto (F := fun next1 s => Keep_WhereAround_l1 p q m (distP p q, 0) next1 s) (a := ((1 : Nat) : Int)) (((1 : Nat) : Int) + 1) (fun next => step 1 (distP p q) next (by omega) rfl)).trans ?_
    refine fix_done fun next => ?_
    unfold Keep_WhereAround_l1
    rw [cnd_if, if_neg (by omega)]
  · rw [hd, bnd_pure, cnd_if, if_pos he]

end Go.M
