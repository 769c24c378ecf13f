/- What the models of package where and of its reference compute: places, ways, distances, tracks. Conditions: none. -/
import Derived.Test.YtinpjnlocahjjaaPl
import Derived.Test.YtinpjnlocahjjaaMW
import Derived.Test.YtinpjnlocahjjaaWherePlain
import Derived.Test.YtinpjnlocahjjaaSqrt
namespace Go.M
open Go.Md Go.Pl Go.Vc.Where

def PL (p : T_api_Place) : Prop := (-90000000 ≤ p.Lat ∧ p.Lat ≤ 90000000) ∧ -180000000 ≤ p.Lon ∧ p.Lon ≤ 179999999
theorem PL_iff {p : T_api_Place} : placeS p.Lat p.Lon = 0 ↔ PL p := by
  unfold placeS PL
  split
  · simp_all
  · simp_all

theorem outside_eq (a b c : Int) : where_outside a b c = some (decide (a < b ∨ c < a)) := by
  unfold where_outside
  rw [cnd_if]; by_cases h : a < b <;> simp [h]

theorem R_PlaceFault_eq (p : T_api_Place) : R_PlaceFault p = some (placeS p.Lat p.Lon) := by
  unfold R_PlaceFault placeS
  simp only [cnd_if]
  repeat' split
  all_goals first | rfl | omega

theorem CheckPlace_eq (p : T_api_Place) : where_CheckPlace p = some (placeS p.Lat p.Lon) := by
  unfold where_CheckPlace where_isLat where_isLon placeS
  simp only [outside_eq, bnd_pure]
  by_cases h1 : p.Lat < -90000000 ∨ 90000000 < p.Lat
  · rw [if_neg (by omega)]; simp [h1]
  · by_cases h2 : p.Lon < -180000000 ∨ 179999999 < p.Lon
    · rw [if_neg (by omega)]; simp [h1, h2]
    · rw [if_pos (by omega)]; simp [h1, h2]

theorem place_no {a b : Int} (h : placeS a b ≠ 0) : placeS a b = 2 := by unfold placeS at *; split <;> simp_all

def LON (a : Int) : Prop := -180000000 ≤ a ∧ a ≤ 179999999

theorem east_eq {f t : Int} (hf : -360000000 ≤ f ∧ f ≤ 360000000) (ht : -9000000000000 ≤ t ∧ t ≤ 9000000000000) : where_eastward f t = some (eastS f t) := by
  unfold where_eastward eastS
  have := tmod_bd (t - f)
  rw [gI_ok (by omega), bnd_pure, gRem_ok (by omega), bnd_pure, gI_ok (by omega), bnd_pure, gRem_ok (by omega), bnd_pure, east_rem]

theorem wrap_eq {t : Int} (ht : -9000000000000 ≤ t ∧ t ≤ 9000000000000) : where_wrap t = some (wrapS t) := by
  unfold where_wrap wrapS
  have := east_bd (-180000000) t
  rw [east_eq (by omega) ht, bnd_pure, gI_ok (by omega), bnd_pure]
  unfold eastS
  rw [show t - -180000000 = t + 180000000 from by omega]

theorem short_eq {f t : Int} (hf : LON f) (ht : LON t) : where_short f t = some (shortS f t) := by
  unfold LON at hf ht
  unfold where_short shortS
  have := east_bd f t
  rw [east_eq (by omega) (by omega), bnd_pure, cnd_if]
  split
  · rw [gI_ok (by omega), bnd_pure]
  · rfl

theorem R_east_eq {f t : Int} (hf : LON f) (ht : LON t) : R_eastward f t = some (eastS f t) := by
  unfold LON at hf ht
  unfold R_eastward eastS
  rw [gI_ok (by omega), bnd_pure, cnd_if]
  split
  · rw [gI_ok (by omega), bnd_pure]; congr 1; omega
  · congr 1; omega

theorem R_short_eq {f t : Int} (hf : LON f) (ht : LON t) : R_short f t = some (shortS f t) := by
  unfold R_short shortS
  have := east_bd f t
  rw [R_east_eq hf ht, bnd_pure, cnd_if]
  split
  · rw [gI_ok (by omega), bnd_pure]
  · rfl

theorem floor_eq {a b : Int} (hb : 0 < b) (ha : -9223372036854775807 ≤ a ∧ a ≤ 9223372036854775807) : where_floor a b = some (a / b) := by
  unfold where_floor
  have h := tdivmod a b hb
  have h2 := floor_in a b ha hb
  rw [gQuo_ok (by omega) ha, bnd_pure, gRem_ok (by omega), bnd_pure, cnd_if]
  split
  · rename_i hn
    have h3 := h.1 hn
    have h4 : -9223372036854775807 ≤ a / b := by
      have : -9223372036854775807 * b ≤ a := by
        have : -9223372036854775807 * b ≤ -9223372036854775807 * 1 := Int.mul_le_mul_of_nonpos_left (by omega) (by omega)
        omega
      exact (Int.le_ediv_iff_mul_le hb).2 this
    rw [gI_ok (by omega), bnd_pure, h3]
  · rename_i hn; rw [h.2 hn]

theorem R_down_eq {a b : Int} (hb : 0 < b) (ha : -9223372036854775807 ≤ a ∧ a ≤ 9223372036854775807) : R_down a b = some (a / b) := by
  unfold R_down
  have h := tdivmod a b hb
  have h1 := tmod_sign a b hb
  have h2 := floor_in a b ha hb
  rw [gQuo_ok (by omega) ha, bnd_pure, gRem_ok (by omega), bnd_pure, cnd_if]
  by_cases h0 : a.tmod b = 0
  · rw [if_neg (by omega), h.2 (by omega)]
  · rw [if_pos h0, cnd_if]
    have hbn : ¬ b < 0 := by omega
    by_cases hn : a.tmod b < 0
    · have h3 := h.1 hn
      have h4 : -9223372036854775807 ≤ a / b := by
        have : -9223372036854775807 * b ≤ a := by
          have : -9223372036854775807 * b ≤ -9223372036854775807 * 1 := Int.mul_le_mul_of_nonpos_left (by omega) (by omega)
          omega
        exact (Int.le_ediv_iff_mul_le hb).2 this
      rw [if_pos (by simp [h1.1 hn, hbn]), gI_ok (by omega), bnd_pure, h3]
    · have : ¬ a < 0 := by have := h1.2 (by omega); omega
      rw [if_neg (by simp [this, hbn]), h.2 hn]

/-! ### roots -/

/-! ### distances, places between -/

def distP (p q : T_api_Place) : Int := distS p.Lat p.Lon q.Lat q.Lon
def betwP (p q : T_api_Place) (a b : Int) : T_api_Place := ⟨(betwS p.Lat p.Lon q.Lat q.Lon a b).1, (betwS p.Lat p.Lon q.Lat q.Lon a b).2⟩

theorem dist_bd {p q : T_api_Place} (hp : PL p) (hq : PL q) : 0 ≤ distP p q ∧ distP p q ≤ 28400000 := by
  obtain ⟨p1, p2⟩ := hp
  obtain ⟨q1, q2⟩ := hq
  unfold distP distS
  obtain ⟨x1, x2⟩ := xway_bd (lo1 := p.Lon) (lo2 := q.Lon) p1 q1
  have hy := sqb (x := q.Lat - p.Lat) (by omega)
  have hx := sqb x2
  have hr := root_bd (n := (q.Lat - p.Lat) * (q.Lat - p.Lat) + xwayS p.Lat p.Lon q.Lat q.Lon * xwayS p.Lat p.Lon q.Lat q.Lon) (by omega)
  rw [Int.tdiv_eq_ediv_of_nonneg (by omega)]
  omega

theorem share_in {d p q A : Int} (hd : -A ≤ d ∧ d ≤ A) (hp : 0 ≤ p ∧ p ≤ q) (hq : 1 ≤ q ∧ q ≤ 6311433599) (hA : 0 ≤ A ∧ A ≤ 1000000000) : -6311433599000000000 ≤ d * p ∧ d * p ≤ 6311433599000000000 := by
  have h := mul_bd hd hp hA.1
  have h1 : A * q ≤ 1000000000 * 6311433599 := Int.mul_le_mul hA.2 hq.2 (by omega) (by omega)
  omega

theorem between_eq {p q : T_api_Place} {a b : Int} (hp : PL p) (hq : PL q) (hb : 1 ≤ b ∧ b ≤ 6311433599) (ha : 0 ≤ a ∧ a ≤ b) : where_between p q a b = some (betwP p q a b) := by
  obtain ⟨p1, p2⟩ := hp
  obtain ⟨q1, q2⟩ := hq
  unfold where_between betwP betwS
  have hs := short_bd p.Lon q.Lon
  have h1 := share_bd (d := q.Lat - p.Lat) (A := 180000000) (by omega) ha hb.1 (by omega)
  have h2 := share_bd (d := shortS p.Lon q.Lon) (A := 180000000) (by omega) ha hb.1 (by omega)
  have h3 := share_in (d := q.Lat - p.Lat) (A := 180000000) (by omega) ha hb (by omega)
  have h4 := share_in (d := shortS p.Lon q.Lon) (A := 180000000) (by omega) ha hb (by omega)
  rw [gI_ok (by omega), bnd_pure, gI_ok (by omega), bnd_pure, floor_eq (by omega) (by omega), bnd_pure, gI_ok (by omega), bnd_pure, short_eq p2 q2, bnd_pure, gI_ok (by omega), bnd_pure, floor_eq (by omega) (by omega), bnd_pure, gI_ok (by omega), bnd_pure, wrap_eq (by omega), bnd_pure]

theorem R_lon_eq {n : Int} (h : -540000000 ≤ n ∧ n ≤ 540000000) : R_lon n = some (wrapS n) := by
  have down : ∀ n : Int, -180000000 ≤ n ∧ n ≤ 540000000 → R_lon_j1 n = some (wrapS n) := by
    intro n hn
    unfold R_lon_j1
    refine fix_of (F := fun next2 s => R_lon_l2 next2 s) (fun n => some (wrapS n)) (fun n => -180000000 ≤ n ∧ n ≤ 540000000) (fun n => (n + 180000000).toNat) (fun next n hn ih => ?_) n hn
    show R_lon_l2 next n = _
    unfold R_lon_l2
    rw [cnd_if]
    split
    · rw [gI_ok (by omega), bnd_pure, ih (n - 360000000) (by omega) (by omega)]; unfold wrapS; congr 1; omega
    · unfold wrapS; congr 1; omega
  unfold R_lon
  refine fix_of (F := fun next3 s => R_lon_l3 next3 s) (fun n => some (wrapS n)) (fun n => -540000000 ≤ n ∧ n ≤ 540000000) (fun n => (540000000 - n).toNat) (fun next n hn ih => ?_) n h
  show R_lon_l3 next n = _
  unfold R_lon_l3
  rw [cnd_if]
  split
  · rw [gI_ok (by omega), bnd_pure, ih (n + 360000000) (by omega) (by omega)]; unfold wrapS; congr 1; omega
  · exact down n (by omega)

theorem R_between_eq {p q : T_api_Place} {a b : Int} (hp : PL p) (hq : PL q) (hb : 1 ≤ b ∧ b ≤ 6311433599) (ha : 0 ≤ a ∧ a ≤ b) : R_BetweenOf p q a b = some (betwP p q a b) := by
  obtain ⟨p1, p2⟩ := hp
  obtain ⟨q1, q2⟩ := hq
  unfold R_BetweenOf R_share betwP betwS
  have hs := short_bd p.Lon q.Lon
  have h1 := share_bd (d := q.Lat - p.Lat) (A := 180000000) (by omega) ha hb.1 (by omega)
  have h2 := share_bd (d := shortS p.Lon q.Lon) (A := 180000000) (by omega) ha hb.1 (by omega)
  have h3 := share_in (d := q.Lat - p.Lat) (A := 180000000) (by omega) ha hb (by omega)
  have h4 := share_in (d := shortS p.Lon q.Lon) (A := 180000000) (by omega) ha hb (by omega)
  rw [gI_ok (by omega), bnd_pure, gI_ok (by omega), bnd_pure, R_down_eq (by omega) (by omega), bnd_pure, bnd_pure, gI_ok (by omega), bnd_pure, R_short_eq p2 q2, bnd_pure, gI_ok (by omega), bnd_pure, R_down_eq (by omega) (by omega), bnd_pure, bnd_pure, gI_ok (by omega), bnd_pure, R_lon_eq (by omega), bnd_pure]

/-- Each place between two of one latitude range is a place. -/
theorem betw_PL {p q : T_api_Place} {a b : Int} (hp : PL p) (hq : PL q) (hb : 1 ≤ b) (ha : 0 ≤ a ∧ a ≤ b) : PL (betwP p q a b) := by
  obtain ⟨p1, p2⟩ := hp
  obtain ⟨q1, q2⟩ := hq
  refine ⟨?_, wrap_bd _⟩
  simp only [betwP, betwS]
  -- the latitude lies between both
  have key : ∀ d : Int, (0 ≤ d → 0 ≤ d * a / b ∧ d * a / b ≤ d) ∧ (d ≤ 0 → d ≤ d * a / b ∧ d * a / b ≤ 0) := by
    intro d
    have hba : 0 < b := by omega
    refine ⟨fun h => ⟨Int.ediv_nonneg (Int.mul_nonneg h ha.1) (by omega), Int.ediv_le_of_le_mul hba (Int.mul_le_mul_of_nonneg_left ha.2 h)⟩, fun h => ⟨(Int.le_ediv_iff_mul_le hba).2 (Int.mul_le_mul_of_nonpos_left h ha.2), ?_⟩⟩
    have : d * a ≤ 0 * b := by rw [Int.zero_mul]; exact Int.mul_nonpos_of_nonpos_of_nonneg h ha.1
    exact Int.ediv_le_of_le_mul hba this
  have := key (q.Lat - p.Lat)
  rcases Int.le_total 0 (q.Lat - p.Lat) with h | h
  · have := this.1 h; omega
  · have := this.2 h; omega

/-! ### tracks -/

def fixE (t : List T_where_Fix) (k : Nat) : Int :=
  if 0 ≤ (t.getD k default).Moment ∧ (t.getD k default).Moment ≤ 6311433599 then
    (if placeS (t.getD k default).Place.Lat (t.getD k default).Place.Lon = 0 then (if 0 < k ∧ (t.getD k default).Moment ≤ (t.getD (k - 1) default).Moment then 5 else 0) else placeS (t.getD k default).Place.Lat (t.getD k default).Place.Lon)
  else 2
def trackE (t : List T_where_Fix) : Int := if 2000 < (t.length : Int) then 4 else firstE (fixE t) t.length 0

theorem getD_of {α : Type} [Inhabited α] {t : List α} {k : Nat} (h : k < t.length) : t.getD k default = t[k] := by
  rw [List.getD_eq_getElem?_getD, List.getElem?_eq_getElem h]; rfl

theorem fixE_m {t : List T_where_Fix} {k : Nat} (hk : k < t.length) (h : ¬ (0 ≤ t[k].Moment ∧ t[k].Moment ≤ 6311433599)) : fixE t k = 2 := by
  unfold fixE; rw [getD_of hk, if_neg h]
theorem fixE_p {t : List T_where_Fix} {k : Nat} (hk : k < t.length) (h : 0 ≤ t[k].Moment ∧ t[k].Moment ≤ 6311433599) (h2 : ¬ placeS t[k].Place.Lat t[k].Place.Lon = 0) : fixE t k = placeS t[k].Place.Lat t[k].Place.Lon := by
  unfold fixE; rw [getD_of hk, if_pos h, if_neg h2]
theorem fixE_o {t : List T_where_Fix} {k : Nat} (hk : k < t.length) (h : 0 ≤ t[k].Moment ∧ t[k].Moment ≤ 6311433599) (h2 : placeS t[k].Place.Lat t[k].Place.Lon = 0) (h3 : 0 < k) (h4 : t[k].Moment ≤ t[k - 1].Moment) : fixE t k = 5 := by
  unfold fixE; rw [getD_of hk, if_pos h, if_pos h2, getD_of (by omega : k - 1 < t.length), if_pos ⟨h3, h4⟩]
theorem fixE_0 {t : List T_where_Fix} {k : Nat} (hk : k < t.length) (h : 0 ≤ t[k].Moment ∧ t[k].Moment ≤ 6311433599) (h2 : placeS t[k].Place.Lat t[k].Place.Lon = 0) (h3 : ∀ h : 0 < k, ¬ t[k].Moment ≤ t[k - 1].Moment) : fixE t k = 0 := by
  unfold fixE; rw [getD_of hk, if_pos h, if_pos h2, if_neg]
  rintro ⟨h5, h6⟩; rw [getD_of (by omega : k - 1 < t.length)] at h6; exact h3 h5 h6

theorem R_TrackFault_eq (t : List T_where_Fix) : R_TrackFault t = some (trackE t) := by
  unfold R_TrackFault trackE
  rw [cnd_if]
  split
  · rfl
  rename_i hl
  have key := scan (F := fun next1 s => R_TrackFault_l1 t next1 s) t.length (fixE t) (fun next k hk => by
    show R_TrackFault_l1 t next k = _
    unfold R_TrackFault_l1
    rw [cnd_if, if_pos (by omega), gAt_nat hk, bnd_pure, cnd_if, cnd_if, R_PlaceFault_eq, bnd_pure, cnd_if, cnd_if]
    by_cases h1 : 0 ≤ t[k].Moment ∧ t[k].Moment ≤ 6311433599
    · rw [if_neg (by omega), if_neg (by omega)]
      by_cases h2 : placeS t[k].Place.Lat t[k].Place.Lon = 0
      · rw [if_neg (fun h => h h2)]
        by_cases h3 : 0 < k
        · rw [if_pos (by omega), gI_ok (by omega), bnd_pure, show (k : Int) - 1 = ((k - 1 : Nat) : Int) from by omega, gAt_nat (by omega), bnd_pure, cnd_if]
          by_cases h4 : t[k].Moment ≤ t[k - 1].Moment
          · rw [if_pos h4, fixE_o hk h1 h2 h3 h4, if_neg (by decide)]
          · rw [if_neg h4, fixE_0 hk h1 h2 (fun _ => h4), if_pos rfl]; unfold R_TrackFault_j2; rw [gI_ok (by omega), bnd_pure]
        · rw [if_neg (by omega), fixE_0 hk h1 h2 (fun h => absurd h h3), if_pos rfl]; unfold R_TrackFault_j2; rw [gI_ok (by omega), bnd_pure]
      · rw [if_pos h2, fixE_p hk h1 h2, if_neg h2]
    · rw [fixE_m hk h1, if_neg (show ¬ (2 : Int) = 0 by decide)]
      by_cases h2 : t[k].Moment < 0
      · rw [if_pos h2]
      · rw [if_neg h2, if_pos (by omega)]) (fun next => by
    show R_TrackFault_l1 t next _ = _
    unfold R_TrackFault_l1
    rw [cnd_if, if_neg (by omega)])
  exact key

theorem isMoment_eq (m : Int) : where_isMoment m = some (decide (0 ≤ m ∧ m ≤ 6311433599)) := by
  unfold where_isMoment
  rw [outside_eq, bnd_pure]
  congr 1
  rw [← decide_not]
  congr 1
  simp only [eq_iff_iff]; omega

theorem CheckTrack_eq (t : List T_where_Fix) : where_CheckTrack t = some (trackE t) := by
  unfold where_CheckTrack trackE
  rw [cnd_if]
  split
  · rfl
  rename_i hl
  have key := scan (F := fun next1 s => where_CheckTrack_l1 t next1 s) t.length (fixE t) (fun next k hk => by
    show where_CheckTrack_l1 t next k = _
    unfold where_CheckTrack_l1
    rw [cnd_if, if_pos (by omega), gAt_nat hk, bnd_pure, isMoment_eq, bnd_pure, CheckPlace_eq, ← decide_not, cnd_if, bnd_pure, cnd_if, cnd_if]
    by_cases h1 : 0 ≤ t[k].Moment ∧ t[k].Moment ≤ 6311433599
    · rw [if_neg (fun h => h h1)]
      by_cases h2 : placeS t[k].Place.Lat t[k].Place.Lon = 0
      · rw [if_neg (fun h => h h2)]
        by_cases h3 : 0 < k
        · rw [if_pos (by omega), gI_ok (by omega), bnd_pure, show (k : Int) - 1 = ((k - 1 : Nat) : Int) from by omega, gAt_nat (by omega), bnd_pure, cnd_if]
          by_cases h4 : t[k].Moment ≤ t[k - 1].Moment
          · rw [if_pos h4, fixE_o hk h1 h2 h3 h4, if_neg (by decide)]
          · rw [if_neg h4, fixE_0 hk h1 h2 (fun _ => h4), if_pos rfl]; unfold where_CheckTrack_j2; rw [gI_ok (by omega), bnd_pure]
        · rw [if_neg (by omega), fixE_0 hk h1 h2 (fun h => absurd h h3), if_pos rfl]; unfold where_CheckTrack_j2; rw [gI_ok (by omega), bnd_pure]
      · rw [if_pos h2, fixE_p hk h1 h2, if_neg h2]
    · rw [if_pos h1, fixE_m hk h1, if_neg (show ¬ (2 : Int) = 0 by decide)]) (fun next => by
    show where_CheckTrack_l1 t next _ = _
    unfold where_CheckTrack_l1
    rw [cnd_if, if_neg (by omega)])
  exact key

/-- A right track. -/
structure TR (t : List T_where_Fix) : Prop where
  len : t.length ≤ 2000
  mom : ∀ k (h : k < t.length), 0 ≤ t[k].Moment ∧ t[k].Moment ≤ 6311433599
  pl : ∀ k (h : k < t.length), PL t[k].Place
  up : ∀ k (h : k + 1 < t.length), t[k].Moment < t[k + 1].Moment

theorem track_ok {t : List T_where_Fix} (h : trackE t = 0) : TR t := by
  unfold trackE at h
  split at h
  · cases h
  rename_i hl
  have hz := firstE_zero h
  have key : ∀ k (hk : k < t.length), (0 ≤ t[k].Moment ∧ t[k].Moment ≤ 6311433599) ∧ placeS t[k].Place.Lat t[k].Place.Lon = 0 ∧ ¬ (0 < k ∧ t[k].Moment ≤ (t.getD (k - 1) default).Moment) := by
    intro k hk
    have := hz k (by omega) (by omega)
    unfold fixE at this
    rw [getD_of hk] at this
    split at this
    · split at this
      · split at this
        · cases this
        · exact ⟨by assumption, by assumption, by assumption⟩
      · rename_i h1 h2; exact absurd this h2
    · cases this
  refine ⟨by omega, fun k hk => (key k hk).1, fun k hk => PL_iff.1 (key k hk).2.1, fun k hk => ?_⟩
  have := (key (k + 1) hk).2.2
  rw [Nat.add_sub_cancel, getD_of (by omega : k < t.length)] at this
  omega

theorem TR.lt {t : List T_where_Fix} (h : TR t) {i : Nat} : ∀ {j : Nat} (hij : i < j) (hj : j < t.length), t[i].Moment < t[j].Moment
  | 0, hij, _ => by omega
  | j + 1, hij, hj => by
    have := h.up j hj
    rcases Nat.lt_or_ge i j with h' | h'
    · have := h.lt h' (by omega); omega
    · have : i = j := by omega
      subst this; assumption

/-! ### small functions of the laws -/

theorem Law_first_eq (xs : List Int) (h : xs.length ≤ 1000000) : Law_first xs = some (firstS xs) := by
  have key := scan (F := fun next1 s => Law_first_l1 xs next1 s) xs.length (fun k => xs.getD k 0) (fun next k hk => by
    show Law_first_l1 xs next k = _
    unfold Law_first_l1
    rw [cnd_if, if_pos (by omega), gAt_nat hk, bnd_pure, cnd_if, show xs.getD k 0 = xs[k] from by rw [List.getD_eq_getElem?_getD, List.getElem?_eq_getElem hk]; rfl]
    by_cases h0 : xs[k] = 0
    · rw [if_neg (by simpa using h0), if_pos h0, gI_ok (by omega), bnd_pure]
    · rw [if_pos h0, if_neg h0]) (fun next => by
    show Law_first_l1 xs next _ = _
    unfold Law_first_l1
    rw [cnd_if, if_neg (by omega)])
  unfold Law_first
  rw [key]
  congr 1
  have gen : ∀ m k, k + m = xs.length → firstE (fun k => xs.getD k 0) m k = firstS (xs.drop k) := by
    intro m
    induction m with
    | zero => intro k hk; rw [List.drop_of_length_le (by omega)]; rfl
    | succ m ih =>
      intro k hk
      have hlt : k < xs.length := by omega
      rw [List.drop_eq_getElem_cons hlt]
      simp only [firstE, firstS]
      rw [show xs.getD k 0 = xs[k] from by rw [List.getD_eq_getElem?_getD, List.getElem?_eq_getElem hlt]; rfl, ih (k + 1) (by omega)]
  simpa using gen xs.length 0 (by omega)

theorem unless_eq (b : Bool) (e : Int) : Law_unless b e = some (if b = true then 0 else e) := by
  unfold Law_unless; cases b <;> rfl

def momE (m : Int) : Int := if 0 ≤ m ∧ m ≤ 6311433599 then 0 else 2
end Go.M
