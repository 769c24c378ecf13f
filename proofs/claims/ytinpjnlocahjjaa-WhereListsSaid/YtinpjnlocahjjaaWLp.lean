/- What the models of package where and of its reference compute: places, ways, distances, tracks. Conditions: none. -/
import Derived.Test.YtinpjnlocahjjaaPl
import Derived.Test.YtinpjnlocahjjaaMWl
import Derived.Test.YtinpjnlocahjjaaWherePlain
import Derived.Test.YtinpjnlocahjjaaSqrt
namespace Go.M
open Go.Md Go.Pl Go.Vc.Where

def PL (p : T_api_Place) : Prop := (-90000000 ≤ p.Lat ∧ p.Lat ≤ 90000000) ∧ -180000000 ≤ p.Lon ∧ p.Lon ≤ 179999999
theorem PL_iff {p : T_api_Place} : placeS p.Lat p.Lon = 0 ↔ PL p := by
  unfold placeS PL
  split
  · simp_all
  · simp_all

theorem outside_eq (a b c : Int) : where_outside a b c = some (decide (a < b ∨ c < a)) := by
  unfold where_outside
  rw [cnd_if]; by_cases h : a < b <;> simp [h]

theorem R_PlaceFault_eq (p : T_api_Place) : R_PlaceFault p = some (placeS p.Lat p.Lon) := by
  unfold R_PlaceFault placeS
  simp only [cnd_if]
  repeat' split
  all_goals first | rfl | omega

theorem CheckPlace_eq (p : T_api_Place) : where_CheckPlace p = some (placeS p.Lat p.Lon) := by
  unfold where_CheckPlace where_isLat where_isLon placeS
  simp only [outside_eq, bnd_pure]
  by_cases h1 : p.Lat < -90000000 ∨ 90000000 < p.Lat
  · rw [if_neg (by omega)]; simp [h1]
  · by_cases h2 : p.Lon < -180000000 ∨ 179999999 < p.Lon
    · rw [if_neg (by omega)]; simp [h1, h2]
    · rw [if_pos (by omega)]; simp [h1, h2]

theorem place_no {a b : Int} (h : placeS a b ≠ 0) : placeS a b = 2 := by unfold placeS at *; split <;> simp_all

def LON (a : Int) : Prop := -180000000 ≤ a ∧ a ≤ 179999999

theorem east_eq {f t : Int} (hf : -360000000 ≤ f ∧ f ≤ 360000000) (ht : -9000000000000 ≤ t ∧ t ≤ 9000000000000) : where_eastward f t = some (eastS f t) := by
  unfold where_eastward eastS
  have := tmod_bd (t - f)
  rw [gI_ok (by omega), bnd_pure, gRem_ok (by omega), bnd_pure, gI_ok (by omega), bnd_pure, gRem_ok (by omega), bnd_pure, east_rem]

theorem short_eq {f t : Int} (hf : LON f) (ht : LON t) : where_short f t = some (shortS f t) := by
  unfold LON at hf ht
  unfold where_short shortS
  have := east_bd f t
  rw [east_eq (by omega) (by omega), bnd_pure, cnd_if]
  split
  · rw [gI_ok (by omega), bnd_pure]
  · rfl

theorem R_east_eq {f t : Int} (hf : LON f) (ht : LON t) : R_eastward f t = some (eastS f t) := by
  unfold LON at hf ht
  unfold R_eastward eastS
  rw [gI_ok (by omega), bnd_pure, cnd_if]
  split
  · rw [gI_ok (by omega), bnd_pure]; congr 1; omega
  · congr 1; omega

theorem R_short_eq {f t : Int} (hf : LON f) (ht : LON t) : R_short f t = some (shortS f t) := by
  unfold R_short shortS
  have := east_bd f t
  rw [R_east_eq hf ht, bnd_pure, cnd_if]
  split
  · rw [gI_ok (by omega), bnd_pure]
  · rfl

theorem floor_eq {a b : Int} (hb : 0 < b) (ha : -9223372036854775807 ≤ a ∧ a ≤ 9223372036854775807) : where_floor a b = some (a / b) := by
  unfold where_floor
  have h := tdivmod a b hb
  have h2 := floor_in a b ha hb
  rw [gQuo_ok (by omega) ha, bnd_pure, gRem_ok (by omega), bnd_pure, cnd_if]
  split
  · rename_i hn
    have h3 := h.1 hn
    have h4 : -9223372036854775807 ≤ a / b := by
      have : -9223372036854775807 * b ≤ a := by
        have : -9223372036854775807 * b ≤ -9223372036854775807 * 1 := Int.mul_le_mul_of_nonpos_left (by omega) (by omega)
        omega
      exact (Int.le_ediv_iff_mul_le hb).2 this
    rw [gI_ok (by omega), bnd_pure, h3]
  · rename_i hn; rw [h.2 hn]

theorem R_down_eq {a b : Int} (hb : 0 < b) (ha : -9223372036854775807 ≤ a ∧ a ≤ 9223372036854775807) : R_down a b = some (a / b) := by
  unfold R_down
  have h := tdivmod a b hb
  have h1 := tmod_sign a b hb
  have h2 := floor_in a b ha hb
  rw [gQuo_ok (by omega) ha, bnd_pure, gRem_ok (by omega), bnd_pure, cnd_if]
  by_cases h0 : a.tmod b = 0
  · rw [if_neg (by omega), h.2 (by omega)]
  · rw [if_pos h0, cnd_if]
    have hbn : ¬ b < 0 := by omega
    by_cases hn : a.tmod b < 0
    · have h3 := h.1 hn
      have h4 : -9223372036854775807 ≤ a / b := by
        have : -9223372036854775807 * b ≤ a := by
          have : -9223372036854775807 * b ≤ -9223372036854775807 * 1 := Int.mul_le_mul_of_nonpos_left (by omega) (by omega)
          omega
        exact (Int.le_ediv_iff_mul_le hb).2 this
      rw [if_pos (by simp [h1.1 hn, hbn]), gI_ok (by omega), bnd_pure, h3]
    · have : ¬ a < 0 := by have := h1.2 (by omega); omega
      rw [if_neg (by simp [this, hbn]), h.2 hn]

theorem cosine_eq {a : Int} (h : -90000000 ≤ a ∧ a ≤ 90000000) : where_cosine a = some (cosS a) := by
  unfold where_cosine cosS cosN
  have h1 := tdiv100 h
  obtain ⟨h2, h3⟩ := sq_bd h1
  rw [gQuo_ok (by omega) (by omega), bnd_pure]
  generalize a.tdiv 100 = l at *
  rw [gI_ok (by omega), bnd_pure, four, gI_ok (by omega), bnd_pure, gI_ok (by omega), bnd_pure, gI_ok (by omega), bnd_pure, gI_ok (by omega), bnd_pure, gI_ok (by omega), bnd_pure, gQuo_ok (by omega) (by omega), bnd_pure]

theorem R_cosine_eq {a : Int} (h : -90000000 ≤ a ∧ a ≤ 90000000) : R_CosineOf a = some (cosS a) := (show R_CosineOf a = where_cosine a from rfl).trans (cosine_eq h)

/-! ### roots -/

theorem root_up {n : Int} (hn : 0 ≤ n ∧ n ≤ 64800000000000000) {k : Int} (hk : 0 ≤ k ∧ k * k ≤ n) : where_root_j1 n k = some (rootS n) := by
  unfold where_root_j1
  refine fix_of (F := fun next2 s => where_root_l2 n next2 s) (fun _ => some (rootS n)) (fun k => 0 ≤ k ∧ k * k ≤ n) (fun k => (254558443 - k).toNat) (fun next k ⟨h0, h1⟩ ih => ?_) k hk
  have hk := root28 h1 hn.2
  have hs := sq1073 (k := k + 1) (by omega)
  show where_root_l2 n next k = _
  unfold where_root_l2
  rw [gI_ok (by omega), bnd_pure, bnd_pure, gI_ok (by omega), bnd_pure, cnd_if]
  split
  · rename_i h; rw [bnd_pure]; exact ih (k + 1) ⟨by omega, h⟩ (by have := root28 h hn.2; omega)
  · rename_i h; rw [root_eq h0 h1 (by omega)]

theorem root_eqM {n : Int} (hn : 0 ≤ n ∧ n ≤ 64800000000000000) : where_root n = some (rootS n) := by
  obtain ⟨s, r, hs, hr, h0, h1⟩ := Go.Vc.Float.sqrt_int n.toNat (by omega)
  unfold where_root math_Sqrt gIF gSqrt gFI
  rw [if_pos hn.1, bnd_pure]
  rw [hs, bnd_pure, bnd_pure, hr, bnd_pure, gI_ok (by omega), bnd_pure]
  refine fix_of (F := fun next3 s => where_root_l3 n next3 s) (fun _ => some (rootS n)) (fun k => 0 ≤ k ∧ k ≤ 1073741824) (fun k => k.toNat) (fun next k hk ih => ?_) r ⟨h0, h1⟩
  have hs := sq1073 hk
  show where_root_l3 n next k = _
  unfold where_root_l3
  rw [gI_ok (by omega), bnd_pure, cnd_if]
  split
  · have := pos_of_sq (n := n) (k := k) hn.1 ⟨by omega, by omega⟩
    rw [gI_ok (by omega), bnd_pure]; exact ih (k - 1) (by omega) (by omega)
  · exact root_up hn (by omega)

theorem R_root_eq {n : Int} (hn : 0 ≤ n ∧ n ≤ 64800000000000000) : R_root n = some (rootS n) := by
  unfold R_root
  refine fix_of (F := fun next1 (s : Int × Int) => R_root_l1 n next1 s.1 s.2) (fun _ => some (rootS n)) (fun k => 0 ≤ k.1 ∧ k.1 ≤ k.2 ∧ k.2 ≤ 2147483648 ∧ k.1 * k.1 ≤ n ∧ n < (k.2 + 1) * (k.2 + 1)) (fun k => (k.2 - k.1).toNat) ?_ (0, 2147483648) ⟨by simp, by simp, by simp, by simp; omega, by simp; omega⟩
  rintro next ⟨lo, hi⟩ ⟨g1, g2, g3, g4, g5⟩ ih
  simp only at g1 g2 g3 g4 g5
  show R_root_l1 n next lo hi = _
  unfold R_root_l1
  rw [cnd_if]
  split
  · obtain ⟨m, hm, hm1, hm2⟩ : ∃ m : Int, (lo + hi + 1).tdiv 2 = m ∧ lo < m ∧ m ≤ hi := ⟨(lo + hi + 1).tdiv 2, rfl, by rw [Int.tdiv_eq_ediv_of_nonneg (by omega)]; omega, by rw [Int.tdiv_eq_ediv_of_nonneg (by omega)]; omega⟩
    have hmm := sq_mono (a := m) (b := 2147483648) (by omega) (by omega)
    have hmm0 := sq_mono (a := 0) (b := m) (by omega) (by omega)
    rw [gI_ok (by omega), bnd_pure, gI_ok (by omega), bnd_pure, gQuo_ok (by omega) (by omega), bnd_pure, hm, gI_ok (by omega), bnd_pure, cnd_if]
    split
    · exact ih (m, hi) ⟨by simp only; omega, by simp only; omega, by simp only; omega, by assumption, by assumption⟩ (by simp only; omega)
    · rw [gI_ok (by omega), bnd_pure]
      refine ih (lo, m - 1) ⟨by simp only; omega, by simp only; omega, by simp only; omega, by assumption, ?_⟩ (by simp only; omega)
      simp only; rw [show m - 1 + 1 = m from by omega]; omega
  · have he : lo = hi := by omega
    subst he
    rw [root_eq g1 g4 g5]

/-! ### distances, places between -/

def distP (p q : T_api_Place) : Int := distS p.Lat p.Lon q.Lat q.Lon
def betwP (p q : T_api_Place) (a b : Int) : T_api_Place := ⟨(betwS p.Lat p.Lon q.Lat q.Lon a b).1, (betwS p.Lat p.Lon q.Lat q.Lon a b).2⟩

theorem dist_eq {p q : T_api_Place} (hp : PL p) (hq : PL q) : where_distance p q = some (distP p q) := by
  obtain ⟨p1, p2⟩ := hp
  obtain ⟨q1, q2⟩ := hq
  unfold where_distance distP distS
  obtain ⟨x1, x2⟩ := xway_bd (lo1 := p.Lon) (lo2 := q.Lon) p1 q1
  have hy := sqb (x := q.Lat - p.Lat) (by omega)
  have hx := sqb x2
  have hr := root_bd (n := (q.Lat - p.Lat) * (q.Lat - p.Lat) + xwayS p.Lat p.Lon q.Lat q.Lon * xwayS p.Lat p.Lon q.Lat q.Lon) (by omega)
  rw [gI_ok (by omega), bnd_pure, short_eq p2 q2, bnd_pure, gI_ok (by omega), bnd_pure, floor_eq (by omega) (by omega), bnd_pure, cosine_eq (by omega), bnd_pure, gI_ok (by omega), bnd_pure, gQuo_ok (by omega) (by omega), bnd_pure]
  rw [show (shortS p.Lon q.Lon * cosS ((p.Lat + q.Lat) / 2)).tdiv 1000000 = xwayS p.Lat p.Lon q.Lat q.Lon from rfl]
  rw [gI_ok (by omega), bnd_pure, gI_ok (by omega), bnd_pure, gI_ok (by omega), bnd_pure, root_eqM (by omega), bnd_pure, gI_ok (by omega), bnd_pure, gQuo_ok (by omega) (by omega), bnd_pure]

theorem R_dist_eq {p q : T_api_Place} (hp : PL p) (hq : PL q) : R_DistanceOf p q = some (distP p q) := by
  obtain ⟨p1, p2⟩ := hp
  obtain ⟨q1, q2⟩ := hq
  unfold R_DistanceOf distP distS
  obtain ⟨x1, x2⟩ := xway_bd (lo1 := p.Lon) (lo2 := q.Lon) p1 q1
  have hy := sqb (x := q.Lat - p.Lat) (by omega)
  have hx := sqb x2
  have hr := root_bd (n := (q.Lat - p.Lat) * (q.Lat - p.Lat) + xwayS p.Lat p.Lon q.Lat q.Lon * xwayS p.Lat p.Lon q.Lat q.Lon) (by omega)
  rw [gI_ok (by omega), bnd_pure, R_short_eq p2 q2, bnd_pure, gI_ok (by omega), bnd_pure, R_down_eq (by omega) (by omega), bnd_pure, R_cosine_eq (by omega), bnd_pure, gI_ok (by omega), bnd_pure, gQuo_ok (by omega) (by omega), bnd_pure]
  rw [show (shortS p.Lon q.Lon * cosS ((p.Lat + q.Lat) / 2)).tdiv 1000000 = xwayS p.Lat p.Lon q.Lat q.Lon from rfl]
  rw [gI_ok (by omega), bnd_pure, gI_ok (by omega), bnd_pure, gI_ok (by omega), bnd_pure, R_root_eq (by omega), bnd_pure, gI_ok (by omega), bnd_pure, gQuo_ok (by omega) (by omega), bnd_pure]

theorem dist_bd {p q : T_api_Place} (hp : PL p) (hq : PL q) : 0 ≤ distP p q ∧ distP p q ≤ 28400000 := by
  obtain ⟨p1, p2⟩ := hp
  obtain ⟨q1, q2⟩ := hq
  unfold distP distS
  obtain ⟨x1, x2⟩ := xway_bd (lo1 := p.Lon) (lo2 := q.Lon) p1 q1
  have hy := sqb (x := q.Lat - p.Lat) (by omega)
  have hx := sqb x2
  have hr := root_bd (n := (q.Lat - p.Lat) * (q.Lat - p.Lat) + xwayS p.Lat p.Lon q.Lat q.Lon * xwayS p.Lat p.Lon q.Lat q.Lon) (by omega)
  rw [Int.tdiv_eq_ediv_of_nonneg (by omega)]
  omega

theorem share_in {d p q A : Int} (hd : -A ≤ d ∧ d ≤ A) (hp : 0 ≤ p ∧ p ≤ q) (hq : 1 ≤ q ∧ q ≤ 6311433599) (hA : 0 ≤ A ∧ A ≤ 1000000000) : -6311433599000000000 ≤ d * p ∧ d * p ≤ 6311433599000000000 := by
  have h := mul_bd hd hp hA.1
  have h1 : A * q ≤ 1000000000 * 6311433599 := Int.mul_le_mul hA.2 hq.2 (by omega) (by omega)
  omega

/-- Each place between two of one latitude range is a place. -/
theorem betw_PL {p q : T_api_Place} {a b : Int} (hp : PL p) (hq : PL q) (hb : 1 ≤ b) (ha : 0 ≤ a ∧ a ≤ b) : PL (betwP p q a b) := by
  obtain ⟨p1, p2⟩ := hp
  obtain ⟨q1, q2⟩ := hq
  refine ⟨?_, wrap_bd _⟩
  simp only [betwP, betwS]
  -- the latitude lies between both
  have key : ∀ d : Int, (0 ≤ d → 0 ≤ d * a / b ∧ d * a / b ≤ d) ∧ (d ≤ 0 → d ≤ d * a / b ∧ d * a / b ≤ 0) := by
    intro d
    have hba : 0 < b := by omega
    refine ⟨fun h => ⟨Int.ediv_nonneg (Int.mul_nonneg h ha.1) (by omega), Int.ediv_le_of_le_mul hba (Int.mul_le_mul_of_nonneg_left ha.2 h)⟩, fun h => ⟨(Int.le_ediv_iff_mul_le hba).2 (Int.mul_le_mul_of_nonpos_left h ha.2), ?_⟩⟩
    have : d * a ≤ 0 * b := by rw [Int.zero_mul]; exact Int.mul_nonpos_of_nonpos_of_nonneg h ha.1
    exact Int.ediv_le_of_le_mul hba this
  have := key (q.Lat - p.Lat)
  rcases Int.le_total 0 (q.Lat - p.Lat) with h | h
  · have := this.1 h; omega
  · have := this.2 h; omega

/-! ### tracks -/

theorem getD_of {α : Type} [Inhabited α] {t : List α} {k : Nat} (h : k < t.length) : t.getD k default = t[k] := by
  rw [List.getD_eq_getElem?_getD, List.getElem?_eq_getElem h]; rfl

/-! ### small functions of the laws -/

theorem Law_first_eq (xs : List Int) (h : xs.length ≤ 1000000) : Law_first xs = some (firstS xs) := by
  have key := scan (F := fun next1 s => Law_first_l1 xs next1 s) xs.length (fun k => xs.getD k 0) (fun next k hk => by
    show Law_first_l1 xs next k = _
    unfold Law_first_l1
    rw [cnd_if, if_pos (by omega), gAt_nat hk, bnd_pure, cnd_if, show xs.getD k 0 = xs[k] from by rw [List.getD_eq_getElem?_getD, List.getElem?_eq_getElem hk]; rfl]
    by_cases h0 : xs[k] = 0
    · rw [if_neg (by simpa using h0), if_pos h0, gI_ok (by omega), bnd_pure]
    · rw [if_pos h0, if_neg h0]) (fun next => by
    show Law_first_l1 xs next _ = _
    unfold Law_first_l1
    rw [cnd_if, if_neg (by omega)])
  unfold Law_first
  rw [key]
  congr 1
  have gen : ∀ m k, k + m = xs.length → firstE (fun k => xs.getD k 0) m k = firstS (xs.drop k) := by
    intro m
    induction m with
    | zero => intro k hk; rw [List.drop_of_length_le (by omega)]; rfl
    | succ m ih =>
      intro k hk
      have hlt : k < xs.length := by omega
      rw [List.drop_eq_getElem_cons hlt]
      simp only [firstE, firstS]
      rw [show xs.getD k 0 = xs[k] from by rw [List.getD_eq_getElem?_getD, List.getElem?_eq_getElem hlt]; rfl, ih (k + 1) (by omega)]
  simpa using gen xs.length 0 (by omega)

theorem unless_eq (b : Bool) (e : Int) : Law_unless b e = some (if b = true then 0 else e) := by
  unfold Law_unless; cases b <;> rfl

def momE (m : Int) : Int := if 0 ≤ m ∧ m ≤ 6311433599 then 0 else 2
theorem metresFault_eq (m : Int) : Law_metresFault m = some (metresS m) := by
  unfold Law_metresFault metresS
  simp only [unless_eq, bnd_pure, cnd_if]
  repeat' split
  all_goals first | rfl | simp_all | skip
  all_goals omega

theorem told_int_ok {a b c d : Int} (h : a = (if d = 0 then c else 0)) (hb : b = d) : Law_told_int a b c d = some true := by
  subst h hb
  unfold Law_told_int Law_told_int_j1
  by_cases h : b = 0 <;> simp [h]

end Go.M
