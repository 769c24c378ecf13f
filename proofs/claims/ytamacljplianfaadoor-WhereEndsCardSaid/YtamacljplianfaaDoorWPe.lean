/- What the models of package where and of its reference compute: places, ways, distances, tracks. Conditions: none. -/
import Derived.Test.YtamacljplianfaaDoorPl
import Derived.Test.YtamacljplianfaaDoorMWe
import Derived.Test.YtamacljplianfaaDoorWherePlain
import Derived.Test.YtamacljplianfaaDoorSqrt
namespace Go.M
open Go.Md Go.Pl Go.Vc.Where

def PL (p : T_api_Place) : Prop := (-90000000 ≤ p.Lat ∧ p.Lat ≤ 90000000) ∧ -180000000 ≤ p.Lon ∧ p.Lon ≤ 179999999
theorem PL_iff {p : T_api_Place} : placeS p.Lat p.Lon = 0 ↔ PL p := by
  unfold placeS PL
  split
  · simp_all
  · simp_all

theorem outside_eq (a b c : Int) : where_outside a b c = some (decide (a < b ∨ c < a)) := by
  unfold where_outside
  rw [cnd_if]; by_cases h : a < b <;> simp [h]

theorem R_PlaceFault_eq (p : T_api_Place) : R_PlaceFault p = some (placeS p.Lat p.Lon) := by
  unfold R_PlaceFault placeS
  simp only [cnd_if]
  repeat' split
  all_goals first | rfl | omega

theorem CheckPlace_eq (p : T_api_Place) : where_CheckPlace p = some (placeS p.Lat p.Lon) := by
  unfold where_CheckPlace where_isLat where_isLon placeS
  simp only [outside_eq, bnd_pure]
  by_cases h1 : p.Lat < -90000000 ∨ 90000000 < p.Lat
  · rw [if_neg (by omega)]; simp [h1]
  · by_cases h2 : p.Lon < -180000000 ∨ 179999999 < p.Lon
    · rw [if_neg (by omega)]; simp [h1, h2]
    · rw [if_pos (by omega)]; simp [h1, h2]

theorem place_no {a b : Int} (h : placeS a b ≠ 0) : placeS a b = 2 := by unfold placeS at *; split <;> simp_all

def LON (a : Int) : Prop := -180000000 ≤ a ∧ a ≤ 179999999

theorem east_eq {f t : Int} (hf : -360000000 ≤ f ∧ f ≤ 360000000) (ht : -9000000000000 ≤ t ∧ t ≤ 9000000000000) : where_eastward f t = some (eastS f t) := by
  unfold where_eastward eastS
  have := tmod_bd (t - f)
  rw [gI_ok (by omega), bnd_pure, gRem_ok (by omega), bnd_pure, gI_ok (by omega), bnd_pure, gRem_ok (by omega), bnd_pure, east_rem]

theorem wrap_eq {t : Int} (ht : -9000000000000 ≤ t ∧ t ≤ 9000000000000) : where_wrap t = some (wrapS t) := by
  unfold where_wrap wrapS
  have := east_bd (-180000000) t
  rw [east_eq (by omega) ht, bnd_pure, gI_ok (by omega), bnd_pure]
  unfold eastS
  rw [show t - -180000000 = t + 180000000 from by omega]

theorem short_eq {f t : Int} (hf : LON f) (ht : LON t) : where_short f t = some (shortS f t) := by
  unfold LON at hf ht
  unfold where_short shortS
  have := east_bd f t
  rw [east_eq (by omega) (by omega), bnd_pure, cnd_if]
  split
  · rw [gI_ok (by omega), bnd_pure]
  · rfl

theorem floor_eq {a b : Int} (hb : 0 < b) (ha : -9223372036854775807 ≤ a ∧ a ≤ 9223372036854775807) : where_floor a b = some (a / b) := by
  unfold where_floor
  have h := tdivmod a b hb
  have h2 := floor_in a b ha hb
  rw [gQuo_ok (by omega) ha, bnd_pure, gRem_ok (by omega), bnd_pure, cnd_if]
  split
  · rename_i hn
    have h3 := h.1 hn
    have h4 : -9223372036854775807 ≤ a / b := by
      have : -9223372036854775807 * b ≤ a := by
        have : -9223372036854775807 * b ≤ -9223372036854775807 * 1 := Int.mul_le_mul_of_nonpos_left (by omega) (by omega)
        omega
      exact (Int.le_ediv_iff_mul_le hb).2 this
    rw [gI_ok (by omega), bnd_pure, h3]
  · rename_i hn; rw [h.2 hn]

theorem cosine_eq {a : Int} (h : -90000000 ≤ a ∧ a ≤ 90000000) : where_cosine a = some (cosS a) := by
  unfold where_cosine cosS cosN
  have h1 := tdiv100 h
  obtain ⟨h2, h3⟩ := sq_bd h1
  rw [gQuo_ok (by omega) (by omega), bnd_pure]
  generalize a.tdiv 100 = l at *
  rw [gI_ok (by omega), bnd_pure, four, gI_ok (by omega), bnd_pure, gI_ok (by omega), bnd_pure, gI_ok (by omega), bnd_pure, gI_ok (by omega), bnd_pure, gI_ok (by omega), bnd_pure, gQuo_ok (by omega) (by omega), bnd_pure]

theorem R_cosine_eq {a : Int} (h : -90000000 ≤ a ∧ a ≤ 90000000) : R_CosineOf a = some (cosS a) := (show R_CosineOf a = where_cosine a from rfl).trans (cosine_eq h)

/-! ### roots -/

theorem root_up {n : Int} (hn : 0 ≤ n ∧ n ≤ 64800000000000000) {k : Int} (hk : 0 ≤ k ∧ k * k ≤ n) : where_root_j1 n k = some (rootS n) := by
  unfold where_root_j1
  refine fix_of (F := fun next2 s => where_root_l2 n next2 s) (fun _ => some (rootS n)) (fun k => 0 ≤ k ∧ k * k ≤ n) (fun k => (254558443 - k).toNat) (fun next k ⟨h0, h1⟩ ih => ?_) k hk
  have hk := root28 h1 hn.2
  have hs := sq1073 (k := k + 1) (by omega)
  show where_root_l2 n next k = _
  unfold where_root_l2
  rw [gI_ok (by omega), bnd_pure, bnd_pure, gI_ok (by omega), bnd_pure, cnd_if]
  split
  · rename_i h; rw [bnd_pure]; exact ih (k + 1) ⟨by omega, h⟩ (by have := root28 h hn.2; omega)
  · rename_i h; rw [root_eq h0 h1 (by omega)]

theorem root_eqM {n : Int} (hn : 0 ≤ n ∧ n ≤ 64800000000000000) : where_root n = some (rootS n) := by
  obtain ⟨s, r, hs, hr, h0, h1⟩ := Go.Vc.Float.sqrt_int n.toNat (by omega)
  unfold where_root math_Sqrt gIF gSqrt gFI
  rw [if_pos hn.1, bnd_pure]
  rw [hs, bnd_pure, bnd_pure, hr, bnd_pure, gI_ok (by omega), bnd_pure]
  refine fix_of (F := fun next3 s => where_root_l3 n next3 s) (fun _ => some (rootS n)) (fun k => 0 ≤ k ∧ k ≤ 1073741824) (fun k => k.toNat) (fun next k hk ih => ?_) r ⟨h0, h1⟩
  have hs := sq1073 hk
  show where_root_l3 n next k = _
  unfold where_root_l3
  rw [gI_ok (by omega), bnd_pure, cnd_if]
  split
  · have := pos_of_sq (n := n) (k := k) hn.1 ⟨by omega, by omega⟩
    rw [gI_ok (by omega), bnd_pure]; exact ih (k - 1) (by omega) (by omega)
  · exact root_up hn (by omega)

/-! ### distances, places between -/

def distP (p q : T_api_Place) : Int := distS p.Lat p.Lon q.Lat q.Lon
def betwP (p q : T_api_Place) (a b : Int) : T_api_Place := ⟨(betwS p.Lat p.Lon q.Lat q.Lon a b).1, (betwS p.Lat p.Lon q.Lat q.Lon a b).2⟩

theorem dist_eq {p q : T_api_Place} (hp : PL p) (hq : PL q) : where_distance p q = some (distP p q) := by
  obtain ⟨p1, p2⟩ := hp
  obtain ⟨q1, q2⟩ := hq
  unfold where_distance distP distS
  obtain ⟨x1, x2⟩ := xway_bd (lo1 := p.Lon) (lo2 := q.Lon) p1 q1
  have hy := sqb (x := q.Lat - p.Lat) (by omega)
  have hx := sqb x2
  have hr := root_bd (n := (q.Lat - p.Lat) * (q.Lat - p.Lat) + xwayS p.Lat p.Lon q.Lat q.Lon * xwayS p.Lat p.Lon q.Lat q.Lon) (by omega)
  rw [gI_ok (by omega), bnd_pure, short_eq p2 q2, bnd_pure, gI_ok (by omega), bnd_pure, floor_eq (by omega) (by omega), bnd_pure, cosine_eq (by omega), bnd_pure, gI_ok (by omega), bnd_pure, gQuo_ok (by omega) (by omega), bnd_pure]
  rw [show (shortS p.Lon q.Lon * cosS ((p.Lat + q.Lat) / 2)).tdiv 1000000 = xwayS p.Lat p.Lon q.Lat q.Lon from rfl]
  rw [gI_ok (by omega), bnd_pure, gI_ok (by omega), bnd_pure, gI_ok (by omega), bnd_pure, root_eqM (by omega), bnd_pure, gI_ok (by omega), bnd_pure, gQuo_ok (by omega) (by omega), bnd_pure]

theorem dist_bd {p q : T_api_Place} (hp : PL p) (hq : PL q) : 0 ≤ distP p q ∧ distP p q ≤ 28400000 := by
  obtain ⟨p1, p2⟩ := hp
  obtain ⟨q1, q2⟩ := hq
  unfold distP distS
  obtain ⟨x1, x2⟩ := xway_bd (lo1 := p.Lon) (lo2 := q.Lon) p1 q1
  have hy := sqb (x := q.Lat - p.Lat) (by omega)
  have hx := sqb x2
  have hr := root_bd (n := (q.Lat - p.Lat) * (q.Lat - p.Lat) + xwayS p.Lat p.Lon q.Lat q.Lon * xwayS p.Lat p.Lon q.Lat q.Lon) (by omega)
  rw [Int.tdiv_eq_ediv_of_nonneg (by omega)]
  omega

theorem share_in {d p q A : Int} (hd : -A ≤ d ∧ d ≤ A) (hp : 0 ≤ p ∧ p ≤ q) (hq : 1 ≤ q ∧ q ≤ 6311433599) (hA : 0 ≤ A ∧ A ≤ 1000000000) : -6311433599000000000 ≤ d * p ∧ d * p ≤ 6311433599000000000 := by
  have h := mul_bd hd hp hA.1
  have h1 : A * q ≤ 1000000000 * 6311433599 := Int.mul_le_mul hA.2 hq.2 (by omega) (by omega)
  omega

theorem between_eq {p q : T_api_Place} {a b : Int} (hp : PL p) (hq : PL q) (hb : 1 ≤ b ∧ b ≤ 6311433599) (ha : 0 ≤ a ∧ a ≤ b) : where_between p q a b = some (betwP p q a b) := by
  obtain ⟨p1, p2⟩ := hp
  obtain ⟨q1, q2⟩ := hq
  unfold where_between betwP betwS
  have hs := short_bd p.Lon q.Lon
  have h1 := share_bd (d := q.Lat - p.Lat) (A := 180000000) (by omega) ha hb.1 (by omega)
  have h2 := share_bd (d := shortS p.Lon q.Lon) (A := 180000000) (by omega) ha hb.1 (by omega)
  have h3 := share_in (d := q.Lat - p.Lat) (A := 180000000) (by omega) ha hb (by omega)
  have h4 := share_in (d := shortS p.Lon q.Lon) (A := 180000000) (by omega) ha hb (by omega)
  rw [gI_ok (by omega), bnd_pure, gI_ok (by omega), bnd_pure, floor_eq (by omega) (by omega), bnd_pure, gI_ok (by omega), bnd_pure, short_eq p2 q2, bnd_pure, gI_ok (by omega), bnd_pure, floor_eq (by omega) (by omega), bnd_pure, gI_ok (by omega), bnd_pure, wrap_eq (by omega), bnd_pure]

/-- Each place between two of one latitude range is a place. -/
theorem betw_PL {p q : T_api_Place} {a b : Int} (hp : PL p) (hq : PL q) (hb : 1 ≤ b) (ha : 0 ≤ a ∧ a ≤ b) : PL (betwP p q a b) := by
  obtain ⟨p1, p2⟩ := hp
  obtain ⟨q1, q2⟩ := hq
  refine ⟨?_, wrap_bd _⟩
  simp only [betwP, betwS]
  -- the latitude lies between both
  have key : ∀ d : Int, (0 ≤ d → 0 ≤ d * a / b ∧ d * a / b ≤ d) ∧ (d ≤ 0 → d ≤ d * a / b ∧ d * a / b ≤ 0) := by
    intro d
    have hba : 0 < b := by omega
    refine ⟨fun h => ⟨Int.ediv_nonneg (Int.mul_nonneg h ha.1) (by omega), Int.ediv_le_of_le_mul hba (Int.mul_le_mul_of_nonneg_left ha.2 h)⟩, fun h => ⟨(Int.le_ediv_iff_mul_le hba).2 (Int.mul_le_mul_of_nonpos_left h ha.2), ?_⟩⟩
    have : d * a ≤ 0 * b := by rw [Int.zero_mul]; exact Int.mul_nonpos_of_nonpos_of_nonneg h ha.1
    exact Int.ediv_le_of_le_mul hba this
  have := key (q.Lat - p.Lat)
  rcases Int.le_total 0 (q.Lat - p.Lat) with h | h
  · have := this.1 h; omega
  · have := this.2 h; omega

/-! ### tracks -/

theorem getD_of {α : Type} [Inhabited α] {t : List α} {k : Nat} (h : k < t.length) : t.getD k default = t[k] := by
  rw [List.getD_eq_getElem?_getD, List.getElem?_eq_getElem h]; rfl

/-! ### small functions of the laws -/

theorem unless_eq (b : Bool) (e : Int) : Law_unless b e = some (if b = true then 0 else e) := by
  unfold Law_unless; cases b <;> rfl

def momE (m : Int) : Int := if 0 ≤ m ∧ m ≤ 6311433599 then 0 else 2
theorem told_int_ok {a b c d : Int} (h : a = (if d = 0 then c else 0)) (hb : b = d) : Law_told_int a b c d = some true := by
  subst h hb
  unfold Law_told_int Law_told_int_j1
  by_cases h : b = 0 <;> simp [h]

theorem told_place_ok {a c : T_api_Place} {b d : Int} (h : a = (if d = 0 then c else ⟨0, 0⟩)) (hb : b = d) : Law_told_api_Place a b c d = some true := by
  subst h hb
  unfold Law_told_api_Place Law_told_api_Place_j1 eq_api_Place
  by_cases h : b = 0 <;> simp [h]

end Go.M
