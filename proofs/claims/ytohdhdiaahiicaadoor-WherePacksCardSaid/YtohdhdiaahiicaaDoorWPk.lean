/- What the models of package where and of its reference compute: places, ways, distances, tracks. Conditions: none. -/
import Derived.Test.YtohdhdiaahiicaaDoorPl
import Derived.Test.YtohdhdiaahiicaaDoorMPk
import Derived.Test.YtohdhdiaahiicaaDoorWherePlain
import Derived.Test.YtohdhdiaahiicaaDoorSqrt
namespace Go.M
open Go.Md Go.Pl Go.Vc.Where

def PL (p : T_api_Place) : Prop := (-90000000 ≤ p.Lat ∧ p.Lat ≤ 90000000) ∧ -180000000 ≤ p.Lon ∧ p.Lon ≤ 179999999
theorem PL_iff {p : T_api_Place} : placeS p.Lat p.Lon = 0 ↔ PL p := by
  unfold placeS PL
  split
  · simp_all
  · simp_all

theorem outside_eq (a b c : Int) : where_outside a b c = some (decide (a < b ∨ c < a)) := by
  unfold where_outside
  rw [cnd_if]; by_cases h : a < b <;> simp [h]

theorem R_PlaceFault_eq (p : T_api_Place) : R_PlaceFault p = some (placeS p.Lat p.Lon) := by
  unfold R_PlaceFault placeS
  simp only [cnd_if]
  repeat' split
  all_goals first | rfl | omega

theorem CheckPlace_eq (p : T_api_Place) : where_CheckPlace p = some (placeS p.Lat p.Lon) := by
  unfold where_CheckPlace where_isLat where_isLon placeS
  simp only [outside_eq, bnd_pure]
  by_cases h1 : p.Lat < -90000000 ∨ 90000000 < p.Lat
  · rw [if_neg (by omega)]; simp [h1]
  · by_cases h2 : p.Lon < -180000000 ∨ 179999999 < p.Lon
    · rw [if_neg (by omega)]; simp [h1, h2]
    · rw [if_pos (by omega)]; simp [h1, h2]

theorem place_no {a b : Int} (h : placeS a b ≠ 0) : placeS a b = 2 := by unfold placeS at *; split <;> simp_all

def LON (a : Int) : Prop := -180000000 ≤ a ∧ a ≤ 179999999

/-! ### roots -/

/-! ### distances, places between -/

def distP (p q : T_api_Place) : Int := distS p.Lat p.Lon q.Lat q.Lon
def betwP (p q : T_api_Place) (a b : Int) : T_api_Place := ⟨(betwS p.Lat p.Lon q.Lat q.Lon a b).1, (betwS p.Lat p.Lon q.Lat q.Lon a b).2⟩

theorem dist_bd {p q : T_api_Place} (hp : PL p) (hq : PL q) : 0 ≤ distP p q ∧ distP p q ≤ 28400000 := by
  obtain ⟨p1, p2⟩ := hp
  obtain ⟨q1, q2⟩ := hq
  unfold distP distS
  obtain ⟨x1, x2⟩ := xway_bd (lo1 := p.Lon) (lo2 := q.Lon) p1 q1
  have hy := sqb (x := q.Lat - p.Lat) (by omega)
  have hx := sqb x2
  have hr := root_bd (n := (q.Lat - p.Lat) * (q.Lat - p.Lat) + xwayS p.Lat p.Lon q.Lat q.Lon * xwayS p.Lat p.Lon q.Lat q.Lon) (by omega)
  rw [Int.tdiv_eq_ediv_of_nonneg (by omega)]
  omega

theorem share_in {d p q A : Int} (hd : -A ≤ d ∧ d ≤ A) (hp : 0 ≤ p ∧ p ≤ q) (hq : 1 ≤ q ∧ q ≤ 6311433599) (hA : 0 ≤ A ∧ A ≤ 1000000000) : -6311433599000000000 ≤ d * p ∧ d * p ≤ 6311433599000000000 := by
  have h := mul_bd hd hp hA.1
  have h1 : A * q ≤ 1000000000 * 6311433599 := Int.mul_le_mul hA.2 hq.2 (by omega) (by omega)
  omega

/-- Each place between two of one latitude range is a place. -/
theorem betw_PL {p q : T_api_Place} {a b : Int} (hp : PL p) (hq : PL q) (hb : 1 ≤ b) (ha : 0 ≤ a ∧ a ≤ b) : PL (betwP p q a b) := by
  obtain ⟨p1, p2⟩ := hp
  obtain ⟨q1, q2⟩ := hq
  refine ⟨?_, wrap_bd _⟩
  simp only [betwP, betwS]
  -- the latitude lies between both
  have key : ∀ d : Int, (0 ≤ d → 0 ≤ d * a / b ∧ d * a / b ≤ d) ∧ (d ≤ 0 → d ≤ d * a / b ∧ d * a / b ≤ 0) := by
    intro d
    have hba : 0 < b := by omega
    refine ⟨fun h => ⟨Int.ediv_nonneg (Int.mul_nonneg h ha.1) (by omega), Int.ediv_le_of_le_mul hba (Int.mul_le_mul_of_nonneg_left ha.2 h)⟩, fun h => ⟨(Int.le_ediv_iff_mul_le hba).2 (Int.mul_le_mul_of_nonpos_left h ha.2), ?_⟩⟩
    have : d * a ≤ 0 * b := by rw [Int.zero_mul]; exact Int.mul_nonpos_of_nonpos_of_nonneg h ha.1
    exact Int.ediv_le_of_le_mul hba this
  have := key (q.Lat - p.Lat)
  rcases Int.le_total 0 (q.Lat - p.Lat) with h | h
  · have := this.1 h; omega
  · have := this.2 h; omega

/-! ### tracks -/

theorem getD_of {α : Type} [Inhabited α] {t : List α} {k : Nat} (h : k < t.length) : t.getD k default = t[k] := by
  rw [List.getD_eq_getElem?_getD, List.getElem?_eq_getElem h]; rfl

/-! ### small functions of the laws -/

theorem Law_first_eq (xs : List Int) (h : xs.length ≤ 1000000) : Law_first xs = some (firstS xs) := by
  have key := scan (F := fun next1 s => Law_first_l1 xs next1 s) xs.length (fun k => xs.getD k 0) (fun next k hk => by
    show Law_first_l1 xs next k = _
    unfold Law_first_l1
    rw [cnd_if, if_pos (by omega), gAt_nat hk, bnd_pure, cnd_if, show xs.getD k 0 = xs[k] from by rw [List.getD_eq_getElem?_getD, List.getElem?_eq_getElem hk]; rfl]
    by_cases h0 : xs[k] = 0
    · rw [if_neg (by simpa using h0), if_pos h0, gI_ok (by omega), bnd_pure]
    · rw [if_pos h0, if_neg h0]) (fun next => by
    show Law_first_l1 xs next _ = _
    unfold Law_first_l1
    rw [cnd_if, if_neg (by omega)])
  unfold Law_first
  rw [key]
  congr 1
  have gen : ∀ m k, k + m = xs.length → firstE (fun k => xs.getD k 0) m k = firstS (xs.drop k) := by
    intro m
    induction m with
    | zero => intro k hk; rw [List.drop_of_length_le (by omega)]; rfl
    | succ m ih =>
      intro k hk
      have hlt : k < xs.length := by omega
      rw [List.drop_eq_getElem_cons hlt]
      simp only [firstE, firstS]
      rw [show xs.getD k 0 = xs[k] from by rw [List.getD_eq_getElem?_getD, List.getElem?_eq_getElem hlt]; rfl, ih (k + 1) (by omega)]
  simpa using gen xs.length 0 (by omega)

theorem unless_eq (b : Bool) (e : Int) : Law_unless b e = some (if b = true then 0 else e) := by
  unfold Law_unless; cases b <;> rfl

def momE (m : Int) : Int := if 0 ≤ m ∧ m ≤ 6311433599 then 0 else 2
end Go.M
