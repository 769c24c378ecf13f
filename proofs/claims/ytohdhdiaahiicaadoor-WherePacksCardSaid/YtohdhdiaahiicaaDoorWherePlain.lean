/- What the functions of package where and of its reference compute, as plain functions on integers and lists, and the laws on these. No program in sight. Conditions: none. -/
import Derived.WalkKit
namespace Go.Vc.Where

def outsideS (n lo hi : Int) : Bool := decide (n < lo) || decide (hi < n)
def isLatS (n : Int) : Bool := decide (-90000000 ≤ n ∧ n ≤ 90000000)
def isLonS (n : Int) : Bool := decide (-180000000 ≤ n ∧ n ≤ 179999999)
def placeS (a b : Int) : Int := if (-90000000 ≤ a ∧ a ≤ 90000000) ∧ -180000000 ≤ b ∧ b ≤ 179999999 then 0 else 2
def boxS (s w n e : Int) : Int := if placeS s w = 0 ∧ placeS n e = 0 then (if n < s then 5 else 0) else 2
def metresS (n : Int) : Int := if 0 ≤ n ∧ n ≤ 30000000 then 0 else 2
def firstS : List Int → Int
  | [] => 0
  | x :: r => if x = 0 then firstS r else x

theorem first_drop (xs : List Int) (k : Nat) (h : k < xs.length) : firstS (xs.drop k) = if xs[k] = 0 then firstS (xs.drop (k + 1)) else xs[k] := by
  rw [List.drop_eq_getElem_cons h]; rfl

theorem first2 {a b : Int} (h : firstS [a, b] = 0) : a = 0 ∧ b = 0 := by
  simp only [firstS] at h
  by_cases ha : a = 0
  · rw [if_pos ha] at h
    by_cases hb : b = 0
    · exact ⟨ha, hb⟩
    · rw [if_neg hb] at h; exact absurd h hb
  · rw [if_neg ha] at h; exact absurd h ha
theorem first2n {a b : Int} (h : ¬ firstS [a, b] = 0) : ¬ (a = 0 ∧ b = 0) := by
  rintro ⟨rfl, rfl⟩; exact h rfl

theorem place_ok {a b : Int} (h : placeS a b = 0) : (-90000000 ≤ a ∧ a ≤ 90000000) ∧ -180000000 ≤ b ∧ b ≤ 179999999 := by
  unfold placeS at h; split at h
  · assumption
  · omega

theorem box_ok {s w n e : Int} (h : boxS s w n e = 0) : (-90000000 ≤ s ∧ s ≤ n ∧ n ≤ 90000000) ∧ (-180000000 ≤ w ∧ w ≤ 179999999) ∧ -180000000 ≤ e ∧ e ≤ 179999999 := by
  unfold boxS at h
  split at h
  · rename_i hp
    have h1 := place_ok hp.1
    have h2 := place_ok hp.2
    split at h <;> omega
  · omega

theorem metres_ok {n : Int} (h : metresS n = 0) : 0 ≤ n ∧ n ≤ 30000000 := by
  unfold metresS at h; split at h
  · assumption
  · omega

theorem metres_no {n : Int} (h : metresS n ≠ 0) : metresS n = 2 := by
  unfold metresS at *; split <;> simp_all
theorem outside_m {m : Int} (h : outsideS m 0 30000000 = true) : metresS m = 2 := by
  simp only [outsideS, Bool.or_eq_true, decide_eq_true_eq] at h
  unfold metresS; rw [if_neg (by omega)]
theorem inside_m {m : Int} (h : outsideS m 0 30000000 = false) : metresS m = 0 := by
  simp only [outsideS, Bool.or_eq_false_iff, decide_eq_false_iff_not] at h
  unfold metresS; rw [if_pos (by omega)]

/-- The way to the east. -/
def eastS (f t : Int) : Int := (t - f) % 360000000
def wrapS (n : Int) : Int := (n + 180000000) % 360000000 - 180000000

theorem east_rem (x : Int) : (x.tmod 360000000 + 360000000).tmod 360000000 = x % 360000000 := by
  have h1 := Int.tmod_lt_of_pos x (b := 360000000) (by omega)
  have h2 : -360000000 < x.tmod 360000000 := by have := Int.lt_tmod_of_pos x (b := 360000000) (by omega); omega
  rw [Int.tmod_eq_emod_of_nonneg (by omega)]
  have h3 : x.tmod 360000000 = x - 360000000 * x.tdiv 360000000 := by have := Int.tmod_add_mul_tdiv x 360000000; omega
  rw [h3]
  omega

theorem tmod_bd (x : Int) : -360000000 < x.tmod 360000000 ∧ x.tmod 360000000 < 360000000 :=
  ⟨by have := Int.lt_tmod_of_pos x (b := 360000000) (by omega); omega, Int.tmod_lt_of_pos x (by omega)⟩

/-- The cosine of a latitude, in millionths. -/
def cosN (l : Int) : Int := ((3240000000000 - 4 * l * l) * 1000000).tdiv (3240000000000 + l * l)
def cosS (lat : Int) : Int := cosN (lat.tdiv 100)

theorem tdiv100 {x : Int} (h : -90000000 ≤ x ∧ x ≤ 90000000) : -900000 ≤ x.tdiv 100 ∧ x.tdiv 100 ≤ 900000 := by
  rcases Int.le_total 0 x with h0 | h0
  · rw [Int.tdiv_eq_ediv_of_nonneg h0]; omega
  · have : x.tdiv 100 = -((-x) / 100) := by rw [← Int.tdiv_eq_ediv_of_nonneg (by omega), Int.neg_tdiv]; omega
    omega

theorem sq_bd {l : Int} (h : -900000 ≤ l ∧ l ≤ 900000) : 0 ≤ l * l ∧ l * l ≤ 810000000000 := by
  refine ⟨?_, ?_⟩
  · rcases Int.le_total 0 l with h0 | h0
    · exact Int.mul_nonneg h0 h0
    · have := Int.mul_nonneg (show 0 ≤ -l by omega) (show 0 ≤ -l by omega)
      rwa [Int.neg_mul_neg] at this
  · rcases Int.le_total 0 l with h0 | h0
    · have := Int.mul_le_mul h.2 h.2 h0 (by omega : (0 : Int) ≤ 900000)
      omega
    · have := Int.mul_le_mul (show -l ≤ 900000 by omega) (show -l ≤ 900000 by omega) (by omega) (by omega : (0 : Int) ≤ 900000)
      rw [Int.neg_mul_neg] at this
      omega

theorem four (l : Int) : 4 * l * l = 4 * (l * l) := Int.mul_assoc 4 l l

theorem cosN_bd {l : Int} (h : -900000 ≤ l ∧ l ≤ 900000) : 0 ≤ cosN l ∧ cosN l ≤ 1000000 := by
  obtain ⟨h1, h2⟩ := sq_bd h
  unfold cosN
  rw [four]
  generalize l * l = q at *
  rw [Int.tdiv_eq_ediv_of_nonneg (by omega)]
  refine ⟨Int.ediv_nonneg (by omega) (by omega), ?_⟩
  have : (3240000000000 - 4 * q) * 1000000 ≤ 1000000 * (3240000000000 + q) := by omega
  exact Int.ediv_le_of_le_mul (by omega) this

theorem cosS_bd {x : Int} (h : -90000000 ≤ x ∧ x ≤ 90000000) : 0 ≤ cosS x ∧ cosS x ≤ 1000000 := cosN_bd (tdiv100 h)

/-- The reach of a box around a place. -/
def reachS (m : Int) : Int := ((m + 1) * 1000000).tdiv 111195 + 1

theorem reach_bd {m : Int} (h : 0 ≤ m ∧ m ≤ 30000000) : 1 ≤ reachS m ∧ reachS m ≤ 300000000 := by
  unfold reachS
  rw [Int.tdiv_eq_ediv_of_nonneg (by omega)]
  omega

/-- What a box around a place has: south, west, north, east. -/
def aroundS (la lo m : Int) : Int × Int × Int × Int :=
  let r := reachS m
  let s := max (la - r) (-90000000)
  let n := min (la + r) 90000000
  let c := min (cosS s) (cosS n)
  if c = 0 then (s, -180000000, n, 179999999)
  else if (r * 1000000).tdiv c + 1 < 180000000 then (s, wrapS (lo - ((r * 1000000).tdiv c + 1)), n, wrapS (lo + ((r * 1000000).tdiv c + 1)))
  else (s, -180000000, n, 179999999)

def aroundT (la lo m : Int) : Int × Int × Int × Int := if placeS la lo = 0 ∧ metresS m = 0 then aroundS la lo m else (0, 0, 0, 0)

theorem around_full {la lo m s n : Int} (hs : s = max (la - reachS m) (-90000000)) (hn : n = min (la + reachS m) 90000000) (h : min (cosS s) (cosS n) = 0 ∨ ¬ (reachS m * 1000000).tdiv (min (cosS s) (cosS n)) + 1 < 180000000) :
    aroundS la lo m = (s, -180000000, n, 179999999) := by
  subst hs hn
  simp only [aroundS]
  split
  · rfl
  · rename_i hc
    rw [if_neg (h.resolve_left hc)]

theorem around_part {la lo m s n : Int} (hs : s = max (la - reachS m) (-90000000)) (hn : n = min (la + reachS m) 90000000) (h1 : ¬ min (cosS s) (cosS n) = 0) (h2 : (reachS m * 1000000).tdiv (min (cosS s) (cosS n)) + 1 < 180000000) :
    aroundS la lo m = (s, wrapS (lo - ((reachS m * 1000000).tdiv (min (cosS s) (cosS n)) + 1)), n, wrapS (lo + ((reachS m * 1000000).tdiv (min (cosS s) (cosS n)) + 1))) := by
  subst hs hn
  simp only [aroundS]
  rw [if_neg h1, if_pos h2]

theorem box4 {q : Int × Int × Int × Int} {a b c d : Int} (h : q = (a, b, c, d)) : Value.agg #[.int .i64 a, .int .i64 b, .int .i64 c, .int .i64 d] = Value.agg #[.int .i64 q.1, .int .i64 q.2.1, .int .i64 q.2.2.1, .int .i64 q.2.2.2] := by rw [h]

theorem box4t {q : Int × Int × Int × Int} {a b c d f g : Int} (h : q = (a, b, c, d)) (hf : f = g) : Value.tuple #[.agg #[.int .i64 a, .int .i64 b, .int .i64 c, .int .i64 d], .int .i64 f] = Value.tuple #[.agg #[.int .i64 q.1, .int .i64 q.2.1, .int .i64 q.2.2.1, .int .i64 q.2.2.2], .int .i64 g] := by rw [h, hf]

theorem x_bd {r c : Int} (h : 1 ≤ r ∧ r ≤ 300000000) (hc : 0 ≤ c) : 0 ≤ (r * 1000000).tdiv c ∧ (r * 1000000).tdiv c ≤ 300000000000000 := by
  rw [Int.tdiv_eq_ediv_of_nonneg (by omega)]
  refine ⟨Int.ediv_nonneg (by omega) hc, ?_⟩
  have := Int.ediv_le_self c (show 0 ≤ r * 1000000 by omega)
  omega

def insideS (s w n e la lo : Int) : Bool := decide (s ≤ la) && decide (la ≤ n) && decide (eastS w lo ≤ eastS w e)
def meetsS (s1 w1 n1 e1 s2 w2 n2 e2 : Int) : Bool := decide (s1 ≤ n2) && decide (s2 ≤ n1) && (decide (eastS w1 w2 ≤ eastS w1 e1) || decide (eastS w2 w1 ≤ eastS w2 e2))

theorem told_and {A B : Int} {v : Bool} (h : firstS [A, B] = 0) : decide ((decide (A = 0) && decide (B = 0) && v) = (if firstS [A, B] = 0 then v else false) ∧ firstS [A, B] = firstS [A, B]) = true := by
  obtain ⟨rfl, rfl⟩ := first2 h
  simp [firstS]
theorem told_and' {A B : Int} {v : Bool} (h : ¬ firstS [A, B] = 0) : decide ((decide (A = 0) && decide (B = 0) && v) = (if firstS [A, B] = 0 then false else false) ∧ firstS [A, B] = firstS [A, B]) = true := by
  have h' := first2n h
  have e : (decide (A = 0) && decide (B = 0)) = false := by
    rw [Bool.eq_false_iff]; intro hh; simp at hh; exact h' hh
  simp [e]
theorem told_around {la lo m : Int} (h : firstS [placeS la lo, metresS m] = 0) :
    decide ((((aroundT la lo m).1, (aroundT la lo m).2.1, (aroundT la lo m).2.2.1, (aroundT la lo m).2.2.2) : Int × Int × Int × Int) =
      (if firstS [placeS la lo, metresS m] = 0 then ((aroundS la lo m).1, (aroundS la lo m).2.1, (aroundS la lo m).2.2.1, (aroundS la lo m).2.2.2) else (0, 0, 0, 0)) ∧ firstS [placeS la lo, metresS m] = firstS [placeS la lo, metresS m]) = true := by
  have e : aroundT la lo m = aroundS la lo m := by unfold aroundT; rw [if_pos (first2 h)]
  rw [e, if_pos h]; simp
theorem told_around' {la lo m : Int} (h : ¬ firstS [placeS la lo, metresS m] = 0) :
    decide ((((aroundT la lo m).1, (aroundT la lo m).2.1, (aroundT la lo m).2.2.1, (aroundT la lo m).2.2.2) : Int × Int × Int × Int) =
      (if firstS [placeS la lo, metresS m] = 0 then (0, 0, 0, 0) else (0, 0, 0, 0)) ∧ firstS [placeS la lo, metresS m] = firstS [placeS la lo, metresS m]) = true := by
  have e : aroundT la lo m = (0, 0, 0, 0) := by unfold aroundT; rw [if_neg (first2n h)]
  rw [e]; simp

/-! ### distances -/

def shortS (f t : Int) : Int := if 180000000 ≤ eastS f t then eastS f t - 360000000 else eastS f t
theorem east_bd (f t : Int) : 0 ≤ eastS f t ∧ eastS f t < 360000000 := by unfold eastS; omega
theorem short_bd (f t : Int) : -180000000 ≤ shortS f t ∧ shortS f t < 180000000 := by
  have := east_bd f t
  unfold shortS; split <;> omega
theorem wrap_bd (n : Int) : -180000000 ≤ wrapS n ∧ wrapS n ≤ 179999999 := by unfold wrapS; omega

theorem tdivmod (a b : Int) (hb : 0 < b) : (a.tmod b < 0 → a.tdiv b - 1 = a / b) ∧ (¬ a.tmod b < 0 → a.tdiv b = a / b) := by
  have h1 := Int.tmod_add_mul_tdiv a b
  have h2 := Int.emod_add_mul_ediv a b
  have h3 := Int.emod_nonneg a (show b ≠ 0 by omega)
  have h4 := Int.emod_lt_of_pos a hb
  have h5 := Int.lt_tmod_of_pos a hb
  have h6 := Int.tmod_lt_of_pos a hb
  -- both remainders differ by a multiple of b
  have key : b * (a.tdiv b - a / b) = a % b - a.tmod b := by rw [Int.mul_sub]; omega
  refine ⟨fun hn => ?_, fun hn => ?_⟩
  · have hlt : b * (a.tdiv b - a / b) < b * 2 := by omega
    have hgt : b * 0 < b * (a.tdiv b - a / b) := by omega
    have := Int.lt_of_mul_lt_mul_left hlt (by omega)
    have := Int.lt_of_mul_lt_mul_left hgt (by omega)
    omega
  · have hlt : b * (a.tdiv b - a / b) < b * 1 := by omega
    have hgt : b * (-1) < b * (a.tdiv b - a / b) := by omega
    have := Int.lt_of_mul_lt_mul_left hlt (by omega)
    have := Int.lt_of_mul_lt_mul_left hgt (by omega)
    omega

theorem tdiv_small (a b : Int) (hb : 0 < b) : a.tdiv b = a / b ∨ a.tdiv b = a / b + 1 := by
  have := tdivmod a b hb
  by_cases h : a.tmod b < 0
  · right; have := this.1 h; omega
  · left; exact this.2 h

theorem tmod_sign (a b : Int) (hb : 0 < b) : (a.tmod b < 0 → a < 0) ∧ (0 < a.tmod b → 0 ≤ a) := by
  refine ⟨fun h => ?_, fun h => ?_⟩
  · rcases Int.lt_or_le a 0 with h0 | h0
    · exact h0
    · have := Int.tmod_nonneg b h0; omega
  · rcases Int.lt_or_le a 0 with h0 | h0
    · have h1 := Int.tmod_nonneg b (show 0 ≤ -a by omega)
      rw [Int.neg_tmod] at h1; omega
    · exact h0

theorem floor_in (a b : Int) (h : -9223372036854775807 ≤ a ∧ a ≤ 9223372036854775807) (hb : 0 < b) : -9223372036854775807 ≤ a.tdiv b ∧ a.tdiv b ≤ 9223372036854775807 := by
  have := Int.natAbs_tdiv_le_natAbs a b
  omega

theorem mul_bd {a b A B : Int} (ha : -A ≤ a ∧ a ≤ A) (hb : 0 ≤ b ∧ b ≤ B) (hA : 0 ≤ A) : -(A * B) ≤ a * b ∧ a * b ≤ A * B := by
  have h1 : a * b ≤ A * b := Int.mul_le_mul_of_nonneg_right ha.2 hb.1
  have h2 : A * b ≤ A * B := Int.mul_le_mul_of_nonneg_left hb.2 hA
  have h3 : -A * b ≤ a * b := Int.mul_le_mul_of_nonneg_right ha.1 hb.1
  have h4 : -A * b = -(A * b) := Int.neg_mul ..
  omega

theorem share_bd {d p q A : Int} (hd : -A ≤ d ∧ d ≤ A) (hp : 0 ≤ p ∧ p ≤ q) (hq : 1 ≤ q) (hA : 0 ≤ A) : -A ≤ d * p / q ∧ d * p / q ≤ A := by
  have h := mul_bd hd hp hA
  have hm : A * q = q * A := Int.mul_comm ..
  refine ⟨?_, ?_⟩
  · have : -A * q ≤ d * p := by rw [Int.neg_mul]; omega
    exact (Int.le_ediv_iff_mul_le (by omega)).2 this
  · exact Int.ediv_le_of_le_mul (by omega) h.2

/-- The whole root. -/
def rootGo (n : Nat) : Nat → Nat
  | 0 => 0
  | k + 1 => if (k + 1) * (k + 1) ≤ n then k + 1 else rootGo n k
def rootS (n : Int) : Int := rootGo n.toNat n.toNat

theorem rootGo_spec (n : Nat) : ∀ k, n < (k + 1) * (k + 1) → rootGo n k * rootGo n k ≤ n ∧ n < (rootGo n k + 1) * (rootGo n k + 1)
  | 0, h => by simp [rootGo]; omega
  | k + 1, h => by
    simp only [rootGo]
    split
    · exact ⟨by assumption, h⟩
    · exact rootGo_spec n k (by omega)

theorem root_spec {n : Int} (h : 0 ≤ n) : 0 ≤ rootS n ∧ rootS n * rootS n ≤ n ∧ n < (rootS n + 1) * (rootS n + 1) := by
  unfold rootS
  have hs := rootGo_spec n.toNat n.toNat (by
    have : n.toNat + 1 ≤ (n.toNat + 1) * (n.toNat + 1) := Nat.le_mul_of_pos_left _ (by omega)
    omega)
  refine ⟨by omega, ?_, ?_⟩
  · have : ((rootGo n.toNat n.toNat * rootGo n.toNat n.toNat : Nat) : Int) ≤ (n.toNat : Int) := by exact_mod_cast hs.1
    rw [Int.natCast_mul] at this; omega
  · have : (n.toNat : Int) < (((rootGo n.toNat n.toNat + 1) * (rootGo n.toNat n.toNat + 1) : Nat) : Int) := by exact_mod_cast hs.2
    rw [Int.natCast_mul] at this
    have e : ((rootGo n.toNat n.toNat + 1 : Nat) : Int) = (rootGo n.toNat n.toNat : Int) + 1 := by omega
    rw [e] at this
    omega

theorem sq_mono {a b : Int} (ha : 0 ≤ a) (h : a ≤ b) : a * a ≤ b * b := Int.mul_le_mul h h ha (by omega)

theorem sq_cancel {a b : Int} (hb : 0 ≤ b) (h : a * a < b * b) : a < b := by
  rcases Int.lt_or_le a b with h1 | h1
  · exact h1
  · have := sq_mono hb h1; omega

theorem root_eq {n r : Int} (h0 : 0 ≤ r) (h1 : r * r ≤ n) (h2 : n < (r + 1) * (r + 1)) : r = rootS n := by
  have hn : 0 ≤ n := by have := sq_mono (Int.le_refl 0) h0; omega
  obtain ⟨g0, g1, g2⟩ := root_spec hn
  have a1 : r < rootS n + 1 := sq_cancel (by omega) (by omega)
  have a2 : rootS n < r + 1 := sq_cancel (by omega) (by omega)
  omega

theorem sq1073 {k : Int} (h : 0 ≤ k ∧ k ≤ 1073741824) : 0 ≤ k * k ∧ k * k ≤ 1152921504606846976 := by
  have h1 := sq_mono h.1 h.2
  have h2 := sq_mono (Int.le_refl 0) h.1
  omega
theorem pos_of_sq {n k : Int} (hn : 0 ≤ n) (h : ¬ k * k ≤ n ∧ 0 ≤ k) : 0 ≤ k - 1 := by
  rcases Int.lt_or_le 0 k with h0 | h0
  · omega
  · have : k = 0 := by omega
    subst this; omega
theorem root28 {n k : Int} (h : k * k ≤ n) (hn : n ≤ 64800000000000000) : k ≤ 254558442 := by
  have : k < 254558443 := sq_cancel (by omega) (by omega)
  omega

def xwayS (la1 lo1 la2 lo2 : Int) : Int := (shortS lo1 lo2 * cosS ((la1 + la2) / 2)).tdiv 1000000
def distS (la1 lo1 la2 lo2 : Int) : Int := (rootS ((la2 - la1) * (la2 - la1) + xwayS la1 lo1 la2 lo2 * xwayS la1 lo1 la2 lo2) * 111195).tdiv 1000000
def betwS (la1 lo1 la2 lo2 p q : Int) : Int × Int := (la1 + (la2 - la1) * p / q, wrapS (lo1 + shortS lo1 lo2 * p / q))

theorem tdivM {x A : Int} (h : -(A * 1000000) ≤ x ∧ x ≤ A * 1000000) : -A ≤ x.tdiv 1000000 ∧ x.tdiv 1000000 ≤ A := by
  rcases Int.le_total 0 x with h0 | h0
  · rw [Int.tdiv_eq_ediv_of_nonneg h0]; omega
  · have : x.tdiv 1000000 = -((-x) / 1000000) := by rw [← Int.tdiv_eq_ediv_of_nonneg (by omega), Int.neg_tdiv]; omega
    omega

theorem xway_bd {la1 lo1 la2 lo2 : Int} (h1 : -90000000 ≤ la1 ∧ la1 ≤ 90000000) (h2 : -90000000 ≤ la2 ∧ la2 ≤ 90000000) :
    (-180000000000000 ≤ shortS lo1 lo2 * cosS ((la1 + la2) / 2) ∧ shortS lo1 lo2 * cosS ((la1 + la2) / 2) ≤ 180000000000000) ∧ -180000000 ≤ xwayS la1 lo1 la2 lo2 ∧ xwayS la1 lo1 la2 lo2 ≤ 180000000 := by
  have hs := short_bd lo1 lo2
  have hc := cosS_bd (x := (la1 + la2) / 2) (by omega)
  have := mul_bd (A := 180000000) (B := 1000000) (show -180000000 ≤ shortS lo1 lo2 ∧ shortS lo1 lo2 ≤ 180000000 by omega) hc (by omega)
  refine ⟨by omega, ?_⟩
  unfold xwayS
  exact tdivM (by omega)

theorem sqb {x : Int} (h : -180000000 ≤ x ∧ x ≤ 180000000) : 0 ≤ x * x ∧ x * x ≤ 32400000000000000 := by
  refine ⟨?_, ?_⟩
  · rcases Int.le_total 0 x with h0 | h0
    · exact Int.mul_nonneg h0 h0
    · have := Int.mul_nonneg (show 0 ≤ -x by omega) (show 0 ≤ -x by omega)
      rwa [Int.neg_mul_neg] at this
  · rcases Int.le_total 0 x with h0 | h0
    · have := sq_mono h0 h.2; omega
    · have := sq_mono (show 0 ≤ -x by omega) (show -x ≤ 180000000 by omega)
      rw [Int.neg_mul_neg] at this; omega

theorem root_bd {n : Int} (h : 0 ≤ n ∧ n ≤ 64800000000000000) : 0 ≤ rootS n ∧ rootS n ≤ 254558442 := by
  obtain ⟨g0, g1, _⟩ := root_spec h.1
  have : rootS n < 254558443 := sq_cancel (by omega) (by omega)
  omega

def placesS : List (Int × Int) → Int
  | [] => 0
  | p :: r => if placeS p.1 p.2 = 0 then placesS r else placeS p.1 p.2

theorem places_drop (xs : List (Int × Int)) (k : Nat) (h : k < xs.length) : placesS (xs.drop k) = if placeS xs[k].1 xs[k].2 = 0 then placesS (xs.drop (k + 1)) else placeS xs[k].1 xs[k].2 := by
  rw [List.drop_eq_getElem_cons h]; rfl

theorem places2 (a b c d : Int) : placesS [(a, b), (c, d)] = firstS [placeS a b, placeS c d] := by
  simp only [placesS, firstS]

theorem first3 (a b c : Int) : firstS [a, b, c] = if firstS [a, b] = 0 then c else firstS [a, b] := by
  simp only [firstS]
  repeat' split
  all_goals omega
theorem first12 (a b c : Int) : firstS [a, b, c] = firstS [firstS [a, b], c] := by
  simp only [firstS]
  repeat' split
  all_goals omega
theorem cond_pq {p q : Int} (g1 : 1 ≤ q) (g2 : q ≤ 6311433599) (g3 : 0 ≤ p) : (if 1 ≤ q ∧ q ≤ 6311433599 ∧ 0 ≤ p ∧ p ≤ q then (0 : Int) else 2) = if decide (p ≤ q) = true then 0 else 2 := by
  by_cases hz : p ≤ q
  · rw [if_pos (by omega), if_pos (by simpa using hz)]
  · rw [if_neg (by omega), if_neg (by simpa using hz)]
theorem first_ne {a b : Int} (h : a ≠ 0) : ¬ firstS [a, b] = 0 := fun g => h (first2 g).1
theorem told_betw {A B c c' : Int} {x : Int × Int} (h : c = c') :
    decide ((((if firstS [A, B, c] = 0 then x else (0, 0)).1, (if firstS [A, B, c] = 0 then x else (0, 0)).2) : Int × Int) = (if firstS [firstS [A, B], c'] = 0 then (x.1, x.2) else (0, 0)) ∧ firstS [A, B, c] = firstS [firstS [A, B], c']) = true := by
  subst h
  simp [first12]
theorem told_betw' {A B c c' : Int} {x y : Int × Int} (h : c = c') (hf : ¬ firstS [firstS [A, B], c'] = 0) :
    decide ((((if firstS [A, B, c] = 0 then x else (0, 0)).1, (if firstS [A, B, c] = 0 then x else (0, 0)).2) : Int × Int) = (if firstS [firstS [A, B], c'] = 0 then (y.1, y.2) else (0, 0)) ∧ firstS [A, B, c] = firstS [firstS [A, B], c']) = true := by
  subst h
  simp only [first12, if_neg hf]
  simp
theorem told_dist {A B : Int} {x : Int} : decide ((if firstS [A, B] = 0 then x else 0) = (if firstS [A, B] = 0 then x else 0) ∧ firstS [A, B] = firstS [A, B]) = true := by simp
theorem told_dist' {A B : Int} {x y : Int} (h : firstS [A, B] ≠ 0) : decide ((if firstS [A, B] = 0 then x else 0) = (if firstS [A, B] = 0 then y else 0) ∧ firstS [A, B] = firstS [A, B]) = true := by simp [h]
theorem betw_leaf {x y e x' y' e' : Int} (hx : x = x') (hy : y = y') (he : e = e') :
    Value.tuple #[.agg #[.int .i64 x, .int .i64 y], .int .i64 e] = Value.tuple #[.agg #[.int .i64 x', .int .i64 y'], .int .i64 e'] := by rw [hx, hy, he]
theorem outsideT {n lo hi : Int} (h : outsideS n lo hi = true) : ¬ (lo ≤ n ∧ n ≤ hi) := by
  simp [outsideS] at h; omega
theorem outsideF {n lo hi : Int} (h : outsideS n lo hi = false) : lo ≤ n ∧ n ≤ hi := by
  simp [outsideS] at h; omega

end Go.Vc.Where
