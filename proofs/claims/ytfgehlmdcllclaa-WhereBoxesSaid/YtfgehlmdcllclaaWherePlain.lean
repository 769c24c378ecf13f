/- What the functions of package where and of its reference compute, as plain functions on integers and lists, and the laws on these. No program in sight. Conditions: none. -/
import Derived.WalkKit
namespace Go.Vc.Where

def outsideS (n lo hi : Int) : Bool := decide (n < lo) || decide (hi < n)
def isLatS (n : Int) : Bool := decide (-90000000 ≤ n ∧ n ≤ 90000000)
def isLonS (n : Int) : Bool := decide (-180000000 ≤ n ∧ n ≤ 179999999)
def placeS (a b : Int) : Int := if (-90000000 ≤ a ∧ a ≤ 90000000) ∧ -180000000 ≤ b ∧ b ≤ 179999999 then 0 else 2
def boxS (s w n e : Int) : Int := if placeS s w = 0 ∧ placeS n e = 0 then (if n < s then 5 else 0) else 2
def metresS (n : Int) : Int := if 0 ≤ n ∧ n ≤ 30000000 then 0 else 2
def firstS : List Int → Int
  | [] => 0
  | x :: r => if x = 0 then firstS r else x

theorem first_drop (xs : List Int) (k : Nat) (h : k < xs.length) : firstS (xs.drop k) = if xs[k] = 0 then firstS (xs.drop (k + 1)) else xs[k] := by
  rw [List.drop_eq_getElem_cons h]; rfl

theorem first2 {a b : Int} (h : firstS [a, b] = 0) : a = 0 ∧ b = 0 := by
  simp only [firstS] at h
  by_cases ha : a = 0
  · rw [if_pos ha] at h
    by_cases hb : b = 0
    · exact ⟨ha, hb⟩
    · rw [if_neg hb] at h; exact absurd h hb
  · rw [if_neg ha] at h; exact absurd h ha
theorem first2n {a b : Int} (h : ¬ firstS [a, b] = 0) : ¬ (a = 0 ∧ b = 0) := by
  rintro ⟨rfl, rfl⟩; exact h rfl

theorem place_ok {a b : Int} (h : placeS a b = 0) : (-90000000 ≤ a ∧ a ≤ 90000000) ∧ -180000000 ≤ b ∧ b ≤ 179999999 := by
  unfold placeS at h; split at h
  · assumption
  · omega

theorem box_ok {s w n e : Int} (h : boxS s w n e = 0) : (-90000000 ≤ s ∧ s ≤ n ∧ n ≤ 90000000) ∧ (-180000000 ≤ w ∧ w ≤ 179999999) ∧ -180000000 ≤ e ∧ e ≤ 179999999 := by
  unfold boxS at h
  split at h
  · rename_i hp
    have h1 := place_ok hp.1
    have h2 := place_ok hp.2
    split at h <;> omega
  · omega

theorem metres_ok {n : Int} (h : metresS n = 0) : 0 ≤ n ∧ n ≤ 30000000 := by
  unfold metresS at h; split at h
  · assumption
  · omega

theorem metres_no {n : Int} (h : metresS n ≠ 0) : metresS n = 2 := by
  unfold metresS at *; split <;> simp_all
theorem outside_m {m : Int} (h : outsideS m 0 30000000 = true) : metresS m = 2 := by
  simp only [outsideS, Bool.or_eq_true, decide_eq_true_eq] at h
  unfold metresS; rw [if_neg (by omega)]
theorem inside_m {m : Int} (h : outsideS m 0 30000000 = false) : metresS m = 0 := by
  simp only [outsideS, Bool.or_eq_false_iff, decide_eq_false_iff_not] at h
  unfold metresS; rw [if_pos (by omega)]

/-- The way to the east. -/
def eastS (f t : Int) : Int := (t - f) % 360000000
def wrapS (n : Int) : Int := (n + 180000000) % 360000000 - 180000000

theorem east_rem (x : Int) : (x.tmod 360000000 + 360000000).tmod 360000000 = x % 360000000 := by
  have h1 := Int.tmod_lt_of_pos x (b := 360000000) (by omega)
  have h2 : -360000000 < x.tmod 360000000 := by have := Int.lt_tmod_of_pos x (b := 360000000) (by omega); omega
  rw [Int.tmod_eq_emod_of_nonneg (by omega)]
  have h3 : x.tmod 360000000 = x - 360000000 * x.tdiv 360000000 := by have := Int.tmod_add_mul_tdiv x 360000000; omega
  rw [h3]
  omega

theorem tmod_bd (x : Int) : -360000000 < x.tmod 360000000 ∧ x.tmod 360000000 < 360000000 :=
  ⟨by have := Int.lt_tmod_of_pos x (b := 360000000) (by omega); omega, Int.tmod_lt_of_pos x (by omega)⟩

/-- The cosine of a latitude, in millionths. -/
def cosN (l : Int) : Int := ((3240000000000 - 4 * l * l) * 1000000).tdiv (3240000000000 + l * l)
def cosS (lat : Int) : Int := cosN (lat.tdiv 100)

theorem tdiv100 {x : Int} (h : -90000000 ≤ x ∧ x ≤ 90000000) : -900000 ≤ x.tdiv 100 ∧ x.tdiv 100 ≤ 900000 := by
  rcases Int.le_total 0 x with h0 | h0
  · rw [Int.tdiv_eq_ediv_of_nonneg h0]; omega
  · have : x.tdiv 100 = -((-x) / 100) := by rw [← Int.tdiv_eq_ediv_of_nonneg (by omega), Int.neg_tdiv]; omega
    omega

theorem sq_bd {l : Int} (h : -900000 ≤ l ∧ l ≤ 900000) : 0 ≤ l * l ∧ l * l ≤ 810000000000 := by
  refine ⟨?_, ?_⟩
  · rcases Int.le_total 0 l with h0 | h0
    · exact Int.mul_nonneg h0 h0
    · have := Int.mul_nonneg (show 0 ≤ -l by omega) (show 0 ≤ -l by omega)
      rwa [Int.neg_mul_neg] at this
  · rcases Int.le_total 0 l with h0 | h0
    · have := Int.mul_le_mul h.2 h.2 h0 (by omega : (0 : Int) ≤ 900000)
      omega
    · have := Int.mul_le_mul (show -l ≤ 900000 by omega) (show -l ≤ 900000 by omega) (by omega) (by omega : (0 : Int) ≤ 900000)
      rw [Int.neg_mul_neg] at this
      omega

theorem four (l : Int) : 4 * l * l = 4 * (l * l) := Int.mul_assoc 4 l l

theorem cosN_bd {l : Int} (h : -900000 ≤ l ∧ l ≤ 900000) : 0 ≤ cosN l ∧ cosN l ≤ 1000000 := by
  obtain ⟨h1, h2⟩ := sq_bd h
  unfold cosN
  rw [four]
  generalize l * l = q at *
  rw [Int.tdiv_eq_ediv_of_nonneg (by omega)]
  refine ⟨Int.ediv_nonneg (by omega) (by omega), ?_⟩
  have : (3240000000000 - 4 * q) * 1000000 ≤ 1000000 * (3240000000000 + q) := by omega
  exact Int.ediv_le_of_le_mul (by omega) this

theorem cosS_bd {x : Int} (h : -90000000 ≤ x ∧ x ≤ 90000000) : 0 ≤ cosS x ∧ cosS x ≤ 1000000 := cosN_bd (tdiv100 h)

/-- The reach of a box around a place. -/
def reachS (m : Int) : Int := ((m + 1) * 1000000).tdiv 111195 + 1

theorem reach_bd {m : Int} (h : 0 ≤ m ∧ m ≤ 30000000) : 1 ≤ reachS m ∧ reachS m ≤ 300000000 := by
  unfold reachS
  rw [Int.tdiv_eq_ediv_of_nonneg (by omega)]
  omega

/-- What a box around a place has: south, west, north, east. -/
def aroundS (la lo m : Int) : Int × Int × Int × Int :=
  let r := reachS m
  let s := max (la - r) (-90000000)
  let n := min (la + r) 90000000
  let c := min (cosS s) (cosS n)
  if c = 0 then (s, -180000000, n, 179999999)
  else if (r * 1000000).tdiv c + 1 < 180000000 then (s, wrapS (lo - ((r * 1000000).tdiv c + 1)), n, wrapS (lo + ((r * 1000000).tdiv c + 1)))
  else (s, -180000000, n, 179999999)

def aroundT (la lo m : Int) : Int × Int × Int × Int := if placeS la lo = 0 ∧ metresS m = 0 then aroundS la lo m else (0, 0, 0, 0)

theorem around_full {la lo m s n : Int} (hs : s = max (la - reachS m) (-90000000)) (hn : n = min (la + reachS m) 90000000) (h : min (cosS s) (cosS n) = 0 ∨ ¬ (reachS m * 1000000).tdiv (min (cosS s) (cosS n)) + 1 < 180000000) :
    aroundS la lo m = (s, -180000000, n, 179999999) := by
  subst hs hn
  simp only [aroundS]
  split
  · rfl
  · rename_i hc
    rw [if_neg (h.resolve_left hc)]

theorem around_part {la lo m s n : Int} (hs : s = max (la - reachS m) (-90000000)) (hn : n = min (la + reachS m) 90000000) (h1 : ¬ min (cosS s) (cosS n) = 0) (h2 : (reachS m * 1000000).tdiv (min (cosS s) (cosS n)) + 1 < 180000000) :
    aroundS la lo m = (s, wrapS (lo - ((reachS m * 1000000).tdiv (min (cosS s) (cosS n)) + 1)), n, wrapS (lo + ((reachS m * 1000000).tdiv (min (cosS s) (cosS n)) + 1))) := by
  subst hs hn
  simp only [aroundS]
  rw [if_neg h1, if_pos h2]

theorem box4 {q : Int × Int × Int × Int} {a b c d : Int} (h : q = (a, b, c, d)) : Value.agg #[.int .i64 a, .int .i64 b, .int .i64 c, .int .i64 d] = Value.agg #[.int .i64 q.1, .int .i64 q.2.1, .int .i64 q.2.2.1, .int .i64 q.2.2.2] := by rw [h]

theorem box4t {q : Int × Int × Int × Int} {a b c d f g : Int} (h : q = (a, b, c, d)) (hf : f = g) : Value.tuple #[.agg #[.int .i64 a, .int .i64 b, .int .i64 c, .int .i64 d], .int .i64 f] = Value.tuple #[.agg #[.int .i64 q.1, .int .i64 q.2.1, .int .i64 q.2.2.1, .int .i64 q.2.2.2], .int .i64 g] := by rw [h, hf]

theorem x_bd {r c : Int} (h : 1 ≤ r ∧ r ≤ 300000000) (hc : 0 ≤ c) : 0 ≤ (r * 1000000).tdiv c ∧ (r * 1000000).tdiv c ≤ 300000000000000 := by
  rw [Int.tdiv_eq_ediv_of_nonneg (by omega)]
  refine ⟨Int.ediv_nonneg (by omega) hc, ?_⟩
  have := Int.ediv_le_self c (show 0 ≤ r * 1000000 by omega)
  omega

def insideS (s w n e la lo : Int) : Bool := decide (s ≤ la) && decide (la ≤ n) && decide (eastS w lo ≤ eastS w e)
def meetsS (s1 w1 n1 e1 s2 w2 n2 e2 : Int) : Bool := decide (s1 ≤ n2) && decide (s2 ≤ n1) && (decide (eastS w1 w2 ≤ eastS w1 e1) || decide (eastS w2 w1 ≤ eastS w2 e2))

theorem told_and {A B : Int} {v : Bool} (h : firstS [A, B] = 0) : decide ((decide (A = 0) && decide (B = 0) && v) = (if firstS [A, B] = 0 then v else false) ∧ firstS [A, B] = firstS [A, B]) = true := by
  obtain ⟨rfl, rfl⟩ := first2 h
  simp [firstS]
theorem told_and' {A B : Int} {v : Bool} (h : ¬ firstS [A, B] = 0) : decide ((decide (A = 0) && decide (B = 0) && v) = (if firstS [A, B] = 0 then false else false) ∧ firstS [A, B] = firstS [A, B]) = true := by
  have h' := first2n h
  have e : (decide (A = 0) && decide (B = 0)) = false := by
    rw [Bool.eq_false_iff]; intro hh; simp at hh; exact h' hh
  simp [e]
theorem told_around {la lo m : Int} (h : firstS [placeS la lo, metresS m] = 0) :
    decide ((((aroundT la lo m).1, (aroundT la lo m).2.1, (aroundT la lo m).2.2.1, (aroundT la lo m).2.2.2) : Int × Int × Int × Int) =
      (if firstS [placeS la lo, metresS m] = 0 then ((aroundS la lo m).1, (aroundS la lo m).2.1, (aroundS la lo m).2.2.1, (aroundS la lo m).2.2.2) else (0, 0, 0, 0)) ∧ firstS [placeS la lo, metresS m] = firstS [placeS la lo, metresS m]) = true := by
  have e : aroundT la lo m = aroundS la lo m := by unfold aroundT; rw [if_pos (first2 h)]
  rw [e, if_pos h]; simp
theorem told_around' {la lo m : Int} (h : ¬ firstS [placeS la lo, metresS m] = 0) :
    decide ((((aroundT la lo m).1, (aroundT la lo m).2.1, (aroundT la lo m).2.2.1, (aroundT la lo m).2.2.2) : Int × Int × Int × Int) =
      (if firstS [placeS la lo, metresS m] = 0 then (0, 0, 0, 0) else (0, 0, 0, 0)) ∧ firstS [placeS la lo, metresS m] = firstS [placeS la lo, metresS m]) = true := by
  have e : aroundT la lo m = (0, 0, 0, 0) := by unfold aroundT; rw [if_neg (first2n h)]
  rw [e]; simp

end Go.Vc.Where
