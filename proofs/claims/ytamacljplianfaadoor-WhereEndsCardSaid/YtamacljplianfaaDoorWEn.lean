/- The laws of places as text and of the two ends of a way. Conditions: none. -/
import Derived.Test.YtamacljplianfaaDoorWPt
namespace Go.M
open Go.Md Go.Pl Go.Vc.Where

/-! ### degrees in words -/

def absW (u : Nat) : List UInt8 := decD (u / 1000000) ++ 46 :: (List.replicate (6 - (decD (u % 1000000)).length) 48 ++ decD (u % 1000000))
def degS (n : Int) : List UInt8 := if n < 0 then 45 :: absW n.natAbs else absW n.natAbs

theorem gItoa_nat {n : Int} (h : 0 ≤ n ∧ n ≤ 9223372036854775807) : gItoa n = some (decD n.toNat) := by
  unfold gItoa
  rw [if_pos (by omega)]
  unfold itoaL
  rw [if_neg (by omega)]

theorem lens {u : Nat} (hu : u ≤ 180000000) : (decD (u / 1000000)).length ≤ 3 ∧ (decD (u % 1000000)).length ≤ 6 := by
  obtain ⟨_, _, _, h1, _⟩ := decD_spec 2 (u / 1000000) (by omega)
  obtain ⟨_, _, _, h2, _⟩ := decD_spec 5 (u % 1000000) (by omega)
  omega

theorem degj_eq {x : Int} (h : 0 ≤ x ∧ x ≤ 180000000) {p : List UInt8} (hp : p.length ≤ 1) : where_degrees_j1 x p = some (p ++ absW x.natAbs) := by
  obtain ⟨l1, l2⟩ := lens (u := x.natAbs) (by omega)
  have e1 : (x % 1000000).toNat = x.natAbs % 1000000 := by omega
  have e2 : (x / 1000000).toNat = x.natAbs / 1000000 := by omega
  unfold where_degrees_j1
  rw [gRem_nn (by omega) (by omega), bnd_pure, gItoa_nat (by omega), bnd_pure, gQuo_nn (by omega) (by omega), bnd_pure, gItoa_nat (by omega), bnd_pure, e1, e2,
    gCat_ok (by omega), bnd_pure, gCat_ok (by rw [List.length_append, List.length_singleton]; omega), bnd_pure, gI_ok (by omega), bnd_pure]
  have e3 : gRep [48] (6 - ((decD (x.natAbs % 1000000)).length : Int)) = some (List.replicate (6 - (decD (x.natAbs % 1000000)).length) 48) := by
    unfold gRep
    have e : (6 - ((decD (x.natAbs % 1000000)).length : Int)).toNat = 6 - (decD (x.natAbs % 1000000)).length := by omega
    rw [e, if_pos ⟨by omega, by omega, by rw [List.length_singleton]; omega⟩]
    congr 1
    generalize 6 - (decD (x.natAbs % 1000000)).length = k
    induction k with
    | zero => rfl
    | succ k ih => rw [List.replicate_succ, List.flatten_cons, ih]; rfl
  rw [e3, bnd_pure, gCat_ok (by simp only [List.length_append, List.length_singleton, List.length_replicate]; omega), bnd_pure, gCat_ok (by simp only [List.length_append, List.length_singleton, List.length_replicate]; omega), bnd_pure]
  unfold absW
  simp only [List.append_assoc, List.singleton_append, List.cons_append, List.nil_append]
theorem deg_eq {n : Int} (h : -180000000 ≤ n ∧ n ≤ 180000000) : where_degrees n = some (degS n) := by
  unfold where_degrees degS
  rw [cnd_if]
  by_cases h0 : n < 0
  · rw [if_pos h0, if_pos h0, gI_ok (by omega), bnd_pure, degj_eq (by omega) (by simp), show (-n).natAbs = n.natAbs from by omega]; rfl
  · rw [if_neg h0, if_neg h0, degj_eq (by omega) (by simp)]; rfl
theorem Rdegj_eq {x : Int} (h : 0 ≤ x ∧ x ≤ 180000000) {p : List UInt8} (hp : p.length ≤ 1) : R_degrees_j1 x p = some (p ++ absW x.natAbs) := by
  obtain ⟨l1, l2⟩ := lens (u := x.natAbs) (by omega)
  have e1 : (x % 1000000).toNat = x.natAbs % 1000000 := by omega
  have e2 : (x / 1000000).toNat = x.natAbs / 1000000 := by omega
  unfold R_degrees_j1
  rw [gRem_nn (by omega) (by omega), bnd_pure, gItoa_nat (by omega), bnd_pure, gQuo_nn (by omega) (by omega), bnd_pure, gItoa_nat (by omega), bnd_pure, e1, e2,
    gCat_ok (by omega), bnd_pure, gCat_ok (by rw [List.length_append, List.length_singleton]; omega), bnd_pure]
  have e3 : gCut ([48, 48, 48, 48, 48, 48] : List UInt8) ((decD (x.natAbs % 1000000)).length : Int) ((([48, 48, 48, 48, 48, 48] : List Nat).length : Nat) : Int) = some (List.replicate (6 - (decD (x.natAbs % 1000000)).length) 48) := by
    show gCut ([48, 48, 48, 48, 48, 48] : List UInt8) ((decD (x.natAbs % 1000000)).length : Int) ((([48, 48, 48, 48, 48, 48] : List UInt8).length : Nat) : Int) = _
    rw [gCut_from (by rw [show (([48, 48, 48, 48, 48, 48] : List UInt8).length : Int) = 6 from rfl]; omega), Int.toNat_natCast]
    exact congrArg some (List.drop_replicate (i := (decD (x.natAbs % 1000000)).length) (n := 6) (a := (48 : UInt8)))
  rw [e3, bnd_pure, gCat_ok (by simp only [List.length_append, List.length_singleton, List.length_replicate]; omega), bnd_pure, gCat_ok (by simp only [List.length_append, List.length_singleton, List.length_replicate]; omega), bnd_pure]
  unfold absW
  simp only [List.append_assoc, List.singleton_append, List.cons_append, List.nil_append]
theorem Rdeg_eq {n : Int} (h : -180000000 ≤ n ∧ n ≤ 180000000) : R_degrees n = some (degS n) := by
  unfold R_degrees degS
  rw [cnd_if]
  by_cases h0 : n < 0
  · rw [if_pos h0, if_pos h0, gI_ok (by omega), bnd_pure, Rdegj_eq (by omega) (by simp), show (-n).natAbs = n.natAbs from by omega]; rfl
  · rw [if_neg h0, if_neg h0, Rdegj_eq (by omega) (by simp)]; rfl

theorem absW_len {u : Nat} (hu : u ≤ 180000000) : (absW u).length ≤ 20 := by
  obtain ⟨l1, l2⟩ := lens hu
  unfold absW
  simp only [List.length_append, List.length_cons, List.length_replicate]
  omega
theorem deg_len {n : Int} (h : -180000000 ≤ n ∧ n ≤ 180000000) : (degS n).length ≤ 21 := by
  have := absW_len (u := n.natAbs) (by omega)
  unfold degS
  split
  · rw [List.length_cons]; omega
  · omega

/-- A place in words. -/
def wordS (p : T_api_Place) : List UInt8 := degS p.Lat ++ 32 :: degS p.Lon
theorem word_len {p : T_api_Place} (h : PL p) : (wordS p).length ≤ 43 := by
  unfold PL at h
  have h1 := deg_len (n := p.Lat) (by omega)
  have h2 := deg_len (n := p.Lon) (by omega)
  unfold wordS
  rw [List.length_append, List.length_cons]; omega
theorem PlaceText_eq (p : T_api_Place) : where_PlaceText p = some (if placeS p.Lat p.Lon = 0 then (wordS p, 0) else ([], placeS p.Lat p.Lon)) := by
  unfold where_PlaceText
  rw [CheckPlace_eq, bnd_pure, cnd_if]
  by_cases hp : placeS p.Lat p.Lon = 0
  · have h := PL_iff.1 hp
    unfold PL at h
    have h1 := deg_len (n := p.Lat) (by omega)
    have h2 := deg_len (n := p.Lon) (by omega)
    rw [if_neg (fun h => h hp), if_pos hp, deg_eq (by omega), bnd_pure, gCat_ok (by rw [List.length_singleton]; omega), bnd_pure, deg_eq (by omega), bnd_pure, gCat_ok (by rw [List.length_append, List.length_singleton]; omega), bnd_pure]
    unfold wordS
    rw [List.append_assoc, List.singleton_append]
  · rw [if_pos hp, if_neg hp]
theorem PlaceWords_eq {p : T_api_Place} (h : PL p) : R_PlaceWords p = some (wordS p) := by
  unfold PL at h
  have h1 := deg_len (n := p.Lat) (by omega)
  have h2 := deg_len (n := p.Lon) (by omega)
  unfold R_PlaceWords
  rw [Rdeg_eq (by omega), bnd_pure, gCat_ok (by rw [List.length_singleton]; omega), bnd_pure, Rdeg_eq (by omega), bnd_pure, gCat_ok (by rw [List.length_append, List.length_singleton]; omega), bnd_pure]
  unfold wordS
  rw [List.append_assoc, List.singleton_append]

/-! ### read back -/

theorem val_zeros (k : Nat) (l : List UInt8) : valS 0 (List.replicate k 48 ++ l) = valS 0 l := by
  rw [valS_app]
  congr 1
  induction k with
  | zero => rfl
  | succ k ih => rw [List.replicate_succ]; exact ih
theorem all_zeros (k : Nat) : (List.replicate k (48 : UInt8)).all dg = true := by
  rw [List.all_eq_true]
  intro x hx
  rw [List.eq_of_mem_replicate hx]; decide
theorem absS_W {u : Nat} (hu : u ≤ 180000000) : absS (absW u) = some u := by
  obtain ⟨a1, a2, a3, a4, a5, a6⟩ := decD_spec 2 (u / 1000000) (by omega)
  obtain ⟨b1, b2, b3, b4, _, _⟩ := decD_spec 5 (u % 1000000) (by omega)
  have e : cutS 46 (absW u) = (decD (u / 1000000), List.replicate (6 - (decD (u % 1000000)).length) 48 ++ decD (u % 1000000), true) := cutS_at (all_no a1 (by decide))
  have hl : (List.replicate (6 - (decD (u % 1000000)).length) (48 : UInt8) ++ decD (u % 1000000)).length = 6 := by rw [List.length_append, List.length_replicate]; omega
  unfold absS
  rw [e, if_pos ⟨rfl, ⟨a3, by omega, a1, fun h => a6 (a5 h)⟩, hl, by rw [List.all_append, all_zeros, b1]; rfl⟩]
  show some (valS 0 (decD (u / 1000000) ++ (List.replicate (6 - (decD (u % 1000000)).length) 48 ++ decD (u % 1000000)))) = _
  rw [valS_app, valS_acc, hl, a2, val_zeros, b2]
  congr 1
  omega
theorem absW_head {u : Nat} (hu : u ≤ 180000000) : ¬ (absW u).head? = some 45 := by
  obtain ⟨a1, _, a3, _⟩ := decD_spec 2 (u / 1000000) (by omega)
  unfold absW
  cases h : decD (u / 1000000) with
  | nil => exact absurd h a3
  | cons c l =>
    rw [h, List.all_cons, Bool.and_eq_true] at a1
    simp only [List.cons_append, List.head?_cons, Option.some.injEq]
    intro e; subst e
    exact absurd a1.1 (by decide)
theorem rd_deg {n : Int} (h : -180000000 ≤ n ∧ n ≤ 180000000) : rdS (degS n) = some n := by
  unfold rdS degS
  by_cases h0 : n < 0
  · rw [if_pos h0, if_pos (by rfl), List.tail_cons, absS_W (by omega)]
    show (if 0 < n.natAbs then some (-((n.natAbs : Nat) : Int)) else none) = some n
    rw [if_pos (by omega)]
    congr 1; omega
  · rw [if_neg h0, if_neg (absW_head (by omega)), absS_W (by omega)]
    show some ((n.natAbs : Nat) : Int) = some n
    congr 1; omega
theorem deg_32 {n : Int} (h : -180000000 ≤ n ∧ n ≤ 180000000) : ∀ x ∈ degS n, x ≠ 32 := by
  obtain ⟨a1, _⟩ := decD_spec 2 (n.natAbs / 1000000) (by omega)
  obtain ⟨b1, _⟩ := decD_spec 5 (n.natAbs % 1000000) (by omega)
  have key : ∀ x ∈ absW n.natAbs, x ≠ 32 := by
    intro x hx
    unfold absW at hx
    rcases List.mem_append.1 hx with hx | hx
    · exact all_no a1 (by decide) x hx
    · rcases List.mem_cons.1 hx with rfl | hx
      · decide
      · rcases List.mem_append.1 hx with hx | hx
        · exact all_no (all_zeros _) (by decide) x hx
        · exact all_no b1 (by decide) x hx
  intro x hx
  unfold degS at hx
  split at hx
  · rcases List.mem_cons.1 hx with rfl | hx
    · decide
    · exact key x hx
  · exact key x hx
theorem read_word {p : T_api_Place} (h : PL p) : readS (wordS p) = (p, 0) := by
  have hp := PL_iff.2 h
  unfold PL at h
  have e : cutS 32 (wordS p) = (degS p.Lat, degS p.Lon, true) := cutS_at (deg_32 (by omega))
  unfold readS
  rw [e]
  simp only [rd_deg (n := p.Lat) (by omega), rd_deg (n := p.Lon) (by omega), if_pos hp]

/-! ### the law of places -/

theorem told_str_ok {a c : List UInt8} {b d : Int} (h : a = (if d = 0 then c else [])) (hb : b = d) : Law_told_string a b c d = some true := by
  subst h hb
  unfold Law_told_string Law_told_string_j1
  by_cases h : b = 0 <;> simp [h]

def latE (a : Int) : Int := if -90000000 ≤ a ∧ a ≤ 90000000 then 0 else 2
theorem isLat_eq (a : Int) : where_isLat a = some (decide (-90000000 ≤ a ∧ a ≤ 90000000)) := by
  unfold where_isLat
  rw [outside_eq, bnd_pure]
  by_cases h : -90000000 ≤ a ∧ a ≤ 90000000
  · rw [decide_eq_true h, decide_eq_false (by omega)]; rfl
  · rw [decide_eq_false h, decide_eq_true (by omega)]; rfl
theorem Cosine_eq (a : Int) : where_Cosine a = some (if latE a = 0 then cosS a else 0, latE a) := by
  unfold where_Cosine
  rw [isLat_eq, bnd_pure]
  unfold latE
  by_cases h : -90000000 ≤ a ∧ a ≤ 90000000
  · rw [decide_eq_true h, show (!true) = false from rfl, cnd_false, if_pos h, cosine_eq h, bnd_pure, if_pos rfl]
  · rw [decide_eq_false h, show (!false) = true from rfl, cnd_true, if_neg h, if_neg (by decide)]

theorem law_places (p : T_api_Place) {s : List UInt8} (hs : s.length ≤ 1000000000000000) (lat : Int) : Law_WherePlaces p s lat = some true := by
  have j3 : ∀ w, w = (if placeS p.Lat p.Lon = 0 then wordS p else []) → Law_WherePlaces_j3 p (placeS p.Lat p.Lon) (if placeS p.Lat p.Lon = 0 then (wordS p, 0) else ([], placeS p.Lat p.Lon)) (readS s) (readS s) (if latE lat = 0 then cosS lat else 0, latE lat) (latE lat) (if latE lat = 0 then cosS lat else 0) w = some true := by
    intro w hw
    unfold Law_WherePlaces_j3
    rw [CheckPlace_eq, bnd_pure, decide_eq_true rfl, cnd_true, told_str_ok, bnd_pure, cnd_true, told_place_ok, bnd_pure, cnd_true, told_int_ok, bnd_pure]
    · by_cases h : latE lat = 0 <;> simp [h]
    · rfl
    · unfold readS
      split
      · split
        · simp
        · rename_i h; simp [h]
      · simp
    · rfl
    · subst hw
      by_cases h : placeS p.Lat p.Lon = 0 <;> simp [h]
    · by_cases h : placeS p.Lat p.Lon = 0 <;> simp [h]
  have j1 : Law_WherePlaces_j1 p lat (placeS p.Lat p.Lon) (if placeS p.Lat p.Lon = 0 then (wordS p, 0) else ([], placeS p.Lat p.Lon)) (readS s) (readS s) (if latE lat = 0 then cosS lat else 0, latE lat) (latE lat) = some true := by
    have j2 : Law_WherePlaces_j2 p (placeS p.Lat p.Lon) (if placeS p.Lat p.Lon = 0 then (wordS p, 0) else ([], placeS p.Lat p.Lon)) (readS s) (readS s) (if latE lat = 0 then cosS lat else 0, latE lat) (latE lat) (if latE lat = 0 then cosS lat else 0) = some true := by
      unfold Law_WherePlaces_j2
      by_cases h : placeS p.Lat p.Lon = 0
      · rw [cY h, PlaceWords_eq (PL_iff.1 h), bnd_pure]
        exact j3 _ (by rw [if_pos h])
      · rw [cN h]
        exact j3 _ (by rw [if_neg h])
    unfold Law_WherePlaces_j1
    by_cases h : latE lat = 0
    · have hl : -90000000 ≤ lat ∧ lat ≤ 90000000 := by unfold latE at h; split at h; assumption; cases h
      rw [cY h, R_cosine_eq hl, bnd_pure]
      rw [if_pos h] at j2 ⊢
      exact j2
    · rw [cN h]
      rw [if_neg h] at j2 ⊢
      exact j2
  unfold Law_WherePlaces
  rw [R_PlaceFault_eq, bnd_pure, PlaceText_eq, bnd_pure, ReadPlace_eq hs, bnd_pure, PlaceRead_eq hs, bnd_pure, Cosine_eq, bnd_pure]
  by_cases h1 : -90000000 ≤ lat
  · rw [cY h1, unless_eq, bnd_pure]
    have : (if decide (lat ≤ 90000000) = true then 0 else 2) = latE lat := by
      unfold latE
      by_cases h2 : lat ≤ 90000000 <;> simp [h1, h2]
    rw [this]; exact j1
  · rw [cN h1, unless_eq, bnd_pure]
    have : (if false = true then (0 : Int) else 2) = latE lat := by
      unfold latE
      simp [h1]
    rw [this]; exact j1

/-! ### the two ends -/

theorem xway_or (a b c d : Int) : xwayS c d a b = xwayS a b c d ∨ xwayS c d a b = -xwayS a b c d := by
  unfold xwayS
  rw [Int.add_comm c a]
  have : shortS d b = shortS b d ∨ shortS d b = -shortS b d := by unfold shortS eastS; omega
  rcases this with h | h
  · exact .inl (by rw [h])
  · exact .inr (by rw [h, Int.neg_mul, Int.neg_tdiv])
theorem dist_comm (p q : T_api_Place) : distP q p = distP p q := by
  unfold distP distS
  have e1 : (p.Lat - q.Lat) * (p.Lat - q.Lat) = (q.Lat - p.Lat) * (q.Lat - p.Lat) := by rw [← Int.neg_sub q.Lat p.Lat, Int.neg_mul_neg]
  have e2 : xwayS q.Lat q.Lon p.Lat p.Lon * xwayS q.Lat q.Lon p.Lat p.Lon = xwayS p.Lat p.Lon q.Lat q.Lon * xwayS p.Lat p.Lon q.Lat q.Lon := by
    rcases xway_or p.Lat p.Lon q.Lat q.Lon with h | h
    · rw [h]
    · rw [h, Int.neg_mul_neg]
  rw [e1, e2]
theorem dist_self (p : T_api_Place) : distP p p = 0 := by
  have h : shortS p.Lon p.Lon = 0 := by unfold shortS eastS; omega
  unfold distP distS xwayS
  rw [h, Int.zero_mul, Int.sub_self]
  rfl
theorem betw_0 {p q : T_api_Place} (h : PL p) {b : Int} : betwP p q 0 b = p := by
  unfold PL at h
  obtain ⟨x, y⟩ := p
  simp only at h
  have e : wrapS y = y := by unfold wrapS; omega
  unfold betwP betwS
  simp only [Int.mul_zero, Int.zero_ediv, Int.add_zero, e]
theorem betw_1 {p q : T_api_Place} (hp : PL p) (hq : PL q) {b : Int} (hb : 1 ≤ b) : betwP p q b b = q := by
  unfold PL at hp hq
  obtain ⟨x, y⟩ := p
  obtain ⟨z, u⟩ := q
  simp only at hp hq
  unfold betwP betwS
  simp only
  rw [Int.mul_ediv_cancel _ (by omega), Int.mul_ediv_cancel _ (by omega)]
  have e1 : x + (z - x) = z := by omega
  have e2 : wrapS (y + shortS y u) = u := by unfold wrapS shortS eastS; omega
  rw [e1, e2]

theorem checks_eq (p q : T_api_Place) : where_checkPlaces [p, q] = some (if placeS p.Lat p.Lon = 0 then placeS q.Lat q.Lon else placeS p.Lat p.Lon) := by
  unfold where_checkPlaces
  have s0 : ∀ next, where_checkPlaces_l1 [p, q] next 0 = if placeS p.Lat p.Lon = 0 then next 1 else some (placeS p.Lat p.Lon) := by
    intro next
    unfold where_checkPlaces_l1
    rw [cY (by simp), show gAt [p, q] 0 = some p from rfl, bnd_pure, CheckPlace_eq, bnd_pure]
    by_cases h : placeS p.Lat p.Lon = 0
    · rw [cN (fun g => g h), if_pos h]; rfl
    · rw [cY h, if_neg h]
  have s1 : ∀ next, where_checkPlaces_l1 [p, q] next 1 = if placeS q.Lat q.Lon = 0 then next 2 else some (placeS q.Lat q.Lon) := by
    intro next
    unfold where_checkPlaces_l1
    rw [cY (by simp), show gAt [p, q] 1 = some q from rfl, bnd_pure, CheckPlace_eq, bnd_pure]
    by_cases h : placeS q.Lat q.Lon = 0
    · rw [cN (fun g => g h), if_pos h]; rfl
    · rw [cY h, if_neg h]
  have s2 : ∀ next, where_checkPlaces_l1 [p, q] next 2 = some 0 := by
    intro next
    unfold where_checkPlaces_l1
    rw [cN (by simp)]
  by_cases h : placeS p.Lat p.Lon = 0
  · rw [if_pos h]
    refine (fix_goto (b := 1) fun next => by rw [s0, if_pos h]).trans ?_
    by_cases h2 : placeS q.Lat q.Lon = 0
    · refine (fix_goto (b := 2) fun next => by rw [s1, if_pos h2]).trans ?_
      rw [h2]; exact fix_done fun next => s2 next
    · exact fix_done fun next => by rw [s1, if_neg h2]
  · rw [if_neg h]
    exact fix_done fun next => by rw [s0, if_neg h]

theorem Distance_eq (p q : T_api_Place) : where_Distance p q = some (if placeS p.Lat p.Lon = 0 then (if placeS q.Lat q.Lon = 0 then (distP p q, 0) else (0, placeS q.Lat q.Lon)) else (0, placeS p.Lat p.Lon)) := by
  unfold where_Distance
  rw [checks_eq, bnd_pure]
  by_cases h : placeS p.Lat p.Lon = 0
  · rw [if_pos h, if_pos h]
    by_cases h2 : placeS q.Lat q.Lon = 0
    · rw [if_pos h2, cN (fun g => g h2), dist_eq (PL_iff.1 h) (PL_iff.1 h2), bnd_pure]
    · rw [if_neg h2, cY h2]
  · rw [if_neg h, if_neg h, cY h]

theorem Between_eq {p q : T_api_Place} (hp : PL p) (hq : PL q) (a b : Int) : where_Between p q a b = some (if (1 ≤ b ∧ b ≤ 6311433599) ∧ 0 ≤ a ∧ a ≤ b then (betwP p q a b, 0) else (⟨0, 0⟩, 2)) := by
  unfold where_Between
  rw [checks_eq, bnd_pure, if_pos (PL_iff.2 hp), cN (fun g => g (PL_iff.2 hq)), outside_eq, bnd_pure]
  by_cases hb : 1 ≤ b ∧ b ≤ 6311433599
  · rw [cN (by omega), outside_eq, bnd_pure]
    by_cases ha : 0 ≤ a ∧ a ≤ b
    · rw [cN (by omega), between_eq hp hq hb ha, bnd_pure, if_pos ⟨hb, ha⟩]
    · rw [cY (by omega), if_neg (fun h => ha h.2)]
  · rw [cY (by omega), if_neg (fun h => hb h.1)]

theorem awake : Keep_awakeWhere = some true := by
  unfold Keep_awakeWhere
  rw [PlaceText_eq, bnd_pure, show placeS 0 0 = 0 from rfl, if_pos rfl]
  simp only [decide_true, cnd_true]
  have : wordS ⟨0, 0⟩ = [48, 46, 48, 48, 48, 48, 48, 48, 32, 48, 46, 48, 48, 48, 48, 48, 48] := by
    have e : decD 0 = [48] := by unfold decD; rfl
    simp only [wordS, degS, absW, Int.natAbs_zero, Nat.zero_div, Nat.zero_mod, e]
    rfl
  rw [this]; rfl

theorem law_ends (p q : T_api_Place) (all : Int) : Keep_WhereEnds p q all = some true := by
  unfold Keep_WhereEnds
  rw [awake, bnd_pure, show (!true) = false from rfl, cnd_false, Distance_eq, bnd_pure]
  by_cases hp0 : placeS p.Lat p.Lon = 0
  · by_cases hq0 : placeS q.Lat q.Lon = 0
    · have hp := PL_iff.1 hp0
      have hq := PL_iff.1 hq0
      simp only [if_pos hp0, if_pos hq0]
      rw [cN (fun h => h rfl), Distance_eq, bnd_pure, Distance_eq, bnd_pure]
      simp only [if_pos hp0, if_pos hq0]
      rw [cN (fun h => h rfl), cN (fun h => h rfl), cN (fun h => h (dist_comm p q)), cN (fun h => h (dist_self p)), Between_eq hp hq, bnd_pure, Between_eq hp hq, bnd_pure]
      by_cases hb : 1 ≤ all ∧ all ≤ 6311433599
      · rw [if_pos ⟨hb, by omega⟩, if_pos ⟨hb, by omega⟩, betw_0 hp, betw_1 hp hq hb.1]
        simp only
        rw [cN (fun h => h rfl), PlaceText_eq, bnd_pure, if_pos hp0]
        simp only
        rw [ReadPlace_eq (by have := word_len hp; omega), bnd_pure, read_word hp]
        simp [eq_api_Place]
      · rw [if_neg (fun h => hb h.1), if_neg (fun h => hb h.1)]
        simp
    · simp only [if_pos hp0, if_neg hq0]
      rw [cY hq0]
  · simp only [if_neg hp0]
    rw [cY hp0]
theorem wherePlacesS (p : T_api_Place) (s : List UInt8) (lat : Int) {φ ψ : Prop} (_ : φ) (hs : s.length ≤ 9223372036854775807 ∧ s.length ≤ 140737488351232) (_ : ψ) : Law_WherePlaces p s lat = some true := law_places p (by omega) lat
theorem whereEndsS (p q : T_api_Place) (all : Int) {φ ψ χ : Prop} (_ : φ) (_ : ψ) (_ : χ) : Keep_WhereEnds p q all = some true := law_ends p q all
end Go.M
