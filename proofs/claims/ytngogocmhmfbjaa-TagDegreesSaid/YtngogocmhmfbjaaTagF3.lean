/- Degrees of three fractions: both ways round alike. Conditions: none. -/
import Derived.Test.YtngogocmhmfbjaaTagF2
namespace Go.M
open Go.Md Go.Pl

theorem pb {x y X Y : Int} (hx : 0 ≤ x ∧ x ≤ X) (hy : 0 ≤ y ∧ y ≤ Y) : 0 ≤ x * y ∧ x * y ≤ X * Y :=
  ⟨Int.mul_nonneg hx.1 hy.1, Int.mul_le_mul hx.2 hy.2 hy.1 (by omega)⟩

theorem product3 {x y z : Int} (hx : 0 ≤ x ∧ x ≤ 18446744073709551615) (hy : 0 ≤ y ∧ y ≤ 18446744073709551615) (hz : 0 ≤ z ∧ z ≤ 18446744073709551615) (h2 : in128 (x * y)) (h3 : in128 (x * y * z)) : tag_product [x, y, z] = some (wd (x * y * z)) := by
  rw [product_eq _ (by simp) (by simp only [List.mem_cons, List.not_mem_nil, or_false]; rintro w (rfl | rfl | rfl) <;> assumption)]
  · simp [prods]
  · intro k
    rcases k with _ | _ | _ | k
    · simp [prods, in128]
    · simp only [List.take, prods, List.foldl, Int.one_mul]; unfold in128; omega
    · simp only [List.take, prods, List.foldl, Int.one_mul]; exact h2
    · rw [List.take_of_length_le (by simp)]; simp only [prods, List.foldl, Int.one_mul]; exact h3

theorem product4 {h x y z : Int} (hh : 0 ≤ h ∧ h ≤ 18446744073709551615) (hx : 0 ≤ x ∧ x ≤ 18446744073709551615) (hy : 0 ≤ y ∧ y ≤ 18446744073709551615) (hz : 0 ≤ z ∧ z ≤ 18446744073709551615) (h1 : in128 (h * x)) (h2 : in128 (h * x * y)) (h3 : in128 (h * x * y * z)) : tag_product [h, x, y, z] = some (wd (h * x * y * z)) := by
  rw [product_eq _ (by simp) (by simp only [List.mem_cons, List.not_mem_nil, or_false]; rintro w (rfl | rfl | rfl | rfl) <;> assumption)]
  · simp [prods]
  · intro k
    rcases k with _ | _ | _ | _ | k
    · simp [prods, in128]
    · simp only [List.take, prods, List.foldl, Int.one_mul]; unfold in128; omega
    · simp only [List.take, prods, List.foldl, Int.one_mul]; exact h1
    · simp only [List.take, prods, List.foldl, Int.one_mul]; exact h2
    · rw [List.take_of_length_le (by simp)]; simp only [prods, List.foldl, Int.one_mul]; exact h3

/-- The three divisors and what is left over them. -/
structure Left (r d : Nat → Int) : Prop where
  d0 : 1 ≤ d 0 ∧ d 0 ≤ 4294967295
  d1 : 1 ≤ d 1 ∧ d 1 ≤ 257698037700
  d2 : 1 ≤ d 2 ∧ d 2 ≤ 15461882262000
  r0 : 0 ≤ r 0 ∧ r 0 < d 0
  r1 : 0 ≤ r 1 ∧ r 1 < d 1
  r2 : 0 ≤ r 2 ∧ r 2 < d 2

def allD (d : Nat → Int) : Int := d 0 * d 1 * d 2
def restN (r d : Nat → Int) : Int := r 0 * d 1 * d 2 + d 0 * r 1 * d 2 + d 0 * d 1 * r 2

theorem mul_lt3 {a b c a' b' c' : Int} (ha : 0 ≤ a ∧ a ≤ a') (hb : 0 ≤ b ∧ b ≤ b') (hc : 0 ≤ c ∧ c ≤ c') : 0 ≤ a * b * c ∧ a * b * c ≤ a' * b' * c' :=
  pb (pb ha hb) hc

theorem left_bd {r d : Nat → Int} (h : Left r d) : (1 ≤ allD d ∧ allD d ≤ 17113286838528000000000000000000000) ∧ 0 ≤ restN r d ∧ restN r d < 3 * allD d := by
  obtain ⟨h0, h1, h2, g0, g1, g2⟩ := h
  have a0 : 0 ≤ d 0 ∧ d 0 ≤ d 0 := by omega
  have a1 : 0 ≤ d 1 ∧ d 1 ≤ d 1 := by omega
  have a2 : 0 ≤ d 2 ∧ d 2 ≤ d 2 := by omega
  have t0 := mul_lt3 (a := r 0) (a' := d 0 - 1) (by omega) a1 a2
  have t1 := mul_lt3 a0 (b := r 1) (b' := d 1 - 1) (by omega) a2
  have t2 := mul_lt3 a0 a1 (c := r 2) (c' := d 2 - 1) (by omega)
  have lo := mul_lt3 (a := 1) (a' := d 0) (b := 1) (b' := d 1) (c := 1) (c' := d 2) (by omega) (by omega) (by omega)
  have up := mul_lt3 (a := d 0) (a' := 4294967295) (b := d 1) (b' := 257698037700) (c := d 2) (c' := 15461882262000) (by omega) (by omega) (by omega)
  have p12 := pb (x := 1) (X := d 1) (y := 1) (Y := d 2) (by omega) (by omega)
  have p02 := pb (x := 1) (X := d 0) (y := 1) (Y := d 2) (by omega) (by omega)
  have p01 := pb (x := 1) (X := d 0) (y := 1) (Y := d 1) (by omega) (by omega)
  have e0 : (d 0 - 1) * d 1 * d 2 = d 0 * d 1 * d 2 - d 1 * d 2 := by rw [Int.sub_mul, Int.sub_mul, Int.one_mul]
  have e1 : d 0 * (d 1 - 1) * d 2 = d 0 * d 1 * d 2 - d 0 * d 2 := by rw [Int.mul_sub, Int.sub_mul, Int.mul_one]
  have e2 : d 0 * d 1 * (d 2 - 1) = d 0 * d 1 * d 2 - d 0 * d 1 := by rw [Int.mul_sub, Int.mul_one]
  unfold allD restN
  rw [e0] at t0; rw [e1] at t1; rw [e2] at t2
  omega

/-- The whole number nearest to what is left. -/
def roundD (r d : Nat → Int) : Int := (2 * restN r d + allD d) / (2 * allD d)

theorem round_bd {r d : Nat → Int} (h : Left r d) : 0 ≤ roundD r d ∧ roundD r d ≤ 3 ∧ 2 * allD d * roundD r d ≤ 2 * restN r d + allD d ∧ 2 * restN r d + allD d < 2 * allD d * roundD r d + 2 * allD d := by
  obtain ⟨h1, h2⟩ := left_bd h
  have e := Int.mul_ediv_add_emod (2 * restN r d + allD d) (2 * allD d)
  have m1 := Int.emod_nonneg (2 * restN r d + allD d) (show 2 * allD d ≠ 0 by omega)
  have m2 := Int.emod_lt_of_pos (2 * restN r d + allD d) (show 0 < 2 * allD d by omega)
  have q0 : 0 ≤ roundD r d := Int.ediv_nonneg (by omega) (by omega)
  have q3 : roundD r d < 4 := Int.ediv_lt_of_lt_mul (by omega) (by omega)
  unfold roundD at *
  omega

def endD (s : Int) : Option (Int × Int) := if 180000000 < s then some (0, 2) else some (s, 0)

theorem tag_j1 {r d : Nat → Int} (h : Left r d) {s : Int} (hs : 0 ≤ s ∧ s ≤ 1000000000000000000) : tag_Degrees_j1 s r d = endD (s + roundD r d) := by
  obtain ⟨hD, hN⟩ := left_bd h
  have hq := round_bd h
  obtain ⟨h0, h1, h2, g0, g1, g2⟩ := h
  have p01 := pb (x := d 0) (X := 4294967295) (y := d 1) (Y := 257698037700) (by omega) (by omega)
  have q01 := pb (x := r 0) (X := 4294967295) (y := d 1) (Y := 257698037700) (by omega) (by omega)
  have q02 := pb (x := d 0) (X := 4294967295) (y := r 1) (Y := 257698037700) (by omega) (by omega)
  have t0 := mul_lt3 (a := r 0) (a' := 4294967295) (b := d 1) (b' := 257698037700) (c := d 2) (c' := 15461882262000) (by omega) (by omega) (by omega)
  have t1 := mul_lt3 (a := d 0) (a' := 4294967295) (b := r 1) (b' := 257698037700) (c := d 2) (c' := 15461882262000) (by omega) (by omega) (by omega)
  have t2 := mul_lt3 (a := d 0) (a' := 4294967295) (b := d 1) (b' := 257698037700) (c := r 2) (c' := 15461882262000) (by omega) (by omega) (by omega)
  have eN : r 0 * d 1 * d 2 + d 0 * r 1 * d 2 + d 0 * d 1 * r 2 = restN r d := rfl
  unfold tag_Degrees_j1
  rw [product3 (by omega) (by omega) (by omega) (by unfold in128; omega) (by unfold in128; omega), bnd_pure]
  rw [product3 (by omega) (by omega) (by omega) (by unfold in128; omega) (by unfold in128; omega), bnd_pure]
  rw [tag_plus (by unfold in128; omega) (by unfold in128; omega) (by unfold in128; omega), bnd_pure]
  rw [product3 (by omega) (by omega) (by omega) (by unfold in128; omega) (by unfold in128; omega), bnd_pure]
  rw [tag_plus (by unfold in128; omega) (by unfold in128; omega) (by unfold in128; omega), bnd_pure]
  rw [tag_times (by unfold in128; omega) (by decide) (by unfold in128; omega), bnd_pure, eN]
  have key := fix_of (F := fun next3 s => tag_Degrees_l3 d (wd (restN r d * 2)) next3 s.1 s.2) (fun _ => endD (s + roundD r d)) (fun x => ∃ j : Nat, (j : Int) ≤ roundD r d ∧ x = (s + j, 2 * (j : Int) + 1)) (fun x => (s + 10 - x.1).toNat) (by
    rintro next _ ⟨j, hj, rfl⟩ ih
    show tag_Degrees_l3 d (wd (restN r d * 2)) next (s + j) (2 * (j : Int) + 1) = _
    unfold tag_Degrees_l3
    have hj3 : j = 0 ∨ j = 1 ∨ j = 2 ∨ j = 3 := by omega
    have eD : (2 * (j : Int) + 1) * d 0 * d 1 * d 2 = (2 * (j : Int) + 1) * allD d := by unfold allD; rw [Int.mul_assoc, Int.mul_assoc, Int.mul_assoc (d 0)]
    have u1 : (2 * (j : Int) + 1) * d 0 ≤ 7 * d 0 := Int.mul_le_mul_of_nonneg_right (by omega) (by omega)
    have u0 : 0 ≤ (2 * (j : Int) + 1) * d 0 := Int.mul_nonneg (by omega) (by omega)
    have u2 := pb (x := (2 * (j : Int) + 1) * d 0) (X := 7 * 4294967295) (y := d 1) (Y := 257698037700) (by omega) (by omega)
    have u3 := pb (x := (2 * (j : Int) + 1) * d 0 * d 1) (X := 7 * 4294967295 * 257698037700) (y := d 2) (Y := 15461882262000) (by omega) (by omega)
    rw [product4 (by omega) (by omega) (by omega) (by omega) (by unfold in128; omega) (by unfold in128; omega) (by unfold in128; omega), bnd_pure, tag_atLeast (by unfold in128; omega) (by unfold in128; omega), bnd_pure, cnd_if, eD]
    by_cases hc : (2 * (j : Int) + 1) * allD d ≤ restN r d * 2
    · have hlt : (j : Int) < roundD r d := by
        rcases hj3 with rfl | rfl | rfl | rfl <;> (generalize roundD r d = q at *; rcases (show q = 0 ∨ q = 1 ∨ q = 2 ∨ q = 3 by omega) with rfl | rfl | rfl | rfl <;> omega)
      rw [if_pos hc, gI_ok (by omega), bnd_pure, wU64_in (by omega)]
      exact ih (s + j + 1, 2 * (j : Int) + 1 + 2) ⟨j + 1, by omega, by rw [Prod.mk.injEq]; omega⟩ (by simp only; omega)
    · have heq : (j : Int) = roundD r d := by
        rcases hj3 with rfl | rfl | rfl | rfl <;> (generalize roundD r d = q at *; rcases (show q = 0 ∨ q = 1 ∨ q = 2 ∨ q = 3 by omega) with rfl | rfl | rfl | rfl <;> omega)
      rw [if_neg hc]
      unfold tag_Degrees_j2 endD
      rw [cnd_if, heq]) (s, 1) ⟨0, by omega, by simp⟩
  exact key

theorem rd_small {x : Int} (h : 0 ≤ x ∧ x ≤ 18446744073709551615) : (⟨0, x⟩ : T_tintref2_wide128) = rd x := by
  unfold rd hiW loW
  rw [T_tintref2_wide128.mk.injEq]; omega

theorem l8_step {d : Nat → Int} {i : Int} {a b : Int} {n5 n8 : Int × Int × Int → Option (Int × Int)} {k : Nat} {v : Int} (hk : k < 3) (hv : in128 v) (hd : 0 ≤ d k ∧ d k ≤ 18446744073709551615) (hp : (k : Int) ≠ i → in128 (v * d k)) :
    R_DegreesOf_l8 d i a b n5 n8 (k : Int) (hiW v) (loW v) = if (k : Int) ≠ i then n8 ((k : Int) + 1, hiW (v * d k), loW (v * d k)) else n8 ((k : Int) + 1, hiW v, loW v) := by
  unfold R_DegreesOf_l8
  rw [cnd_if, if_pos (by omega), cnd_if]
  split
  · have ht := ref_times hv hd (hp ‹_›)
    unfold rd at ht
    rw [gIx_nat hk, bnd_pure, ht, bnd_pure]
    unfold R_DegreesOf_j9
    rw [gI_ok (by omega), bnd_pure]
  · unfold R_DegreesOf_j9
    rw [gI_ok (by omega), bnd_pure]

theorem l8_last {d : Nat → Int} {i : Int} {a b : Int} {n5 n8 : Int × Int × Int → Option (Int × Int)} {v : Int} :
    R_DegreesOf_l8 d i a b n5 n8 3 (hiW v) (loW v) = R_DegreesOf_j7 i a b n5 (hiW v) (loW v) := by
  unfold R_DegreesOf_l8
  rw [cnd_if, if_neg (by decide)]

theorem l8_run {d : Nat → Int} {i : Int} {a b : Int} {n5 : Int × Int × Int → Option (Int × Int)} {v u1 u2 u3 : Int} (hv : in128 v) (h0 : 0 ≤ d 0 ∧ d 0 ≤ 18446744073709551615) (h1 : 0 ≤ d 1 ∧ d 1 ≤ 18446744073709551615) (h2 : 0 ≤ d 2 ∧ d 2 ≤ 18446744073709551615)
    (e1 : u1 = if (0 : Int) ≠ i then v * d 0 else v) (e2 : u2 = if (1 : Int) ≠ i then u1 * d 1 else u1) (e3 : u3 = if (2 : Int) ≠ i then u2 * d 2 else u2)
    (p0 : (0 : Int) ≠ i → in128 (v * d 0)) (p1 : (1 : Int) ≠ i → in128 (u1 * d 1)) (p2 : (2 : Int) ≠ i → in128 (u2 * d 2)) (q1 : in128 u1) (q2 : in128 u2) :
    fix (fun next8 s => R_DegreesOf_l8 d i a b n5 next8 s.1 s.2.1 s.2.2) (0, hiW v, loW v) = R_DegreesOf_j7 i a b n5 (hiW u3) (loW u3) := by
  rw [fix_goto (1, hiW u1, loW u1) (fun next => by
    show R_DegreesOf_l8 d i a b n5 next ((0 : Nat) : Int) (hiW v) (loW v) = _
    rw [l8_step (by decide) hv h0 p0]; subst e1
    show (if (0 : Int) ≠ i then _ else _) = _
    split <;> rfl)]
  rw [fix_goto (2, hiW u2, loW u2) (fun next => by
    show R_DegreesOf_l8 d i a b n5 next ((1 : Nat) : Int) (hiW u1) (loW u1) = _
    rw [l8_step (by decide) q1 h1 p1]; subst e2
    show (if (1 : Int) ≠ i then _ else _) = _
    split <;> rfl)]
  rw [fix_goto (3, hiW u3, loW u3) (fun next => by
    show R_DegreesOf_l8 d i a b n5 next ((2 : Nat) : Int) (hiW u2) (loW u2) = _
    rw [l8_step (by decide) q2 h2 p2]; subst e3
    show (if (2 : Int) ≠ i then _ else _) = _
    split <;> rfl)]
  exact fix_done fun next => l8_last

theorem l5_step {s : Int} {r d : Nat → Int} {t : T_tintref2_wide128} {n5 : Int × Int × Int → Option (Int × Int)} {k : Nat} {a u : Int} (hk : k < 3) (hr : 0 ≤ r k ∧ r k ≤ 18446744073709551615) (hu : in128 u) (ha : in128 a) (hau : in128 (a + u))
    (run : fix (fun next8 s => R_DegreesOf_l8 d (k : Int) (hiW a) (loW a) n5 next8 s.1 s.2.1 s.2.2) (0, hiW (r k * 2), loW (r k * 2)) = R_DegreesOf_j7 (k : Int) (hiW a) (loW a) n5 (hiW u) (loW u)) :
    R_DegreesOf_l5 s r d t n5 (k : Int) (hiW a) (loW a) = n5 ((k : Int) + 1, hiW (a + u), loW (a + u)) := by
  unfold R_DegreesOf_l5
  have hr2 : in128 (r k * 2) := by unfold in128; omega
  rw [cnd_if, if_pos (by omega), gIx_nat hk, bnd_pure, rd_small hr, ref_times (by unfold in128; omega) (by decide) hr2, bnd_pure]
  show fix (fun next8 s => R_DegreesOf_l8 d (k : Int) (hiW a) (loW a) n5 next8 s.1 s.2.1 s.2.2) (0, hiW (r k * 2), loW (r k * 2)) = _
  rw [run]
  unfold R_DegreesOf_j7
  have hp := ref_plus ha hu hau
  unfold rd at hp
  rw [hp, bnd_pure]
  unfold R_DegreesOf_j6
  rw [gI_ok (by omega), bnd_pure]

theorem ref_j2 {r d : Nat → Int} (h : Left r d) {s : Int} (hs : 0 ≤ s ∧ s ≤ 1000000000000000000) : R_DegreesOf_j2 s (rd (allD d)) (hiW (2 * restN r d + allD d)) (loW (2 * restN r d + allD d)) = endD (s + roundD r d) := by
  obtain ⟨hD, hN⟩ := left_bd h
  have hq := round_bd h
  unfold R_DegreesOf_j2
  rw [ref_times (by unfold in128; omega) (by decide) (by unfold in128; omega), bnd_pure]
  have key := fix_of (F := fun next4 s => R_DegreesOf_l4 (rd (allD d * 2)) next4 s.1 s.2.1 s.2.2) (fun _ => endD (s + roundD r d)) (fun x => ∃ j : Nat, (j : Int) ≤ roundD r d ∧ x = (s + j, hiW (2 * restN r d + allD d - j * (2 * allD d)), loW (2 * restN r d + allD d - j * (2 * allD d)))) (fun x => (s + 10 - x.1).toNat) (by
    rintro next _ ⟨j, hj, rfl⟩ ih
    show R_DegreesOf_l4 (rd (allD d * 2)) next (s + j) (hiW (2 * restN r d + allD d - j * (2 * allD d))) (loW (2 * restN r d + allD d - j * (2 * allD d))) = _
    have hj3 : j = 0 ∨ j = 1 ∨ j = 2 ∨ j = 3 := by omega
    have hv : in128 (2 * restN r d + allD d - j * (2 * allD d)) := by
      unfold in128
      rcases hj3 with rfl | rfl | rfl | rfl <;> (generalize roundD r d = q at *; rcases (show q = 0 ∨ q = 1 ∨ q = 2 ∨ q = 3 by omega) with rfl | rfl | rfl | rfl <;> omega)
    have hl := ref_less hv (show in128 (allD d * 2) by unfold in128; omega)
    unfold R_DegreesOf_l4
    rw [show (⟨hiW (2 * restN r d + allD d - j * (2 * allD d)), loW (2 * restN r d + allD d - j * (2 * allD d))⟩ : T_tintref2_wide128) = rd (2 * restN r d + allD d - j * (2 * allD d)) from rfl, hl, bnd_pure]
    by_cases hc : 2 * restN r d + allD d - j * (2 * allD d) < allD d * 2
    · have heq : (j : Int) = roundD r d := by
        rcases hj3 with rfl | rfl | rfl | rfl <;> (generalize roundD r d = q at *; rcases (show q = 0 ∨ q = 1 ∨ q = 2 ∨ q = 3 by omega) with rfl | rfl | rfl | rfl <;> omega)
      rw [decide_eq_true hc]
      show R_DegreesOf_j3 (s + j) = _
      unfold R_DegreesOf_j3 endD
      rw [cnd_if, heq]
    · have hlt : (j : Int) < roundD r d := by
        rcases hj3 with rfl | rfl | rfl | rfl <;> (generalize roundD r d = q at *; rcases (show q = 0 ∨ q = 1 ∨ q = 2 ∨ q = 3 by omega) with rfl | rfl | rfl | rfl <;> omega)
      rw [decide_eq_false hc]
      show (bnd (R_wide128_minus _ _) fun t108 => _) = _
      rw [ref_minus hv (by unfold in128; omega) (by omega), bnd_pure, gI_ok (by omega), bnd_pure]
      have e : 2 * restN r d + allD d - j * (2 * allD d) - allD d * 2 = 2 * restN r d + allD d - ((j + 1 : Nat) : Int) * (2 * allD d) := by
        rw [show ((j + 1 : Nat) : Int) = (j : Int) + 1 from by omega, Int.add_mul]; omega
      rw [e]
      exact ih _ ⟨j + 1, by omega, by rw [Prod.mk.injEq]; exact ⟨by omega, rfl⟩⟩ (by simp only; omega)) (s, hiW (2 * restN r d + allD d), loW (2 * restN r d + allD d)) ⟨0, by omega, by simp⟩
  exact key

theorem ref_j1 {r d : Nat → Int} (h : Left r d) {s : Int} (hs : 0 ≤ s ∧ s ≤ 1000000000000000000) : R_DegreesOf_j1 s r d = endD (s + roundD r d) := by
  have hL := h
  obtain ⟨hD, hN⟩ := left_bd h
  obtain ⟨h0, h1, h2, g0, g1, g2⟩ := h
  have p01 := pb (x := d 0) (X := 4294967295) (y := d 1) (Y := 257698037700) (by omega) (by omega)
  have q0 := pb (x := r 0) (X := 4294967295) (y := d 0) (Y := 4294967295) (by omega) (by omega)
  have q01 := pb (x := r 0) (X := 4294967295) (y := d 1) (Y := 257698037700) (by omega) (by omega)
  have q10 := pb (x := r 1) (X := 257698037700) (y := d 0) (Y := 4294967295) (by omega) (by omega)
  have q20 := pb (x := r 2) (X := 15461882262000) (y := d 0) (Y := 4294967295) (by omega) (by omega)
  have t0 := mul_lt3 (a := r 0) (a' := 4294967295) (b := d 1) (b' := 257698037700) (c := d 2) (c' := 15461882262000) (by omega) (by omega) (by omega)
  have t1 := mul_lt3 (a := r 1) (a' := 257698037700) (b := d 0) (b' := 4294967295) (c := d 2) (c' := 15461882262000) (by omega) (by omega) (by omega)
  have t1' := mul_lt3 (a := r 1) (a' := 257698037700) (b := d 0) (b' := 4294967295) (c := d 1) (c' := 257698037700) (by omega) (by omega) (by omega)
  have t2 := mul_lt3 (a := r 2) (a' := 15461882262000) (b := d 0) (b' := 4294967295) (c := d 1) (c' := 257698037700) (by omega) (by omega) (by omega)
  have t2' := pb (x := r 2 * d 0 * d 1) (X := 15461882262000 * 4294967295 * 257698037700) (y := d 2) (Y := 15461882262000) (by omega) (by omega)
  have m2 : ∀ x y : Int, x * 2 * y = x * y * 2 := fun x y => Int.mul_right_comm x 2 y
  unfold R_DegreesOf_j1
  rw [rd_small (by decide), ref_times (by unfold in128; decide) (by omega) (by unfold in128; omega), bnd_pure, Int.one_mul, ref_times (by unfold in128; omega) (by omega) (by unfold in128; omega), bnd_pure,
    ref_times (by unfold in128; omega) (by omega) (by unfold in128; unfold allD at hD; omega), bnd_pure]
  show fix (fun next5 s_1 => R_DegreesOf_l5 s r d (rd (allD d)) next5 s_1.1 s_1.2.1 s_1.2.2) (0, hiW (allD d), loW (allD d)) = _
  have A0 : in128 (allD d + r 0 * 2 * d 1 * d 2) := by unfold in128; simp only [m2]; omega
  have A1 : in128 (allD d + r 0 * 2 * d 1 * d 2 + r 1 * 2 * d 0 * d 2) := by unfold in128; simp only [m2]; omega
  have A2 : in128 (allD d + r 0 * 2 * d 1 * d 2 + r 1 * 2 * d 0 * d 2 + r 2 * 2 * d 0 * d 1) := by unfold in128; simp only [m2]; omega
  rw [fix_goto (1, hiW (allD d + r 0 * 2 * d 1 * d 2), loW (allD d + r 0 * 2 * d 1 * d 2)) (fun next => l5_step (k := 0) (by decide) (by omega) (by unfold in128; simp only [m2]; omega) (by unfold in128; omega) A0
    (l8_run (u1 := r 0 * 2) (u2 := r 0 * 2 * d 1) (u3 := r 0 * 2 * d 1 * d 2) (by unfold in128; omega) (by omega) (by omega) (by omega) (by simp) (by simp) (by simp) (fun h => absurd rfl h) (fun _ => by unfold in128; simp only [m2]; omega) (fun _ => by unfold in128; simp only [m2]; omega) (by unfold in128; omega) (by unfold in128; simp only [m2]; omega)))]
  rw [fix_goto (2, hiW (allD d + r 0 * 2 * d 1 * d 2 + r 1 * 2 * d 0 * d 2), loW (allD d + r 0 * 2 * d 1 * d 2 + r 1 * 2 * d 0 * d 2)) (fun next => l5_step (k := 1) (by decide) (by omega) (by unfold in128; simp only [m2]; omega) A0 A1
    (l8_run (u1 := r 1 * 2 * d 0) (u2 := r 1 * 2 * d 0) (u3 := r 1 * 2 * d 0 * d 2) (by unfold in128; omega) (by omega) (by omega) (by omega) (by simp) (by simp) (by simp) (fun _ => by unfold in128; simp only [m2]; omega) (fun h => absurd rfl h) (fun _ => by unfold in128; simp only [m2]; omega) (by unfold in128; simp only [m2]; omega) (by unfold in128; simp only [m2]; omega)))]
  rw [fix_goto (3, hiW (allD d + r 0 * 2 * d 1 * d 2 + r 1 * 2 * d 0 * d 2 + r 2 * 2 * d 0 * d 1), loW (allD d + r 0 * 2 * d 1 * d 2 + r 1 * 2 * d 0 * d 2 + r 2 * 2 * d 0 * d 1)) (fun next => l5_step (k := 2) (by decide) (by omega) (by unfold in128; simp only [m2]; omega) A1 A2
    (l8_run (u1 := r 2 * 2 * d 0) (u2 := r 2 * 2 * d 0 * d 1) (u3 := r 2 * 2 * d 0 * d 1) (by unfold in128; omega) (by omega) (by omega) (by omega) (by simp) (by simp) (by simp) (fun _ => by unfold in128; simp only [m2]; omega) (fun _ => by unfold in128; simp only [m2]; omega) (fun h => absurd rfl h) (by unfold in128; simp only [m2]; omega) (by unfold in128; simp only [m2]; omega)))]
  rw [← ref_j2 hL hs]
  refine fix_done fun next => ?_
  show R_DegreesOf_l5 s r d (rd (allD d)) next 3 _ _ = _
  unfold R_DegreesOf_l5
  rw [cnd_if, if_neg (by decide)]
  have e : allD d + r 0 * 2 * d 1 * d 2 + r 1 * 2 * d 0 * d 2 + r 2 * 2 * d 0 * d 1 = 2 * restN r d + allD d := by
    unfold restN
    simp only [m2]
    rw [Int.mul_comm (r 1) (d 0), Int.mul_comm (r 2 * d 0) (d 1), Int.mul_comm (r 2) (d 0), ← Int.mul_assoc (d 1), Int.mul_comm (d 1) (d 0)]
    omega
  rw [e]

end Go.M
