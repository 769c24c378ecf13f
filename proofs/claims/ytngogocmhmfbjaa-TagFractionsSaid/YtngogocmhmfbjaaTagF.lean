/- Fractions: what the models of package tag and of its reference compute with ratios and with numbers of 128 bits. Conditions: none. -/
import Derived.Test.YtngogocmhmfbjaaPl
import Derived.Test.YtngogocmhmfbjaaMTagF
namespace Go.M
open Go.Md Go.Pl

/-! ### numbers of 128 bits -/

theorem bAnd_low {a : Int} (h : 0 ≤ a ∧ a ≤ 18446744073709551615) : bAnd 64 a 4294967295 = a % 4294967296 := by
  obtain ⟨x, rfl⟩ := Int.eq_ofNat_of_zero_le h.1
  unfold bAnd
  rw [BitVec.toNat_and, BitVec.toNat_ofInt, BitVec.toNat_ofInt]
  have h1 : ((x : Int) % (2 ^ 64 : Nat)).toNat = x := by
    have : (x : Int) % ((2 ^ 64 : Nat) : Int) = x := Int.emod_eq_of_lt (by omega) (by simp; omega)
    rw [this]; rfl
  have h2 : ((4294967295 : Int) % (2 ^ 64 : Nat)).toNat = 2 ^ 32 - 1 := by decide
  rw [h1, h2, Nat.and_two_pow_sub_one_eq_mod]
  simp

theorem gShr32 {a : Int} : gShr 64 a 32 = some (a / 4294967296) := by
  unfold gShr
  rw [if_pos (by decide)]
  rfl

theorem mul_bd {x y B : Int} (hx : 0 ≤ x ∧ x ≤ B) (hy : 0 ≤ y ∧ y ≤ B) : 0 ≤ x * y ∧ x * y ≤ B * B :=
  ⟨Int.mul_nonneg hx.1 hy.1, Int.mul_le_mul hx.2 hy.2 hy.1 (by omega)⟩

theorem mul64 {x y : Int} (hx : 0 ≤ x ∧ x ≤ 18446744073709551615) (hy : 0 ≤ y ∧ y ≤ 18446744073709551615) : math_bits_Mul64 x y = some (x * y / 18446744073709551616, x * y % 18446744073709551616) := by
  unfold math_bits_Mul64
  simp only [gShr32, bnd_pure, bAnd_low hx, bAnd_low hy]
  have ex : x = x / 4294967296 * 4294967296 + x % 4294967296 := by omega
  have ey : y = y / 4294967296 * 4294967296 + y % 4294967296 := by omega
  have bx1 : 0 ≤ x / 4294967296 ∧ x / 4294967296 ≤ 4294967295 := by omega
  have by1 : 0 ≤ y / 4294967296 ∧ y / 4294967296 ≤ 4294967295 := by omega
  have bx0 : 0 ≤ x % 4294967296 ∧ x % 4294967296 ≤ 4294967295 := by omega
  have by0 : 0 ≤ y % 4294967296 ∧ y % 4294967296 ≤ 4294967295 := by omega
  generalize x / 4294967296 = x1 at *
  generalize x % 4294967296 = x0 at *
  generalize y / 4294967296 = y1 at *
  generalize y % 4294967296 = y0 at *
  have p00 := mul_bd bx0 by0
  have p10 := mul_bd bx1 by0
  have p01 := mul_bd bx0 by1
  have p11 := mul_bd bx1 by1
  have exy : x * y = x1 * y1 * 18446744073709551616 + (x1 * y0 + x0 * y1) * 4294967296 + x0 * y0 := by
    rw [ex, ey]
    simp only [Int.add_mul, Int.mul_add]
    have e1 : x1 * 4294967296 * (y1 * 4294967296) = x1 * y1 * 18446744073709551616 := by
      rw [Int.mul_assoc, Int.mul_left_comm 4294967296 y1 4294967296, ← Int.mul_assoc]; rfl
    have e2 : x0 * (y1 * 4294967296) = x0 * y1 * 4294967296 := by rw [Int.mul_assoc]
    have e3 : x1 * 4294967296 * y0 = x1 * y0 * 4294967296 := by rw [Int.mul_right_comm]
    rw [e1, e2, e3]
    omega
  rw [wU64_in (x := x0) (by omega), wU64_in (x := y0) (by omega)]
  have e4 : wU64 (bAnd 64 (wU64 (wU64 (x1 * y0) + wU64 (x0 * y0) / 4294967296)) 4294967295) = (x1 * y0 + x0 * y0 / 4294967296) % 4294967296 := by
    rw [wU64_in (x := x1 * y0) (by omega), wU64_in (x := x0 * y0) (by omega), wU64_in (x := x1 * y0 + x0 * y0 / 4294967296) (by omega), bAnd_low (by omega), wU64_in (by omega)]
  rw [e4]
  rw [exy]
  generalize x0 * y0 = q00 at *
  generalize x1 * y0 = q10 at *
  generalize x0 * y1 = q01 at *
  generalize x1 * y1 = q11 at *
  unfold wU64
  congr 1
  rw [Prod.mk.injEq]
  refine ⟨?_, rfl⟩
  omega

def vW (h l : Int) : Int := h * 18446744073709551616 + l
def okW (h l : Int) : Prop := (0 ≤ h ∧ h ≤ 18446744073709551615) ∧ 0 ≤ l ∧ l ≤ 18446744073709551615
/-- The two halves of a number. -/
def hiW (v : Int) : Int := v / 18446744073709551616
def loW (v : Int) : Int := v % 18446744073709551616
def in128 (v : Int) : Prop := 0 ≤ v ∧ v ≤ 340282366920938463463374607431768211455

theorem ok_hl {v : Int} (h : in128 v) : okW (hiW v) (loW v) := by unfold okW hiW loW; unfold in128 at h; omega
theorem v_hl (v : Int) : vW (hiW v) (loW v) = v := by unfold vW hiW loW; omega

theorem times_hl {v n : Int} (hv : in128 v) (hn : 0 ≤ n ∧ n ≤ 18446744073709551615) (hp : in128 (v * n)) :
    math_bits_Mul64 (loW v) n = some (loW v * n / 18446744073709551616, loW v * n % 18446744073709551616) ∧ wU64 (loW v * n / 18446744073709551616 + wU64 (hiW v * n)) = hiW (v * n) ∧ loW v * n % 18446744073709551616 = loW (v * n) := by
  have ok := ok_hl hv
  refine ⟨mul64 ok.2 hn, ?_, ?_⟩
  · have e : v * n = hiW v * n * 18446744073709551616 + loW v * n := by
      conv => lhs; rw [← v_hl v]
      unfold vW
      rw [Int.add_mul, Int.mul_right_comm]
    have h1 : 0 ≤ hiW v * n := Int.mul_nonneg ok.1.1 hn.1
    have h2 : 0 ≤ loW v * n := Int.mul_nonneg ok.2.1 hn.1
    rw [e] at hp ⊢
    unfold in128 at hp
    generalize hiW v * n = p at *
    generalize loW v * n = q at *
    unfold wU64 hiW
    omega
  · have e : v * n = hiW v * n * 18446744073709551616 + loW v * n := by
      conv => lhs; rw [← v_hl v]
      unfold vW
      rw [Int.add_mul, Int.mul_right_comm]
    rw [e]
    generalize hiW v * n = p at *
    generalize loW v * n = q at *
    unfold loW
    omega

def wd (v : Int) : T_tag_wide := ⟨hiW v, loW v⟩
def rd (v : Int) : T_tintref2_wide128 := ⟨hiW v, loW v⟩

theorem tag_times {v n : Int} (hv : in128 v) (hn : 0 ≤ n ∧ n ≤ 18446744073709551615) (hp : in128 (v * n)) : tag_wide_times (wd v) n = some (wd (v * n)) := by
  obtain ⟨h1, h2, h3⟩ := times_hl hv hn hp
  unfold tag_wide_times wd
  rw [h1, bnd_pure]
  simp only [h2, h3]

theorem ref_times {v n : Int} (hv : in128 v) (hn : 0 ≤ n ∧ n ≤ 18446744073709551615) (hp : in128 (v * n)) : R_wide128_times (rd v) n = some (rd (v * n)) := by
  obtain ⟨h1, h2, h3⟩ := times_hl hv hn hp
  unfold R_wide128_times rd
  rw [h1, bnd_pure]
  simp only [h2, h3]

theorem tag_plus {a b : Int} (ha : in128 a) (hb : in128 b) (hs : in128 (a + b)) : tag_wide_plus (wd a) (wd b) = some (wd (a + b)) := by
  have k1 := ok_hl ha
  have k2 := ok_hl hb
  unfold tag_wide_plus wd gAdd64
  simp only
  rw [if_pos ⟨k1.2.1, k2.2.1, by decide, by decide⟩, bnd_pure]
  simp only
  unfold okW at k1 k2
  rw [if_pos (by omega), bnd_pure]
  unfold in128 at hs ha hb
  congr 1
  rw [T_tag_wide.mk.injEq]
  unfold hiW loW at *
  omega

theorem ref_plus {a b : Int} (ha : in128 a) (hb : in128 b) (hs : in128 (a + b)) : R_wide128_plus (rd a) (rd b) = some (rd (a + b)) := by
  have k1 := ok_hl ha
  have k2 := ok_hl hb
  unfold R_wide128_plus rd gAdd64
  simp only
  rw [if_pos ⟨k1.2.1, k2.2.1, by decide, by decide⟩, bnd_pure]
  unfold okW at k1 k2
  unfold in128 at hs ha hb
  congr 1
  rw [T_tintref2_wide128.mk.injEq]
  unfold hiW loW wU64 at *
  simp only
  omega

theorem ref_minus {a b : Int} (ha : in128 a) (hb : in128 b) (hs : b ≤ a) : R_wide128_minus (rd a) (rd b) = some (rd (a - b)) := by
  have k1 := ok_hl ha
  have k2 := ok_hl hb
  unfold R_wide128_minus rd gSub64
  simp only
  unfold okW at k1 k2
  rw [if_pos (by omega), bnd_pure]
  unfold in128 at ha hb
  congr 1
  rw [T_tintref2_wide128.mk.injEq]
  unfold hiW loW wU64 at *
  simp only
  split <;> omega

theorem tag_atLeast {a b : Int} (ha : in128 a) (hb : in128 b) : tag_wide_atLeast (wd a) (wd b) = some (decide (b ≤ a)) := by
  unfold tag_wide_atLeast wd
  simp only [cnd_if]
  unfold in128 at ha hb
  have e : ∀ {p q : Prop} [Decidable p] [Decidable q], (p ↔ q) → some (decide p) = some (decide q) := fun h => by simp [h]
  split
  · exact congrArg some (decide_eq_true (by unfold hiW at *; omega)).symm
  · split
    · exact e (by unfold hiW loW at *; omega)
    · exact congrArg some (decide_eq_false (by unfold hiW at *; omega)).symm

theorem ref_less {a b : Int} (ha : in128 a) (hb : in128 b) : R_wide128_less (rd a) (rd b) = some (decide (a < b)) := by
  unfold R_wide128_less rd
  simp only [cnd_if]
  unfold in128 at ha hb
  have e : ∀ {p q : Prop} [Decidable p] [Decidable q], (p ↔ q) → some (decide p) = some (decide q) := fun h => by simp [h]
  split
  · exact congrArg some (decide_eq_true (by unfold hiW at *; omega)).symm
  · split
    · exact e (by unfold hiW loW at *; omega)
    · exact congrArg some (decide_eq_false (by unfold hiW at *; omega)).symm

end Go.M
