/- The square root of a whole number below 2 to the 56, through a float and back to an integer, lies between 0 and 2 to the 30. Plain; no program in sight. Conditions: none. -/
import Derived.WalkKit
import GoSem.Core.Float
namespace Go.Vc.Float
open Ieee

theorem cut_le (neg : Bool) (way : Toward) (n drop : Nat) : way.cut neg n drop ≤ n / (1 <<< min drop (n.log2 + 2)) + 1 := by
  unfold Toward.cut
  simp only
  exact Nat.add_le_add_left (Bool.toNat_le _) _

theorem lt_log (n : Nat) : n < 2 ^ (n.log2 + 1) := Nat.lt_log2_self

theorem leastPlace_double : double.leastPlace = -1074 := by rfl
theorem binade_double : double.binade = 2 ^ 52 := rfl

/-- The rung of a number below 2 to the k: not above that of 2 to the k. -/
theorem nearest_rung (mag : Nat) (place : Int) (k : Int) (hm : mag ≠ 0) (hk : -1000 ≤ k ∧ k ≤ 1000) (h : place + mag.log2 < k) :
    ∃ rung, double.nearest false mag place = rung ∧ rung ≤ (k + 1023).toNat * 2 ^ 52 := by
  refine ⟨_, rfl, ?_⟩
  unfold Format.nearest
  rw [if_neg hm]
  simp only [Format.word, Bool.false_eq_true, if_false]
  refine Nat.le_trans (Nat.min_le_left _ _) ?_
  rw [leastPlace_double, binade_double]
  generalize hl : max (place + (mag.log2 : Int) - (double.fractionBits : Int)) (-1074) = last
  have hfb : (double.fractionBits : Int) = 52 := rfl
  rw [hfb] at hl
  -- the kept digits
  have hkept : Toward.even.cut false (mag <<< (place - last).toNat) (last - place).toNat ≤ 2 ^ 53 := by
    refine Nat.le_trans (cut_le _ _ _ _) ?_
    have hmag := lt_log mag
    rcases Int.le_total place last with hpl | hpl
    · have e0 : (place - last).toNat = 0 := by omega
      rw [e0, Nat.shiftLeft_zero]
      rcases Nat.le_total (last - place).toNat (mag.log2 + 2) with hd | hd
      · rw [Nat.min_eq_left hd, Nat.shiftLeft_eq, Nat.one_mul]
        have : mag / 2 ^ (last - place).toNat < 2 ^ 53 := by
          rw [Nat.div_lt_iff_lt_mul (Nat.two_pow_pos _), ← Nat.pow_add]
          refine Nat.lt_of_lt_of_le hmag (Nat.pow_le_pow_right (by omega) ?_)
          omega
        omega
      · rw [Nat.min_eq_right hd, Nat.shiftLeft_eq, Nat.one_mul]
        have : mag / 2 ^ (mag.log2 + 2) = 0 := Nat.div_eq_of_lt (Nat.lt_of_lt_of_le hmag (Nat.pow_le_pow_right (by omega) (by omega)))
        rw [this]
        exact Nat.one_le_two_pow
    · have e0 : (last - place).toNat = 0 := by omega
      rw [e0, Nat.zero_min, Nat.shiftLeft_zero, Nat.div_one, Nat.shiftLeft_eq]
      have : mag * 2 ^ (place - last).toNat < 2 ^ 53 := by
        refine Nat.lt_of_lt_of_le (Nat.mul_lt_mul_of_pos_right hmag (Nat.two_pow_pos _)) ?_
        rw [← Nat.pow_add]
        exact Nat.pow_le_pow_right (by omega) (by omega)
      omega
  have hlast : (last - -1074).toNat + 2 ≤ (k + 1023).toNat ∨ last = -1074 := by omega
  rcases hlast with h1 | h1
  · calc (last - -1074).toNat * 2 ^ 52 + _ ≤ (last - -1074).toNat * 2 ^ 52 + 2 ^ 53 := Nat.add_le_add_left hkept _
      _ = ((last - -1074).toNat + 2) * 2 ^ 52 := by rw [Nat.add_mul]
      _ ≤ _ := Nat.mul_le_mul_right _ h1
  · subst h1
    have : 2 ≤ (k + 1023).toNat := by omega
    calc ((-1074 : Int) - -1074).toNat * 2 ^ 52 + _ ≤ 0 * 2 ^ 52 + 2 ^ 53 := Nat.add_le_add (by simp) hkept
      _ = 2 * 2 ^ 52 := by rfl
      _ ≤ _ := Nat.mul_le_mul_right _ this

/-- What a small rung reads as. -/
theorem read_rung (rung : Nat) (k : Int) (hk : -1000 ≤ k ∧ k ≤ 1000) (h : rung ≤ (k + 1023).toNat * 2 ^ 52) :
    ∃ m p, double.read rung = .number false m p ∧ m < 2 ^ 53 ∧ -1074 ≤ p ∧ p ≤ k - 52 ∧ p ≤ max (k - 52) (-1074) := by
  have hsw : double.signWeight = 2 ^ 63 := rfl
  have hinf : double.infRung = 2047 * 2 ^ 52 := rfl
  have hle : (k + 1023).toNat ≤ 2023 := by omega
  have hlt : rung < 2047 * 2 ^ 52 := Nat.lt_of_le_of_lt h (Nat.lt_of_le_of_lt (Nat.mul_le_mul_right _ hle) (by decide))
  unfold Format.read
  rw [hsw, hinf, binade_double, leastPlace_double]
  have h63 : rung < 2 ^ 63 := Nat.lt_trans hlt (by decide)
  rw [Nat.div_eq_of_lt h63, Nat.mod_eq_of_lt h63]
  simp only
  by_cases h1 : rung < 2 ^ 52
  · rw [if_pos h1]
    exact ⟨rung, -1074, rfl, by omega, by omega, by omega, by omega⟩
  · rw [if_neg h1, if_pos hlt]
    refine ⟨_, _, rfl, ?_, by omega, ?_, ?_⟩
    · have := Nat.mod_lt rung (Nat.two_pow_pos 52); omega
    · have hd : rung / 2 ^ 52 ≤ (k + 1023).toNat := Nat.div_le_of_le_mul (by rw [Nat.mul_comm]; exact h)
      have h1' : 1 ≤ rung / 2 ^ 52 := by rw [Nat.le_div_iff_mul_le (Nat.two_pow_pos _)]; omega
      omega
    · have hd : rung / 2 ^ 52 ≤ (k + 1023).toNat := Nat.div_le_of_le_mul (by rw [Nat.mul_comm]; exact h)
      have h1' : 1 ≤ rung / 2 ^ 52 := by rw [Nat.le_div_iff_mul_le (Nat.two_pow_pos _)]; omega
      omega

theorem rootFrom_sq (n : Nat) : ∀ todo root, root * root ≤ n → Datum.rootFrom n todo root * Datum.rootFrom n todo root ≤ n
  | 0, _, h => h
  | t + 1, r, h => by
    unfold Datum.rootFrom
    simp only
    split
    · rename_i hh; exact rootFrom_sq n t _ hh
    · exact rootFrom_sq n t _ h

theorem sq_lt {a b : Nat} (h : a * a < b * b) : a < b := by
  rcases Nat.lt_or_ge a b with h1 | h1
  · exact h1
  · exact absurd (Nat.mul_le_mul h1 h1) (by omega)

theorem sqrt_int (n : Nat) (h : n < 2 ^ 56) : ∃ s r, double.sqrt (double.nearest false n 0) = some s ∧ (double.read s).toInt .zero = some r ∧ 0 ≤ r ∧ r ≤ 1073741824 := by
  by_cases h0 : n = 0
  · subst h0
    exact ⟨0, 0, by decide, by decide, by decide, by decide⟩
  · obtain ⟨rung, hr, hrl⟩ := nearest_rung n 0 56 h0 (by omega) (by
      have : n.log2 < 56 := (Nat.log2_lt h0).2 h
      omega)
    obtain ⟨m, p, hrd, hm, hp1, hp2, _⟩ := read_rung rung 56 (by omega) hrl
    rw [hr]
    unfold Format.sqrt
    rw [hrd]
    by_cases hm0 : m = 0
    · subst hm0
      refine ⟨0, 0, ?_, by decide, by decide, by decide⟩
      simp [Datum.root, Format.write, Format.nearest, Format.word]
    · simp only [Datum.root, if_neg hm0, Bool.false_eq_true, if_false, Option.map_some]
      generalize hmore0 : 2 * (double.fractionBits + 2) - m.log2 = more0
      generalize hmore : more0 + ((p - (more0 : Int)) % 2).toNat = more
      generalize hn : m <<< more = N
      generalize hw : Datum.rootFrom N (N.log2 / 2 + 1) 0 = whole
      have hsq : whole * whole ≤ N := by rw [← hw]; exact rootFrom_sq N _ 0 (by simp)
      generalize hb : (whole * whole != N).toNat = b
      have hb1 : b ≤ 1 := by rw [← hb]; cases (whole * whole != N) <;> simp
      generalize hq : (p - (more : Int)) / 2 = q
      have heven : p - (more : Int) = 2 * q := by omega
      have hN : N < 2 ^ (53 + more) := by
        rw [← hn, Nat.shiftLeft_eq, Nat.pow_add]
        exact Nat.mul_lt_mul_of_pos_right hm (Nat.two_pow_pos _)
      have hwl : whole < 2 ^ (29 - q).toNat := by
        refine sq_lt (Nat.lt_of_le_of_lt hsq (Nat.lt_of_lt_of_le hN ?_))
        rw [← Nat.pow_add]
        exact Nat.pow_le_pow_right (by omega) (by omega)
      have hbig : 2 * whole + b < 2 ^ ((29 - q).toNat + 1) := by rw [Nat.pow_succ]; omega
      unfold Format.write
      simp only
      by_cases hz : 2 * whole + b = 0
      · rw [hz]
        exact ⟨0, 0, by simp [Format.nearest, Format.word], by decide, by decide, by decide⟩
      · have hlog : (2 * whole + b).log2 < (29 - q).toNat + 1 := (Nat.log2_lt hz).2 hbig
        obtain ⟨rung2, hr2, hrl2⟩ := nearest_rung (2 * whole + b) (q - 1) 29 hz (by omega) (by omega)
        obtain ⟨m2, p2, hrd2, hm2, hp21, hp22, _⟩ := read_rung rung2 29 (by omega) hrl2
        rw [hr2]
        refine ⟨rung2, signed false (Toward.zero.cut false (m2 <<< p2.toNat) (-p2).toNat) 0, rfl, ?_, ?_, ?_⟩
        · rw [hrd2]; rfl
        · simp [signed]
        · simp only [signed, Bool.false_eq_true, if_false, Nat.shiftLeft_zero]
          have e1 : p2.toNat = 0 := by omega
          rw [e1, Nat.shiftLeft_zero]
          have hc : Toward.zero.cut false m2 (-p2).toNat ≤ m2 / (1 <<< min (-p2).toNat (m2.log2 + 2)) := by
            unfold Toward.cut; simp
          have hfin : m2 / (1 <<< min (-p2).toNat (m2.log2 + 2)) ≤ 1073741824 := by
            rcases Nat.le_total (-p2).toNat (m2.log2 + 2) with hd | hd
            · rw [Nat.min_eq_left hd, Nat.shiftLeft_eq, Nat.one_mul]
              refine Nat.le_of_lt ((Nat.div_lt_iff_lt_mul (Nat.two_pow_pos _)).2 ?_)
              refine Nat.lt_of_lt_of_le hm2 ?_
              rw [show (1073741824 : Nat) = 2 ^ 30 from rfl, ← Nat.pow_add]
              exact Nat.pow_le_pow_right (by omega) (by omega)
            · rw [Nat.min_eq_right hd, Nat.shiftLeft_eq, Nat.one_mul]
              have : m2 / 2 ^ (m2.log2 + 2) = 0 := Nat.div_eq_of_lt (Nat.lt_of_lt_of_le (lt_log m2) (Nat.pow_le_pow_right (by omega) (by omega)))
              omega
          have := Nat.le_trans hc hfin
          omega

end Go.Vc.Float
