/- The laws TagFractions and TagDegrees over the models. Conditions: none. -/
import Derived.Test.YtngogocmhmfbjaaTagF3
namespace Go.M
open Go.Md Go.Pl

/-- The whole number nearest to three fractions' sum. -/
def dV (n0 d0 n1 d1 n2 d2 : Int) : Int := (2 * (n0 * d1 * d2 + d0 * n1 * d2 + d0 * d1 * n2) + d0 * d1 * d2) / (2 * (d0 * d1 * d2))

theorem pos3 {a b c : Int} (ha : 0 < a) (hb : 0 < b) (hc : 0 < c) : 0 < a * b * c := Int.mul_pos (Int.mul_pos ha hb) hc

theorem dV_parts {n0 n1 n2 : Int} {r d : Nat → Int} (h : Left r d) (e0 : r 0 = n0 % d 0) (e1 : r 1 = n1 % d 1) (e2 : r 2 = n2 % d 2) : n0 / d 0 + n1 / d 1 + n2 / d 2 + roundD r d = dV n0 (d 0) n1 (d 1) n2 (d 2) := by
  obtain ⟨h0, h1, h2, _⟩ := h
  have f0 := Int.mul_ediv_add_emod n0 (d 0)
  have f1 := Int.mul_ediv_add_emod n1 (d 1)
  have f2 := Int.mul_ediv_add_emod n2 (d 2)
  rw [← e0] at f0; rw [← e1] at f1; rw [← e2] at f2
  unfold dV roundD restN allD
  have hp := pos3 (a := d 0) (b := d 1) (c := d 2) (by omega) (by omega) (by omega)
  generalize n0 / d 0 = q0 at *
  generalize n1 / d 1 = q1 at *
  generalize n2 / d 2 = q2 at *
  subst f0 f1 f2
  rw [show 2 * ((d 0 * q0 + r 0) * d 1 * d 2 + d 0 * (d 1 * q1 + r 1) * d 2 + d 0 * d 1 * (d 2 * q2 + r 2)) + d 0 * d 1 * d 2
      = 2 * (r 0 * d 1 * d 2 + d 0 * r 1 * d 2 + d 0 * d 1 * r 2) + d 0 * d 1 * d 2 + 2 * (d 0 * d 1 * d 2) * (q0 + q1 + q2) from by
    have x0 : d 0 * q0 * d 1 * d 2 = d 0 * d 1 * d 2 * q0 := by rw [Int.mul_right_comm (d 0), Int.mul_right_comm (d 0 * d 1)]
    have x1 : d 0 * (d 1 * q1) * d 2 = d 0 * d 1 * d 2 * q1 := by rw [← Int.mul_assoc, Int.mul_right_comm (d 0 * d 1)]
    have x2 : d 0 * d 1 * (d 2 * q2) = d 0 * d 1 * d 2 * q2 := by rw [← Int.mul_assoc]
    simp only [Int.add_mul, Int.mul_add, x0, x1, x2]
    have y0 := Int.mul_assoc 2 (d 0 * d 1 * d 2) q0
    have y1 := Int.mul_assoc 2 (d 0 * d 1 * d 2) q1
    have y2 := Int.mul_assoc 2 (d 0 * d 1 * d 2) q2
    omega]
  rw [Int.add_mul_ediv_left _ _ (by omega)]
  omega

theorem dV_scale {g n0 d0 n1 d1 n2 d2 : Int} (hg : 0 < g) : dV (g * n0) (g * d0) n1 d1 n2 d2 = dV n0 d0 n1 d1 n2 d2 ∧ dV n0 d0 (g * n1) (g * d1) n2 d2 = dV n0 d0 n1 d1 n2 d2 ∧ dV n0 d0 n1 d1 (g * n2) (g * d2) = dV n0 d0 n1 d1 n2 d2 := by
  have key : ∀ N D : Int, (2 * (g * N) + g * D) / (2 * (g * D)) = (2 * N + D) / (2 * D) := by
    intro N D
    have e1 : 2 * (g * N) + g * D = g * (2 * N + D) := by rw [Int.mul_add, Int.mul_left_comm]
    have e2 : 2 * (g * D) = g * (2 * D) := by rw [Int.mul_left_comm]
    rw [e1, e2, Int.mul_ediv_mul_of_pos _ _ hg]
  refine ⟨?_, ?_, ?_⟩ <;> unfold dV
  · rw [show g * n0 * d1 * d2 + g * d0 * n1 * d2 + g * d0 * d1 * n2 = g * (n0 * d1 * d2 + d0 * n1 * d2 + d0 * d1 * n2) from by simp only [Int.mul_add, Int.mul_assoc], show g * d0 * d1 * d2 = g * (d0 * d1 * d2) from by simp only [Int.mul_assoc], key]
  · rw [show n0 * (g * d1) * d2 + d0 * (g * n1) * d2 + d0 * (g * d1) * n2 = g * (n0 * d1 * d2 + d0 * n1 * d2 + d0 * d1 * n2) from by simp only [Int.mul_add, Int.mul_assoc, Int.mul_left_comm _ g], show d0 * (g * d1) * d2 = g * (d0 * d1 * d2) from by simp only [Int.mul_assoc, Int.mul_left_comm _ g], key]
  · rw [show n0 * d1 * (g * d2) + d0 * n1 * (g * d2) + d0 * d1 * (g * n2) = g * (n0 * d1 * d2 + d0 * n1 * d2 + d0 * d1 * n2) from by simp only [Int.mul_add, Int.mul_assoc, Int.mul_left_comm _ g], show d0 * d1 * (g * d2) = g * (d0 * d1 * d2) from by simp only [Int.mul_assoc, Int.mul_left_comm _ g], key]

def cK : Nat → Int | 0 => 1 | 1 => 60 | _ => 3600

theorem cK_bd (k : Nat) : 1 ≤ cK k ∧ cK k ≤ 3600 := by unfold cK; split <;> omega
theorem cK_ofL {k : Nat} (hk : k < 3) : ofL [1, 60, 3600] k = cK k := by
  rcases (show k = 0 ∨ k = 1 ∨ k = 2 by omega) with rfl | rfl | rfl <;> rfl
theorem cK_at {k : Nat} (hk : k < 3) : gAt ([1, 60, 3600] : List Int) (k : Int) = some (cK k) := by
  rcases (show k = 0 ∨ k = 1 ∨ k = 2 by omega) with rfl | rfl | rfl <;> rfl

theorem den_bd {x : T_tag_Ratio} (h : okR x) (k : Nat) : 1 ≤ x.Den * cK k ∧ x.Den * cK k ≤ 15461882262000 := by
  have hc := cK_bd k
  obtain ⟨_, h1, h2⟩ := h
  have := pb (x := x.Den - 1) (X := 4294967294) (y := cK k) (Y := 3600) (by omega) (by omega)
  have h3 := pb (x := x.Den) (X := 4294967295) (y := cK k) (Y := 3600) (by omega) (by omega)
  rw [Int.sub_mul, Int.one_mul] at this
  omega

theorem quo_bd {x : T_tag_Ratio} (h : okR x) {d : Int} (hd : 1 ≤ d) : 0 ≤ x.Num * 1000000 / d ∧ x.Num * 1000000 / d ≤ 4294967295000000 := by
  obtain ⟨h1, _⟩ := h
  exact ⟨Int.ediv_nonneg (by omega) (by omega), Int.le_trans (Int.ediv_le_self _ (by omega)) (by omega)⟩

theorem tag_step {l : List T_tag_Ratio} (hl : l.length = 3) {next : Int × Int × (Nat → Int) × (Nat → Int) → Option (Int × Int)} {k : Nat} (hk : k < 3) {s : Int} (hs : 0 ≤ s ∧ s ≤ 100000000000000000) {r d : Nat → Int} {x : T_tag_Ratio} (hx : gAt l (k : Int) = some x) :
    tag_Degrees_l4 l next s (k : Int) r d = if okR x then next (s + x.Num * 1000000 / (x.Den * cK k), (k : Int) + 1, setA r k (x.Num * 1000000 % (x.Den * cK k)), setA d k (x.Den * cK k)) else some (0, 2) := by
  unfold tag_Degrees_l4
  rw [cnd_if, if_pos (by omega), hx, bnd_pure, check_t, bnd_pure, cnd_if]
  by_cases h : okR x
  · have hd := den_bd h k
    have hq := quo_bd h hd.1
    have hm1 := Int.emod_nonneg (x.Num * 1000000) (show x.Den * cK k ≠ 0 by omega)
    have hm2 := Int.emod_lt_of_pos (x.Num * 1000000) (show 0 < x.Den * cK k by omega)
    have h' := h
    obtain ⟨h1, h2⟩ := h'
    rw [if_pos h, if_neg (by decide), if_pos h, gI_ok (by omega), bnd_pure, gIx_nat hk, bnd_pure, cK_ofL hk, gI_ok (by omega), bnd_pure, gQuo_nn (by omega) (by omega), bnd_pure, gI_ok (by omega), bnd_pure, gRem_nn (by omega) (by omega), bnd_pure, bnd_pure, bnd_pure, gI_ok (by omega), bnd_pure, wU64_in (by omega), wU64_in (by omega)]
  · rw [if_neg h, if_pos (by decide), if_neg h]

theorem ref_step {l : List T_tag_Ratio} (hl : l.length = 3) {next : Int × Int × (Nat → Int) × (Nat → Int) → Option (Int × Int)} {k : Nat} (hk : k < 3) {s : Int} (hs : 0 ≤ s ∧ s ≤ 100000000000000000) {r d : Nat → Int} {x : T_tag_Ratio} (hx : gAt l (k : Int) = some x) :
    R_DegreesOf_l10 l next s (k : Int) r d = if okR x then next (s + x.Num * 1000000 / (x.Den * cK k), (k : Int) + 1, setA r k (x.Num * 1000000 % (x.Den * cK k)), setA d k (x.Den * cK k)) else some (0, 2) := by
  unfold R_DegreesOf_l10
  rw [cnd_if, if_pos (by omega), hx, bnd_pure, simplest_eq, lowest_eq, bnd_pure, cnd_if]
  by_cases h : okR x
  · have hd := den_bd h k
    have hq := quo_bd h hd.1
    have hm1 := Int.emod_nonneg (x.Num * 1000000) (show x.Den * cK k ≠ 0 by omega)
    have hm2 := Int.emod_lt_of_pos (x.Num * 1000000) (show 0 < x.Den * cK k by omega)
    have h' := h
    obtain ⟨h1, h2⟩ := h'
    rw [if_pos h, if_neg (by simp), if_pos h, cK_at hk, bnd_pure, gI_ok (by omega), bnd_pure, gI_ok (by omega), bnd_pure, gQuo_nn (by omega) (by omega), bnd_pure, gI_ok (by omega), bnd_pure, bnd_pure, gRem_nn (by omega) (by omega), bnd_pure, gIx_nat hk, bnd_pure, bnd_pure, gI_ok (by omega), bnd_pure, wU64_in (by omega), wU64_in (by omega)]
  · rw [if_neg h, if_pos (by simp), if_neg h]

def degV (x0 x1 x2 : T_tag_Ratio) : Int := dV (x0.Num * 1000000) (x0.Den * 1) (x1.Num * 1000000) (x1.Den * 60) (x2.Num * 1000000) (x2.Den * 3600)

/-- Both loops over three fractions. -/
theorem three {F : (Int × Int × (Nat → Int) × (Nat → Int) → Option (Int × Int)) → Int × Int × (Nat → Int) × (Nat → Int) → Option (Int × Int)} {J : Int → (Nat → Int) → (Nat → Int) → Option (Int × Int)} {x0 x1 x2 : T_tag_Ratio}
    (step : ∀ (next : Int × Int × (Nat → Int) × (Nat → Int) → Option (Int × Int)) (k : Nat), k < 3 → ∀ s : Int, 0 ≤ s ∧ s ≤ 100000000000000000 → ∀ (r d : Nat → Int) (x : T_tag_Ratio), gAt [x0, x1, x2] (k : Int) = some x →
      F next (s, (k : Int), r, d) = if okR x then next (s + x.Num * 1000000 / (x.Den * cK k), (k : Int) + 1, setA r k (x.Num * 1000000 % (x.Den * cK k)), setA d k (x.Den * cK k)) else some (0, 2))
    (last : ∀ next s r d, F next (s, 3, r, d) = J s r d) (hJ : ∀ {r d : Nat → Int}, Left r d → ∀ {s : Int}, 0 ≤ s ∧ s ≤ 1000000000000000000 → J s r d = endD (s + roundD r d)) (r d : Nat → Int) :
    fix F (0, 0, r, d) = if okR x0 ∧ okR x1 ∧ okR x2 then endD (degV x0 x1 x2) else some (0, 2) := by
  by_cases h0 : okR x0
  · have d0 := den_bd h0 0
    have q0 := quo_bd h0 d0.1
    refine (fix_goto _ (fun next => (step next 0 (by decide) 0 (by decide) r d x0 rfl).trans (if_pos h0))).trans ?_
    by_cases h1 : okR x1
    · have d1 := den_bd h1 1
      have q1 := quo_bd h1 d1.1
      refine (fix_goto _ (fun next => (step next 1 (by decide) _ (by omega) _ _ x1 rfl).trans (if_pos h1))).trans ?_
      by_cases h2 : okR x2
      · have d2 := den_bd h2 2
        have q2 := quo_bd h2 d2.1
        refine (fix_goto _ (fun next => (step next 2 (by decide) _ (by omega) _ _ x2 rfl).trans (if_pos h2))).trans ?_
        refine (fix_done (fun next => last next _ _ _)).trans ?_
        rw [if_pos ⟨h0, h1, h2⟩]
        obtain ⟨_, g0⟩ := h0
        obtain ⟨_, g1⟩ := h1
        obtain ⟨_, g2⟩ := h2
        have hL : Left (setA (setA (setA r 0 (x0.Num * 1000000 % (x0.Den * cK 0))) 1 (x1.Num * 1000000 % (x1.Den * cK 1))) 2 (x2.Num * 1000000 % (x2.Den * cK 2))) (setA (setA (setA d 0 (x0.Den * cK 0)) 1 (x1.Den * cK 1)) 2 (x2.Den * cK 2)) := by
          exact ⟨(show 1 ≤ x0.Den * 1 ∧ x0.Den * 1 ≤ 4294967295 by omega), (show 1 ≤ x1.Den * 60 ∧ x1.Den * 60 ≤ 257698037700 by omega), (show 1 ≤ x2.Den * 3600 ∧ x2.Den * 3600 ≤ 15461882262000 by omega), (show 0 ≤ x0.Num * 1000000 % (x0.Den * 1) ∧ x0.Num * 1000000 % (x0.Den * 1) < x0.Den * 1 from ⟨Int.emod_nonneg _ (by omega), Int.emod_lt_of_pos _ (by omega)⟩), (show 0 ≤ x1.Num * 1000000 % (x1.Den * 60) ∧ x1.Num * 1000000 % (x1.Den * 60) < x1.Den * 60 from ⟨Int.emod_nonneg _ (by omega), Int.emod_lt_of_pos _ (by omega)⟩), (show 0 ≤ x2.Num * 1000000 % (x2.Den * 3600) ∧ x2.Num * 1000000 % (x2.Den * 3600) < x2.Den * 3600 from ⟨Int.emod_nonneg _ (by omega), Int.emod_lt_of_pos _ (by omega)⟩)⟩
        rw [hJ hL (by omega)]
        have := dV_parts (n0 := x0.Num * 1000000) (n1 := x1.Num * 1000000) (n2 := x2.Num * 1000000) hL rfl rfl rfl
        congr 1
        rw [Int.zero_add]
        exact this
      · refine (fix_done (fun next => (step next 2 (by decide) _ (by omega) _ _ x2 rfl).trans (if_neg h2))).trans ?_
        rw [if_neg (fun h => h2 h.2.2)]
    · refine (fix_done (fun next => (step next 1 (by decide) _ (by omega) _ _ x1 rfl).trans (if_neg h1))).trans ?_
      rw [if_neg (fun h => h1 h.2.1)]
  · refine (fix_done (fun next => (step next 0 (by decide) 0 (by decide) r d x0 rfl).trans (if_neg h0))).trans ?_
    rw [if_neg (fun h => h0 h.1)]

theorem tag_three (x0 x1 x2 : T_tag_Ratio) : tag_Degrees [x0, x1, x2] = if okR x0 ∧ okR x1 ∧ okR x2 then endD (degV x0 x1 x2) else some (0, 2) := by
  unfold tag_Degrees
  rw [cnd_if, if_neg (by simp)]
  exact three (F := fun next4 s => tag_Degrees_l4 [x0, x1, x2] next4 s.1 s.2.1 s.2.2.1 s.2.2.2) (J := tag_Degrees_j1) (fun next k hk s hs r d x hx => tag_step rfl hk hs hx) (fun next s r d => by
    show tag_Degrees_l4 _ next s 3 r d = _
    unfold tag_Degrees_l4
    rw [cnd_if, if_neg (by simp)]) (fun h _ hs => tag_j1 h hs) _ _

theorem ref_three (x0 x1 x2 : T_tag_Ratio) : R_DegreesOf [x0, x1, x2] = if okR x0 ∧ okR x1 ∧ okR x2 then endD (degV x0 x1 x2) else some (0, 2) := by
  unfold R_DegreesOf
  rw [cnd_if, if_neg (by simp)]
  exact three (F := fun next4 s => R_DegreesOf_l10 [x0, x1, x2] next4 s.1 s.2.1 s.2.2.1 s.2.2.2) (J := R_DegreesOf_j1) (fun next k hk s hs r d x hx => ref_step rfl hk hs hx) (fun next s r d => by
    show R_DegreesOf_l10 _ next s 3 r d = _
    unfold R_DegreesOf_l10
    rw [cnd_if, if_neg (by simp)]) (fun h _ hs => ref_j1 h hs) _ _

theorem degrees_both (l : List T_tag_Ratio) : ∃ p, tag_Degrees l = some p ∧ R_DegreesOf l = some p ∧ (p.2 ≠ 0 → p.1 = 0) := by
  by_cases hl : l.length = 3
  · obtain ⟨x0, x1, x2, rfl⟩ : ∃ x0 x1 x2, l = [x0, x1, x2] := by
      match l, hl with
      | [x0, x1, x2], _ => exact ⟨x0, x1, x2, rfl⟩
    rw [tag_three, ref_three]
    split
    · unfold endD
      split
      · exact ⟨_, rfl, rfl, fun _ => rfl⟩
      · exact ⟨_, rfl, rfl, fun h => absurd rfl h⟩
    · exact ⟨_, rfl, rfl, fun _ => rfl⟩
  · unfold tag_Degrees R_DegreesOf
    rw [cnd_if, if_pos (by omega), cnd_if, if_pos (by omega)]
    exact ⟨_, rfl, rfl, fun _ => rfl⟩

theorem ratios_eq (n : Int) : tag_Ratios n = some (if n < 0 ∨ 180000000 < n then ([], 2) else ([⟨n / 1000000, 1⟩, ⟨n % 1000000 * 60 / 1000000, 1⟩, ⟨n % 1000000 * 60 % 1000000 * 60 / 100, 10000⟩], 0)) := by
  unfold tag_Ratios
  rw [outside_t, bnd_pure, cnd_if]
  split
  · rfl
  · rw [gRem_nn (by omega) (by omega), bnd_pure, gI_ok (by omega), bnd_pure, gRem_nn (by omega) (by omega), bnd_pure, gI_ok (by omega), bnd_pure, gQuo_nn (by omega) (by omega), bnd_pure, gQuo_nn (by omega) (by omega), bnd_pure, gQuo_nn (by omega) (by omega), bnd_pure]

theorem ratiosOf_eq (n : Int) : R_RatiosOf n = tag_Ratios n := by
  rw [ratios_eq]
  unfold R_RatiosOf
  rw [cnd_if, cnd_if]
  split
  · rw [if_pos (by omega)]
  · split
    · rw [if_pos (by omega)]
    · rw [if_neg (by omega), gRem_nn (by omega) (by omega), bnd_pure, gI_ok (by omega), bnd_pure, gQuo_nn (by omega) (by omega), bnd_pure, gQuo_nn (by omega) (by omega), bnd_pure, gRem_nn (by omega) (by omega), bnd_pure]
      rw [show n % 1000000 * 36 / 600000 = n % 1000000 * 60 / 1000000 from by omega, show n % 1000000 * 36 % 600000 = n % 1000000 * 60 % 1000000 * 60 / 100 from by omega]

theorem equal_self (l : List T_tag_Ratio) (hl : l.length ≤ 9223372036854775807) : slices_Equal_tag_Ratio l l = some true := by
  unfold slices_Equal_tag_Ratio
  rw [cnd_if, if_neg (by simp)]
  refine up l.length (fun _ => some true) fun next k hk ih => ?_
  unfold slices_Equal_tag_Ratio_l1
  rw [cnd_if]
  split
  · have h : k < l.length := by omega
    rw [gAt_nat h, bnd_pure, bnd_pure]
    have : eq_tag_Ratio l[k] l[k] = true := by simp [eq_tag_Ratio]
    rw [this, Bool.not_true, cnd_false, gI_ok (by omega), bnd_pure, ih h]
  · rfl

theorem told_int_t (v e : Int) (h : e ≠ 0 → v = 0) : Law_told_int v e v e = some true := by
  unfold Law_told_int Law_told_int_j1
  simp only [cnd_if]
  by_cases he : e = 0
  · simp [he]
  · simp [he, h he]

theorem fractions (x : T_tag_Ratio) (l : List T_tag_Ratio) (n : Int) : Law_TagFractions x l n = some true := by
  obtain ⟨p, h1, h2, h3⟩ := degrees_both l
  unfold Law_TagFractions
  rw [simplest_eq, lowest_eq, bnd_pure, bnd_pure, h1, bnd_pure, h2, bnd_pure, ratiosOf_eq, ratios_eq, bnd_pure, bnd_pure, told_int_t _ _ h3]
  have e1 : Law_told_tag_Ratio (if okR x then (low x, 0) else (⟨0, 0⟩, 2) : T_tag_Ratio × Int).1 (if okR x then (low x, 0) else (⟨0, 0⟩, 2) : T_tag_Ratio × Int).2 (if okR x then (low x, 0) else (⟨0, 0⟩, 2) : T_tag_Ratio × Int).1 (if okR x then (low x, 0) else (⟨0, 0⟩, 2) : T_tag_Ratio × Int).2 = some true := by
    unfold Law_told_tag_Ratio Law_told_tag_Ratio_j1 eq_tag_Ratio
    by_cases h : okR x
    · simp [h, cnd]
    · simp [h, cnd]
  rw [e1, bnd_pure, cnd_true, bnd_pure, cnd_true]
  have e2 : ∀ (l : List T_tag_Ratio) (e : Int), l.length ≤ 3 → (e ≠ 0 → l = []) → Law_listed_tag_Ratio l e l e = some true := by
    intro l e hl he
    unfold Law_listed_tag_Ratio Law_listed_tag_Ratio_j1
    rw [cnd_if]
    split
    · rw [he ‹_›, equal_self [] (by simp), bnd_pure, cnd_true]; simp
    · rw [equal_self l (by omega), bnd_pure, cnd_true]; simp
  rw [e2 _ _ (by split <;> simp) (by split <;> simp)]
  rfl

theorem low_ok {x : T_tag_Ratio} (h : okR x) : okR (low x) ∧ ∃ g : Int, 0 < g ∧ x.Num = g * (low x).Num ∧ x.Den = g * (low x).Den := by
  obtain ⟨⟨h1, h2⟩, h3, h4⟩ := h
  have hg := gcd_pos (a := x.Num.toNat) (b := x.Den.toNat) (by omega)
  obtain ⟨a, ha⟩ := Nat.gcd_dvd_left x.Num.toNat x.Den.toNat
  obtain ⟨b, hb⟩ := Nat.gcd_dvd_right x.Num.toNat x.Den.toNat
  have e1 : x.Num = (Nat.gcd x.Num.toNat x.Den.toNat : Nat) * (a : Int) := by rw [← Int.natCast_mul, ← ha]; omega
  have e2 : x.Den = (Nat.gcd x.Num.toNat x.Den.toNat : Nat) * (b : Int) := by rw [← Int.natCast_mul, ← hb]; omega
  have l1 : (low x).Num = a := by
    show x.Num / (Nat.gcd x.Num.toNat x.Den.toNat : Nat) = a
    conv => lhs; lhs; rw [e1]
    exact Int.mul_ediv_cancel_left _ (by omega)
  have l2 : (low x).Den = b := by
    show x.Den / (Nat.gcd x.Num.toNat x.Den.toNat : Nat) = b
    conv => lhs; lhs; rw [e2]
    exact Int.mul_ediv_cancel_left _ (by omega)
  refine ⟨⟨⟨by rw [l1]; omega, ?_⟩, ?_, ?_⟩, ((Nat.gcd x.Num.toNat x.Den.toNat : Nat) : Int), by omega, by rw [l1]; exact e1, by rw [l2]; exact e2⟩
  · rw [l1]
    have : (a : Int) ≤ x.Num := by
      have := Int.mul_le_mul_of_nonneg_right (show (1 : Int) ≤ (Nat.gcd x.Num.toNat x.Den.toNat : Nat) by omega) (show (0 : Int) ≤ a by omega)
      rw [Int.one_mul, ← e1] at this
      exact this
    omega
  · rw [l2]
    rcases Nat.eq_zero_or_pos b with h | h
    · subst h; simp at e2; omega
    · omega
  · rw [l2]
    have : (b : Int) ≤ x.Den := by
      have := Int.mul_le_mul_of_nonneg_right (show (1 : Int) ≤ (Nat.gcd x.Num.toNat x.Den.toNat : Nat) by omega) (show (0 : Int) ≤ b by omega)
      rw [Int.one_mul, ← e2] at this
      exact this
    omega

theorem degV_low {x0 x1 x2 : T_tag_Ratio} (h0 : okR x0) (h1 : okR x1) (h2 : okR x2) : degV (low x0) (low x1) (low x2) = degV x0 x1 x2 := by
  obtain ⟨_, g0, p0, a0, b0⟩ := low_ok h0
  obtain ⟨_, g1, p1, a1, b1⟩ := low_ok h1
  obtain ⟨_, g2, p2, a2, b2⟩ := low_ok h2
  unfold degV
  rw [a0, b0, a1, b1, a2, b2]
  simp only [Int.mul_assoc]
  rw [(dV_scale p0).1, (dV_scale p1).2.1, (dV_scale p2).2.2]

theorem keep_j1 {l : List T_tag_Ratio} {n : Int} (h : tag_Degrees l = some (n, 0)) : Keep_TagDegrees_j1 n l = some true := by
  unfold Keep_TagDegrees_j1
  rw [h, bnd_pure]; simp

theorem degrees (n : Int) : Keep_TagDegrees n = some true := by
  unfold Keep_TagDegrees Keep_awakeTag
  rw [lowest_eq, bnd_pure]
  have hl : low ⟨2, 4⟩ = ⟨1, 2⟩ := by unfold low; rw [T_tag_Ratio.mk.injEq]; decide
  rw [if_pos (by decide), hl, cnd_if, if_pos rfl, bnd_pure, ratios_eq]
  have : eq_tag_Ratio ⟨1, 2⟩ ⟨1, 2⟩ = true := by decide
  rw [this, Bool.not_true, cnd_false, bnd_pure, cnd_if]
  by_cases hn : n < 0 ∨ 180000000 < n
  · rw [if_pos hn, if_pos (by decide), cnd_if]
    split
    · rfl
    · simp; omega
  · rw [if_neg hn, if_neg (by simp)]
    generalize hx0 : (⟨n / 1000000, 1⟩ : T_tag_Ratio) = x0
    generalize hx1 : (⟨n % 1000000 * 60 / 1000000, 1⟩ : T_tag_Ratio) = x1
    generalize hx2 : (⟨n % 1000000 * 60 % 1000000 * 60 / 100, 10000⟩ : T_tag_Ratio) = x2
    have k0 : okR x0 := by subst hx0; unfold okR; simp only; omega
    have k1 : okR x1 := by subst hx1; unfold okR; simp only; omega
    have k2 : okR x2 := by subst hx2; unfold okR; simp only; omega
    have hv : degV x0 x1 x2 = n := by
      subst hx0 hx1 hx2
      unfold degV dV
      simp only
      omega
    have hd : tag_Degrees [x0, x1, x2] = some (n, 0) := by
      rw [tag_three, if_pos ⟨k0, k1, k2⟩, hv]; unfold endD; rw [if_neg (by omega)]
    have hd' : tag_Degrees [low x0, low x1, low x2] = some (n, 0) := by
      rw [tag_three, if_pos ⟨(low_ok k0).1, (low_ok k1).1, (low_ok k2).1⟩, degV_low k0 k1 k2, hv]; unfold endD; rw [if_neg (by omega)]
    rw [hd, bnd_pure, cnd_if, if_neg (by simp), cnd_if, if_neg (by simp)]
    have st : ∀ (next : Int × List T_tag_Ratio → Option Bool) (k : Nat) (l : List T_tag_Ratio) (x : T_tag_Ratio), k < 3 → l.length = 3 → gAt l (k : Int) = some x → okR x →
        Keep_TagDegrees_l2 n ([x0, x1, x2], 0) next (k : Int) l = next ((k : Int) + 1, l.set k (low x)) := by
      intro next k l x hk hl hx ho
      unfold Keep_TagDegrees_l2
      rw [cnd_if, if_pos (by simp; omega), hx, bnd_pure, lowest_eq, bnd_pure, if_pos ho, bnd_pure, gSet_ok (by omega) (by omega), bnd_pure, cnd_if, if_neg (by simp), gI_ok (by omega), bnd_pure]
      rfl
    rw [fix_goto (1, [low x0, x1, x2]) (fun next => st next 0 [x0, x1, x2] x0 (by decide) rfl rfl k0)]
    rw [fix_goto (2, [low x0, low x1, x2]) (fun next => st next 1 [low x0, x1, x2] x1 (by decide) rfl rfl k1)]
    rw [fix_goto (3, [low x0, low x1, low x2]) (fun next => st next 2 [low x0, low x1, x2] x2 (by decide) rfl rfl k2)]
    refine fix_done fun next => ?_
    show Keep_TagDegrees_l2 n ([x0, x1, x2], 0) next 3 [low x0, low x1, low x2] = _
    unfold Keep_TagDegrees_l2
    rw [cnd_if, if_neg (by simp)]
    exact keep_j1 hd'

theorem fractionsS (x : T_tag_Ratio) (l : List T_tag_Ratio) (n : Int) {P Q R : Prop} (_ : P) (_ : Q) (_ : R) : Law_TagFractions x l n = some true := fractions x l n
theorem degreesS (n : Int) {P : Prop} (_ : P) : Keep_TagDegrees n = some true := degrees n

end Go.M
