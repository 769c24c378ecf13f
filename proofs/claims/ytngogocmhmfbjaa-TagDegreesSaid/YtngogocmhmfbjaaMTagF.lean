/- TagFractions and TagDegrees: the models, printed by our generator from the compiled program. Conditions: none. -/
import Derived.Test.YtngogocmhmfbjaaMd
namespace Go.M
open Go.Md
set_option maxRecDepth 100000
set_option linter.unusedVariables false

structure T_tag_Ratio where
  Num : Int
  Den : Int
instance : Inhabited T_tag_Ratio := ⟨⟨0, 0⟩⟩

structure T_tag_wide where
  high_ : Int
  low_ : Int
instance : Inhabited T_tag_wide := ⟨⟨0, 0⟩⟩

structure T_tintref2_wide128 where
  hi_ : Int
  lo_ : Int
instance : Inhabited T_tintref2_wide128 := ⟨⟨0, 0⟩⟩

def eq_tag_Ratio (x y : T_tag_Ratio) : Bool := decide (x.Num = y.Num ∧ x.Den = y.Den)

/-! tintype/tag.outside -/
noncomputable def tag_outside (a0 : Int) (a1 : Int) (a2 : Int) : Option (Bool) :=
  cnd (decide (a0 < a1)) (some true) (some (decide (a2 < a0)))

/-! tintype/tag.checkRatio -/
noncomputable def tag_checkRatio (a0 : T_tag_Ratio) : Option (Int) :=
  bnd (tag_outside a0.Num 0 4294967295) fun t5 =>
  cnd t5 (some 2) (bnd (tag_outside a0.Den 1 4294967295) fun t9 =>
  cnd t9 (some 2) (some 0))

/-! tintype/tag.Lowest -/
noncomputable def tag_Lowest_j1 (a0 : T_tag_Ratio) (x5 : Int) : Option (T_tag_Ratio × Int) :=
  bnd (gQuo a0.Num x5) fun t26 =>
  bnd (gQuo a0.Den x5) fun t30 =>
  some ((⟨t26, t30⟩ : T_tag_Ratio), 0)
noncomputable def tag_Lowest_l2 (a0 : T_tag_Ratio) (next2 : ((Int × Int) → Option (T_tag_Ratio × Int))) (x5_3 : Int) (x6_2 : Int) : Option (T_tag_Ratio × Int) :=
  cnd (decide (x6_2 ≠ 0)) (bnd (gRem x5_3 x6_2) fun t22 =>
  next2 (x6_2, t22)) (tag_Lowest_j1 a0 x5_3)
noncomputable def tag_Lowest (a0 : T_tag_Ratio) : Option (T_tag_Ratio × Int) :=
  bnd (tag_checkRatio a0) fun t8 =>
  cnd (decide (t8 ≠ 0)) (some ((⟨0, 0⟩ : T_tag_Ratio), t8)) (fix (fun next2 s => tag_Lowest_l2 a0 next2 s.1 s.2) (a0.Num, a0.Den))

/-! tintype/tintkeep2.awakeTag -/
noncomputable def Keep_awakeTag  : Option (Bool) :=
  bnd (tag_Lowest (⟨2, 4⟩ : T_tag_Ratio)) fun t5 =>
  cnd (decide (t5.2 = 0)) (some (eq_tag_Ratio t5.1 (⟨1, 2⟩ : T_tag_Ratio))) (some false)

/-! tintype/tag.Ratios -/
noncomputable def tag_Ratios (a0 : Int) : Option ((List T_tag_Ratio) × Int) :=
  bnd (tag_outside a0 0 180000000) fun t7 =>
  cnd t7 (some (([] : List T_tag_Ratio), 2)) (bnd (gRem a0 1000000) fun t9 =>
  bnd (gI (t9 * 60)) fun t10 =>
  bnd (gRem t10 1000000) fun t12 =>
  bnd (gI (t12 * 60)) fun t13 =>
  bnd (gQuo a0 1000000) fun t15 =>
  bnd (gQuo t10 1000000) fun t18 =>
  bnd (gQuo t13 100) fun t21 =>
  some (([(⟨t15, 1⟩ : T_tag_Ratio), (⟨t18, 1⟩ : T_tag_Ratio), (⟨t21, 10000⟩ : T_tag_Ratio)] : List T_tag_Ratio), 0))

/-! math/bits.Mul64 -/
noncomputable def math_bits_Mul64 (a0 : Int) (a1 : Int) : Option (Int × Int) :=
  bnd (gShr 64 a0 32) fun t17 =>
  bnd (gShr 64 a1 32) fun t21 =>
  bnd (gShr 64 (wU64 ((wU64 (bAnd 64 a0 4294967295)) * (wU64 (bAnd 64 a1 4294967295)))) 32) fun t29 =>
  bnd (gShr 64 (wU64 ((wU64 (t17 * (wU64 (bAnd 64 a1 4294967295)))) + t29)) 32) fun t34 =>
  bnd (gShr 64 (wU64 ((wU64 (bAnd 64 (wU64 ((wU64 (t17 * (wU64 (bAnd 64 a1 4294967295)))) + t29)) 4294967295)) + (wU64 ((wU64 (bAnd 64 a0 4294967295)) * t21)))) 32) fun t46 =>
  some ((wU64 ((wU64 ((wU64 (t17 * t21)) + t34)) + t46)), (wU64 (a0 * a1)))

/-! (tintype/tag.wide).times -/
noncomputable def tag_wide_times (a0 : T_tag_wide) (a1 : Int) : Option (T_tag_wide) :=
  bnd (math_bits_Mul64 a0.low_ a1) fun t11 =>
  some (⟨(wU64 (t11.1 + (wU64 (a0.high_ * a1)))), t11.2⟩ : T_tag_wide)

/-! tintype/tag.product -/
noncomputable def tag_product_j1 (m : Int) (m_2 : Int) : Option (T_tag_wide) :=
  some (⟨m, m_2⟩ : T_tag_wide)
noncomputable def tag_product_l2 (a0 : (List Int)) (next2 : ((Int × Int × Int) → Option (T_tag_wide))) (x9_2 : Int) (m_5 : Int) (m_6 : Int) : Option (T_tag_wide) :=
  cnd (decide (x9_2 < (a0.length : Int))) (bnd (gAt a0 x9_2) fun t11 =>
  bnd (tag_wide_times (⟨m_5, m_6⟩ : T_tag_wide) t11) fun t15 =>
  bnd (gI (x9_2 + 1)) fun t16 =>
  next2 (t16, t15.high_, t15.low_)) (tag_product_j1 m_5 m_6)
noncomputable def tag_product (a0 : (List Int)) : Option (T_tag_wide) :=
  fix (fun next2 s => tag_product_l2 a0 next2 s.1 s.2.1 s.2.2) (0, 0, 1)

/-! (tintype/tag.wide).plus -/
noncomputable def tag_wide_plus (a0 : T_tag_wide) (a1 : T_tag_wide) : Option (T_tag_wide) :=
  bnd (gAdd64 a0.low_ a1.low_ 0) fun t14 =>
  bnd (gAdd64 a0.high_ a1.high_ t14.2) fun t23 =>
  some (⟨t23.1, t14.1⟩ : T_tag_wide)

/-! (tintype/tag.wide).atLeast -/
noncomputable def tag_wide_atLeast (a0 : T_tag_wide) (a1 : T_tag_wide) : Option (Bool) :=
  cnd (decide (a1.high_ < a0.high_)) (some true) (cnd (decide (a0.high_ = a1.high_)) (some (decide (a1.low_ ≤ a0.low_))) (some false))

/-! tintype/tag.Degrees -/
noncomputable def tag_Degrees_j2 (x4_2 : Int) : Option (Int × Int) :=
  cnd (decide (180000000 < x4_2)) (some (0, 2)) (some (x4_2, 0))
noncomputable def tag_Degrees_l3 (m_2 : (Nat → Int)) (t80 : (T_tag_wide)) (next3 : ((Int × Int) → Option (Int × Int))) (x4_4 : Int) (x13_2 : Int) : Option (Int × Int) :=
  bnd (tag_product ([x13_2, (m_2 0), (m_2 1), (m_2 2)] : List Int)) fun t90 =>
  bnd (tag_wide_atLeast t80 t90) fun t91 =>
  cnd t91 (bnd (gI (x4_4 + 1)) fun t95 =>
  next3 (t95, (wU64 (x13_2 + 2)))) (tag_Degrees_j2 x4_4)
noncomputable def tag_Degrees_j1 (x4 : Int) (m : (Nat → Int)) (m_2 : (Nat → Int)) : Option (Int × Int) :=
  bnd (tag_product ([(m 0), (m_2 1), (m_2 2)] : List Int)) fun t61 =>
  bnd (tag_product ([(m_2 0), (m 1), (m_2 2)] : List Int)) fun t69 =>
  bnd (tag_wide_plus t61 t69) fun t70 =>
  bnd (tag_product ([(m_2 0), (m_2 1), (m 2)] : List Int)) fun t78 =>
  bnd (tag_wide_plus t70 t78) fun t79 =>
  bnd (tag_wide_times t79 2) fun t80 =>
  fix (fun next3 s => tag_Degrees_l3 m_2 t80 next3 s.1 s.2) (x4, 1)
noncomputable def tag_Degrees_l4 (a0 : (List T_tag_Ratio)) (next4 : ((Int × Int × (Nat → Int) × (Nat → Int)) → Option (Int × Int))) (x4_6 : Int) (x19_2 : Int) (m_5 : (Nat → Int)) (m_6 : (Nat → Int)) : Option (Int × Int) :=
  cnd (decide (x19_2 < (a0.length : Int))) (bnd (gAt a0 x19_2) fun t22 =>
  bnd (tag_checkRatio t22) fun t25 =>
  cnd (decide (t25 ≠ 0)) (some (0, t25)) (bnd (gI (t22.Num * 1000000)) fun t31 =>
  bnd (gIx 3 x19_2) fun k36 =>
  bnd (gI (t22.Den * ((ofL [1, 60, 3600]) k36))) fun t37 =>
  bnd (gQuo t31 t37) fun t41 =>
  bnd (gI (x4_6 + t41)) fun t42 =>
  bnd (gRem t31 t37) fun t47 =>
  bnd (gIx 3 x19_2) fun k51 =>
  bnd (gIx 3 x19_2) fun k52 =>
  bnd (gI (x19_2 + 1)) fun t53 =>
  next4 (t42, t53, (setA m_5 k51 (wU64 t47)), (setA m_6 k52 (wU64 t37))))) (tag_Degrees_j1 x4_6 m_5 m_6)
noncomputable def tag_Degrees (a0 : (List T_tag_Ratio)) : Option (Int × Int) :=
  cnd (decide ((a0.length : Int) ≠ 3)) (some (0, 1)) (fix (fun next4 s => tag_Degrees_l4 a0 next4 s.1 s.2.1 s.2.2.1 s.2.2.2) (0, 0, (fun _ => 0), (fun _ => 0)))

/-! tintype/tintkeep2.TagDegrees -/
noncomputable def Keep_TagDegrees_j1 (a0 : Int) (l : (List T_tag_Ratio)) : Option (Bool) :=
  bnd (tag_Degrees l) fun t55 =>
  cnd (decide (t55.2 = 0)) (some (decide (t55.1 = a0))) (some false)
noncomputable def Keep_TagDegrees_l2 (a0 : Int) (t12 : ((List T_tag_Ratio) × Int)) (next2 : ((Int × (List T_tag_Ratio)) → Option (Bool))) (x37_2 : Int) (l_3 : (List T_tag_Ratio)) : Option (Bool) :=
  cnd (decide (x37_2 < (t12.1.length : Int))) (bnd (gAt l_3 x37_2) fun t40 =>
  bnd (tag_Lowest t40) fun t46 =>
  bnd (gAt l_3 x37_2) fun t49 =>
  bnd (gSet l_3 x37_2 t46.1) fun l0 =>
  cnd (decide (t46.2 ≠ 0)) (some false) (bnd (gI (x37_2 + 1)) fun t52 =>
  next2 (t52, l0))) (Keep_TagDegrees_j1 a0 l_3)
noncomputable def Keep_TagDegrees (a0 : Int) : Option (Bool) :=
  bnd (Keep_awakeTag) fun t8 =>
  cnd (!t8) (some false) (bnd (tag_Ratios a0) fun t12 =>
  cnd (decide (t12.2 ≠ 0)) (cnd (decide (a0 < 0)) (some true) (some (decide (180000000 < a0)))) (bnd (tag_Degrees t12.1) fun t25 =>
  cnd (decide (t25.2 ≠ 0)) (some false) (cnd (decide (t25.1 ≠ a0)) (some false) (fix (fun next2 s => Keep_TagDegrees_l2 a0 t12 next2 s.1 s.2) (0, t12.1)))))

/-! tintype/tintlaw2.told[int] -/
noncomputable def Law_told_int_j1 (a0 : Int) (a1 : Int) (a3 : Int) (x2 : Int) : Option (Bool) :=
  cnd (decide (a0 = x2)) (some (decide (a1 = a3))) (some false)
noncomputable def Law_told_int (a0 : Int) (a1 : Int) (a2 : Int) (a3 : Int) : Option (Bool) :=
  cnd (decide (a3 ≠ 0)) (Law_told_int_j1 a0 a1 a3 0) (Law_told_int_j1 a0 a1 a3 a2)

/-! tintype/tintref2.isLong -/
noncomputable def R_isLong (a0 : Int) : Option (Bool) :=
  cnd (decide (0 ≤ a0)) (some (decide (a0 ≤ 4294967295))) (some false)

/-! tintype/tintref2.Simplest -/
noncomputable def R_Simplest_j1 (a0 : T_tag_Ratio) (x5 : Int) : Option (T_tag_Ratio × Int) :=
  bnd (gQuo a0.Num x5) fun t35 =>
  bnd (gQuo a0.Den x5) fun t39 =>
  some ((⟨t35, t39⟩ : T_tag_Ratio), 0)
noncomputable def R_Simplest_l2 (a0 : T_tag_Ratio) (next2 : ((Int × Int) → Option (T_tag_Ratio × Int))) (x4_2 : Int) (x5_3 : Int) : Option (T_tag_Ratio × Int) :=
  cnd (decide (0 < x4_2)) (bnd (gRem x5_3 x4_2) fun t30 =>
  next2 (t30, x4_2)) (R_Simplest_j1 a0 x5_3)
noncomputable def R_Simplest (a0 : T_tag_Ratio) : Option (T_tag_Ratio × Int) :=
  bnd (R_isLong a0.Num) fun t8 =>
  cnd (!t8) (some ((⟨0, 0⟩ : T_tag_Ratio), 2)) (bnd (R_isLong a0.Den) fun t13 =>
  cnd (!t13) (some ((⟨0, 0⟩ : T_tag_Ratio), 2)) (cnd (decide (a0.Den = 0)) (some ((⟨0, 0⟩ : T_tag_Ratio), 2)) (fix (fun next2 s => R_Simplest_l2 a0 next2 s.1 s.2) (a0.Num, a0.Den))))

/-! (tintype/tintref2.wide128).times -/
noncomputable def R_wide128_times (a0 : T_tintref2_wide128) (a1 : Int) : Option (T_tintref2_wide128) :=
  bnd (math_bits_Mul64 a0.lo_ a1) fun t11 =>
  some (⟨(wU64 (t11.1 + (wU64 (a0.hi_ * a1)))), t11.2⟩ : T_tintref2_wide128)

/-! (tintype/tintref2.wide128).plus -/
noncomputable def R_wide128_plus (a0 : T_tintref2_wide128) (a1 : T_tintref2_wide128) : Option (T_tintref2_wide128) :=
  bnd (gAdd64 a0.lo_ a1.lo_ 0) fun t12 =>
  some (⟨(wU64 ((wU64 (a0.hi_ + a1.hi_)) + t12.2)), t12.1⟩ : T_tintref2_wide128)

/-! (tintype/tintref2.wide128).less -/
noncomputable def R_wide128_less (a0 : T_tintref2_wide128) (a1 : T_tintref2_wide128) : Option (Bool) :=
  cnd (decide (a0.hi_ < a1.hi_)) (some true) (cnd (decide (a0.hi_ = a1.hi_)) (some (decide (a0.lo_ < a1.lo_))) (some false))

/-! (tintype/tintref2.wide128).minus -/
noncomputable def R_wide128_minus (a0 : T_tintref2_wide128) (a1 : T_tintref2_wide128) : Option (T_tintref2_wide128) :=
  bnd (gSub64 a0.lo_ a1.lo_ 0) fun t12 =>
  some (⟨(wU64 ((wU64 (a0.hi_ - a1.hi_)) - t12.2)), t12.1⟩ : T_tintref2_wide128)

/-! tintype/tintref2.DegreesOf -/
noncomputable def R_DegreesOf_j3 (x4_2 : Int) : Option (Int × Int) :=
  cnd (decide (180000000 < x4_2)) (some (0, 2)) (some (x4_2, 0))
noncomputable def R_DegreesOf_l4 (t99 : (T_tintref2_wide128)) (next4 : ((Int × Int × Int) → Option (Int × Int))) (x4_4 : Int) (m_7 : Int) (m_8 : Int) : Option (Int × Int) :=
  bnd (R_wide128_less (⟨m_7, m_8⟩ : T_tintref2_wide128) t99) fun t102 =>
  cnd (!t102) (bnd (R_wide128_minus (⟨m_7, m_8⟩ : T_tintref2_wide128) t99) fun t108 =>
  bnd (gI (x4_4 + 1)) fun t105 =>
  next4 (t105, t108.hi_, t108.lo_)) (R_DegreesOf_j3 x4_4)
noncomputable def R_DegreesOf_j2 (x4 : Int) (t72 : (T_tintref2_wide128)) (m_3 : Int) (m_4 : Int) : Option (Int × Int) :=
  bnd (R_wide128_times t72 2) fun t99 =>
  fix (fun next4 s => R_DegreesOf_l4 t99 next4 s.1 s.2.1 s.2.2) (x4, m_3, m_4)
noncomputable def R_DegreesOf_j6 (x74_2 : Int) (next5 : ((Int × Int × Int) → Option (Int × Int))) (m_13 : Int) (m_14 : Int) : Option (Int × Int) :=
  bnd (gI (x74_2 + 1)) fun t97 =>
  next5 (t97, m_13, m_14)
noncomputable def R_DegreesOf_j7 (x74_2 : Int) (m_11 : Int) (m_12 : Int) (next5 : ((Int × Int × Int) → Option (Int × Int))) (m_15 : Int) (m_16 : Int) : Option (Int × Int) :=
  bnd (R_wide128_plus (⟨m_11, m_12⟩ : T_tintref2_wide128) (⟨m_15, m_16⟩ : T_tintref2_wide128)) fun t96 =>
  R_DegreesOf_j6 x74_2 next5 t96.hi_ t96.lo_
noncomputable def R_DegreesOf_j9 (x82_2 : Int) (next8 : ((Int × Int × Int) → Option (Int × Int))) (m_21 : Int) (m_22 : Int) : Option (Int × Int) :=
  bnd (gI (x82_2 + 1)) fun t93 =>
  next8 (t93, m_21, m_22)
noncomputable def R_DegreesOf_l8 (m_2 : (Nat → Int)) (x74_2 : Int) (m_11 : Int) (m_12 : Int) (next5 : ((Int × Int × Int) → Option (Int × Int))) (next8 : ((Int × Int × Int) → Option (Int × Int))) (x82_2 : Int) (m_19 : Int) (m_20 : Int) : Option (Int × Int) :=
  cnd (decide (x82_2 < 3)) (cnd (decide (x82_2 ≠ x74_2)) (bnd (gIx 3 x82_2) fun k90 =>
  bnd (R_wide128_times (⟨m_19, m_20⟩ : T_tintref2_wide128) (m_2 k90)) fun t92 =>
  R_DegreesOf_j9 x82_2 next8 t92.hi_ t92.lo_) (R_DegreesOf_j9 x82_2 next8 m_19 m_20)) (R_DegreesOf_j7 x74_2 m_11 m_12 next5 m_19 m_20)
noncomputable def R_DegreesOf_l5 (x4 : Int) (m : (Nat → Int)) (m_2 : (Nat → Int)) (t72 : (T_tintref2_wide128)) (next5 : ((Int × Int × Int) → Option (Int × Int))) (x74_2 : Int) (m_11 : Int) (m_12 : Int) : Option (Int × Int) :=
  cnd (decide (x74_2 < 3)) (bnd (gIx 3 x74_2) fun k78 =>
  bnd (R_wide128_times (⟨0, (m k78)⟩ : T_tintref2_wide128) 2) fun t81 =>
  fix (fun next8 s => R_DegreesOf_l8 m_2 x74_2 m_11 m_12 next5 next8 s.1 s.2.1 s.2.2) (0, t81.hi_, t81.lo_)) (R_DegreesOf_j2 x4 t72 m_11 m_12)
noncomputable def R_DegreesOf_j1 (x4 : Int) (m : (Nat → Int)) (m_2 : (Nat → Int)) : Option (Int × Int) :=
  bnd (R_wide128_times (⟨0, 1⟩ : T_tintref2_wide128) (m_2 0)) fun t66 =>
  bnd (R_wide128_times t66 (m_2 1)) fun t69 =>
  bnd (R_wide128_times t69 (m_2 2)) fun t72 =>
  fix (fun next5 s => R_DegreesOf_l5 x4 m m_2 t72 next5 s.1 s.2.1 s.2.2) (0, t72.hi_, t72.lo_)
noncomputable def R_DegreesOf_l10 (a0 : (List T_tag_Ratio)) (next10 : ((Int × Int × (Nat → Int) × (Nat → Int)) → Option (Int × Int))) (x4_6 : Int) (x23_2 : Int) (m_25 : (Nat → Int)) (m_26 : (Nat → Int)) : Option (Int × Int) :=
  cnd (decide (x23_2 < (a0.length : Int))) (bnd (gAt a0 x23_2) fun t26 =>
  bnd (R_Simplest t26) fun t30 =>
  cnd (decide (t30.2 ≠ 0)) (some (0, t30.2)) (bnd (gAt ([1, 60, 3600] : List Int) x23_2) fun t40 =>
  bnd (gI (t26.Den * t40)) fun t42 =>
  bnd (gI (t26.Num * 1000000)) fun t46 =>
  bnd (gQuo t46 t42) fun t48 =>
  bnd (gI (x4_6 + t48)) fun t49 =>
  bnd (gI (t26.Num * 1000000)) fun t54 =>
  bnd (gRem t54 t42) fun t56 =>
  bnd (gIx 3 x23_2) fun k60 =>
  bnd (gIx 3 x23_2) fun k61 =>
  bnd (gI (x23_2 + 1)) fun t62 =>
  next10 (t49, t62, (setA m_25 k60 (wU64 t56)), (setA m_26 k61 (wU64 t42))))) (R_DegreesOf_j1 x4_6 m_25 m_26)
noncomputable def R_DegreesOf (a0 : (List T_tag_Ratio)) : Option (Int × Int) :=
  cnd (decide ((a0.length : Int) ≠ 3)) (some (0, 1)) (fix (fun next10 s => R_DegreesOf_l10 a0 next10 s.1 s.2.1 s.2.2.1 s.2.2.2) (0, 0, (fun _ => 0), (fun _ => 0)))

/-! tintype/tintref2.RatiosOf -/
noncomputable def R_RatiosOf (a0 : Int) : Option ((List T_tag_Ratio) × Int) :=
  cnd (decide (a0 < 0)) (some (([] : List T_tag_Ratio), 2)) (cnd (decide (180000000 < a0)) (some (([] : List T_tag_Ratio), 2)) (bnd (gRem a0 1000000) fun t12 =>
  bnd (gI (t12 * 36)) fun t13 =>
  bnd (gQuo a0 1000000) fun t15 =>
  bnd (gQuo t13 600000) fun t18 =>
  bnd (gRem t13 600000) fun t21 =>
  some (([(⟨t15, 1⟩ : T_tag_Ratio), (⟨t18, 1⟩ : T_tag_Ratio), (⟨t21, 10000⟩ : T_tag_Ratio)] : List T_tag_Ratio), 0)))

/-! tintype/tintlaw2.told[tintype/tag.Ratio] -/
noncomputable def Law_told_tag_Ratio_j1 (a0 : T_tag_Ratio) (a1 : Int) (a3 : Int) (m : Int) (m_2 : Int) : Option (Bool) :=
  cnd (eq_tag_Ratio a0 (⟨m, m_2⟩ : T_tag_Ratio)) (some (decide (a1 = a3))) (some false)
noncomputable def Law_told_tag_Ratio (a0 : T_tag_Ratio) (a1 : Int) (a2 : T_tag_Ratio) (a3 : Int) : Option (Bool) :=
  cnd (decide (a3 ≠ 0)) (Law_told_tag_Ratio_j1 a0 a1 a3 0 0) (Law_told_tag_Ratio_j1 a0 a1 a3 a2.Num a2.Den)

/-! slices.Equal[[]tintype/tag.Ratio,tintype/tag.Ratio] -/
noncomputable def slices_Equal_tag_Ratio_l1 (a0 : (List T_tag_Ratio)) (a1 : (List T_tag_Ratio)) (next1 : ((Int) → Option (Bool))) (x13_2 : Int) : Option (Bool) :=
  cnd (decide (x13_2 < (a0.length : Int))) (bnd (gAt a0 x13_2) fun t18 =>
  bnd (gAt a1 x13_2) fun t22 =>
  cnd (!(eq_tag_Ratio t18 t22)) (some false) (bnd (gI (x13_2 + 1)) fun t25 =>
  next1 t25)) (some true)
noncomputable def slices_Equal_tag_Ratio (a0 : (List T_tag_Ratio)) (a1 : (List T_tag_Ratio)) : Option (Bool) :=
  cnd (decide ((a0.length : Int) ≠ (a1.length : Int))) (some false) (fix (fun next1 s => slices_Equal_tag_Ratio_l1 a0 a1 next1 s) 0)

/-! tintype/tintlaw2.listed[tintype/tag.Ratio] -/
noncomputable def Law_listed_tag_Ratio_j1 (a0 : (List T_tag_Ratio)) (a1 : Int) (a3 : Int) (x2 : (List T_tag_Ratio)) : Option (Bool) :=
  bnd (slices_Equal_tag_Ratio a0 x2) fun t13 =>
  cnd t13 (some (decide (a1 = a3))) (some false)
noncomputable def Law_listed_tag_Ratio (a0 : (List T_tag_Ratio)) (a1 : Int) (a2 : (List T_tag_Ratio)) (a3 : Int) : Option (Bool) :=
  cnd (decide (a3 ≠ 0)) (Law_listed_tag_Ratio_j1 a0 a1 a3 ([] : (List T_tag_Ratio))) (Law_listed_tag_Ratio_j1 a0 a1 a3 a2)

/-! tintype/tintlaw2.TagFractions -/
noncomputable def Law_TagFractions (a0 : T_tag_Ratio) (a1 : (List T_tag_Ratio)) (a2 : Int) : Option (Bool) :=
  bnd (tag_Lowest a0) fun t21 =>
  bnd (R_Simplest a0) fun t26 =>
  bnd (tag_Degrees a1) fun t31 =>
  bnd (R_DegreesOf a1) fun t36 =>
  bnd (tag_Ratios a2) fun t41 =>
  bnd (R_RatiosOf a2) fun t46 =>
  bnd (Law_told_tag_Ratio t21.1 t21.2 t26.1 t26.2) fun t53 =>
  cnd t53 (bnd (Law_told_int t31.1 t31.2 t36.1 t36.2) fun t59 =>
  cnd t59 (bnd (Law_listed_tag_Ratio t41.1 t41.2 t46.1 t46.2) fun t66 =>
  some t66) (some false)) (some false)

end Go.M
