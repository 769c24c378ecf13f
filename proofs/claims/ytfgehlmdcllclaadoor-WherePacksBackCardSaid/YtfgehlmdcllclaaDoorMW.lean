/- Where: the models, printed by our generator from the compiled program. Conditions: none. -/
import Derived.Test.YtfgehlmdcllclaaDoorFl
namespace Go.M
open Go.Md
set_option maxRecDepth 100000
set_option linter.unusedVariables false

structure T_api_Place where
  Lat : Int
  Lon : Int
instance : Inhabited T_api_Place := ⟨⟨0, 0⟩⟩

structure T_where_Box where
  South : Int
  West : Int
  North : Int
  East : Int
instance : Inhabited T_where_Box := ⟨⟨0, 0, 0, 0⟩⟩

def eq_api_Place (x y : T_api_Place) : Bool := decide (x.Lat = y.Lat ∧ x.Lon = y.Lon)

/-! tintype/where.outside -/
noncomputable def where_outside (a0 : Int) (a1 : Int) (a2 : Int) : Option (Bool) :=
  cnd (decide (a0 < a1)) (some true) (some (decide (a2 < a0)))

/-! tintype/where.isLat -/
noncomputable def where_isLat (a0 : Int) : Option (Bool) :=
  bnd (where_outside a0 (-90000000) 90000000) fun t4 =>
  some (!t4)

/-! tintype/where.isLon -/
noncomputable def where_isLon (a0 : Int) : Option (Bool) :=
  bnd (where_outside a0 (-180000000) 179999999) fun t4 =>
  some (!t4)

/-! tintype/where.CheckPlace -/
noncomputable def where_CheckPlace (a0 : T_api_Place) : Option (Int) :=
  bnd (where_isLat a0.Lat) fun t5 =>
  cnd (!t5) (some 2) (bnd (where_isLon a0.Lon) fun t10 =>
  cnd (!t10) (some 2) (some 0))

/-! tintype/where.checkPlaces -/
noncomputable def where_checkPlaces_l1 (a0 : (List T_api_Place)) (next1 : ((Int) → Option (Int))) (x8_2 : Int) : Option (Int) :=
  cnd (decide (x8_2 < (a0.length : Int))) (bnd (gAt a0 x8_2) fun t10 =>
  bnd (where_CheckPlace t10) fun t13 =>
  cnd (decide (t13 ≠ 0)) (some t13) (bnd (gI (x8_2 + 1)) fun t17 =>
  next1 t17)) (some 0)
noncomputable def where_checkPlaces (a0 : (List T_api_Place)) : Option (Int) :=
  fix (fun next1 s => where_checkPlaces_l1 a0 next1 s) 0

/-! tintype/where.checkList -/
noncomputable def where_checkList (a0 : (List T_api_Place)) : Option (Int) :=
  cnd (decide (1000 < (a0.length : Int))) (some 4) (bnd (where_checkPlaces a0) fun t7 =>
  some t7)

/-! tintype/where.packed -/
noncomputable def where_packed_j2 (x5_2 : Int) (l : (List Int)) : Option ((List Int)) :=
  bnd (gI (63 + x5_2)) fun t26 =>
  bnd (gApp 1 l ([(wU8 t26)] : List Int)) fun l29 =>
  some l29
noncomputable def where_packed_l3 (next3 : ((Int × (List Int)) → Option ((List Int)))) (x5_4 : Int) (l_3 : (List Int)) : Option ((List Int)) :=
  cnd (decide (32 ≤ x5_4)) (bnd (gRem x5_4 32) fun t19 =>
  bnd (gI (95 + t19)) fun t20 =>
  bnd (gApp 1 l_3 ([(wU8 t20)] : List Int)) fun l23 =>
  bnd (gQuo x5_4 32) fun t16 =>
  next3 (t16, l23)) (where_packed_j2 x5_4 l_3)
noncomputable def where_packed_j1 (a0 : (List Int)) (x5 : Int) : Option ((List Int)) :=
  fix (fun next3 s => where_packed_l3 next3 s.1 s.2) (x5, a0)
noncomputable def where_packed (a0 : (List Int)) (a1 : Int) : Option ((List Int)) :=
  bnd (gI (2 * a1)) fun t7 =>
  cnd (decide (a1 < 0)) (bnd (gI ((-2) * a1)) fun t11 =>
  bnd (gI (t11 - 1)) fun t12 =>
  where_packed_j1 a0 t12) (where_packed_j1 a0 t7)

/-! tintype/where.Pack -/
noncomputable def where_Pack_j1 (l : (List Int)) : Option ((List UInt8) × Int) :=
  some ((toStr l), 0)
noncomputable def where_Pack_l2 (a0 : (List T_api_Place)) (next2 : ((Int × Int × Int × (List Int)) → Option ((List UInt8) × Int))) (x17_2 : Int) (m_3 : Int) (m_4 : Int) (l_3 : (List Int)) : Option ((List UInt8) × Int) :=
  cnd (decide (x17_2 < (a0.length : Int))) (bnd (gAt a0 x17_2) fun t19 =>
  bnd (gI (t19.Lat - m_3)) fun t26 =>
  bnd (where_packed l_3 t26) fun t27 =>
  bnd (gI (t19.Lon - m_4)) fun t32 =>
  bnd (where_packed t27 t32) fun t33 =>
  bnd (gI (x17_2 + 1)) fun t35 =>
  next2 (t35, t19.Lat, t19.Lon, t33)) (where_Pack_j1 l_3)
noncomputable def where_Pack (a0 : (List T_api_Place)) : Option ((List UInt8) × Int) :=
  bnd (where_checkList a0) fun t10 =>
  cnd (decide (t10 ≠ 0)) (some ([], t10)) (fix (fun next2 s => where_Pack_l2 a0 next2 s.1 s.2.1 s.2.2.1 s.2.2.2) (0, 0, 0, ([] : List Int)))

/-! tintype/where.unpack -/
noncomputable def where_unpack_j2 (a0 : (List UInt8)) (x6_2 : Int) (t31 : Int) : Option (Int × (List UInt8) × Bool) :=
  bnd (gRem t31 2) fun t41 =>
  cnd (decide (t41 = 1)) (bnd (gI (t31 + 1)) fun t44 =>
  bnd (gI (-t44)) fun t45 =>
  bnd (gQuo t45 2) fun t46 =>
  bnd (gI (x6_2 + 1)) fun t49 =>
  bnd (gCut a0 t49 a0.length) fun t50 =>
  some (t46, t50, true)) (bnd (gQuo t31 2) fun t52 =>
  bnd (gI (x6_2 + 1)) fun t55 =>
  bnd (gCut a0 t55 a0.length) fun t56 =>
  some (t52, t56, true))
noncomputable def where_unpack_l1 (a0 : (List UInt8)) (next1 : ((Int × Int) → Option (Int × (List UInt8) × Bool))) (x5_2 : Int) (x6_2 : Int) : Option (Int × (List UInt8) × Bool) :=
  cnd (decide (x6_2 < (a0.length : Int))) (cnd (decide (x6_2 < 6)) (bnd (gOct a0 x6_2) fun t20 =>
  bnd (gK (-9223372036854775808) 9223372036854775807 t20) fun t21 =>
  bnd (gI (t21 - 63)) fun t22 =>
  bnd (where_outside t22 0 63) fun t24 =>
  cnd t24 (some (0, [], false)) (bnd (gRem t22 32) fun t27 =>
  bnd (gI (5 * x6_2)) fun t29 =>
  bnd (gShl t27 t29) fun t30 =>
  bnd (gI (x5_2 + t30)) fun t31 =>
  cnd (decide (32 ≤ t22)) (bnd (gI (x6_2 + 1)) fun t17 =>
  next1 (t31, t17)) (cnd (decide (t22 = 0)) (cnd (decide (0 < x6_2)) (some (0, [], false)) (where_unpack_j2 a0 x6_2 t31)) (where_unpack_j2 a0 x6_2 t31)))) (some (0, [], false))) (some (0, [], false))
noncomputable def where_unpack (a0 : (List UInt8)) : Option (Int × (List UInt8) × Bool) :=
  fix (fun next1 s => where_unpack_l1 a0 next1 s.1 s.2) (0, 0)

/-! tintype/where.Unpack -/
noncomputable def where_Unpack_j1 (l : (List T_api_Place)) : Option ((List T_api_Place) × Int) :=
  bnd (where_checkList l) fun t52 =>
  cnd (decide (t52 ≠ 0)) (some (([] : List T_api_Place), t52)) (some (l, 0))
noncomputable def where_Unpack_l2 (next2 : (((List UInt8) × Int × Int × (List T_api_Place)) → Option ((List T_api_Place) × Int))) (x0_2 : (List UInt8)) (m_3 : Int) (m_4 : Int) (l_3 : (List T_api_Place)) : Option ((List T_api_Place) × Int) :=
  cnd (decide (x0_2 ≠ [])) (bnd (where_unpack x0_2) fun t21 =>
  bnd (where_unpack t21.2.1) fun t27 =>
  cnd (!t21.2.2) (some (([] : List T_api_Place), 8)) (cnd (!t27.2.2) (some (([] : List T_api_Place), 8)) (bnd (gI (m_3 + t21.1)) fun t40 =>
  bnd (gI (m_4 + t27.1)) fun t44 =>
  bnd (gApp 16 l_3 ([(⟨t40, t44⟩ : T_api_Place)] : List T_api_Place)) fun l49 =>
  next2 (t27.2.1, t40, t44, l49)))) (where_Unpack_j1 l_3)
noncomputable def where_Unpack (a0 : (List UInt8)) : Option ((List T_api_Place) × Int) :=
  cnd (decide (1000000 < (a0.length : Int))) (some (([] : List T_api_Place), 4)) (fix (fun next2 s => where_Unpack_l2 next2 s.1 s.2.1 s.2.2.1 s.2.2.2) (a0, 0, 0, ([] : List T_api_Place)))

/-! internal/strconv.small -/
noncomputable def internal_strconv_small (a0 : Int) : Option ((List UInt8)) :=
  cnd (decide (a0 < 10)) (bnd (gI (a0 + 1)) fun t7 =>
  bnd (gCut [48, 49, 50, 51, 52, 53, 54, 55, 56, 57, 97, 98, 99, 100, 101, 102, 103, 104, 105, 106, 107, 108, 109, 110, 111, 112, 113, 114, 115, 116, 117, 118, 119, 120, 121, 122] a0 t7) fun t8 =>
  some t8) (bnd (gI (a0 * 2)) fun t10 =>
  bnd (gI (a0 * 2)) fun t12 =>
  bnd (gI (t12 + 2)) fun t13 =>
  bnd (gCut [48, 48, 48, 49, 48, 50, 48, 51, 48, 52, 48, 53, 48, 54, 48, 55, 48, 56, 48, 57, 49, 48, 49, 49, 49, 50, 49, 51, 49, 52, 49, 53, 49, 54, 49, 55, 49, 56, 49, 57, 50, 48, 50, 49, 50, 50, 50, 51, 50, 52, 50, 53, 50, 54, 50, 55, 50, 56, 50, 57, 51, 48, 51, 49, 51, 50, 51, 51, 51, 52, 51, 53, 51, 54, 51, 55, 51, 56, 51, 57, 52, 48, 52, 49, 52, 50, 52, 51, 52, 52, 52, 53, 52, 54, 52, 55, 52, 56, 52, 57, 53, 48, 53, 49, 53, 50, 53, 51, 53, 52, 53, 53, 53, 54, 53, 55, 53, 56, 53, 57, 54, 48, 54, 49, 54, 50, 54, 51, 54, 52, 54, 53, 54, 54, 54, 55, 54, 56, 54, 57, 55, 48, 55, 49, 55, 50, 55, 51, 55, 52, 55, 53, 55, 54, 55, 55, 55, 56, 55, 57, 56, 48, 56, 49, 56, 50, 56, 51, 56, 52, 56, 53, 56, 54, 56, 55, 56, 56, 56, 57, 57, 48, 57, 49, 57, 50, 57, 51, 57, 52, 57, 53, 57, 54, 57, 55, 57, 56, 57, 57] t10 t13) fun t14 =>
  some t14)

/-! internal/strconv.log10Pow2 -/
noncomputable def internal_strconv_log10Pow2 (a0 : Int) : Option (Int) :=
  bnd (gI (a0 * 78913)) fun t4 =>
  bnd (gShr 64 t4 18) fun t5 =>
  some t5

/-! math/bits.Len64 -/
noncomputable def math_bits_Len64_j3 (x0_3 : Int) (x2_3 : Int) : Option (Int) :=
  bnd (gOct [0, 1, 2, 2, 3, 3, 3, 3, 4, 4, 4, 4, 4, 4, 4, 4, 5, 5, 5, 5, 5, 5, 5, 5, 5, 5, 5, 5, 5, 5, 5, 5, 6, 6, 6, 6, 6, 6, 6, 6, 6, 6, 6, 6, 6, 6, 6, 6, 6, 6, 6, 6, 6, 6, 6, 6, 6, 6, 6, 6, 6, 6, 6, 6, 7, 7, 7, 7, 7, 7, 7, 7, 7, 7, 7, 7, 7, 7, 7, 7, 7, 7, 7, 7, 7, 7, 7, 7, 7, 7, 7, 7, 7, 7, 7, 7, 7, 7, 7, 7, 7, 7, 7, 7, 7, 7, 7, 7, 7, 7, 7, 7, 7, 7, 7, 7, 7, 7, 7, 7, 7, 7, 7, 7, 7, 7, 7, 7, 8, 8, 8, 8, 8, 8, 8, 8, 8, 8, 8, 8, 8, 8, 8, 8, 8, 8, 8, 8, 8, 8, 8, 8, 8, 8, 8, 8, 8, 8, 8, 8, 8, 8, 8, 8, 8, 8, 8, 8, 8, 8, 8, 8, 8, 8, 8, 8, 8, 8, 8, 8, 8, 8, 8, 8, 8, 8, 8, 8, 8, 8, 8, 8, 8, 8, 8, 8, 8, 8, 8, 8, 8, 8, 8, 8, 8, 8, 8, 8, 8, 8, 8, 8, 8, 8, 8, 8, 8, 8, 8, 8, 8, 8, 8, 8, 8, 8, 8, 8, 8, 8, 8, 8, 8, 8, 8, 8, 8, 8, 8, 8, 8, 8, 8, 8, 8, 8, 8, 8, 8, 8, 8, 8, 8, 8, 8, 8] (wU8 x0_3)) fun t22 =>
  bnd (gK (-9223372036854775808) 9223372036854775807 t22) fun t23 =>
  bnd (gI (x2_3 + t23)) fun t24 =>
  some t24
noncomputable def math_bits_Len64_j2 (x0_2 : Int) (x2_2 : Int) : Option (Int) :=
  cnd (decide (256 ≤ x0_2)) (bnd (gShr 64 x0_2 8) fun t16 =>
  bnd (gI (x2_2 + 8)) fun t18 =>
  math_bits_Len64_j3 t16 t18) (math_bits_Len64_j3 x0_2 x2_2)
noncomputable def math_bits_Len64_j1 (x0 : Int) (x2 : Int) : Option (Int) :=
  cnd (decide (65536 ≤ x0)) (bnd (gShr 64 x0 16) fun t10 =>
  bnd (gI (x2 + 16)) fun t12 =>
  math_bits_Len64_j2 t10 t12) (math_bits_Len64_j2 x0 x2)
noncomputable def math_bits_Len64 (a0 : Int) : Option (Int) :=
  cnd (decide (4294967296 ≤ a0)) (bnd (gShr 64 a0 32) fun t6 =>
  math_bits_Len64_j1 t6 32) (math_bits_Len64_j1 a0 0)

/-! internal/strconv.bool2[int] -/
noncomputable def internal_strconv_bool2_int (a0 : Bool) : Option (Int) :=
  cnd a0 (some 1) (some 0)

/-! internal/strconv.formatBase10 -/
noncomputable def internal_strconv_formatBase10_j3 (x4_3 : Int) (x12_2 : Int) (l_3 : (List Int)) : Option ((List Int)) :=
  cnd (decide (0 < x4_3)) (bnd (gAt l_3 0) fun t166 =>
  bnd (gSet l_3 0 (wU8 (wU32 (48 + x12_2)))) fun l0 =>
  some l0) (some l_3)
noncomputable def internal_strconv_formatBase10_j2 (x4_2 : Int) (x12 : Int) (l_2 : (List Int)) : Option ((List Int)) :=
  cnd (decide (2 ≤ x4_2)) (bnd (gRem x12 100) fun t141 =>
  bnd (gQuoU 32 x12 100) fun t144 =>
  bnd (gI (x4_2 - 1)) fun t147 =>
  bnd (gI (x4_2 - 2)) fun t150 =>
  bnd (gOct [48, 48, 48, 49, 48, 50, 48, 51, 48, 52, 48, 53, 48, 54, 48, 55, 48, 56, 48, 57, 49, 48, 49, 49, 49, 50, 49, 51, 49, 52, 49, 53, 49, 54, 49, 55, 49, 56, 49, 57, 50, 48, 50, 49, 50, 50, 50, 51, 50, 52, 50, 53, 50, 54, 50, 55, 50, 56, 50, 57, 51, 48, 51, 49, 51, 50, 51, 51, 51, 52, 51, 53, 51, 54, 51, 55, 51, 56, 51, 57, 52, 48, 52, 49, 52, 50, 52, 51, 52, 52, 52, 53, 52, 54, 52, 55, 52, 56, 52, 57, 53, 48, 53, 49, 53, 50, 53, 51, 53, 52, 53, 53, 53, 54, 53, 55, 53, 56, 53, 57, 54, 48, 54, 49, 54, 50, 54, 51, 54, 52, 54, 53, 54, 54, 54, 55, 54, 56, 54, 57, 55, 48, 55, 49, 55, 50, 55, 51, 55, 52, 55, 53, 55, 54, 55, 55, 55, 56, 55, 57, 56, 48, 56, 49, 56, 50, 56, 51, 56, 52, 56, 53, 56, 54, 56, 55, 56, 56, 56, 57, 57, 48, 57, 49, 57, 50, 57, 51, 57, 52, 57, 53, 57, 54, 57, 55, 57, 56, 57, 57] (wU32 ((wU32 (t141 * 2)) + 1))) fun t153 =>
  bnd (gOct [48, 48, 48, 49, 48, 50, 48, 51, 48, 52, 48, 53, 48, 54, 48, 55, 48, 56, 48, 57, 49, 48, 49, 49, 49, 50, 49, 51, 49, 52, 49, 53, 49, 54, 49, 55, 49, 56, 49, 57, 50, 48, 50, 49, 50, 50, 50, 51, 50, 52, 50, 53, 50, 54, 50, 55, 50, 56, 50, 57, 51, 48, 51, 49, 51, 50, 51, 51, 51, 52, 51, 53, 51, 54, 51, 55, 51, 56, 51, 57, 52, 48, 52, 49, 52, 50, 52, 51, 52, 52, 52, 53, 52, 54, 52, 55, 52, 56, 52, 57, 53, 48, 53, 49, 53, 50, 53, 51, 53, 52, 53, 53, 53, 54, 53, 55, 53, 56, 53, 57, 54, 48, 54, 49, 54, 50, 54, 51, 54, 52, 54, 53, 54, 54, 54, 55, 54, 56, 54, 57, 55, 48, 55, 49, 55, 50, 55, 51, 55, 52, 55, 53, 55, 54, 55, 55, 55, 56, 55, 57, 56, 48, 56, 49, 56, 50, 56, 51, 56, 52, 56, 53, 56, 54, 56, 55, 56, 56, 56, 57, 57, 48, 57, 49, 57, 50, 57, 51, 57, 52, 57, 53, 57, 54, 57, 55, 57, 56, 57, 57] (wU32 (t141 * 2))) fun t155 =>
  bnd (gAt l_2 t147) fun t156 =>
  bnd (gSet l_2 t147 t153) fun l0_2 =>
  bnd (gAt l0_2 t150) fun t157 =>
  bnd (gSet l0_2 t150 t155) fun l0_3 =>
  bnd (gI (x4_2 - 2)) fun t159 =>
  internal_strconv_formatBase10_j3 t159 t144 l0_3) (internal_strconv_formatBase10_j3 x4_2 x12 l_2)
noncomputable def internal_strconv_formatBase10_j1 (x1 : Int) (x4 : Int) (l : (List Int)) : Option ((List Int)) :=
  cnd (decide (4 ≤ x4)) (bnd (gRem (wU32 x1) 10000) fun t101 =>
  bnd (gQuoU 32 (wU32 x1) 10000) fun t103 =>
  bnd (gQuoU 32 t101 100) fun t105 =>
  bnd (gRem t101 100) fun t108 =>
  bnd (gI (x4 - 1)) fun t112 =>
  bnd (gI (x4 - 2)) fun t115 =>
  bnd (gOct [48, 48, 48, 49, 48, 50, 48, 51, 48, 52, 48, 53, 48, 54, 48, 55, 48, 56, 48, 57, 49, 48, 49, 49, 49, 50, 49, 51, 49, 52, 49, 53, 49, 54, 49, 55, 49, 56, 49, 57, 50, 48, 50, 49, 50, 50, 50, 51, 50, 52, 50, 53, 50, 54, 50, 55, 50, 56, 50, 57, 51, 48, 51, 49, 51, 50, 51, 51, 51, 52, 51, 53, 51, 54, 51, 55, 51, 56, 51, 57, 52, 48, 52, 49, 52, 50, 52, 51, 52, 52, 52, 53, 52, 54, 52, 55, 52, 56, 52, 57, 53, 48, 53, 49, 53, 50, 53, 51, 53, 52, 53, 53, 53, 54, 53, 55, 53, 56, 53, 57, 54, 48, 54, 49, 54, 50, 54, 51, 54, 52, 54, 53, 54, 54, 54, 55, 54, 56, 54, 57, 55, 48, 55, 49, 55, 50, 55, 51, 55, 52, 55, 53, 55, 54, 55, 55, 55, 56, 55, 57, 56, 48, 56, 49, 56, 50, 56, 51, 56, 52, 56, 53, 56, 54, 56, 55, 56, 56, 56, 57, 57, 48, 57, 49, 57, 50, 57, 51, 57, 52, 57, 53, 57, 54, 57, 55, 57, 56, 57, 57] (wU32 ((wU32 (t108 * 2)) + 1))) fun t118 =>
  bnd (gOct [48, 48, 48, 49, 48, 50, 48, 51, 48, 52, 48, 53, 48, 54, 48, 55, 48, 56, 48, 57, 49, 48, 49, 49, 49, 50, 49, 51, 49, 52, 49, 53, 49, 54, 49, 55, 49, 56, 49, 57, 50, 48, 50, 49, 50, 50, 50, 51, 50, 52, 50, 53, 50, 54, 50, 55, 50, 56, 50, 57, 51, 48, 51, 49, 51, 50, 51, 51, 51, 52, 51, 53, 51, 54, 51, 55, 51, 56, 51, 57, 52, 48, 52, 49, 52, 50, 52, 51, 52, 52, 52, 53, 52, 54, 52, 55, 52, 56, 52, 57, 53, 48, 53, 49, 53, 50, 53, 51, 53, 52, 53, 53, 53, 54, 53, 55, 53, 56, 53, 57, 54, 48, 54, 49, 54, 50, 54, 51, 54, 52, 54, 53, 54, 54, 54, 55, 54, 56, 54, 57, 55, 48, 55, 49, 55, 50, 55, 51, 55, 52, 55, 53, 55, 54, 55, 55, 55, 56, 55, 57, 56, 48, 56, 49, 56, 50, 56, 51, 56, 52, 56, 53, 56, 54, 56, 55, 56, 56, 56, 57, 57, 48, 57, 49, 57, 50, 57, 51, 57, 52, 57, 53, 57, 54, 57, 55, 57, 56, 57, 57] (wU32 (t108 * 2))) fun t120 =>
  bnd (gAt l t112) fun t121 =>
  bnd (gSet l t112 t118) fun l0_4 =>
  bnd (gAt l0_4 t115) fun t122 =>
  bnd (gSet l0_4 t115 t120) fun l0_5 =>
  bnd (gI (x4 - 3)) fun t125 =>
  bnd (gI (x4 - 4)) fun t128 =>
  bnd (gOct [48, 48, 48, 49, 48, 50, 48, 51, 48, 52, 48, 53, 48, 54, 48, 55, 48, 56, 48, 57, 49, 48, 49, 49, 49, 50, 49, 51, 49, 52, 49, 53, 49, 54, 49, 55, 49, 56, 49, 57, 50, 48, 50, 49, 50, 50, 50, 51, 50, 52, 50, 53, 50, 54, 50, 55, 50, 56, 50, 57, 51, 48, 51, 49, 51, 50, 51, 51, 51, 52, 51, 53, 51, 54, 51, 55, 51, 56, 51, 57, 52, 48, 52, 49, 52, 50, 52, 51, 52, 52, 52, 53, 52, 54, 52, 55, 52, 56, 52, 57, 53, 48, 53, 49, 53, 50, 53, 51, 53, 52, 53, 53, 53, 54, 53, 55, 53, 56, 53, 57, 54, 48, 54, 49, 54, 50, 54, 51, 54, 52, 54, 53, 54, 54, 54, 55, 54, 56, 54, 57, 55, 48, 55, 49, 55, 50, 55, 51, 55, 52, 55, 53, 55, 54, 55, 55, 55, 56, 55, 57, 56, 48, 56, 49, 56, 50, 56, 51, 56, 52, 56, 53, 56, 54, 56, 55, 56, 56, 56, 57, 57, 48, 57, 49, 57, 50, 57, 51, 57, 52, 57, 53, 57, 54, 57, 55, 57, 56, 57, 57] (wU32 ((wU32 (t105 * 2)) + 1))) fun t131 =>
  bnd (gOct [48, 48, 48, 49, 48, 50, 48, 51, 48, 52, 48, 53, 48, 54, 48, 55, 48, 56, 48, 57, 49, 48, 49, 49, 49, 50, 49, 51, 49, 52, 49, 53, 49, 54, 49, 55, 49, 56, 49, 57, 50, 48, 50, 49, 50, 50, 50, 51, 50, 52, 50, 53, 50, 54, 50, 55, 50, 56, 50, 57, 51, 48, 51, 49, 51, 50, 51, 51, 51, 52, 51, 53, 51, 54, 51, 55, 51, 56, 51, 57, 52, 48, 52, 49, 52, 50, 52, 51, 52, 52, 52, 53, 52, 54, 52, 55, 52, 56, 52, 57, 53, 48, 53, 49, 53, 50, 53, 51, 53, 52, 53, 53, 53, 54, 53, 55, 53, 56, 53, 57, 54, 48, 54, 49, 54, 50, 54, 51, 54, 52, 54, 53, 54, 54, 54, 55, 54, 56, 54, 57, 55, 48, 55, 49, 55, 50, 55, 51, 55, 52, 55, 53, 55, 54, 55, 55, 55, 56, 55, 57, 56, 48, 56, 49, 56, 50, 56, 51, 56, 52, 56, 53, 56, 54, 56, 55, 56, 56, 56, 57, 57, 48, 57, 49, 57, 50, 57, 51, 57, 52, 57, 53, 57, 54, 57, 55, 57, 56, 57, 57] (wU32 (t105 * 2))) fun t133 =>
  bnd (gAt l0_5 t125) fun t134 =>
  bnd (gSet l0_5 t125 t131) fun l0_6 =>
  bnd (gAt l0_6 t128) fun t135 =>
  bnd (gSet l0_6 t128 t133) fun l0_7 =>
  bnd (gI (x4 - 4)) fun t137 =>
  internal_strconv_formatBase10_j2 t137 t103 l0_7) (internal_strconv_formatBase10_j2 x4 (wU32 x1) l)
noncomputable def internal_strconv_formatBase10_l4 (next4 : ((Int × Int × (List Int)) → Option ((List Int)))) (x1_3 : Int) (x4_5 : Int) (l_5 : (List Int)) : Option ((List Int)) :=
  cnd (decide (8 ≤ x4_5)) (bnd (gRem x1_3 100000000) fun t22 =>
  bnd (gQuoU 64 x1_3 100000000) fun t25 =>
  bnd (gQuoU 32 (wU32 t22) 10000) fun t27 =>
  bnd (gRem (wU32 t22) 10000) fun t29 =>
  bnd (gQuoU 32 t29 100) fun t31 =>
  bnd (gRem t29 100) fun t34 =>
  bnd (gQuoU 32 t27 100) fun t37 =>
  bnd (gRem t27 100) fun t40 =>
  bnd (gI (x4_5 - 1)) fun t44 =>
  bnd (gI (x4_5 - 2)) fun t47 =>
  bnd (gOct [48, 48, 48, 49, 48, 50, 48, 51, 48, 52, 48, 53, 48, 54, 48, 55, 48, 56, 48, 57, 49, 48, 49, 49, 49, 50, 49, 51, 49, 52, 49, 53, 49, 54, 49, 55, 49, 56, 49, 57, 50, 48, 50, 49, 50, 50, 50, 51, 50, 52, 50, 53, 50, 54, 50, 55, 50, 56, 50, 57, 51, 48, 51, 49, 51, 50, 51, 51, 51, 52, 51, 53, 51, 54, 51, 55, 51, 56, 51, 57, 52, 48, 52, 49, 52, 50, 52, 51, 52, 52, 52, 53, 52, 54, 52, 55, 52, 56, 52, 57, 53, 48, 53, 49, 53, 50, 53, 51, 53, 52, 53, 53, 53, 54, 53, 55, 53, 56, 53, 57, 54, 48, 54, 49, 54, 50, 54, 51, 54, 52, 54, 53, 54, 54, 54, 55, 54, 56, 54, 57, 55, 48, 55, 49, 55, 50, 55, 51, 55, 52, 55, 53, 55, 54, 55, 55, 55, 56, 55, 57, 56, 48, 56, 49, 56, 50, 56, 51, 56, 52, 56, 53, 56, 54, 56, 55, 56, 56, 56, 57, 57, 48, 57, 49, 57, 50, 57, 51, 57, 52, 57, 53, 57, 54, 57, 55, 57, 56, 57, 57] (wU32 ((wU32 (t34 * 2)) + 1))) fun t50 =>
  bnd (gOct [48, 48, 48, 49, 48, 50, 48, 51, 48, 52, 48, 53, 48, 54, 48, 55, 48, 56, 48, 57, 49, 48, 49, 49, 49, 50, 49, 51, 49, 52, 49, 53, 49, 54, 49, 55, 49, 56, 49, 57, 50, 48, 50, 49, 50, 50, 50, 51, 50, 52, 50, 53, 50, 54, 50, 55, 50, 56, 50, 57, 51, 48, 51, 49, 51, 50, 51, 51, 51, 52, 51, 53, 51, 54, 51, 55, 51, 56, 51, 57, 52, 48, 52, 49, 52, 50, 52, 51, 52, 52, 52, 53, 52, 54, 52, 55, 52, 56, 52, 57, 53, 48, 53, 49, 53, 50, 53, 51, 53, 52, 53, 53, 53, 54, 53, 55, 53, 56, 53, 57, 54, 48, 54, 49, 54, 50, 54, 51, 54, 52, 54, 53, 54, 54, 54, 55, 54, 56, 54, 57, 55, 48, 55, 49, 55, 50, 55, 51, 55, 52, 55, 53, 55, 54, 55, 55, 55, 56, 55, 57, 56, 48, 56, 49, 56, 50, 56, 51, 56, 52, 56, 53, 56, 54, 56, 55, 56, 56, 56, 57, 57, 48, 57, 49, 57, 50, 57, 51, 57, 52, 57, 53, 57, 54, 57, 55, 57, 56, 57, 57] (wU32 (t34 * 2))) fun t52 =>
  bnd (gAt l_5 t44) fun t53 =>
  bnd (gSet l_5 t44 t50) fun l0_8 =>
  bnd (gAt l0_8 t47) fun t54 =>
  bnd (gSet l0_8 t47 t52) fun l0_9 =>
  bnd (gI (x4_5 - 3)) fun t57 =>
  bnd (gI (x4_5 - 4)) fun t60 =>
  bnd (gOct [48, 48, 48, 49, 48, 50, 48, 51, 48, 52, 48, 53, 48, 54, 48, 55, 48, 56, 48, 57, 49, 48, 49, 49, 49, 50, 49, 51, 49, 52, 49, 53, 49, 54, 49, 55, 49, 56, 49, 57, 50, 48, 50, 49, 50, 50, 50, 51, 50, 52, 50, 53, 50, 54, 50, 55, 50, 56, 50, 57, 51, 48, 51, 49, 51, 50, 51, 51, 51, 52, 51, 53, 51, 54, 51, 55, 51, 56, 51, 57, 52, 48, 52, 49, 52, 50, 52, 51, 52, 52, 52, 53, 52, 54, 52, 55, 52, 56, 52, 57, 53, 48, 53, 49, 53, 50, 53, 51, 53, 52, 53, 53, 53, 54, 53, 55, 53, 56, 53, 57, 54, 48, 54, 49, 54, 50, 54, 51, 54, 52, 54, 53, 54, 54, 54, 55, 54, 56, 54, 57, 55, 48, 55, 49, 55, 50, 55, 51, 55, 52, 55, 53, 55, 54, 55, 55, 55, 56, 55, 57, 56, 48, 56, 49, 56, 50, 56, 51, 56, 52, 56, 53, 56, 54, 56, 55, 56, 56, 56, 57, 57, 48, 57, 49, 57, 50, 57, 51, 57, 52, 57, 53, 57, 54, 57, 55, 57, 56, 57, 57] (wU32 ((wU32 (t31 * 2)) + 1))) fun t63 =>
  bnd (gOct [48, 48, 48, 49, 48, 50, 48, 51, 48, 52, 48, 53, 48, 54, 48, 55, 48, 56, 48, 57, 49, 48, 49, 49, 49, 50, 49, 51, 49, 52, 49, 53, 49, 54, 49, 55, 49, 56, 49, 57, 50, 48, 50, 49, 50, 50, 50, 51, 50, 52, 50, 53, 50, 54, 50, 55, 50, 56, 50, 57, 51, 48, 51, 49, 51, 50, 51, 51, 51, 52, 51, 53, 51, 54, 51, 55, 51, 56, 51, 57, 52, 48, 52, 49, 52, 50, 52, 51, 52, 52, 52, 53, 52, 54, 52, 55, 52, 56, 52, 57, 53, 48, 53, 49, 53, 50, 53, 51, 53, 52, 53, 53, 53, 54, 53, 55, 53, 56, 53, 57, 54, 48, 54, 49, 54, 50, 54, 51, 54, 52, 54, 53, 54, 54, 54, 55, 54, 56, 54, 57, 55, 48, 55, 49, 55, 50, 55, 51, 55, 52, 55, 53, 55, 54, 55, 55, 55, 56, 55, 57, 56, 48, 56, 49, 56, 50, 56, 51, 56, 52, 56, 53, 56, 54, 56, 55, 56, 56, 56, 57, 57, 48, 57, 49, 57, 50, 57, 51, 57, 52, 57, 53, 57, 54, 57, 55, 57, 56, 57, 57] (wU32 (t31 * 2))) fun t65 =>
  bnd (gAt l0_9 t57) fun t66 =>
  bnd (gSet l0_9 t57 t63) fun l0_10 =>
  bnd (gAt l0_10 t60) fun t67 =>
  bnd (gSet l0_10 t60 t65) fun l0_11 =>
  bnd (gI (x4_5 - 5)) fun t70 =>
  bnd (gI (x4_5 - 6)) fun t73 =>
  bnd (gOct [48, 48, 48, 49, 48, 50, 48, 51, 48, 52, 48, 53, 48, 54, 48, 55, 48, 56, 48, 57, 49, 48, 49, 49, 49, 50, 49, 51, 49, 52, 49, 53, 49, 54, 49, 55, 49, 56, 49, 57, 50, 48, 50, 49, 50, 50, 50, 51, 50, 52, 50, 53, 50, 54, 50, 55, 50, 56, 50, 57, 51, 48, 51, 49, 51, 50, 51, 51, 51, 52, 51, 53, 51, 54, 51, 55, 51, 56, 51, 57, 52, 48, 52, 49, 52, 50, 52, 51, 52, 52, 52, 53, 52, 54, 52, 55, 52, 56, 52, 57, 53, 48, 53, 49, 53, 50, 53, 51, 53, 52, 53, 53, 53, 54, 53, 55, 53, 56, 53, 57, 54, 48, 54, 49, 54, 50, 54, 51, 54, 52, 54, 53, 54, 54, 54, 55, 54, 56, 54, 57, 55, 48, 55, 49, 55, 50, 55, 51, 55, 52, 55, 53, 55, 54, 55, 55, 55, 56, 55, 57, 56, 48, 56, 49, 56, 50, 56, 51, 56, 52, 56, 53, 56, 54, 56, 55, 56, 56, 56, 57, 57, 48, 57, 49, 57, 50, 57, 51, 57, 52, 57, 53, 57, 54, 57, 55, 57, 56, 57, 57] (wU32 ((wU32 (t40 * 2)) + 1))) fun t76 =>
  bnd (gOct [48, 48, 48, 49, 48, 50, 48, 51, 48, 52, 48, 53, 48, 54, 48, 55, 48, 56, 48, 57, 49, 48, 49, 49, 49, 50, 49, 51, 49, 52, 49, 53, 49, 54, 49, 55, 49, 56, 49, 57, 50, 48, 50, 49, 50, 50, 50, 51, 50, 52, 50, 53, 50, 54, 50, 55, 50, 56, 50, 57, 51, 48, 51, 49, 51, 50, 51, 51, 51, 52, 51, 53, 51, 54, 51, 55, 51, 56, 51, 57, 52, 48, 52, 49, 52, 50, 52, 51, 52, 52, 52, 53, 52, 54, 52, 55, 52, 56, 52, 57, 53, 48, 53, 49, 53, 50, 53, 51, 53, 52, 53, 53, 53, 54, 53, 55, 53, 56, 53, 57, 54, 48, 54, 49, 54, 50, 54, 51, 54, 52, 54, 53, 54, 54, 54, 55, 54, 56, 54, 57, 55, 48, 55, 49, 55, 50, 55, 51, 55, 52, 55, 53, 55, 54, 55, 55, 55, 56, 55, 57, 56, 48, 56, 49, 56, 50, 56, 51, 56, 52, 56, 53, 56, 54, 56, 55, 56, 56, 56, 57, 57, 48, 57, 49, 57, 50, 57, 51, 57, 52, 57, 53, 57, 54, 57, 55, 57, 56, 57, 57] (wU32 (t40 * 2))) fun t78 =>
  bnd (gAt l0_11 t70) fun t79 =>
  bnd (gSet l0_11 t70 t76) fun l0_12 =>
  bnd (gAt l0_12 t73) fun t80 =>
  bnd (gSet l0_12 t73 t78) fun l0_13 =>
  bnd (gI (x4_5 - 7)) fun t83 =>
  bnd (gI (x4_5 - 8)) fun t86 =>
  bnd (gOct [48, 48, 48, 49, 48, 50, 48, 51, 48, 52, 48, 53, 48, 54, 48, 55, 48, 56, 48, 57, 49, 48, 49, 49, 49, 50, 49, 51, 49, 52, 49, 53, 49, 54, 49, 55, 49, 56, 49, 57, 50, 48, 50, 49, 50, 50, 50, 51, 50, 52, 50, 53, 50, 54, 50, 55, 50, 56, 50, 57, 51, 48, 51, 49, 51, 50, 51, 51, 51, 52, 51, 53, 51, 54, 51, 55, 51, 56, 51, 57, 52, 48, 52, 49, 52, 50, 52, 51, 52, 52, 52, 53, 52, 54, 52, 55, 52, 56, 52, 57, 53, 48, 53, 49, 53, 50, 53, 51, 53, 52, 53, 53, 53, 54, 53, 55, 53, 56, 53, 57, 54, 48, 54, 49, 54, 50, 54, 51, 54, 52, 54, 53, 54, 54, 54, 55, 54, 56, 54, 57, 55, 48, 55, 49, 55, 50, 55, 51, 55, 52, 55, 53, 55, 54, 55, 55, 55, 56, 55, 57, 56, 48, 56, 49, 56, 50, 56, 51, 56, 52, 56, 53, 56, 54, 56, 55, 56, 56, 56, 57, 57, 48, 57, 49, 57, 50, 57, 51, 57, 52, 57, 53, 57, 54, 57, 55, 57, 56, 57, 57] (wU32 ((wU32 (t37 * 2)) + 1))) fun t89 =>
  bnd (gOct [48, 48, 48, 49, 48, 50, 48, 51, 48, 52, 48, 53, 48, 54, 48, 55, 48, 56, 48, 57, 49, 48, 49, 49, 49, 50, 49, 51, 49, 52, 49, 53, 49, 54, 49, 55, 49, 56, 49, 57, 50, 48, 50, 49, 50, 50, 50, 51, 50, 52, 50, 53, 50, 54, 50, 55, 50, 56, 50, 57, 51, 48, 51, 49, 51, 50, 51, 51, 51, 52, 51, 53, 51, 54, 51, 55, 51, 56, 51, 57, 52, 48, 52, 49, 52, 50, 52, 51, 52, 52, 52, 53, 52, 54, 52, 55, 52, 56, 52, 57, 53, 48, 53, 49, 53, 50, 53, 51, 53, 52, 53, 53, 53, 54, 53, 55, 53, 56, 53, 57, 54, 48, 54, 49, 54, 50, 54, 51, 54, 52, 54, 53, 54, 54, 54, 55, 54, 56, 54, 57, 55, 48, 55, 49, 55, 50, 55, 51, 55, 52, 55, 53, 55, 54, 55, 55, 55, 56, 55, 57, 56, 48, 56, 49, 56, 50, 56, 51, 56, 52, 56, 53, 56, 54, 56, 55, 56, 56, 56, 57, 57, 48, 57, 49, 57, 50, 57, 51, 57, 52, 57, 53, 57, 54, 57, 55, 57, 56, 57, 57] (wU32 (t37 * 2))) fun t91 =>
  bnd (gAt l0_13 t83) fun t92 =>
  bnd (gSet l0_13 t83 t89) fun l0_14 =>
  bnd (gAt l0_14 t86) fun t93 =>
  bnd (gSet l0_14 t86 t91) fun l0_15 =>
  bnd (gI (x4_5 - 8)) fun t95 =>
  next4 (t25, t95, l0_15)) (internal_strconv_formatBase10_j1 x1_3 x4_5 l_5)
noncomputable def internal_strconv_formatBase10 (a0 : (List Int)) (a1 : Int) : Option ((List Int)) :=
  fix (fun next4 s => internal_strconv_formatBase10_l4 next4 s.1 s.2.1 s.2.2) (a1, (a0.length : Int), a0)

/-! internal/strconv.isPowerOfTwo -/
noncomputable def internal_strconv_isPowerOfTwo (a0 : Int) : Option (Bool) :=
  bnd (gI (a0 - 1)) fun t5 =>
  some (decide ((wI64 (bAnd 64 a0 t5)) = 0))

/-! math/bits.TrailingZeros32 -/
noncomputable def math_bits_TrailingZeros32 (a0 : Int) : Option (Int) :=
  cnd (decide (a0 = 0)) (some 32) (none)

/-! math/bits.TrailingZeros64 -/
noncomputable def math_bits_TrailingZeros64 (a0 : Int) : Option (Int) :=
  cnd (decide (a0 = 0)) (some 64) (none)

/-! math/bits.TrailingZeros -/
noncomputable def math_bits_TrailingZeros (a0 : Int) : Option (Int) :=
  bnd (math_bits_TrailingZeros64 a0) fun t7 =>
  some t7

/-! internal/strconv.FormatInt -/
noncomputable def internal_strconv_FormatInt_j2 (x6 : Int) : Option ((List UInt8)) :=
  none
noncomputable def internal_strconv_FormatInt_j1 (a0 : Int) : Option ((List UInt8)) :=
  cnd (decide (a0 < 0)) (internal_strconv_FormatInt_j2 (wU64 (0 - (wU64 a0)))) (internal_strconv_FormatInt_j2 (wU64 a0))
noncomputable def internal_strconv_FormatInt (a0 : Int) (a1 : Int) : Option ((List UInt8)) :=
  cnd (decide (a1 = 10)) (cnd (decide (0 ≤ a0)) (cnd (decide (a0 < 100)) (bnd (internal_strconv_small a0) fun t19 =>
  some t19) (internal_strconv_FormatInt_j1 a0)) (internal_strconv_FormatInt_j1 a0)) (none)

/-! internal/strconv.Itoa -/
noncomputable def internal_strconv_Itoa (a0 : Int) : Option ((List UInt8)) :=
  bnd (internal_strconv_FormatInt a0 10) fun t4 =>
  some t4

/-! strconv.Itoa -/
noncomputable def strconv_Itoa (a0 : Int) : Option ((List UInt8)) :=
  bnd (internal_strconv_Itoa a0) fun t4 =>
  some t4

/-! math/bits.Mul32 -/
noncomputable def math_bits_Mul32 (a0 : Int) (a1 : Int) : Option (Int × Int) :=
  bnd (gK 0 18446744073709551615 a0) fun t8 =>
  bnd (gK 0 18446744073709551615 a1) fun t10 =>
  bnd (gShr 64 (wU64 (t8 * t10)) 32) fun t13 =>
  some ((wU32 t13), (wU32 (wU64 (t8 * t10))))

/-! math/bits.Mul64 -/
noncomputable def math_bits_Mul64 (a0 : Int) (a1 : Int) : Option (Int × Int) :=
  bnd (gShr 64 a0 32) fun t17 =>
  bnd (gShr 64 a1 32) fun t21 =>
  bnd (gShr 64 (wU64 ((wU64 (bAnd 64 a0 4294967295)) * (wU64 (bAnd 64 a1 4294967295)))) 32) fun t29 =>
  bnd (gShr 64 (wU64 ((wU64 (t17 * (wU64 (bAnd 64 a1 4294967295)))) + t29)) 32) fun t34 =>
  bnd (gShr 64 (wU64 ((wU64 (bAnd 64 (wU64 ((wU64 (t17 * (wU64 (bAnd 64 a1 4294967295)))) + t29)) 4294967295)) + (wU64 ((wU64 (bAnd 64 a0 4294967295)) * t21)))) 32) fun t46 =>
  some ((wU64 ((wU64 ((wU64 (t17 * t21)) + t34)) + t46)), (wU64 (a0 * a1)))

/-! math/bits.Mul -/
noncomputable def math_bits_Mul (a0 : Int) (a1 : Int) : Option (Int × Int) :=
  bnd (math_bits_Mul64 a0 a1) fun t25 =>
  some (t25.1, t25.2)

/-! internal/stringslite.HasPrefix -/
noncomputable def internal_stringslite_HasPrefix (a0 : (List UInt8)) (a1 : (List UInt8)) : Option (Bool) :=
  cnd (decide ((a1.length : Int) ≤ (a0.length : Int))) (bnd (gCut a0 0 (a1.length : Int)) fun t14 =>
  some (decide (t14 = a1))) (some false)

/-! strings.HasPrefix -/
noncomputable def strings_HasPrefix (a0 : (List UInt8)) (a1 : (List UInt8)) : Option (Bool) :=
  bnd (internal_stringslite_HasPrefix a0 a1) fun t7 =>
  some t7

/-! strings.Repeat -/
noncomputable def strings_Repeat_j2 (x8 : Int) : Option ((List UInt8)) :=
  none
noncomputable def strings_Repeat_j1 (a0 : (List UInt8)) (t26 : (Int × Int)) : Option ((List UInt8)) :=
  cnd (decide (8192 < (wI64 t26.2))) (bnd (gQuo 8192 (a0.length : Int)) fun t99 =>
  bnd (gI (t99 * (a0.length : Int))) fun t102 =>
  cnd (decide (t102 = 0)) (strings_Repeat_j2 (a0.length : Int)) (strings_Repeat_j2 t102)) (strings_Repeat_j2 (wI64 t26.2))
noncomputable def strings_Repeat_j7 (a0 : (List UInt8)) (t26 : (Int × Int)) (x76 : Bool) : Option ((List UInt8)) :=
  cnd x76 (bnd (gCut [61, 61, 61, 61, 61, 61, 61, 61, 61, 61, 61, 61, 61, 61, 61, 61, 61, 61, 61, 61, 61, 61, 61, 61, 61, 61, 61, 61, 61, 61, 61, 61, 61, 61, 61, 61, 61, 61, 61, 61, 61, 61, 61, 61, 61, 61, 61, 61, 61, 61, 61, 61, 61, 61, 61, 61, 61, 61, 61, 61, 61, 61, 61, 61, 61, 61, 61, 61, 61, 61, 61, 61, 61, 61, 61, 61, 61, 61, 61, 61, 61, 61, 61, 61, 61, 61, 61, 61, 61, 61, 61, 61, 61, 61, 61, 61, 61, 61, 61, 61, 61, 61, 61, 61, 61, 61, 61, 61, 61, 61, 61, 61, 61, 61, 61, 61, 61, 61, 61, 61, 61, 61, 61, 61, 61, 61, 61, 61] 0 (wI64 t26.2)) fun t84 =>
  some t84) (cnd (decide ((wI64 t26.2) ≤ 64)) (bnd (strings_HasPrefix [9, 9, 9, 9, 9, 9, 9, 9, 9, 9, 9, 9, 9, 9, 9, 9, 9, 9, 9, 9, 9, 9, 9, 9, 9, 9, 9, 9, 9, 9, 9, 9, 9, 9, 9, 9, 9, 9, 9, 9, 9, 9, 9, 9, 9, 9, 9, 9, 9, 9, 9, 9, 9, 9, 9, 9, 9, 9, 9, 9, 9, 9, 9, 9] a0) fun t90 =>
  cnd t90 (bnd (gCut [9, 9, 9, 9, 9, 9, 9, 9, 9, 9, 9, 9, 9, 9, 9, 9, 9, 9, 9, 9, 9, 9, 9, 9, 9, 9, 9, 9, 9, 9, 9, 9, 9, 9, 9, 9, 9, 9, 9, 9, 9, 9, 9, 9, 9, 9, 9, 9, 9, 9, 9, 9, 9, 9, 9, 9, 9, 9, 9, 9, 9, 9, 9, 9] 0 (wI64 t26.2)) fun t93 =>
  some t93) (strings_Repeat_j1 a0 t26)) (strings_Repeat_j1 a0 t26))
noncomputable def strings_Repeat_j6 (a0 : (List UInt8)) (t26 : (Int × Int)) (x67 : Bool) : Option ((List UInt8)) :=
  cnd x67 (bnd (gCut [48, 48, 48, 48, 48, 48, 48, 48, 48, 48, 48, 48, 48, 48, 48, 48, 48, 48, 48, 48, 48, 48, 48, 48, 48, 48, 48, 48, 48, 48, 48, 48, 48, 48, 48, 48, 48, 48, 48, 48, 48, 48, 48, 48, 48, 48, 48, 48, 48, 48, 48, 48, 48, 48, 48, 48, 48, 48, 48, 48, 48, 48, 48, 48] 0 (wI64 t26.2)) fun t75 =>
  some t75) (cnd (decide ((wI64 t26.2) ≤ 128)) (bnd (strings_HasPrefix [61, 61, 61, 61, 61, 61, 61, 61, 61, 61, 61, 61, 61, 61, 61, 61, 61, 61, 61, 61, 61, 61, 61, 61, 61, 61, 61, 61, 61, 61, 61, 61, 61, 61, 61, 61, 61, 61, 61, 61, 61, 61, 61, 61, 61, 61, 61, 61, 61, 61, 61, 61, 61, 61, 61, 61, 61, 61, 61, 61, 61, 61, 61, 61, 61, 61, 61, 61, 61, 61, 61, 61, 61, 61, 61, 61, 61, 61, 61, 61, 61, 61, 61, 61, 61, 61, 61, 61, 61, 61, 61, 61, 61, 61, 61, 61, 61, 61, 61, 61, 61, 61, 61, 61, 61, 61, 61, 61, 61, 61, 61, 61, 61, 61, 61, 61, 61, 61, 61, 61, 61, 61, 61, 61, 61, 61, 61, 61] a0) fun t81 =>
  strings_Repeat_j7 a0 t26 t81) (strings_Repeat_j7 a0 t26 false))
noncomputable def strings_Repeat_j5 (a0 : (List UInt8)) (t26 : (Int × Int)) (x58 : Bool) : Option ((List UInt8)) :=
  cnd x58 (bnd (gCut [45, 45, 45, 45, 45, 45, 45, 45, 45, 45, 45, 45, 45, 45, 45, 45, 45, 45, 45, 45, 45, 45, 45, 45, 45, 45, 45, 45, 45, 45, 45, 45, 45, 45, 45, 45, 45, 45, 45, 45, 45, 45, 45, 45, 45, 45, 45, 45, 45, 45, 45, 45, 45, 45, 45, 45, 45, 45, 45, 45, 45, 45, 45, 45, 45, 45, 45, 45, 45, 45, 45, 45, 45, 45, 45, 45, 45, 45, 45, 45, 45, 45, 45, 45, 45, 45, 45, 45, 45, 45, 45, 45, 45, 45, 45, 45, 45, 45, 45, 45, 45, 45, 45, 45, 45, 45, 45, 45, 45, 45, 45, 45, 45, 45, 45, 45, 45, 45, 45, 45, 45, 45, 45, 45, 45, 45, 45, 45] 0 (wI64 t26.2)) fun t66 =>
  some t66) (cnd (decide ((wI64 t26.2) ≤ 64)) (bnd (strings_HasPrefix [48, 48, 48, 48, 48, 48, 48, 48, 48, 48, 48, 48, 48, 48, 48, 48, 48, 48, 48, 48, 48, 48, 48, 48, 48, 48, 48, 48, 48, 48, 48, 48, 48, 48, 48, 48, 48, 48, 48, 48, 48, 48, 48, 48, 48, 48, 48, 48, 48, 48, 48, 48, 48, 48, 48, 48, 48, 48, 48, 48, 48, 48, 48, 48] a0) fun t72 =>
  strings_Repeat_j6 a0 t26 t72) (strings_Repeat_j6 a0 t26 false))
noncomputable def strings_Repeat_j4 (a0 : (List UInt8)) (t26 : (Int × Int)) (x49 : Bool) : Option ((List UInt8)) :=
  cnd x49 (bnd (gCut [32, 32, 32, 32, 32, 32, 32, 32, 32, 32, 32, 32, 32, 32, 32, 32, 32, 32, 32, 32, 32, 32, 32, 32, 32, 32, 32, 32, 32, 32, 32, 32, 32, 32, 32, 32, 32, 32, 32, 32, 32, 32, 32, 32, 32, 32, 32, 32, 32, 32, 32, 32, 32, 32, 32, 32, 32, 32, 32, 32, 32, 32, 32, 32, 32, 32, 32, 32, 32, 32, 32, 32, 32, 32, 32, 32, 32, 32, 32, 32, 32, 32, 32, 32, 32, 32, 32, 32, 32, 32, 32, 32, 32, 32, 32, 32, 32, 32, 32, 32, 32, 32, 32, 32, 32, 32, 32, 32, 32, 32, 32, 32, 32, 32, 32, 32, 32, 32, 32, 32, 32, 32, 32, 32, 32, 32, 32, 32] 0 (wI64 t26.2)) fun t57 =>
  some t57) (cnd (decide ((wI64 t26.2) ≤ 128)) (bnd (strings_HasPrefix [45, 45, 45, 45, 45, 45, 45, 45, 45, 45, 45, 45, 45, 45, 45, 45, 45, 45, 45, 45, 45, 45, 45, 45, 45, 45, 45, 45, 45, 45, 45, 45, 45, 45, 45, 45, 45, 45, 45, 45, 45, 45, 45, 45, 45, 45, 45, 45, 45, 45, 45, 45, 45, 45, 45, 45, 45, 45, 45, 45, 45, 45, 45, 45, 45, 45, 45, 45, 45, 45, 45, 45, 45, 45, 45, 45, 45, 45, 45, 45, 45, 45, 45, 45, 45, 45, 45, 45, 45, 45, 45, 45, 45, 45, 45, 45, 45, 45, 45, 45, 45, 45, 45, 45, 45, 45, 45, 45, 45, 45, 45, 45, 45, 45, 45, 45, 45, 45, 45, 45, 45, 45, 45, 45, 45, 45, 45, 45] a0) fun t63 =>
  strings_Repeat_j5 a0 t26 t63) (strings_Repeat_j5 a0 t26 false))
noncomputable def strings_Repeat_j3 (a0 : (List UInt8)) (t26 : (Int × Int)) (x43 : Bool) : Option ((List UInt8)) :=
  cnd x43 (cnd (decide ((wI64 t26.2) ≤ 128)) (bnd (strings_HasPrefix [32, 32, 32, 32, 32, 32, 32, 32, 32, 32, 32, 32, 32, 32, 32, 32, 32, 32, 32, 32, 32, 32, 32, 32, 32, 32, 32, 32, 32, 32, 32, 32, 32, 32, 32, 32, 32, 32, 32, 32, 32, 32, 32, 32, 32, 32, 32, 32, 32, 32, 32, 32, 32, 32, 32, 32, 32, 32, 32, 32, 32, 32, 32, 32, 32, 32, 32, 32, 32, 32, 32, 32, 32, 32, 32, 32, 32, 32, 32, 32, 32, 32, 32, 32, 32, 32, 32, 32, 32, 32, 32, 32, 32, 32, 32, 32, 32, 32, 32, 32, 32, 32, 32, 32, 32, 32, 32, 32, 32, 32, 32, 32, 32, 32, 32, 32, 32, 32, 32, 32, 32, 32, 32, 32, 32, 32, 32, 32] a0) fun t54 =>
  strings_Repeat_j4 a0 t26 t54) (strings_Repeat_j4 a0 t26 false)) (strings_Repeat_j1 a0 t26)
noncomputable def strings_Repeat (a0 : (List UInt8)) (a1 : Int) : Option ((List UInt8)) :=
  cnd (decide (a1 = 0)) (some []) (cnd (decide (a1 = 1)) (some a0) (cnd (decide (a1 < 0)) (none) (bnd (math_bits_Mul (wU64 (a0.length : Int)) (wU64 a1)) fun t26 =>
  cnd (decide (0 < t26.1)) (none) (cnd (decide (9223372036854775807 < t26.2)) (none) (cnd (decide ((a0.length : Int) = 0)) (some []) (bnd (gOct a0 0) fun t42 =>
  cnd (decide (t42 = 32)) (strings_Repeat_j3 a0 t26 (decide (t42 = 32))) (cnd (decide (t42 = 45)) (strings_Repeat_j3 a0 t26 (decide (t42 = 45))) (cnd (decide (t42 = 48)) (strings_Repeat_j3 a0 t26 (decide (t42 = 48))) (cnd (decide (t42 = 61)) (strings_Repeat_j3 a0 t26 (decide (t42 = 61))) (strings_Repeat_j3 a0 t26 (decide (t42 = 9))))))))))))

/-! tintype/where.degrees -/
noncomputable def where_degrees_j1 (x0 : Int) (x3 : (List UInt8)) : Option ((List UInt8)) :=
  bnd (gRem x0 1000000) fun t10 =>
  bnd (strconv_Itoa t10) fun t11 =>
  bnd (gQuo x0 1000000) fun t14 =>
  bnd (strconv_Itoa t14) fun t15 =>
  bnd (gCat x3 t15) fun t16 =>
  bnd (gCat t16 [46]) fun t17 =>
  bnd (gI (6 - (t11.length : Int))) fun t20 =>
  bnd (strings_Repeat [48] t20) fun t21 =>
  bnd (gCat t17 t21) fun t22 =>
  bnd (gCat t22 t11) fun t24 =>
  some t24
noncomputable def where_degrees (a0 : Int) : Option ((List UInt8)) :=
  cnd (decide (a0 < 0)) (bnd (gI (-a0)) fun t8 =>
  where_degrees_j1 t8 [45]) (where_degrees_j1 a0 [])

/-! tintype/where.PlaceText -/
noncomputable def where_PlaceText (a0 : T_api_Place) : Option ((List UInt8) × Int) :=
  bnd (where_CheckPlace a0) fun t6 =>
  cnd (decide (t6 ≠ 0)) (some ([], t6)) (bnd (where_degrees a0.Lat) fun t12 =>
  bnd (gCat t12 [32]) fun t13 =>
  bnd (where_degrees a0.Lon) fun t16 =>
  bnd (gCat t13 t16) fun t17 =>
  some (t17, 0))

/-! tintype/tintkeep2.awakeWhere -/
noncomputable def Keep_awakeWhere  : Option (Bool) :=
  bnd (where_PlaceText (⟨0, 0⟩ : T_api_Place)) fun t5 =>
  cnd (decide (t5.2 = 0)) (some (decide (t5.1 = [48, 46, 48, 48, 48, 48, 48, 48, 32, 48, 46, 48, 48, 48, 48, 48, 48]))) (some false)

/-! slices.Equal[[]tintype/api.Place,tintype/api.Place] -/
noncomputable def slices_Equal_api_Place_l1 (a0 : (List T_api_Place)) (a1 : (List T_api_Place)) (next1 : ((Int) → Option (Bool))) (x13_2 : Int) : Option (Bool) :=
  cnd (decide (x13_2 < (a0.length : Int))) (bnd (gAt a0 x13_2) fun t18 =>
  bnd (gAt a1 x13_2) fun t22 =>
  cnd (!(eq_api_Place t18 t22)) (some false) (bnd (gI (x13_2 + 1)) fun t25 =>
  next1 t25)) (some true)
noncomputable def slices_Equal_api_Place (a0 : (List T_api_Place)) (a1 : (List T_api_Place)) : Option (Bool) :=
  cnd (decide ((a0.length : Int) ≠ (a1.length : Int))) (some false) (fix (fun next1 s => slices_Equal_api_Place_l1 a0 a1 next1 s) 0)

/-! tintype/tintkeep2.WherePacksBack -/
noncomputable def Keep_WherePacksBack_j1 (a1 : (List UInt8)) : Option (Bool) :=
  bnd (where_Unpack a1) fun t37 =>
  cnd (decide (t37.2 = 0)) (bnd (where_Pack t37.1) fun t44 =>
  cnd (decide (t44.2 ≠ 0)) (some false) (cnd (decide (t44.1 ≠ a1)) (some false) (some true))) (some true)
noncomputable def Keep_WherePacksBack (a0 : (List T_api_Place)) (a1 : (List UInt8)) : Option (Bool) :=
  bnd (Keep_awakeWhere) fun t13 =>
  cnd (!t13) (some false) (bnd (where_Pack a0) fun t17 =>
  cnd (decide (t17.2 = 0)) (bnd (where_Unpack t17.1) fun t24 =>
  cnd (decide (t24.2 ≠ 0)) (some false) (bnd (slices_Equal_api_Place a0 t24.1) fun t32 =>
  cnd (!t32) (some false) (Keep_WherePacksBack_j1 a1))) (Keep_WherePacksBack_j1 a1))

/-! tintype/where.cosine -/
noncomputable def where_cosine (a0 : Int) : Option (Int) :=
  bnd (gQuo a0 100) fun t5 =>
  bnd (gI (4 * t5)) fun t7 =>
  bnd (gI (t7 * t5)) fun t9 =>
  bnd (gI (3240000000000 - t9)) fun t10 =>
  bnd (gI (t10 * 1000000)) fun t11 =>
  bnd (gI (t5 * t5)) fun t14 =>
  bnd (gI (3240000000000 + t14)) fun t15 =>
  bnd (gQuo t11 t15) fun t16 =>
  some t16

/-! tintype/where.eastward -/
noncomputable def where_eastward (a0 : Int) (a1 : Int) : Option (Int) :=
  bnd (gI (a1 - a0)) fun t7 =>
  bnd (gRem t7 360000000) fun t8 =>
  bnd (gI (t8 + 360000000)) fun t9 =>
  bnd (gRem t9 360000000) fun t10 =>
  some t10

/-! tintype/where.short -/
noncomputable def where_short (a0 : Int) (a1 : Int) : Option (Int) :=
  bnd (where_eastward a0 a1) fun t8 =>
  cnd (decide (180000000 ≤ t8)) (bnd (gI (t8 - 360000000)) fun t12 =>
  some t12) (some t8)

/-! tintype/where.floor -/
noncomputable def where_floor (a0 : Int) (a1 : Int) : Option (Int) :=
  bnd (gQuo a0 a1) fun t8 =>
  bnd (gRem a0 a1) fun t11 =>
  cnd (decide (t11 < 0)) (bnd (gI (t8 - 1)) fun t14 =>
  some t14) (some t8)

/-! math.Sqrt -/
noncomputable def math_Sqrt (a0 : Nat) : Option (Nat) :=
  bnd (gSqrt a0) fun t4 =>
  some t4

/-! tintype/where.root -/
noncomputable def where_root_l2 (a0 : Int) (next2 : ((Int) → Option (Int))) (x3_3 : Int) : Option (Int) :=
  bnd (gI (x3_3 + 1)) fun t16 =>
  bnd (gI (x3_3 + 1)) fun t18 =>
  bnd (gI (t16 * t18)) fun t19 =>
  cnd (decide (t19 ≤ a0)) (bnd (gI (x3_3 + 1)) fun t23 =>
  next2 t23) (some x3_3)
noncomputable def where_root_j1 (a0 : Int) (x3 : Int) : Option (Int) :=
  fix (fun next2 s => where_root_l2 a0 next2 s) x3
noncomputable def where_root_l3 (a0 : Int) (next3 : ((Int) → Option (Int))) (x3_5 : Int) : Option (Int) :=
  bnd (gI (x3_5 * x3_5)) fun t10 =>
  cnd (decide (a0 < t10)) (bnd (gI (x3_5 - 1)) fun t14 =>
  next3 t14) (where_root_j1 a0 x3_5)
noncomputable def where_root (a0 : Int) : Option (Int) :=
  bnd (gIF a0) fun t5 =>
  bnd (math_Sqrt t5) fun t6 =>
  bnd (gFI t6) fun t7 =>
  fix (fun next3 s => where_root_l3 a0 next3 s) t7

/-! tintype/where.distance -/
noncomputable def where_distance (a0 : T_api_Place) (a1 : T_api_Place) : Option (Int) :=
  bnd (gI (a1.Lat - a0.Lat)) fun t11 =>
  bnd (where_short a0.Lon a1.Lon) fun t16 =>
  bnd (gI (a0.Lat + a1.Lat)) fun t21 =>
  bnd (where_floor t21 2) fun t22 =>
  bnd (where_cosine t22) fun t23 =>
  bnd (gI (t16 * t23)) fun t24 =>
  bnd (gQuo t24 1000000) fun t25 =>
  bnd (gI (t11 * t11)) fun t28 =>
  bnd (gI (t25 * t25)) fun t31 =>
  bnd (gI (t28 + t31)) fun t32 =>
  bnd (where_root t32) fun t33 =>
  bnd (gI (t33 * 111195)) fun t34 =>
  bnd (gQuo t34 1000000) fun t35 =>
  some t35

/-! tintype/where.Distance -/
noncomputable def where_Distance (a0 : T_api_Place) (a1 : T_api_Place) : Option (Int × Int) :=
  bnd (where_checkPlaces ([a0, a1] : List T_api_Place)) fun t10 =>
  cnd (decide (t10 ≠ 0)) (some (0, t10)) (bnd (where_distance a0 a1) fun t16 =>
  some (t16, 0))

/-! tintype/where.wrap -/
noncomputable def where_wrap (a0 : Int) : Option (Int) :=
  bnd (where_eastward (-180000000) a0) fun t4 =>
  bnd (gI (t4 - 180000000)) fun t5 =>
  some t5

/-! tintype/where.Around -/
noncomputable def where_Around_j1 (t28 : Int) (t33 : Int) (m : Int) (m_2 : Int) : Option (T_where_Box × Int) :=
  some ((⟨(max t28 (-90000000)), m, (min t33 90000000), m_2⟩ : T_where_Box), 0)
noncomputable def where_Around (a0 : T_api_Place) (a1 : Int) : Option (T_where_Box × Int) :=
  bnd (where_CheckPlace a0) fun t12 =>
  cnd (decide (t12 ≠ 0)) (some ((⟨0, 0, 0, 0⟩ : T_where_Box), t12)) (bnd (where_outside a1 0 30000000) fun t18 =>
  cnd t18 (some ((⟨0, 0, 0, 0⟩ : T_where_Box), 2)) (bnd (gI (a1 + 1)) fun t21 =>
  bnd (gI (t21 * 1000000)) fun t22 =>
  bnd (gQuo t22 111195) fun t23 =>
  bnd (gI (t23 + 1)) fun t24 =>
  bnd (gI (a0.Lat - t24)) fun t28 =>
  bnd (gI (a0.Lat + t24)) fun t33 =>
  bnd (where_cosine (max t28 (-90000000))) fun t38 =>
  bnd (where_cosine (min t33 90000000)) fun t41 =>
  cnd (decide ((min t38 t41) = 0)) (some ((⟨(max t28 (-90000000)), (-180000000), (min t33 90000000), 179999999⟩ : T_where_Box), 0)) (bnd (gI (t24 * 1000000)) fun t47 =>
  bnd (gQuo t47 (min t38 t41)) fun t49 =>
  bnd (gI (t49 + 1)) fun t50 =>
  cnd (decide (t50 < 180000000)) (bnd (gI (a0.Lon - t50)) fun t56 =>
  bnd (where_wrap t56) fun t57 =>
  bnd (gI (a0.Lon + t50)) fun t61 =>
  bnd (where_wrap t61) fun t62 =>
  where_Around_j1 t28 t33 t57 t62) (where_Around_j1 t28 t33 (-180000000) 179999999))))

/-! tintype/where.CheckBox -/
noncomputable def where_CheckBox (a0 : T_where_Box) : Option (Int) :=
  bnd (where_isLat a0.South) fun t6 =>
  cnd (!t6) (some 2) (bnd (where_isLat a0.North) fun t11 =>
  cnd (!t11) (some 2) (bnd (where_isLon a0.West) fun t17 =>
  cnd (!t17) (some 2) (bnd (where_isLon a0.East) fun t23 =>
  cnd (!t23) (some 2) (cnd (decide (a0.North < a0.South)) (some 5) (some 0)))))

/-! (tintype/where.Box).spans -/
noncomputable def where_Box_spans (a0 : T_where_Box) (a1 : Int) : Option (Bool) :=
  bnd (where_eastward a0.West a1) fun t8 =>
  bnd (where_eastward a0.West a0.East) fun t13 =>
  some (decide (t8 ≤ t13))

/-! tintype/where.In -/
noncomputable def where_In (a0 : T_where_Box) (a1 : T_api_Place) : Option (Bool × Int) :=
  bnd (where_CheckBox a0) fun t9 =>
  cnd (decide (t9 ≠ 0)) (some (false, t9)) (bnd (where_CheckPlace a1) fun t14 =>
  cnd (decide (t14 ≠ 0)) (some (false, t14)) (bnd (where_outside a1.Lat a0.South a0.North) fun t24 =>
  cnd (!t24) (bnd (where_Box_spans a0 a1.Lon) fun t30 =>
  some (t30, 0)) (some (false, 0))))

/-! tintype/tintkeep2.WhereAround -/
noncomputable def Keep_WhereAround_j2 (x28_2 : Int) (next1 : ((Int) → Option (Bool))) : Option (Bool) :=
  bnd (gI (x28_2 + 1)) fun t63 =>
  next1 t63
noncomputable def Keep_WhereAround_l1 (a0 : T_api_Place) (a1 : T_api_Place) (a2 : Int) (t19 : (Int × Int)) (next1 : ((Int) → Option (Bool))) (x28_2 : Int) : Option (Bool) :=
  cnd (decide (x28_2 < 2)) (bnd (gAt ([a2, t19.1] : List Int) x28_2) fun t30 =>
  bnd (where_Around a0 t30) fun t35 =>
  cnd (decide (t35.2 ≠ 0)) (cnd (decide (0 ≤ t30)) (cnd (decide (t30 ≤ 30000000)) (some false) (Keep_WhereAround_j2 x28_2 next1)) (Keep_WhereAround_j2 x28_2 next1)) (bnd (where_In t35.1 a1) fun t49 =>
  cnd (decide (t49.2 ≠ 0)) (some false) (cnd (decide (t19.1 ≤ t30)) (cnd (!t49.1) (some false) (Keep_WhereAround_j2 x28_2 next1)) (Keep_WhereAround_j2 x28_2 next1)))) (some true)
noncomputable def Keep_WhereAround (a0 : T_api_Place) (a1 : T_api_Place) (a2 : Int) : Option (Bool) :=
  bnd (Keep_awakeWhere) fun t14 =>
  cnd (!t14) (some false) (bnd (where_Distance a0 a1) fun t19 =>
  cnd (decide (t19.2 ≠ 0)) (some true) (fix (fun next1 s => Keep_WhereAround_l1 a0 a1 a2 t19 next1 s) 0))

end Go.M
