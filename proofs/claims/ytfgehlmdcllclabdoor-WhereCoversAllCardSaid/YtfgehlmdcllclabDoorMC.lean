/- WhereCoversAll: the models, printed by our generator from the compiled program. Conditions: none. -/
import Derived.Test.YtfgehlmdcllclabDoorMd2
namespace Go.M
open Go.Md
set_option maxRecDepth 100000
set_option linter.unusedVariables false

structure T_api_Place where
  Lat : Int
  Lon : Int
instance : Inhabited T_api_Place := ⟨⟨0, 0⟩⟩

structure T_where_Box where
  South : Int
  West : Int
  North : Int
  East : Int
instance : Inhabited T_where_Box := ⟨⟨0, 0, 0, 0⟩⟩


/-! tintype/where.outside -/
noncomputable def where_outside (a0 : Int) (a1 : Int) (a2 : Int) : Option (Bool) :=
  cnd (decide (a0 < a1)) (some true) (some (decide (a2 < a0)))

/-! tintype/where.isLat -/
noncomputable def where_isLat (a0 : Int) : Option (Bool) :=
  bnd (where_outside a0 (-90000000) 90000000) fun t4 =>
  some (!t4)

/-! tintype/where.isLon -/
noncomputable def where_isLon (a0 : Int) : Option (Bool) :=
  bnd (where_outside a0 (-180000000) 179999999) fun t4 =>
  some (!t4)

/-! tintype/where.CheckPlace -/
noncomputable def where_CheckPlace (a0 : T_api_Place) : Option (Int) :=
  bnd (where_isLat a0.Lat) fun t5 =>
  cnd (!t5) (some 2) (bnd (where_isLon a0.Lon) fun t10 =>
  cnd (!t10) (some 2) (some 0))

/-! internal/strconv.small -/
noncomputable def internal_strconv_small (a0 : Int) : Option ((List UInt8)) :=
  cnd (decide (a0 < 10)) (bnd (gI (a0 + 1)) fun t7 =>
  bnd (gCut [48, 49, 50, 51, 52, 53, 54, 55, 56, 57, 97, 98, 99, 100, 101, 102, 103, 104, 105, 106, 107, 108, 109, 110, 111, 112, 113, 114, 115, 116, 117, 118, 119, 120, 121, 122] a0 t7) fun t8 =>
  some t8) (bnd (gI (a0 * 2)) fun t10 =>
  bnd (gI (a0 * 2)) fun t12 =>
  bnd (gI (t12 + 2)) fun t13 =>
  bnd (gCut [48, 48, 48, 49, 48, 50, 48, 51, 48, 52, 48, 53, 48, 54, 48, 55, 48, 56, 48, 57, 49, 48, 49, 49, 49, 50, 49, 51, 49, 52, 49, 53, 49, 54, 49, 55, 49, 56, 49, 57, 50, 48, 50, 49, 50, 50, 50, 51, 50, 52, 50, 53, 50, 54, 50, 55, 50, 56, 50, 57, 51, 48, 51, 49, 51, 50, 51, 51, 51, 52, 51, 53, 51, 54, 51, 55, 51, 56, 51, 57, 52, 48, 52, 49, 52, 50, 52, 51, 52, 52, 52, 53, 52, 54, 52, 55, 52, 56, 52, 57, 53, 48, 53, 49, 53, 50, 53, 51, 53, 52, 53, 53, 53, 54, 53, 55, 53, 56, 53, 57, 54, 48, 54, 49, 54, 50, 54, 51, 54, 52, 54, 53, 54, 54, 54, 55, 54, 56, 54, 57, 55, 48, 55, 49, 55, 50, 55, 51, 55, 52, 55, 53, 55, 54, 55, 55, 55, 56, 55, 57, 56, 48, 56, 49, 56, 50, 56, 51, 56, 52, 56, 53, 56, 54, 56, 55, 56, 56, 56, 57, 57, 48, 57, 49, 57, 50, 57, 51, 57, 52, 57, 53, 57, 54, 57, 55, 57, 56, 57, 57] t10 t13) fun t14 =>
  some t14)

/-! internal/strconv.log10Pow2 -/
noncomputable def internal_strconv_log10Pow2 (a0 : Int) : Option (Int) :=
  bnd (gI (a0 * 78913)) fun t4 =>
  bnd (gShr 64 t4 18) fun t5 =>
  some t5

/-! math/bits.Len64 -/
noncomputable def math_bits_Len64_j3 (x0_3 : Int) (x2_3 : Int) : Option (Int) :=
  bnd (gOct [0, 1, 2, 2, 3, 3, 3, 3, 4, 4, 4, 4, 4, 4, 4, 4, 5, 5, 5, 5, 5, 5, 5, 5, 5, 5, 5, 5, 5, 5, 5, 5, 6, 6, 6, 6, 6, 6, 6, 6, 6, 6, 6, 6, 6, 6, 6, 6, 6, 6, 6, 6, 6, 6, 6, 6, 6, 6, 6, 6, 6, 6, 6, 6, 7, 7, 7, 7, 7, 7, 7, 7, 7, 7, 7, 7, 7, 7, 7, 7, 7, 7, 7, 7, 7, 7, 7, 7, 7, 7, 7, 7, 7, 7, 7, 7, 7, 7, 7, 7, 7, 7, 7, 7, 7, 7, 7, 7, 7, 7, 7, 7, 7, 7, 7, 7, 7, 7, 7, 7, 7, 7, 7, 7, 7, 7, 7, 7, 8, 8, 8, 8, 8, 8, 8, 8, 8, 8, 8, 8, 8, 8, 8, 8, 8, 8, 8, 8, 8, 8, 8, 8, 8, 8, 8, 8, 8, 8, 8, 8, 8, 8, 8, 8, 8, 8, 8, 8, 8, 8, 8, 8, 8, 8, 8, 8, 8, 8, 8, 8, 8, 8, 8, 8, 8, 8, 8, 8, 8, 8, 8, 8, 8, 8, 8, 8, 8, 8, 8, 8, 8, 8, 8, 8, 8, 8, 8, 8, 8, 8, 8, 8, 8, 8, 8, 8, 8, 8, 8, 8, 8, 8, 8, 8, 8, 8, 8, 8, 8, 8, 8, 8, 8, 8, 8, 8, 8, 8, 8, 8, 8, 8, 8, 8, 8, 8, 8, 8, 8, 8, 8, 8, 8, 8, 8, 8] (wU8 x0_3)) fun t22 =>
  bnd (gK (-9223372036854775808) 9223372036854775807 t22) fun t23 =>
  bnd (gI (x2_3 + t23)) fun t24 =>
  some t24
noncomputable def math_bits_Len64_j2 (x0_2 : Int) (x2_2 : Int) : Option (Int) :=
  cnd (decide (256 ≤ x0_2)) (bnd (gShr 64 x0_2 8) fun t16 =>
  bnd (gI (x2_2 + 8)) fun t18 =>
  math_bits_Len64_j3 t16 t18) (math_bits_Len64_j3 x0_2 x2_2)
noncomputable def math_bits_Len64_j1 (x0 : Int) (x2 : Int) : Option (Int) :=
  cnd (decide (65536 ≤ x0)) (bnd (gShr 64 x0 16) fun t10 =>
  bnd (gI (x2 + 16)) fun t12 =>
  math_bits_Len64_j2 t10 t12) (math_bits_Len64_j2 x0 x2)
noncomputable def math_bits_Len64 (a0 : Int) : Option (Int) :=
  cnd (decide (4294967296 ≤ a0)) (bnd (gShr 64 a0 32) fun t6 =>
  math_bits_Len64_j1 t6 32) (math_bits_Len64_j1 a0 0)

/-! internal/strconv.bool2[int] -/
noncomputable def internal_strconv_bool2_int (a0 : Bool) : Option (Int) :=
  cnd a0 (some 1) (some 0)

/-! internal/strconv.formatBase10 -/
noncomputable def internal_strconv_formatBase10_j3 (x4_3 : Int) (x12_2 : Int) (l_3 : (List Int)) : Option ((List Int)) :=
  cnd (decide (0 < x4_3)) (bnd (gAt l_3 0) fun t166 =>
  bnd (gSet l_3 0 (wU8 (wU32 (48 + x12_2)))) fun l0 =>
  some l0) (some l_3)
noncomputable def internal_strconv_formatBase10_j2 (x4_2 : Int) (x12 : Int) (l_2 : (List Int)) : Option ((List Int)) :=
  cnd (decide (2 ≤ x4_2)) (bnd (gRem x12 100) fun t141 =>
  bnd (gQuoU 32 x12 100) fun t144 =>
  bnd (gI (x4_2 - 1)) fun t147 =>
  bnd (gI (x4_2 - 2)) fun t150 =>
  bnd (gOct [48, 48, 48, 49, 48, 50, 48, 51, 48, 52, 48, 53, 48, 54, 48, 55, 48, 56, 48, 57, 49, 48, 49, 49, 49, 50, 49, 51, 49, 52, 49, 53, 49, 54, 49, 55, 49, 56, 49, 57, 50, 48, 50, 49, 50, 50, 50, 51, 50, 52, 50, 53, 50, 54, 50, 55, 50, 56, 50, 57, 51, 48, 51, 49, 51, 50, 51, 51, 51, 52, 51, 53, 51, 54, 51, 55, 51, 56, 51, 57, 52, 48, 52, 49, 52, 50, 52, 51, 52, 52, 52, 53, 52, 54, 52, 55, 52, 56, 52, 57, 53, 48, 53, 49, 53, 50, 53, 51, 53, 52, 53, 53, 53, 54, 53, 55, 53, 56, 53, 57, 54, 48, 54, 49, 54, 50, 54, 51, 54, 52, 54, 53, 54, 54, 54, 55, 54, 56, 54, 57, 55, 48, 55, 49, 55, 50, 55, 51, 55, 52, 55, 53, 55, 54, 55, 55, 55, 56, 55, 57, 56, 48, 56, 49, 56, 50, 56, 51, 56, 52, 56, 53, 56, 54, 56, 55, 56, 56, 56, 57, 57, 48, 57, 49, 57, 50, 57, 51, 57, 52, 57, 53, 57, 54, 57, 55, 57, 56, 57, 57] (wU32 ((wU32 (t141 * 2)) + 1))) fun t153 =>
  bnd (gOct [48, 48, 48, 49, 48, 50, 48, 51, 48, 52, 48, 53, 48, 54, 48, 55, 48, 56, 48, 57, 49, 48, 49, 49, 49, 50, 49, 51, 49, 52, 49, 53, 49, 54, 49, 55, 49, 56, 49, 57, 50, 48, 50, 49, 50, 50, 50, 51, 50, 52, 50, 53, 50, 54, 50, 55, 50, 56, 50, 57, 51, 48, 51, 49, 51, 50, 51, 51, 51, 52, 51, 53, 51, 54, 51, 55, 51, 56, 51, 57, 52, 48, 52, 49, 52, 50, 52, 51, 52, 52, 52, 53, 52, 54, 52, 55, 52, 56, 52, 57, 53, 48, 53, 49, 53, 50, 53, 51, 53, 52, 53, 53, 53, 54, 53, 55, 53, 56, 53, 57, 54, 48, 54, 49, 54, 50, 54, 51, 54, 52, 54, 53, 54, 54, 54, 55, 54, 56, 54, 57, 55, 48, 55, 49, 55, 50, 55, 51, 55, 52, 55, 53, 55, 54, 55, 55, 55, 56, 55, 57, 56, 48, 56, 49, 56, 50, 56, 51, 56, 52, 56, 53, 56, 54, 56, 55, 56, 56, 56, 57, 57, 48, 57, 49, 57, 50, 57, 51, 57, 52, 57, 53, 57, 54, 57, 55, 57, 56, 57, 57] (wU32 (t141 * 2))) fun t155 =>
  bnd (gAt l_2 t147) fun t156 =>
  bnd (gSet l_2 t147 t153) fun l0_2 =>
  bnd (gAt l0_2 t150) fun t157 =>
  bnd (gSet l0_2 t150 t155) fun l0_3 =>
  bnd (gI (x4_2 - 2)) fun t159 =>
  internal_strconv_formatBase10_j3 t159 t144 l0_3) (internal_strconv_formatBase10_j3 x4_2 x12 l_2)
noncomputable def internal_strconv_formatBase10_j1 (x1 : Int) (x4 : Int) (l : (List Int)) : Option ((List Int)) :=
  cnd (decide (4 ≤ x4)) (bnd (gRem (wU32 x1) 10000) fun t101 =>
  bnd (gQuoU 32 (wU32 x1) 10000) fun t103 =>
  bnd (gQuoU 32 t101 100) fun t105 =>
  bnd (gRem t101 100) fun t108 =>
  bnd (gI (x4 - 1)) fun t112 =>
  bnd (gI (x4 - 2)) fun t115 =>
  bnd (gOct [48, 48, 48, 49, 48, 50, 48, 51, 48, 52, 48, 53, 48, 54, 48, 55, 48, 56, 48, 57, 49, 48, 49, 49, 49, 50, 49, 51, 49, 52, 49, 53, 49, 54, 49, 55, 49, 56, 49, 57, 50, 48, 50, 49, 50, 50, 50, 51, 50, 52, 50, 53, 50, 54, 50, 55, 50, 56, 50, 57, 51, 48, 51, 49, 51, 50, 51, 51, 51, 52, 51, 53, 51, 54, 51, 55, 51, 56, 51, 57, 52, 48, 52, 49, 52, 50, 52, 51, 52, 52, 52, 53, 52, 54, 52, 55, 52, 56, 52, 57, 53, 48, 53, 49, 53, 50, 53, 51, 53, 52, 53, 53, 53, 54, 53, 55, 53, 56, 53, 57, 54, 48, 54, 49, 54, 50, 54, 51, 54, 52, 54, 53, 54, 54, 54, 55, 54, 56, 54, 57, 55, 48, 55, 49, 55, 50, 55, 51, 55, 52, 55, 53, 55, 54, 55, 55, 55, 56, 55, 57, 56, 48, 56, 49, 56, 50, 56, 51, 56, 52, 56, 53, 56, 54, 56, 55, 56, 56, 56, 57, 57, 48, 57, 49, 57, 50, 57, 51, 57, 52, 57, 53, 57, 54, 57, 55, 57, 56, 57, 57] (wU32 ((wU32 (t108 * 2)) + 1))) fun t118 =>
  bnd (gOct [48, 48, 48, 49, 48, 50, 48, 51, 48, 52, 48, 53, 48, 54, 48, 55, 48, 56, 48, 57, 49, 48, 49, 49, 49, 50, 49, 51, 49, 52, 49, 53, 49, 54, 49, 55, 49, 56, 49, 57, 50, 48, 50, 49, 50, 50, 50, 51, 50, 52, 50, 53, 50, 54, 50, 55, 50, 56, 50, 57, 51, 48, 51, 49, 51, 50, 51, 51, 51, 52, 51, 53, 51, 54, 51, 55, 51, 56, 51, 57, 52, 48, 52, 49, 52, 50, 52, 51, 52, 52, 52, 53, 52, 54, 52, 55, 52, 56, 52, 57, 53, 48, 53, 49, 53, 50, 53, 51, 53, 52, 53, 53, 53, 54, 53, 55, 53, 56, 53, 57, 54, 48, 54, 49, 54, 50, 54, 51, 54, 52, 54, 53, 54, 54, 54, 55, 54, 56, 54, 57, 55, 48, 55, 49, 55, 50, 55, 51, 55, 52, 55, 53, 55, 54, 55, 55, 55, 56, 55, 57, 56, 48, 56, 49, 56, 50, 56, 51, 56, 52, 56, 53, 56, 54, 56, 55, 56, 56, 56, 57, 57, 48, 57, 49, 57, 50, 57, 51, 57, 52, 57, 53, 57, 54, 57, 55, 57, 56, 57, 57] (wU32 (t108 * 2))) fun t120 =>
  bnd (gAt l t112) fun t121 =>
  bnd (gSet l t112 t118) fun l0_4 =>
  bnd (gAt l0_4 t115) fun t122 =>
  bnd (gSet l0_4 t115 t120) fun l0_5 =>
  bnd (gI (x4 - 3)) fun t125 =>
  bnd (gI (x4 - 4)) fun t128 =>
  bnd (gOct [48, 48, 48, 49, 48, 50, 48, 51, 48, 52, 48, 53, 48, 54, 48, 55, 48, 56, 48, 57, 49, 48, 49, 49, 49, 50, 49, 51, 49, 52, 49, 53, 49, 54, 49, 55, 49, 56, 49, 57, 50, 48, 50, 49, 50, 50, 50, 51, 50, 52, 50, 53, 50, 54, 50, 55, 50, 56, 50, 57, 51, 48, 51, 49, 51, 50, 51, 51, 51, 52, 51, 53, 51, 54, 51, 55, 51, 56, 51, 57, 52, 48, 52, 49, 52, 50, 52, 51, 52, 52, 52, 53, 52, 54, 52, 55, 52, 56, 52, 57, 53, 48, 53, 49, 53, 50, 53, 51, 53, 52, 53, 53, 53, 54, 53, 55, 53, 56, 53, 57, 54, 48, 54, 49, 54, 50, 54, 51, 54, 52, 54, 53, 54, 54, 54, 55, 54, 56, 54, 57, 55, 48, 55, 49, 55, 50, 55, 51, 55, 52, 55, 53, 55, 54, 55, 55, 55, 56, 55, 57, 56, 48, 56, 49, 56, 50, 56, 51, 56, 52, 56, 53, 56, 54, 56, 55, 56, 56, 56, 57, 57, 48, 57, 49, 57, 50, 57, 51, 57, 52, 57, 53, 57, 54, 57, 55, 57, 56, 57, 57] (wU32 ((wU32 (t105 * 2)) + 1))) fun t131 =>
  bnd (gOct [48, 48, 48, 49, 48, 50, 48, 51, 48, 52, 48, 53, 48, 54, 48, 55, 48, 56, 48, 57, 49, 48, 49, 49, 49, 50, 49, 51, 49, 52, 49, 53, 49, 54, 49, 55, 49, 56, 49, 57, 50, 48, 50, 49, 50, 50, 50, 51, 50, 52, 50, 53, 50, 54, 50, 55, 50, 56, 50, 57, 51, 48, 51, 49, 51, 50, 51, 51, 51, 52, 51, 53, 51, 54, 51, 55, 51, 56, 51, 57, 52, 48, 52, 49, 52, 50, 52, 51, 52, 52, 52, 53, 52, 54, 52, 55, 52, 56, 52, 57, 53, 48, 53, 49, 53, 50, 53, 51, 53, 52, 53, 53, 53, 54, 53, 55, 53, 56, 53, 57, 54, 48, 54, 49, 54, 50, 54, 51, 54, 52, 54, 53, 54, 54, 54, 55, 54, 56, 54, 57, 55, 48, 55, 49, 55, 50, 55, 51, 55, 52, 55, 53, 55, 54, 55, 55, 55, 56, 55, 57, 56, 48, 56, 49, 56, 50, 56, 51, 56, 52, 56, 53, 56, 54, 56, 55, 56, 56, 56, 57, 57, 48, 57, 49, 57, 50, 57, 51, 57, 52, 57, 53, 57, 54, 57, 55, 57, 56, 57, 57] (wU32 (t105 * 2))) fun t133 =>
  bnd (gAt l0_5 t125) fun t134 =>
  bnd (gSet l0_5 t125 t131) fun l0_6 =>
  bnd (gAt l0_6 t128) fun t135 =>
  bnd (gSet l0_6 t128 t133) fun l0_7 =>
  bnd (gI (x4 - 4)) fun t137 =>
  internal_strconv_formatBase10_j2 t137 t103 l0_7) (internal_strconv_formatBase10_j2 x4 (wU32 x1) l)
noncomputable def internal_strconv_formatBase10_l4 (next4 : ((Int × Int × (List Int)) → Option ((List Int)))) (x1_3 : Int) (x4_5 : Int) (l_5 : (List Int)) : Option ((List Int)) :=
  cnd (decide (8 ≤ x4_5)) (bnd (gRem x1_3 100000000) fun t22 =>
  bnd (gQuoU 64 x1_3 100000000) fun t25 =>
  bnd (gQuoU 32 (wU32 t22) 10000) fun t27 =>
  bnd (gRem (wU32 t22) 10000) fun t29 =>
  bnd (gQuoU 32 t29 100) fun t31 =>
  bnd (gRem t29 100) fun t34 =>
  bnd (gQuoU 32 t27 100) fun t37 =>
  bnd (gRem t27 100) fun t40 =>
  bnd (gI (x4_5 - 1)) fun t44 =>
  bnd (gI (x4_5 - 2)) fun t47 =>
  bnd (gOct [48, 48, 48, 49, 48, 50, 48, 51, 48, 52, 48, 53, 48, 54, 48, 55, 48, 56, 48, 57, 49, 48, 49, 49, 49, 50, 49, 51, 49, 52, 49, 53, 49, 54, 49, 55, 49, 56, 49, 57, 50, 48, 50, 49, 50, 50, 50, 51, 50, 52, 50, 53, 50, 54, 50, 55, 50, 56, 50, 57, 51, 48, 51, 49, 51, 50, 51, 51, 51, 52, 51, 53, 51, 54, 51, 55, 51, 56, 51, 57, 52, 48, 52, 49, 52, 50, 52, 51, 52, 52, 52, 53, 52, 54, 52, 55, 52, 56, 52, 57, 53, 48, 53, 49, 53, 50, 53, 51, 53, 52, 53, 53, 53, 54, 53, 55, 53, 56, 53, 57, 54, 48, 54, 49, 54, 50, 54, 51, 54, 52, 54, 53, 54, 54, 54, 55, 54, 56, 54, 57, 55, 48, 55, 49, 55, 50, 55, 51, 55, 52, 55, 53, 55, 54, 55, 55, 55, 56, 55, 57, 56, 48, 56, 49, 56, 50, 56, 51, 56, 52, 56, 53, 56, 54, 56, 55, 56, 56, 56, 57, 57, 48, 57, 49, 57, 50, 57, 51, 57, 52, 57, 53, 57, 54, 57, 55, 57, 56, 57, 57] (wU32 ((wU32 (t34 * 2)) + 1))) fun t50 =>
  bnd (gOct [48, 48, 48, 49, 48, 50, 48, 51, 48, 52, 48, 53, 48, 54, 48, 55, 48, 56, 48, 57, 49, 48, 49, 49, 49, 50, 49, 51, 49, 52, 49, 53, 49, 54, 49, 55, 49, 56, 49, 57, 50, 48, 50, 49, 50, 50, 50, 51, 50, 52, 50, 53, 50, 54, 50, 55, 50, 56, 50, 57, 51, 48, 51, 49, 51, 50, 51, 51, 51, 52, 51, 53, 51, 54, 51, 55, 51, 56, 51, 57, 52, 48, 52, 49, 52, 50, 52, 51, 52, 52, 52, 53, 52, 54, 52, 55, 52, 56, 52, 57, 53, 48, 53, 49, 53, 50, 53, 51, 53, 52, 53, 53, 53, 54, 53, 55, 53, 56, 53, 57, 54, 48, 54, 49, 54, 50, 54, 51, 54, 52, 54, 53, 54, 54, 54, 55, 54, 56, 54, 57, 55, 48, 55, 49, 55, 50, 55, 51, 55, 52, 55, 53, 55, 54, 55, 55, 55, 56, 55, 57, 56, 48, 56, 49, 56, 50, 56, 51, 56, 52, 56, 53, 56, 54, 56, 55, 56, 56, 56, 57, 57, 48, 57, 49, 57, 50, 57, 51, 57, 52, 57, 53, 57, 54, 57, 55, 57, 56, 57, 57] (wU32 (t34 * 2))) fun t52 =>
  bnd (gAt l_5 t44) fun t53 =>
  bnd (gSet l_5 t44 t50) fun l0_8 =>
  bnd (gAt l0_8 t47) fun t54 =>
  bnd (gSet l0_8 t47 t52) fun l0_9 =>
  bnd (gI (x4_5 - 3)) fun t57 =>
  bnd (gI (x4_5 - 4)) fun t60 =>
  bnd (gOct [48, 48, 48, 49, 48, 50, 48, 51, 48, 52, 48, 53, 48, 54, 48, 55, 48, 56, 48, 57, 49, 48, 49, 49, 49, 50, 49, 51, 49, 52, 49, 53, 49, 54, 49, 55, 49, 56, 49, 57, 50, 48, 50, 49, 50, 50, 50, 51, 50, 52, 50, 53, 50, 54, 50, 55, 50, 56, 50, 57, 51, 48, 51, 49, 51, 50, 51, 51, 51, 52, 51, 53, 51, 54, 51, 55, 51, 56, 51, 57, 52, 48, 52, 49, 52, 50, 52, 51, 52, 52, 52, 53, 52, 54, 52, 55, 52, 56, 52, 57, 53, 48, 53, 49, 53, 50, 53, 51, 53, 52, 53, 53, 53, 54, 53, 55, 53, 56, 53, 57, 54, 48, 54, 49, 54, 50, 54, 51, 54, 52, 54, 53, 54, 54, 54, 55, 54, 56, 54, 57, 55, 48, 55, 49, 55, 50, 55, 51, 55, 52, 55, 53, 55, 54, 55, 55, 55, 56, 55, 57, 56, 48, 56, 49, 56, 50, 56, 51, 56, 52, 56, 53, 56, 54, 56, 55, 56, 56, 56, 57, 57, 48, 57, 49, 57, 50, 57, 51, 57, 52, 57, 53, 57, 54, 57, 55, 57, 56, 57, 57] (wU32 ((wU32 (t31 * 2)) + 1))) fun t63 =>
  bnd (gOct [48, 48, 48, 49, 48, 50, 48, 51, 48, 52, 48, 53, 48, 54, 48, 55, 48, 56, 48, 57, 49, 48, 49, 49, 49, 50, 49, 51, 49, 52, 49, 53, 49, 54, 49, 55, 49, 56, 49, 57, 50, 48, 50, 49, 50, 50, 50, 51, 50, 52, 50, 53, 50, 54, 50, 55, 50, 56, 50, 57, 51, 48, 51, 49, 51, 50, 51, 51, 51, 52, 51, 53, 51, 54, 51, 55, 51, 56, 51, 57, 52, 48, 52, 49, 52, 50, 52, 51, 52, 52, 52, 53, 52, 54, 52, 55, 52, 56, 52, 57, 53, 48, 53, 49, 53, 50, 53, 51, 53, 52, 53, 53, 53, 54, 53, 55, 53, 56, 53, 57, 54, 48, 54, 49, 54, 50, 54, 51, 54, 52, 54, 53, 54, 54, 54, 55, 54, 56, 54, 57, 55, 48, 55, 49, 55, 50, 55, 51, 55, 52, 55, 53, 55, 54, 55, 55, 55, 56, 55, 57, 56, 48, 56, 49, 56, 50, 56, 51, 56, 52, 56, 53, 56, 54, 56, 55, 56, 56, 56, 57, 57, 48, 57, 49, 57, 50, 57, 51, 57, 52, 57, 53, 57, 54, 57, 55, 57, 56, 57, 57] (wU32 (t31 * 2))) fun t65 =>
  bnd (gAt l0_9 t57) fun t66 =>
  bnd (gSet l0_9 t57 t63) fun l0_10 =>
  bnd (gAt l0_10 t60) fun t67 =>
  bnd (gSet l0_10 t60 t65) fun l0_11 =>
  bnd (gI (x4_5 - 5)) fun t70 =>
  bnd (gI (x4_5 - 6)) fun t73 =>
  bnd (gOct [48, 48, 48, 49, 48, 50, 48, 51, 48, 52, 48, 53, 48, 54, 48, 55, 48, 56, 48, 57, 49, 48, 49, 49, 49, 50, 49, 51, 49, 52, 49, 53, 49, 54, 49, 55, 49, 56, 49, 57, 50, 48, 50, 49, 50, 50, 50, 51, 50, 52, 50, 53, 50, 54, 50, 55, 50, 56, 50, 57, 51, 48, 51, 49, 51, 50, 51, 51, 51, 52, 51, 53, 51, 54, 51, 55, 51, 56, 51, 57, 52, 48, 52, 49, 52, 50, 52, 51, 52, 52, 52, 53, 52, 54, 52, 55, 52, 56, 52, 57, 53, 48, 53, 49, 53, 50, 53, 51, 53, 52, 53, 53, 53, 54, 53, 55, 53, 56, 53, 57, 54, 48, 54, 49, 54, 50, 54, 51, 54, 52, 54, 53, 54, 54, 54, 55, 54, 56, 54, 57, 55, 48, 55, 49, 55, 50, 55, 51, 55, 52, 55, 53, 55, 54, 55, 55, 55, 56, 55, 57, 56, 48, 56, 49, 56, 50, 56, 51, 56, 52, 56, 53, 56, 54, 56, 55, 56, 56, 56, 57, 57, 48, 57, 49, 57, 50, 57, 51, 57, 52, 57, 53, 57, 54, 57, 55, 57, 56, 57, 57] (wU32 ((wU32 (t40 * 2)) + 1))) fun t76 =>
  bnd (gOct [48, 48, 48, 49, 48, 50, 48, 51, 48, 52, 48, 53, 48, 54, 48, 55, 48, 56, 48, 57, 49, 48, 49, 49, 49, 50, 49, 51, 49, 52, 49, 53, 49, 54, 49, 55, 49, 56, 49, 57, 50, 48, 50, 49, 50, 50, 50, 51, 50, 52, 50, 53, 50, 54, 50, 55, 50, 56, 50, 57, 51, 48, 51, 49, 51, 50, 51, 51, 51, 52, 51, 53, 51, 54, 51, 55, 51, 56, 51, 57, 52, 48, 52, 49, 52, 50, 52, 51, 52, 52, 52, 53, 52, 54, 52, 55, 52, 56, 52, 57, 53, 48, 53, 49, 53, 50, 53, 51, 53, 52, 53, 53, 53, 54, 53, 55, 53, 56, 53, 57, 54, 48, 54, 49, 54, 50, 54, 51, 54, 52, 54, 53, 54, 54, 54, 55, 54, 56, 54, 57, 55, 48, 55, 49, 55, 50, 55, 51, 55, 52, 55, 53, 55, 54, 55, 55, 55, 56, 55, 57, 56, 48, 56, 49, 56, 50, 56, 51, 56, 52, 56, 53, 56, 54, 56, 55, 56, 56, 56, 57, 57, 48, 57, 49, 57, 50, 57, 51, 57, 52, 57, 53, 57, 54, 57, 55, 57, 56, 57, 57] (wU32 (t40 * 2))) fun t78 =>
  bnd (gAt l0_11 t70) fun t79 =>
  bnd (gSet l0_11 t70 t76) fun l0_12 =>
  bnd (gAt l0_12 t73) fun t80 =>
  bnd (gSet l0_12 t73 t78) fun l0_13 =>
  bnd (gI (x4_5 - 7)) fun t83 =>
  bnd (gI (x4_5 - 8)) fun t86 =>
  bnd (gOct [48, 48, 48, 49, 48, 50, 48, 51, 48, 52, 48, 53, 48, 54, 48, 55, 48, 56, 48, 57, 49, 48, 49, 49, 49, 50, 49, 51, 49, 52, 49, 53, 49, 54, 49, 55, 49, 56, 49, 57, 50, 48, 50, 49, 50, 50, 50, 51, 50, 52, 50, 53, 50, 54, 50, 55, 50, 56, 50, 57, 51, 48, 51, 49, 51, 50, 51, 51, 51, 52, 51, 53, 51, 54, 51, 55, 51, 56, 51, 57, 52, 48, 52, 49, 52, 50, 52, 51, 52, 52, 52, 53, 52, 54, 52, 55, 52, 56, 52, 57, 53, 48, 53, 49, 53, 50, 53, 51, 53, 52, 53, 53, 53, 54, 53, 55, 53, 56, 53, 57, 54, 48, 54, 49, 54, 50, 54, 51, 54, 52, 54, 53, 54, 54, 54, 55, 54, 56, 54, 57, 55, 48, 55, 49, 55, 50, 55, 51, 55, 52, 55, 53, 55, 54, 55, 55, 55, 56, 55, 57, 56, 48, 56, 49, 56, 50, 56, 51, 56, 52, 56, 53, 56, 54, 56, 55, 56, 56, 56, 57, 57, 48, 57, 49, 57, 50, 57, 51, 57, 52, 57, 53, 57, 54, 57, 55, 57, 56, 57, 57] (wU32 ((wU32 (t37 * 2)) + 1))) fun t89 =>
  bnd (gOct [48, 48, 48, 49, 48, 50, 48, 51, 48, 52, 48, 53, 48, 54, 48, 55, 48, 56, 48, 57, 49, 48, 49, 49, 49, 50, 49, 51, 49, 52, 49, 53, 49, 54, 49, 55, 49, 56, 49, 57, 50, 48, 50, 49, 50, 50, 50, 51, 50, 52, 50, 53, 50, 54, 50, 55, 50, 56, 50, 57, 51, 48, 51, 49, 51, 50, 51, 51, 51, 52, 51, 53, 51, 54, 51, 55, 51, 56, 51, 57, 52, 48, 52, 49, 52, 50, 52, 51, 52, 52, 52, 53, 52, 54, 52, 55, 52, 56, 52, 57, 53, 48, 53, 49, 53, 50, 53, 51, 53, 52, 53, 53, 53, 54, 53, 55, 53, 56, 53, 57, 54, 48, 54, 49, 54, 50, 54, 51, 54, 52, 54, 53, 54, 54, 54, 55, 54, 56, 54, 57, 55, 48, 55, 49, 55, 50, 55, 51, 55, 52, 55, 53, 55, 54, 55, 55, 55, 56, 55, 57, 56, 48, 56, 49, 56, 50, 56, 51, 56, 52, 56, 53, 56, 54, 56, 55, 56, 56, 56, 57, 57, 48, 57, 49, 57, 50, 57, 51, 57, 52, 57, 53, 57, 54, 57, 55, 57, 56, 57, 57] (wU32 (t37 * 2))) fun t91 =>
  bnd (gAt l0_13 t83) fun t92 =>
  bnd (gSet l0_13 t83 t89) fun l0_14 =>
  bnd (gAt l0_14 t86) fun t93 =>
  bnd (gSet l0_14 t86 t91) fun l0_15 =>
  bnd (gI (x4_5 - 8)) fun t95 =>
  next4 (t25, t95, l0_15)) (internal_strconv_formatBase10_j1 x1_3 x4_5 l_5)
noncomputable def internal_strconv_formatBase10 (a0 : (List Int)) (a1 : Int) : Option ((List Int)) :=
  fix (fun next4 s => internal_strconv_formatBase10_l4 next4 s.1 s.2.1 s.2.2) (a1, (a0.length : Int), a0)

/-! internal/strconv.isPowerOfTwo -/
noncomputable def internal_strconv_isPowerOfTwo (a0 : Int) : Option (Bool) :=
  bnd (gI (a0 - 1)) fun t5 =>
  some (decide ((wI64 (bAnd 64 a0 t5)) = 0))

/-! math/bits.TrailingZeros32 -/
noncomputable def math_bits_TrailingZeros32 (a0 : Int) : Option (Int) :=
  cnd (decide (a0 = 0)) (some 32) (none)

/-! math/bits.TrailingZeros64 -/
noncomputable def math_bits_TrailingZeros64 (a0 : Int) : Option (Int) :=
  cnd (decide (a0 = 0)) (some 64) (none)

/-! math/bits.TrailingZeros -/
noncomputable def math_bits_TrailingZeros (a0 : Int) : Option (Int) :=
  bnd (math_bits_TrailingZeros64 a0) fun t7 =>
  some t7

/-! internal/strconv.formatBits -/
noncomputable def internal_strconv_formatBits_j3 (x13_2 : Int) (m_2 : (Nat → Int)) : Option ((List Int) × (List UInt8)) :=
  none
noncomputable def internal_strconv_formatBits_j2 (a3 : Bool) (x13 : Int) (m : (Nat → Int)) : Option ((List Int) × (List UInt8)) :=
  cnd a3 (bnd (gI (x13 - 1)) fun t91 =>
  bnd (gIx 65 t91) fun k93 =>
  internal_strconv_formatBits_j3 t91 (setA m k93 45)) (internal_strconv_formatBits_j3 x13 m)
noncomputable def internal_strconv_formatBits_j4 (a3 : Bool) (x1_2 : Int) (x13_3 : Int) (m_3 : (Nat → Int)) : Option ((List Int) × (List UInt8)) :=
  bnd (gI (x13_3 - 1)) fun t59 =>
  bnd (gOct [48, 49, 50, 51, 52, 53, 54, 55, 56, 57, 97, 98, 99, 100, 101, 102, 103, 104, 105, 106, 107, 108, 109, 110, 111, 112, 113, 114, 115, 116, 117, 118, 119, 120, 121, 122] x1_2) fun t62 =>
  bnd (gIx 65 t59) fun k63 =>
  internal_strconv_formatBits_j2 a3 t59 (setA m_3 k63 t62)
noncomputable def internal_strconv_formatBits_l5 (a2 : Int) (a3 : Bool) (t37 : (Int)) (next5 : ((Int × Int × (Nat → Int)) → Option ((List Int) × (List UInt8)))) (x1_4 : Int) (x13_5 : Int) (m_5 : (Nat → Int)) : Option ((List Int) × (List UInt8)) :=
  cnd (decide ((wU64 a2) ≤ x1_4)) (bnd (gI (x13_5 - 1)) fun t48 =>
  bnd (gOct [48, 49, 50, 51, 52, 53, 54, 55, 56, 57, 97, 98, 99, 100, 101, 102, 103, 104, 105, 106, 107, 108, 109, 110, 111, 112, 113, 114, 115, 116, 117, 118, 119, 120, 121, 122] (wU64 (bAnd 64 x1_4 (wU64 ((wU64 a2) - 1))))) fun t53 =>
  bnd (gIx 65 t48) fun k54 =>
  bnd (gShr 64 x1_4 (wU64 t37)) fun t57 =>
  next5 (t57, t48, (setA m_5 k54 t53))) (internal_strconv_formatBits_j4 a3 x1_4 x13_5 m_5)
noncomputable def internal_strconv_formatBits_j6 (a3 : Bool) (x1_5 : Int) (x13_6 : Int) (m_6 : (Nat → Int)) : Option ((List Int) × (List UInt8)) :=
  bnd (gI (x13_6 - 1)) fun t84 =>
  bnd (gOct [48, 49, 50, 51, 52, 53, 54, 55, 56, 57, 97, 98, 99, 100, 101, 102, 103, 104, 105, 106, 107, 108, 109, 110, 111, 112, 113, 114, 115, 116, 117, 118, 119, 120, 121, 122] x1_5) fun t87 =>
  bnd (gIx 65 t84) fun k88 =>
  internal_strconv_formatBits_j2 a3 t84 (setA m_6 k88 t87)
noncomputable def internal_strconv_formatBits_l7 (a2 : Int) (a3 : Bool) (next7 : ((Int × Int × (Nat → Int)) → Option ((List Int) × (List UInt8)))) (x1_7 : Int) (x13_8 : Int) (m_8 : (Nat → Int)) : Option ((List Int) × (List UInt8)) :=
  cnd (decide ((wU64 a2) ≤ x1_7)) (bnd (gI (x13_8 - 1)) fun t70 =>
  bnd (gQuoU 64 x1_7 (wU64 a2)) fun t73 =>
  bnd (gOct [48, 49, 50, 51, 52, 53, 54, 55, 56, 57, 97, 98, 99, 100, 101, 102, 103, 104, 105, 106, 107, 108, 109, 110, 111, 112, 113, 114, 115, 116, 117, 118, 119, 120, 121, 122] (wU64 (x1_7 - (wU64 (t73 * (wU64 a2)))))) fun t80 =>
  bnd (gIx 65 t70) fun k81 =>
  next7 (t73, t70, (setA m_8 k81 t80))) (internal_strconv_formatBits_j6 a3 x1_7 x13_8 m_8)
noncomputable def internal_strconv_formatBits_j1 (a2 : Int) (a3 : Bool) (x1 : Int) : Option ((List Int) × (List UInt8)) :=
  bnd (internal_strconv_isPowerOfTwo a2) fun t34 =>
  cnd t34 (bnd (math_bits_TrailingZeros (wU64 a2)) fun t37 =>
  fix (fun next5 s => internal_strconv_formatBits_l5 a2 a3 t37 next5 s.1 s.2.1 s.2.2) (x1, 65, (fun _ => 0))) (fix (fun next7 s => internal_strconv_formatBits_l7 a2 a3 next7 s.1 s.2.1 s.2.2) (x1, 65, (fun _ => 0)))
noncomputable def internal_strconv_formatBits (a0 : (List Int)) (a1 : Int) (a2 : Int) (a3 : Bool) (a4 : Bool) : Option ((List Int) × (List UInt8)) :=
  cnd (decide (a2 < 2)) (none) (cnd (decide (a2 = 10)) (none) (cnd (decide (36 < a2)) (none) (cnd a3 (internal_strconv_formatBits_j1 a2 a3 (wU64 (0 - a1))) (internal_strconv_formatBits_j1 a2 a3 a1))))

/-! internal/strconv.FormatInt -/
noncomputable def internal_strconv_FormatInt_j2 (x6 : Int) : Option ((List UInt8)) :=
  none
noncomputable def internal_strconv_FormatInt_j1 (a0 : Int) : Option ((List UInt8)) :=
  cnd (decide (a0 < 0)) (internal_strconv_FormatInt_j2 (wU64 (0 - (wU64 a0)))) (internal_strconv_FormatInt_j2 (wU64 a0))
noncomputable def internal_strconv_FormatInt (a0 : Int) (a1 : Int) : Option ((List UInt8)) :=
  cnd (decide (a1 = 10)) (cnd (decide (0 ≤ a0)) (cnd (decide (a0 < 100)) (bnd (internal_strconv_small a0) fun t19 =>
  some t19) (internal_strconv_FormatInt_j1 a0)) (internal_strconv_FormatInt_j1 a0)) (bnd (internal_strconv_formatBits ([] : (List Int)) (wU64 a0) a1 (decide (a0 < 0)) false) fun t50 =>
  some t50.2)

/-! internal/strconv.Itoa -/
noncomputable def internal_strconv_Itoa (a0 : Int) : Option ((List UInt8)) :=
  bnd (internal_strconv_FormatInt a0 10) fun t4 =>
  some t4

/-! strconv.Itoa -/
noncomputable def strconv_Itoa (a0 : Int) : Option ((List UInt8)) :=
  bnd (internal_strconv_Itoa a0) fun t4 =>
  some t4

/-! math/bits.Mul32 -/
noncomputable def math_bits_Mul32 (a0 : Int) (a1 : Int) : Option (Int × Int) :=
  bnd (gK 0 18446744073709551615 a0) fun t8 =>
  bnd (gK 0 18446744073709551615 a1) fun t10 =>
  bnd (gShr 64 (wU64 (t8 * t10)) 32) fun t13 =>
  some ((wU32 t13), (wU32 (wU64 (t8 * t10))))

/-! math/bits.Mul64 -/
noncomputable def math_bits_Mul64 (a0 : Int) (a1 : Int) : Option (Int × Int) :=
  bnd (gShr 64 a0 32) fun t17 =>
  bnd (gShr 64 a1 32) fun t21 =>
  bnd (gShr 64 (wU64 ((wU64 (bAnd 64 a0 4294967295)) * (wU64 (bAnd 64 a1 4294967295)))) 32) fun t29 =>
  bnd (gShr 64 (wU64 ((wU64 (t17 * (wU64 (bAnd 64 a1 4294967295)))) + t29)) 32) fun t34 =>
  bnd (gShr 64 (wU64 ((wU64 (bAnd 64 (wU64 ((wU64 (t17 * (wU64 (bAnd 64 a1 4294967295)))) + t29)) 4294967295)) + (wU64 ((wU64 (bAnd 64 a0 4294967295)) * t21)))) 32) fun t46 =>
  some ((wU64 ((wU64 ((wU64 (t17 * t21)) + t34)) + t46)), (wU64 (a0 * a1)))

/-! math/bits.Mul -/
noncomputable def math_bits_Mul (a0 : Int) (a1 : Int) : Option (Int × Int) :=
  bnd (math_bits_Mul64 a0 a1) fun t25 =>
  some (t25.1, t25.2)

/-! internal/stringslite.HasPrefix -/
noncomputable def internal_stringslite_HasPrefix (a0 : (List UInt8)) (a1 : (List UInt8)) : Option (Bool) :=
  cnd (decide ((a1.length : Int) ≤ (a0.length : Int))) (bnd (gCut a0 0 (a1.length : Int)) fun t14 =>
  some (decide (t14 = a1))) (some false)

/-! strings.HasPrefix -/
noncomputable def strings_HasPrefix (a0 : (List UInt8)) (a1 : (List UInt8)) : Option (Bool) :=
  bnd (internal_stringslite_HasPrefix a0 a1) fun t7 =>
  some t7

/-! strings.Repeat -/
noncomputable def strings_Repeat_j2 (x8 : Int) : Option ((List UInt8)) :=
  none
noncomputable def strings_Repeat_j1 (a0 : (List UInt8)) (t26 : (Int × Int)) : Option ((List UInt8)) :=
  cnd (decide (8192 < (wI64 t26.2))) (bnd (gQuo 8192 (a0.length : Int)) fun t99 =>
  bnd (gI (t99 * (a0.length : Int))) fun t102 =>
  cnd (decide (t102 = 0)) (strings_Repeat_j2 (a0.length : Int)) (strings_Repeat_j2 t102)) (strings_Repeat_j2 (wI64 t26.2))
noncomputable def strings_Repeat_j7 (a0 : (List UInt8)) (t26 : (Int × Int)) (x76 : Bool) : Option ((List UInt8)) :=
  cnd x76 (bnd (gCut [61, 61, 61, 61, 61, 61, 61, 61, 61, 61, 61, 61, 61, 61, 61, 61, 61, 61, 61, 61, 61, 61, 61, 61, 61, 61, 61, 61, 61, 61, 61, 61, 61, 61, 61, 61, 61, 61, 61, 61, 61, 61, 61, 61, 61, 61, 61, 61, 61, 61, 61, 61, 61, 61, 61, 61, 61, 61, 61, 61, 61, 61, 61, 61, 61, 61, 61, 61, 61, 61, 61, 61, 61, 61, 61, 61, 61, 61, 61, 61, 61, 61, 61, 61, 61, 61, 61, 61, 61, 61, 61, 61, 61, 61, 61, 61, 61, 61, 61, 61, 61, 61, 61, 61, 61, 61, 61, 61, 61, 61, 61, 61, 61, 61, 61, 61, 61, 61, 61, 61, 61, 61, 61, 61, 61, 61, 61, 61] 0 (wI64 t26.2)) fun t84 =>
  some t84) (cnd (decide ((wI64 t26.2) ≤ 64)) (bnd (strings_HasPrefix [9, 9, 9, 9, 9, 9, 9, 9, 9, 9, 9, 9, 9, 9, 9, 9, 9, 9, 9, 9, 9, 9, 9, 9, 9, 9, 9, 9, 9, 9, 9, 9, 9, 9, 9, 9, 9, 9, 9, 9, 9, 9, 9, 9, 9, 9, 9, 9, 9, 9, 9, 9, 9, 9, 9, 9, 9, 9, 9, 9, 9, 9, 9, 9] a0) fun t90 =>
  cnd t90 (bnd (gCut [9, 9, 9, 9, 9, 9, 9, 9, 9, 9, 9, 9, 9, 9, 9, 9, 9, 9, 9, 9, 9, 9, 9, 9, 9, 9, 9, 9, 9, 9, 9, 9, 9, 9, 9, 9, 9, 9, 9, 9, 9, 9, 9, 9, 9, 9, 9, 9, 9, 9, 9, 9, 9, 9, 9, 9, 9, 9, 9, 9, 9, 9, 9, 9] 0 (wI64 t26.2)) fun t93 =>
  some t93) (strings_Repeat_j1 a0 t26)) (strings_Repeat_j1 a0 t26))
noncomputable def strings_Repeat_j6 (a0 : (List UInt8)) (t26 : (Int × Int)) (x67 : Bool) : Option ((List UInt8)) :=
  cnd x67 (bnd (gCut [48, 48, 48, 48, 48, 48, 48, 48, 48, 48, 48, 48, 48, 48, 48, 48, 48, 48, 48, 48, 48, 48, 48, 48, 48, 48, 48, 48, 48, 48, 48, 48, 48, 48, 48, 48, 48, 48, 48, 48, 48, 48, 48, 48, 48, 48, 48, 48, 48, 48, 48, 48, 48, 48, 48, 48, 48, 48, 48, 48, 48, 48, 48, 48] 0 (wI64 t26.2)) fun t75 =>
  some t75) (cnd (decide ((wI64 t26.2) ≤ 128)) (bnd (strings_HasPrefix [61, 61, 61, 61, 61, 61, 61, 61, 61, 61, 61, 61, 61, 61, 61, 61, 61, 61, 61, 61, 61, 61, 61, 61, 61, 61, 61, 61, 61, 61, 61, 61, 61, 61, 61, 61, 61, 61, 61, 61, 61, 61, 61, 61, 61, 61, 61, 61, 61, 61, 61, 61, 61, 61, 61, 61, 61, 61, 61, 61, 61, 61, 61, 61, 61, 61, 61, 61, 61, 61, 61, 61, 61, 61, 61, 61, 61, 61, 61, 61, 61, 61, 61, 61, 61, 61, 61, 61, 61, 61, 61, 61, 61, 61, 61, 61, 61, 61, 61, 61, 61, 61, 61, 61, 61, 61, 61, 61, 61, 61, 61, 61, 61, 61, 61, 61, 61, 61, 61, 61, 61, 61, 61, 61, 61, 61, 61, 61] a0) fun t81 =>
  strings_Repeat_j7 a0 t26 t81) (strings_Repeat_j7 a0 t26 false))
noncomputable def strings_Repeat_j5 (a0 : (List UInt8)) (t26 : (Int × Int)) (x58 : Bool) : Option ((List UInt8)) :=
  cnd x58 (bnd (gCut [45, 45, 45, 45, 45, 45, 45, 45, 45, 45, 45, 45, 45, 45, 45, 45, 45, 45, 45, 45, 45, 45, 45, 45, 45, 45, 45, 45, 45, 45, 45, 45, 45, 45, 45, 45, 45, 45, 45, 45, 45, 45, 45, 45, 45, 45, 45, 45, 45, 45, 45, 45, 45, 45, 45, 45, 45, 45, 45, 45, 45, 45, 45, 45, 45, 45, 45, 45, 45, 45, 45, 45, 45, 45, 45, 45, 45, 45, 45, 45, 45, 45, 45, 45, 45, 45, 45, 45, 45, 45, 45, 45, 45, 45, 45, 45, 45, 45, 45, 45, 45, 45, 45, 45, 45, 45, 45, 45, 45, 45, 45, 45, 45, 45, 45, 45, 45, 45, 45, 45, 45, 45, 45, 45, 45, 45, 45, 45] 0 (wI64 t26.2)) fun t66 =>
  some t66) (cnd (decide ((wI64 t26.2) ≤ 64)) (bnd (strings_HasPrefix [48, 48, 48, 48, 48, 48, 48, 48, 48, 48, 48, 48, 48, 48, 48, 48, 48, 48, 48, 48, 48, 48, 48, 48, 48, 48, 48, 48, 48, 48, 48, 48, 48, 48, 48, 48, 48, 48, 48, 48, 48, 48, 48, 48, 48, 48, 48, 48, 48, 48, 48, 48, 48, 48, 48, 48, 48, 48, 48, 48, 48, 48, 48, 48] a0) fun t72 =>
  strings_Repeat_j6 a0 t26 t72) (strings_Repeat_j6 a0 t26 false))
noncomputable def strings_Repeat_j4 (a0 : (List UInt8)) (t26 : (Int × Int)) (x49 : Bool) : Option ((List UInt8)) :=
  cnd x49 (bnd (gCut [32, 32, 32, 32, 32, 32, 32, 32, 32, 32, 32, 32, 32, 32, 32, 32, 32, 32, 32, 32, 32, 32, 32, 32, 32, 32, 32, 32, 32, 32, 32, 32, 32, 32, 32, 32, 32, 32, 32, 32, 32, 32, 32, 32, 32, 32, 32, 32, 32, 32, 32, 32, 32, 32, 32, 32, 32, 32, 32, 32, 32, 32, 32, 32, 32, 32, 32, 32, 32, 32, 32, 32, 32, 32, 32, 32, 32, 32, 32, 32, 32, 32, 32, 32, 32, 32, 32, 32, 32, 32, 32, 32, 32, 32, 32, 32, 32, 32, 32, 32, 32, 32, 32, 32, 32, 32, 32, 32, 32, 32, 32, 32, 32, 32, 32, 32, 32, 32, 32, 32, 32, 32, 32, 32, 32, 32, 32, 32] 0 (wI64 t26.2)) fun t57 =>
  some t57) (cnd (decide ((wI64 t26.2) ≤ 128)) (bnd (strings_HasPrefix [45, 45, 45, 45, 45, 45, 45, 45, 45, 45, 45, 45, 45, 45, 45, 45, 45, 45, 45, 45, 45, 45, 45, 45, 45, 45, 45, 45, 45, 45, 45, 45, 45, 45, 45, 45, 45, 45, 45, 45, 45, 45, 45, 45, 45, 45, 45, 45, 45, 45, 45, 45, 45, 45, 45, 45, 45, 45, 45, 45, 45, 45, 45, 45, 45, 45, 45, 45, 45, 45, 45, 45, 45, 45, 45, 45, 45, 45, 45, 45, 45, 45, 45, 45, 45, 45, 45, 45, 45, 45, 45, 45, 45, 45, 45, 45, 45, 45, 45, 45, 45, 45, 45, 45, 45, 45, 45, 45, 45, 45, 45, 45, 45, 45, 45, 45, 45, 45, 45, 45, 45, 45, 45, 45, 45, 45, 45, 45] a0) fun t63 =>
  strings_Repeat_j5 a0 t26 t63) (strings_Repeat_j5 a0 t26 false))
noncomputable def strings_Repeat_j3 (a0 : (List UInt8)) (t26 : (Int × Int)) (x43 : Bool) : Option ((List UInt8)) :=
  cnd x43 (cnd (decide ((wI64 t26.2) ≤ 128)) (bnd (strings_HasPrefix [32, 32, 32, 32, 32, 32, 32, 32, 32, 32, 32, 32, 32, 32, 32, 32, 32, 32, 32, 32, 32, 32, 32, 32, 32, 32, 32, 32, 32, 32, 32, 32, 32, 32, 32, 32, 32, 32, 32, 32, 32, 32, 32, 32, 32, 32, 32, 32, 32, 32, 32, 32, 32, 32, 32, 32, 32, 32, 32, 32, 32, 32, 32, 32, 32, 32, 32, 32, 32, 32, 32, 32, 32, 32, 32, 32, 32, 32, 32, 32, 32, 32, 32, 32, 32, 32, 32, 32, 32, 32, 32, 32, 32, 32, 32, 32, 32, 32, 32, 32, 32, 32, 32, 32, 32, 32, 32, 32, 32, 32, 32, 32, 32, 32, 32, 32, 32, 32, 32, 32, 32, 32, 32, 32, 32, 32, 32, 32] a0) fun t54 =>
  strings_Repeat_j4 a0 t26 t54) (strings_Repeat_j4 a0 t26 false)) (strings_Repeat_j1 a0 t26)
noncomputable def strings_Repeat (a0 : (List UInt8)) (a1 : Int) : Option ((List UInt8)) :=
  cnd (decide (a1 = 0)) (some []) (cnd (decide (a1 = 1)) (some a0) (cnd (decide (a1 < 0)) (none) (bnd (math_bits_Mul (wU64 (a0.length : Int)) (wU64 a1)) fun t26 =>
  cnd (decide (0 < t26.1)) (none) (cnd (decide (9223372036854775807 < t26.2)) (none) (cnd (decide ((a0.length : Int) = 0)) (some []) (bnd (gOct a0 0) fun t42 =>
  cnd (decide (t42 = 32)) (strings_Repeat_j3 a0 t26 (decide (t42 = 32))) (cnd (decide (t42 = 45)) (strings_Repeat_j3 a0 t26 (decide (t42 = 45))) (cnd (decide (t42 = 48)) (strings_Repeat_j3 a0 t26 (decide (t42 = 48))) (cnd (decide (t42 = 61)) (strings_Repeat_j3 a0 t26 (decide (t42 = 61))) (strings_Repeat_j3 a0 t26 (decide (t42 = 9))))))))))))

/-! tintype/where.degrees -/
noncomputable def where_degrees_j1 (x0 : Int) (x3 : (List UInt8)) : Option ((List UInt8)) :=
  bnd (gRem x0 1000000) fun t10 =>
  bnd (strconv_Itoa t10) fun t11 =>
  bnd (gQuo x0 1000000) fun t14 =>
  bnd (strconv_Itoa t14) fun t15 =>
  bnd (gCat x3 t15) fun t16 =>
  bnd (gCat t16 [46]) fun t17 =>
  bnd (gI (6 - (t11.length : Int))) fun t20 =>
  bnd (strings_Repeat [48] t20) fun t21 =>
  bnd (gCat t17 t21) fun t22 =>
  bnd (gCat t22 t11) fun t24 =>
  some t24
noncomputable def where_degrees (a0 : Int) : Option ((List UInt8)) :=
  cnd (decide (a0 < 0)) (bnd (gI (-a0)) fun t8 =>
  where_degrees_j1 t8 [45]) (where_degrees_j1 a0 [])

/-! tintype/where.PlaceText -/
noncomputable def where_PlaceText (a0 : T_api_Place) : Option ((List UInt8) × Int) :=
  bnd (where_CheckPlace a0) fun t6 =>
  cnd (decide (t6 ≠ 0)) (some ([], t6)) (bnd (where_degrees a0.Lat) fun t12 =>
  bnd (gCat t12 [32]) fun t13 =>
  bnd (where_degrees a0.Lon) fun t16 =>
  bnd (gCat t13 t16) fun t17 =>
  some (t17, 0))

/-! tintype/tintkeep2.awakeWhere -/
noncomputable def Keep_awakeWhere  : Option (Bool) :=
  bnd (where_PlaceText (⟨0, 0⟩ : T_api_Place)) fun t5 =>
  cnd (decide (t5.2 = 0)) (some (decide (t5.1 = [48, 46, 48, 48, 48, 48, 48, 48, 32, 48, 46, 48, 48, 48, 48, 48, 48]))) (some false)

/-! tintype/where.CheckBox -/
noncomputable def where_CheckBox (a0 : T_where_Box) : Option (Int) :=
  bnd (where_isLat a0.South) fun t6 =>
  cnd (!t6) (some 2) (bnd (where_isLat a0.North) fun t11 =>
  cnd (!t11) (some 2) (bnd (where_isLon a0.West) fun t17 =>
  cnd (!t17) (some 2) (bnd (where_isLon a0.East) fun t23 =>
  cnd (!t23) (some 2) (cnd (decide (a0.North < a0.South)) (some 5) (some 0)))))

/-! (tintype/where.Box).quarter -/
noncomputable def where_Box_quarter_j2 (m : Int) (m_2 : Int) (m_3 : Int) (m_4 : Int) : Option (T_where_Box) :=
  some (⟨m, m_3, m_2, m_4⟩ : T_where_Box)
noncomputable def where_Box_quarter_j1 (a0 : T_where_Box) (a1 : Int) (t26 : Int) (m : Int) (m_2 : Int) : Option (T_where_Box) :=
  bnd (gRem a1 2) fun t35 =>
  cnd (decide (t35 = 1)) (where_Box_quarter_j2 m m_2 t26 a0.East) (bnd (gI (t26 - 1)) fun t40 =>
  where_Box_quarter_j2 m m_2 a0.West t40)
noncomputable def where_Box_quarter (a0 : T_where_Box) (a1 : Int) : Option (T_where_Box) :=
  bnd (gI (a0.North - a0.South)) fun t13 =>
  bnd (gI (t13 + 1)) fun t14 =>
  bnd (gQuo t14 2) fun t15 =>
  bnd (gI (a0.South + t15)) fun t16 =>
  bnd (gI (a0.East - a0.West)) fun t23 =>
  bnd (gI (t23 + 1)) fun t24 =>
  bnd (gQuo t24 2) fun t25 =>
  bnd (gI (a0.West + t25)) fun t26 =>
  cnd (decide (2 ≤ a1)) (where_Box_quarter_j1 a0 a1 t26 t16 a0.North) (bnd (gI (t16 - 1)) fun t32 =>
  where_Box_quarter_j1 a0 a1 t26 a0.South t32)

/-! tintype/where.eastward -/
noncomputable def where_eastward (a0 : Int) (a1 : Int) : Option (Int) :=
  bnd (gI (a1 - a0)) fun t7 =>
  bnd (gRem t7 360000000) fun t8 =>
  bnd (gI (t8 + 360000000)) fun t9 =>
  bnd (gRem t9 360000000) fun t10 =>
  some t10

/-! (tintype/where.Box).spans -/
noncomputable def where_Box_spans (a0 : T_where_Box) (a1 : Int) : Option (Bool) :=
  bnd (where_eastward a0.West a1) fun t8 =>
  bnd (where_eastward a0.West a0.East) fun t13 =>
  some (decide (t8 ≤ t13))

/-! tintype/where.meets -/
noncomputable def where_meets (a0 : T_where_Box) (a1 : T_where_Box) : Option (Bool) :=
  cnd (decide (a0.South ≤ a1.North)) (cnd (decide (a1.South ≤ a0.North)) (bnd (where_Box_spans a0 a1.West) fun t21 =>
  cnd t21 (some true) (bnd (where_Box_spans a1 a0.West) fun t26 =>
  some t26)) (some false)) (some false)

/-! tintype/where.cover -/
noncomputable def where_cover_l1 (a0 : T_where_Box) (a1 : (List UInt8)) (a2 : T_where_Box) (a3 : Int) (self : (T_where_Box × (List UInt8) × T_where_Box × Int × (List (List UInt8))) → Option ((List (List UInt8)))) (next1 : ((Int × (List (List UInt8))) → Option ((List (List UInt8))))) (x30_2 : Int) (l_2 : (List (List UInt8))) : Option ((List (List UInt8))) :=
  cnd (decide (x30_2 < 4)) (bnd (gI (48 + x30_2)) fun t36 =>
  bnd (gRune (wI32 t36)) fun t38 =>
  bnd (gCat a1 t38) fun t39 =>
  bnd (where_Box_quarter a2 x30_2) fun t42 =>
  bnd (self (a0, t39, t42, a3, l_2)) fun t45 =>
  bnd (gI (x30_2 + 1)) fun t46 =>
  next1 (t46, t45)) (some l_2)
noncomputable def where_cover_body (self : (T_where_Box × (List UInt8) × T_where_Box × Int × (List (List UInt8))) → Option ((List (List UInt8)))) (a0 : T_where_Box) (a1 : (List UInt8)) (a2 : T_where_Box) (a3 : Int) (a4 : (List (List UInt8))) : Option ((List (List UInt8))) :=
  cnd (decide (1000 < (a4.length : Int))) (some a4) (bnd (where_meets a2 a0) fun t18 =>
  cnd (!t18) (some a4) (cnd (decide ((a1.length : Int) = a3)) (bnd (gApp 16 a4 ([a1] : List (List UInt8))) fun l29 =>
  some l29) (fix (fun next1 s => where_cover_l1 a0 a1 a2 a3 self next1 s.1 s.2) (0, a4))))
noncomputable def where_cover (a0 : T_where_Box) (a1 : (List UInt8)) (a2 : T_where_Box) (a3 : Int) (a4 : (List (List UInt8))) : Option ((List (List UInt8))) :=
  fix (fun (self : (T_where_Box × (List UInt8) × T_where_Box × Int × (List (List UInt8))) → Option ((List (List UInt8)))) (s : T_where_Box × (List UInt8) × T_where_Box × Int × (List (List UInt8))) => where_cover_body self s.1 s.2.1 s.2.2.1 s.2.2.2.1 s.2.2.2.2) (a0, a1, a2, a3, a4)

/-! tintype/where.whole -/
noncomputable def where_whole  : Option (T_where_Box) :=
  some (⟨(-90000000), (-180000000), 90000000, 179999999⟩ : T_where_Box)

/-! tintype/where.Cover -/
noncomputable def where_Cover (a0 : T_where_Box) (a1 : Int) : Option ((List (List UInt8)) × Int) :=
  bnd (where_CheckBox a0) fun t9 =>
  cnd (decide (t9 ≠ 0)) (some (([] : List (List UInt8)), t9)) (bnd (where_outside a1 0 24) fun t14 =>
  cnd t14 (some (([] : List (List UInt8)), 2)) (bnd (where_whole) fun t16 =>
  bnd (where_cover a0 [] t16 a1 ([] : List (List UInt8))) fun t18 =>
  cnd (decide (1000 < (t18.length : Int))) (some (([] : List (List UInt8)), 4)) (some (t18, 0))))

/-! strings.trimLeftByte -/
noncomputable def strings_trimLeftByte_l1 (a1 : Int) (next1 : (((List UInt8)) → Option ((List UInt8)))) (x0_2 : (List UInt8)) : Option ((List UInt8)) :=
  cnd (decide (0 < (x0_2.length : Int))) (bnd (gOct x0_2 0) fun t10 =>
  cnd (decide (t10 = a1)) (bnd (gCut x0_2 1 x0_2.length) fun t15 =>
  next1 t15) (some x0_2)) (some x0_2)
noncomputable def strings_trimLeftByte (a0 : (List UInt8)) (a1 : Int) : Option ((List UInt8)) :=
  fix (fun next1 s => strings_trimLeftByte_l1 a1 next1 s) a0

/-! strings.trimRightByte -/
noncomputable def strings_trimRightByte_l1 (a1 : Int) (next1 : (((List UInt8)) → Option ((List UInt8)))) (x0_2 : (List UInt8)) : Option ((List UInt8)) :=
  cnd (decide (0 < (x0_2.length : Int))) (bnd (gI ((x0_2.length : Int) - 1)) fun t12 =>
  bnd (gOct x0_2 t12) fun t13 =>
  cnd (decide (t13 = a1)) (bnd (gI ((x0_2.length : Int) - 1)) fun t20 =>
  bnd (gCut x0_2 0 t20) fun t21 =>
  next1 t21) (some x0_2)) (some x0_2)
noncomputable def strings_trimRightByte (a0 : (List UInt8)) (a1 : Int) : Option ((List UInt8)) :=
  fix (fun next1 s => strings_trimRightByte_l1 a1 next1 s) a0

/-! strings.makeASCIISet -/
noncomputable def strings_makeASCIISet_j1 (m : (Nat → Bool)) : Option ((Nat → Bool) × Bool) :=
  some (m, true)
noncomputable def strings_makeASCIISet_l2 (a0 : (List UInt8)) (next2 : ((Int × (Nat → Bool)) → Option ((Nat → Bool) × Bool))) (x4_2 : Int) (m_3 : (Nat → Bool)) : Option ((Nat → Bool) × Bool) :=
  cnd (decide (x4_2 < (a0.length : Int))) (bnd (gOct a0 x4_2) fun t14 =>
  cnd (decide (128 ≤ t14)) (some (m_3, false)) (bnd (gIx 256 t14) fun k19 =>
  bnd (gI (x4_2 + 1)) fun t11 =>
  next2 (t11, (setA m_3 k19 true)))) (strings_makeASCIISet_j1 m_3)
noncomputable def strings_makeASCIISet (a0 : (List UInt8)) : Option ((Nat → Bool) × Bool) :=
  fix (fun next2 s => strings_makeASCIISet_l2 a0 next2 s.1 s.2) (0, (fun _ => false))

/-! (*strings.asciiSet).contains -/
noncomputable def strings_asciiSet_contains (a0 : (Nat → Bool)) (a1 : Int) : Option (Bool × (Nat → Bool)) :=
  bnd (gIx 256 a1) fun k8 =>
  some ((a0 k8), a0)

/-! strings.trimLeftASCII -/
noncomputable def strings_trimLeftASCII_l1 (next1 : (((List UInt8) × (Nat → Bool)) → Option ((List UInt8) × (Nat → Bool)))) (x0_2 : (List UInt8)) (m_2 : (Nat → Bool)) : Option ((List UInt8) × (Nat → Bool)) :=
  cnd (decide (0 < (x0_2.length : Int))) (bnd (gOct x0_2 0) fun t10 =>
  bnd (strings_asciiSet_contains m_2 t10) fun t11 =>
  cnd (!t11.1) (some (x0_2, t11.2)) (bnd (gCut x0_2 1 x0_2.length) fun t14 =>
  next1 (t14, t11.2))) (some (x0_2, m_2))
noncomputable def strings_trimLeftASCII (a0 : (List UInt8)) (a1 : (Nat → Bool)) : Option ((List UInt8) × (Nat → Bool)) :=
  fix (fun next1 s => strings_trimLeftASCII_l1 next1 s.1 s.2) (a0, a1)

/-! strings.trimRightASCII -/
noncomputable def strings_trimRightASCII_l1 (next1 : (((List UInt8) × (Nat → Bool)) → Option ((List UInt8) × (Nat → Bool)))) (x0_2 : (List UInt8)) (m_2 : (Nat → Bool)) : Option ((List UInt8) × (Nat → Bool)) :=
  cnd (decide (0 < (x0_2.length : Int))) (bnd (gI ((x0_2.length : Int) - 1)) fun t12 =>
  bnd (gOct x0_2 t12) fun t13 =>
  bnd (strings_asciiSet_contains m_2 t13) fun t14 =>
  cnd (!t14.1) (some (x0_2, t14.2)) (bnd (gI ((x0_2.length : Int) - 1)) fun t19 =>
  bnd (gCut x0_2 0 t19) fun t20 =>
  next1 (t20, t14.2))) (some (x0_2, m_2))
noncomputable def strings_trimRightASCII (a0 : (List UInt8)) (a1 : (Nat → Bool)) : Option ((List UInt8) × (Nat → Bool)) :=
  fix (fun next1 s => strings_trimRightASCII_l1 next1 s.1 s.2) (a0, a1)

/-! unicode/utf8.decodeRuneInStringSlow -/
noncomputable def unicode_utf8_decodeRuneInStringSlow (a0 : (List UInt8)) : Option (Int × Int) :=
  cnd (decide ((a0.length : Int) < 1)) (some (65533, 0)) (none)

/-! unicode/utf8.DecodeRuneInString -/
noncomputable def unicode_utf8_DecodeRuneInString_j1 (a0 : (List UInt8)) (x10 : Bool) : Option (Int × Int) :=
  cnd x10 (bnd (gOct a0 0) fun t12 =>
  bnd (gK (-2147483648) 2147483647 t12) fun t13 =>
  some (t13, 1)) (bnd (unicode_utf8_decodeRuneInStringSlow a0) fun t16 =>
  some (t16.1, t16.2))
noncomputable def unicode_utf8_DecodeRuneInString (a0 : (List UInt8)) : Option (Int × Int) :=
  cnd (decide (a0 ≠ [])) (bnd (gOct a0 0) fun t8 =>
  unicode_utf8_DecodeRuneInString_j1 a0 (decide (t8 < 128))) (unicode_utf8_DecodeRuneInString_j1 a0 false)

/-! unicode/utf8.ValidRune -/
noncomputable def unicode_utf8_ValidRune_j1 (a0 : Int) (x3 : Bool) : Option (Bool) :=
  cnd x3 (some true) (cnd (decide (57343 < a0)) (cnd (decide (a0 ≤ 1114111)) (some true) (some false)) (some false))
noncomputable def unicode_utf8_ValidRune (a0 : Int) : Option (Bool) :=
  cnd (decide (0 ≤ a0)) (unicode_utf8_ValidRune_j1 a0 (decide (a0 < 55296))) (unicode_utf8_ValidRune_j1 a0 false)

/-! internal/bytealg.Cutover -/
noncomputable def internal_bytealg_Cutover (a0 : Int) : Option (Int) :=
  bnd (gI (a0 + 16)) fun t4 =>
  bnd (gQuo t4 8) fun t5 =>
  some t5

/-! strings.IndexRune -/
noncomputable def strings_IndexRune_l2 (a0 : (List UInt8)) (next2 : ((Nat) → Option (Int))) (k_2 : Nat) : Option (Int) :=
  cnd (decide (k_2 < a0.length)) (bnd (gNx a0 k_2) fun t176 =>
  cnd (decide (t176 = 65533)) (some ((k_2 : Nat) : Int)) (next2 (k_2 + 1))) (some (-1))
noncomputable def strings_IndexRune_j1 (a0 : (List UInt8)) (a1 : Int) (x160 : Bool) : Option (Int) :=
  cnd x160 (none) (cnd (decide (a1 = 65533)) (fix (fun next2 s => strings_IndexRune_l2 a0 next2 s) 0) (bnd (unicode_utf8_ValidRune a1) fun t185 =>
  cnd (!t185) (some (-1)) (none)))
noncomputable def strings_IndexRune (a0 : (List UInt8)) (a1 : Int) : Option (Int) :=
  cnd (decide (0 ≤ a1)) (strings_IndexRune_j1 a0 a1 (decide (a1 < 128))) (strings_IndexRune_j1 a0 a1 false)

/-! strings.ContainsRune -/
noncomputable def strings_ContainsRune (a0 : (List UInt8)) (a1 : Int) : Option (Bool) :=
  bnd (strings_IndexRune a0 a1) fun t7 =>
  some (decide (0 ≤ t7))

/-! strings.trimLeftUnicode -/
noncomputable def strings_trimLeftUnicode_l1 (a1 : (List UInt8)) (next1 : (((List UInt8)) → Option ((List UInt8)))) (x0_2 : (List UInt8)) : Option ((List UInt8)) :=
  cnd (decide (0 < (x0_2.length : Int))) (bnd (unicode_utf8_DecodeRuneInString x0_2) fun t12 =>
  bnd (strings_ContainsRune a1 t12.1) fun t17 =>
  cnd (!t17) (some x0_2) (bnd (gCut x0_2 t12.2 x0_2.length) fun t21 =>
  next1 t21)) (some x0_2)
noncomputable def strings_trimLeftUnicode (a0 : (List UInt8)) (a1 : (List UInt8)) : Option ((List UInt8)) :=
  fix (fun next1 s => strings_trimLeftUnicode_l1 a1 next1 s) a0

/-! unicode/utf8.RuneStart -/
noncomputable def unicode_utf8_RuneStart (a0 : Int) : Option (Bool) :=
  some (decide ((wU8 (bAnd 8 a0 192)) ≠ 128))

/-! unicode/utf8.DecodeLastRuneInString -/
noncomputable def unicode_utf8_DecodeLastRuneInString_j2 (a0 : (List UInt8)) (x5_2 : Int) : Option (Int × Int) :=
  bnd (gCut a0 x5_2 (a0.length : Int)) fun t40 =>
  bnd (unicode_utf8_DecodeRuneInString t40) fun t41 =>
  bnd (gI (x5_2 + t41.2)) fun t46 =>
  cnd (decide (t46 ≠ (a0.length : Int))) (some (65533, 1)) (some (t41.1, t41.2))
noncomputable def unicode_utf8_DecodeLastRuneInString_j1 (a0 : (List UInt8)) (x5 : Int) : Option (Int × Int) :=
  cnd (decide (x5 < 0)) (unicode_utf8_DecodeLastRuneInString_j2 a0 0) (unicode_utf8_DecodeLastRuneInString_j2 a0 x5)
noncomputable def unicode_utf8_DecodeLastRuneInString_l3 (a0 : (List UInt8)) (t21 : Int) (next3 : ((Int) → Option (Int × Int))) (x5_4 : Int) : Option (Int × Int) :=
  cnd (decide ((max t21 0) ≤ x5_4)) (bnd (gOct a0 x5_4) fun t32 =>
  bnd (unicode_utf8_RuneStart t32) fun t33 =>
  cnd t33 (unicode_utf8_DecodeLastRuneInString_j1 a0 x5_4) (bnd (gI (x5_4 - 1)) fun t29 =>
  next3 t29)) (unicode_utf8_DecodeLastRuneInString_j1 a0 x5_4)
noncomputable def unicode_utf8_DecodeLastRuneInString (a0 : (List UInt8)) : Option (Int × Int) :=
  cnd (decide ((a0.length : Int) = 0)) (some (65533, 0)) (bnd (gI ((a0.length : Int) - 1)) fun t12 =>
  bnd (gOct a0 t12) fun t15 =>
  bnd (gK (-2147483648) 2147483647 t15) fun t16 =>
  cnd (decide (t16 < 128)) (some (t16, 1)) (bnd (gI ((a0.length : Int) - 4)) fun t21 =>
  bnd (gI (t12 - 1)) fun t24 =>
  fix (fun next3 s => unicode_utf8_DecodeLastRuneInString_l3 a0 t21 next3 s) t24))

/-! strings.trimRightUnicode -/
noncomputable def strings_trimRightUnicode_j2 (a1 : (List UInt8)) (x0_2 : (List UInt8)) (next1 : (((List UInt8)) → Option ((List UInt8)))) (x5 : Int) (x6 : Int) : Option ((List UInt8)) :=
  bnd (strings_ContainsRune a1 x5) fun t25 =>
  cnd (!t25) (some x0_2) (bnd (gI ((x0_2.length : Int) - x6)) fun t31 =>
  bnd (gCut x0_2 0 t31) fun t32 =>
  next1 t32)
noncomputable def strings_trimRightUnicode_l1 (a1 : (List UInt8)) (next1 : (((List UInt8)) → Option ((List UInt8)))) (x0_2 : (List UInt8)) : Option ((List UInt8)) :=
  cnd (decide (0 < (x0_2.length : Int))) (bnd (gI ((x0_2.length : Int) - 1)) fun t13 =>
  bnd (gOct x0_2 t13) fun t14 =>
  bnd (gK (-2147483648) 2147483647 t14) fun t15 =>
  cnd (decide (128 ≤ t15)) (bnd (unicode_utf8_DecodeLastRuneInString x0_2) fun t20 =>
  strings_trimRightUnicode_j2 a1 x0_2 next1 t20.1 t20.2) (strings_trimRightUnicode_j2 a1 x0_2 next1 t15 1)) (some x0_2)
noncomputable def strings_trimRightUnicode (a0 : (List UInt8)) (a1 : (List UInt8)) : Option ((List UInt8)) :=
  fix (fun next1 s => strings_trimRightUnicode_l1 a1 next1 s) a0

/-! strings.Trim -/
noncomputable def strings_Trim_j1 (a0 : (List UInt8)) (a1 : (List UInt8)) : Option ((List UInt8)) :=
  bnd (strings_makeASCIISet a1) fun t31 =>
  cnd t31.2 (bnd (strings_trimRightASCII a0 t31.1) fun t36 =>
  bnd (strings_trimLeftASCII t36.1 t36.2) fun t37 =>
  some t37.1) (bnd (strings_trimRightUnicode a0 a1) fun t40 =>
  bnd (strings_trimLeftUnicode t40 a1) fun t42 =>
  some t42)
noncomputable def strings_Trim (a0 : (List UInt8)) (a1 : (List UInt8)) : Option ((List UInt8)) :=
  cnd (decide (a0 = [])) (some a0) (cnd (decide (a1 = [])) (some a0) (cnd (decide ((a1.length : Int) = 1)) (bnd (gOct a1 0) fun t19 =>
  cnd (decide (t19 < 128)) (bnd (gOct a1 0) fun t24 =>
  bnd (strings_trimRightByte a0 t24) fun t25 =>
  bnd (gOct a1 0) fun t27 =>
  bnd (strings_trimLeftByte t25 t27) fun t28 =>
  some t28) (strings_Trim_j1 a0 a1)) (strings_Trim_j1 a0 a1)))

/-! tintype/where.checkCell -/
noncomputable def where_checkCell (a0 : (List UInt8)) : Option (Int) :=
  cnd (decide (24 < (a0.length : Int))) (some 4) (bnd (strings_Trim a0 [48, 49, 50, 51]) fun t9 =>
  cnd (decide (t9 ≠ [])) (some 8) (some 0))

/-! tintype/where.BoxOf -/
noncomputable def where_BoxOf_j1 (m : Int) (m_2 : Int) (m_3 : Int) (m_4 : Int) : Option (T_where_Box × Int) :=
  some ((⟨m, m_2, m_3, m_4⟩ : T_where_Box), 0)
noncomputable def where_BoxOf_l2 (a0 : (List UInt8)) (next2 : ((Int × Int × Int × Int × Int) → Option (T_where_Box × Int))) (x16_2 : Int) (m_9 : Int) (m_10 : Int) (m_11 : Int) (m_12 : Int) : Option (T_where_Box × Int) :=
  cnd (decide (x16_2 < (a0.length : Int))) (bnd (gOct a0 x16_2) fun t22 =>
  bnd (gK (-9223372036854775808) 9223372036854775807 (wU8 (t22 - 48))) fun t24 =>
  bnd (where_Box_quarter (⟨m_9, m_10, m_11, m_12⟩ : T_where_Box) t24) fun t25 =>
  bnd (gI (x16_2 + 1)) fun t26 =>
  next2 (t26, t25.South, t25.West, t25.North, t25.East)) (where_BoxOf_j1 m_9 m_10 m_11 m_12)
noncomputable def where_BoxOf (a0 : (List UInt8)) : Option (T_where_Box × Int) :=
  bnd (where_checkCell a0) fun t8 =>
  cnd (decide (t8 ≠ 0)) (some ((⟨0, 0, 0, 0⟩ : T_where_Box), t8)) (bnd (where_whole) fun t13 =>
  fix (fun next2 s => where_BoxOf_l2 a0 next2 s.1 s.2.1 s.2.2.1 s.2.2.2.1 s.2.2.2.2) (0, t13.South, t13.West, t13.North, t13.East))

/-! tintype/where.Meets -/
noncomputable def where_Meets_j1 (a0 : T_where_Box) (a1 : T_where_Box) : Option (Bool × Int) :=
  bnd (where_meets a0 a1) fun t25 =>
  some (t25, 0)
noncomputable def where_Meets_l2 (a0 : T_where_Box) (a1 : T_where_Box) (next2 : ((Int) → Option (Bool × Int))) (x13_2 : Int) : Option (Bool × Int) :=
  cnd (decide (x13_2 < 2)) (bnd (gAt ([a0, a1] : List T_where_Box) x13_2) fun t15 =>
  bnd (where_CheckBox t15) fun t18 =>
  cnd (decide (t18 ≠ 0)) (some (false, t18)) (bnd (gI (x13_2 + 1)) fun t22 =>
  next2 t22)) (where_Meets_j1 a0 a1)
noncomputable def where_Meets (a0 : T_where_Box) (a1 : T_where_Box) : Option (Bool × Int) :=
  fix (fun next2 s => where_Meets_l2 a0 a1 next2 s) 0

/-! tintype/where.In -/
noncomputable def where_In (a0 : T_where_Box) (a1 : T_api_Place) : Option (Bool × Int) :=
  bnd (where_CheckBox a0) fun t9 =>
  cnd (decide (t9 ≠ 0)) (some (false, t9)) (bnd (where_CheckPlace a1) fun t14 =>
  cnd (decide (t14 ≠ 0)) (some (false, t14)) (bnd (where_outside a1.Lat a0.South a0.North) fun t24 =>
  cnd (!t24) (bnd (where_Box_spans a0 a1.Lon) fun t30 =>
  some (t30, 0)) (some (false, 0))))

/-! tintype/where.Cell -/
noncomputable def where_Cell_j1 (a1 : Int) (m : (Nat → Int)) : Option ((List UInt8) × Int) :=
  bnd (gCutA 24 m a1) fun t57 =>
  some ((toStr t57), 0)
noncomputable def where_Cell_j3 (x21_2 : Int) (next2 : ((Int × (Nat → Int) × Int × Int × Int × Int) → Option ((List UInt8) × Int))) (m_12 : (Nat → Int)) (m_13 : Int) (m_14 : Int) (m_15 : Int) (m_16 : Int) : Option ((List UInt8) × Int) :=
  bnd (gI (x21_2 + 1)) fun t55 =>
  next2 (t55, m_12, m_13, m_14, m_15, m_16)
noncomputable def where_Cell_j5 (x24_2 : Int) (next4 : ((Int) → Option ((List UInt8) × Int))) : Option ((List UInt8) × Int) :=
  bnd (gI (x24_2 + 1)) fun t54 =>
  next4 t54
noncomputable def where_Cell_l4 (a0 : T_api_Place) (x21_2 : Int) (m_7 : (Nat → Int)) (m_8 : Int) (m_9 : Int) (m_10 : Int) (m_11 : Int) (next2 : ((Int × (Nat → Int) × Int × Int × Int × Int) → Option ((List UInt8) × Int))) (next4 : ((Int) → Option ((List UInt8) × Int))) (x24_2 : Int) : Option ((List UInt8) × Int) :=
  cnd (decide (x24_2 < 4)) (bnd (where_Box_quarter (⟨m_8, m_9, m_10, m_11⟩ : T_where_Box) x24_2) fun t29 =>
  bnd (where_outside a0.Lat t29.South t29.North) fun t36 =>
  cnd (!t36) (bnd (where_outside a0.Lon t29.West t29.East) fun t45 =>
  cnd (!t45) (bnd (gI (48 + x24_2)) fun t50 =>
  bnd (gIx 24 x21_2) fun k53 =>
  where_Cell_j3 x21_2 next2 (setA m_7 k53 (wU8 t50)) t29.South t29.West t29.North t29.East) (where_Cell_j5 x24_2 next4)) (where_Cell_j5 x24_2 next4)) (where_Cell_j3 x21_2 next2 m_7 m_8 m_9 m_10 m_11)
noncomputable def where_Cell_l2 (a0 : T_api_Place) (a1 : Int) (next2 : ((Int × (Nat → Int) × Int × Int × Int × Int) → Option ((List UInt8) × Int))) (x21_2 : Int) (m_7 : (Nat → Int)) (m_8 : Int) (m_9 : Int) (m_10 : Int) (m_11 : Int) : Option ((List UInt8) × Int) :=
  cnd (decide (x21_2 < a1)) (fix (fun next4 s => where_Cell_l4 a0 x21_2 m_7 m_8 m_9 m_10 m_11 next2 next4 s) 0) (where_Cell_j1 a1 m_7)
noncomputable def where_Cell (a0 : T_api_Place) (a1 : Int) : Option ((List UInt8) × Int) :=
  bnd (where_CheckPlace a0) fun t13 =>
  cnd (decide (t13 ≠ 0)) (some ([], t13)) (bnd (where_outside a1 0 24) fun t18 =>
  cnd t18 (some ([], 2)) (bnd (where_whole) fun t19 =>
  fix (fun next2 s => where_Cell_l2 a0 a1 next2 s.1 s.2.1 s.2.2.1 s.2.2.2.1 s.2.2.2.2.1 s.2.2.2.2.2) (0, (fun _ => 0), t19.South, t19.West, t19.North, t19.East)))

/-! slices.Index[[]string,string] -/
noncomputable def slices_Index_string_l1 (a0 : (List (List UInt8))) (a1 : (List UInt8)) (next1 : ((Int) → Option (Int))) (x8_2 : Int) : Option (Int) :=
  cnd (decide (x8_2 < (a0.length : Int))) (bnd (gAt a0 x8_2) fun t14 =>
  cnd (decide (a1 = t14)) (some x8_2) (bnd (gI (x8_2 + 1)) fun t18 =>
  next1 t18)) (some (-1))
noncomputable def slices_Index_string (a0 : (List (List UInt8))) (a1 : (List UInt8)) : Option (Int) :=
  fix (fun next1 s => slices_Index_string_l1 a0 a1 next1 s) 0

/-! slices.Contains[[]string,string] -/
noncomputable def slices_Contains_string (a0 : (List (List UInt8))) (a1 : (List UInt8)) : Option (Bool) :=
  bnd (slices_Index_string a0 a1) fun t7 =>
  some (decide (0 ≤ t7))

/-! cmp.isNaN[string] -/
noncomputable def cmp_isNaN_string (a0 : (List UInt8)) : Option (Bool) :=
  some (decide (a0 ≠ a0))

/-! cmp.Less[string] -/
noncomputable def cmp_Less_string (a0 : (List UInt8)) (a1 : (List UInt8)) : Option (Bool) :=
  bnd (cmp_isNaN_string a0) fun t6 =>
  cnd t6 (bnd (cmp_isNaN_string a1) fun t9 =>
  cnd (!t9) (some true) (some (ltB a0 a1))) (some (ltB a0 a1))

/-! slices.IsSorted[[]string,string] -/
noncomputable def slices_IsSorted_string_l1 (a0 : (List (List UInt8))) (next1 : ((Int) → Option (Bool))) (x3_2 : Int) : Option (Bool) :=
  cnd (decide (0 < x3_2)) (bnd (gAt a0 x3_2) fun t13 =>
  bnd (gI (x3_2 - 1)) fun t17 =>
  bnd (gAt a0 t17) fun t18 =>
  bnd (cmp_Less_string t13 t18) fun t20 =>
  cnd t20 (some false) (bnd (gI (x3_2 - 1)) fun t10 =>
  next1 t10)) (some true)
noncomputable def slices_IsSorted_string (a0 : (List (List UInt8))) : Option (Bool) :=
  bnd (gI ((a0.length : Int) - 1)) fun t6 =>
  fix (fun next1 s => slices_IsSorted_string_l1 a0 next1 s) t6

/-! tintype/tintkeep2.WhereCoversAll -/
noncomputable def Keep_WhereCoversAll_j1 (a0 : T_where_Box) (a1 : Int) (a2 : T_api_Place) (t22 : ((List (List UInt8)) × Int)) : Option (Bool) :=
  bnd (where_In a0 a2) fun t56 =>
  cnd (decide (t56.2 ≠ 0)) (some true) (cnd (!t56.1) (some true) (bnd (where_Cell a2 a1) fun t68 =>
  cnd (decide (t68.2 = 0)) (bnd (slices_Contains_string t22.1 t68.1) fun t76 =>
  cnd t76 (bnd (slices_IsSorted_string t22.1) fun t80 =>
  some t80) (some false)) (some false)))
noncomputable def Keep_WhereCoversAll_l2 (a0 : T_where_Box) (a1 : Int) (a2 : T_api_Place) (t22 : ((List (List UInt8)) × Int)) (next2 : ((Int) → Option (Bool))) (x29_2 : Int) : Option (Bool) :=
  cnd (decide (x29_2 < (t22.1.length : Int))) (bnd (gAt t22.1 x29_2) fun t31 =>
  bnd (where_BoxOf t31) fun t35 =>
  cnd (decide (t35.2 ≠ 0)) (some false) (bnd (where_Meets a0 t35.1) fun t43 =>
  cnd (decide (t43.2 ≠ 0)) (some false) (cnd (!t43.1) (some false) (bnd (gI (x29_2 + 1)) fun t52 =>
  next2 t52)))) (Keep_WhereCoversAll_j1 a0 a1 a2 t22)
noncomputable def Keep_WhereCoversAll (a0 : T_where_Box) (a1 : Int) (a2 : T_api_Place) : Option (Bool) :=
  bnd (Keep_awakeWhere) fun t17 =>
  cnd (!t17) (some false) (bnd (where_Cover a0 a1) fun t22 =>
  cnd (decide (t22.2 ≠ 0)) (some true) (fix (fun next2 s => Keep_WhereCoversAll_l2 a0 a1 a2 t22 next2 s) 0))

end Go.M
