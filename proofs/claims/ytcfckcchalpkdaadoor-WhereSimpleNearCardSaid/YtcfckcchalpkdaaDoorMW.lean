/- Where: the models, printed by our generator from the compiled program. Conditions: none. -/
import Derived.Test.YtcfckcchalpkdaaDoorFl
namespace Go.M
open Go.Md
set_option maxRecDepth 100000
set_option linter.unusedVariables false

structure T_api_Place where
  Lat : Int
  Lon : Int
instance : Inhabited T_api_Place := ⟨⟨0, 0⟩⟩

structure T_where_Fix where
  Moment : Int
  Place : T_api_Place
instance : Inhabited T_where_Fix := ⟨⟨0, default⟩⟩

structure T_where_part where
  end_ : ((List T_where_Fix) → Int → Option (Int))
  counts_ : ((List T_where_Fix) → Int → Int → Option (Bool))
  step_ : (Int → Int → Option (Int))
  place_ : ((List T_api_Place) → Option (T_api_Place))
instance : Inhabited T_where_part := ⟨⟨fun _ _ => none, fun _ _ _ => none, fun _ _ => none, fun _ => none⟩⟩

structure T_where_Stop where
  From : Int
  To : Int
  Place : T_api_Place
instance : Inhabited T_where_Stop := ⟨⟨0, 0, default⟩⟩

def eq_where_Fix (x y : T_where_Fix) : Bool := decide (x.Moment = y.Moment ∧ (x.Place.Lat = y.Place.Lat ∧ x.Place.Lon = y.Place.Lon))

/-! tintype/where.outside -/
noncomputable def where_outside (a0 : Int) (a1 : Int) (a2 : Int) : Option (Bool) :=
  cnd (decide (a0 < a1)) (some true) (some (decide (a2 < a0)))

/-! tintype/where.isLat -/
noncomputable def where_isLat (a0 : Int) : Option (Bool) :=
  bnd (where_outside a0 (-90000000) 90000000) fun t4 =>
  some (!t4)

/-! tintype/where.isLon -/
noncomputable def where_isLon (a0 : Int) : Option (Bool) :=
  bnd (where_outside a0 (-180000000) 179999999) fun t4 =>
  some (!t4)

/-! tintype/where.CheckPlace -/
noncomputable def where_CheckPlace (a0 : T_api_Place) : Option (Int) :=
  bnd (where_isLat a0.Lat) fun t5 =>
  cnd (!t5) (some 2) (bnd (where_isLon a0.Lon) fun t10 =>
  cnd (!t10) (some 2) (some 0))

/-! internal/strconv.small -/
noncomputable def internal_strconv_small (a0 : Int) : Option ((List UInt8)) :=
  cnd (decide (a0 < 10)) (bnd (gI (a0 + 1)) fun t7 =>
  bnd (gCut [48, 49, 50, 51, 52, 53, 54, 55, 56, 57, 97, 98, 99, 100, 101, 102, 103, 104, 105, 106, 107, 108, 109, 110, 111, 112, 113, 114, 115, 116, 117, 118, 119, 120, 121, 122] a0 t7) fun t8 =>
  some t8) (bnd (gI (a0 * 2)) fun t10 =>
  bnd (gI (a0 * 2)) fun t12 =>
  bnd (gI (t12 + 2)) fun t13 =>
  bnd (gCut [48, 48, 48, 49, 48, 50, 48, 51, 48, 52, 48, 53, 48, 54, 48, 55, 48, 56, 48, 57, 49, 48, 49, 49, 49, 50, 49, 51, 49, 52, 49, 53, 49, 54, 49, 55, 49, 56, 49, 57, 50, 48, 50, 49, 50, 50, 50, 51, 50, 52, 50, 53, 50, 54, 50, 55, 50, 56, 50, 57, 51, 48, 51, 49, 51, 50, 51, 51, 51, 52, 51, 53, 51, 54, 51, 55, 51, 56, 51, 57, 52, 48, 52, 49, 52, 50, 52, 51, 52, 52, 52, 53, 52, 54, 52, 55, 52, 56, 52, 57, 53, 48, 53, 49, 53, 50, 53, 51, 53, 52, 53, 53, 53, 54, 53, 55, 53, 56, 53, 57, 54, 48, 54, 49, 54, 50, 54, 51, 54, 52, 54, 53, 54, 54, 54, 55, 54, 56, 54, 57, 55, 48, 55, 49, 55, 50, 55, 51, 55, 52, 55, 53, 55, 54, 55, 55, 55, 56, 55, 57, 56, 48, 56, 49, 56, 50, 56, 51, 56, 52, 56, 53, 56, 54, 56, 55, 56, 56, 56, 57, 57, 48, 57, 49, 57, 50, 57, 51, 57, 52, 57, 53, 57, 54, 57, 55, 57, 56, 57, 57] t10 t13) fun t14 =>
  some t14)

/-! math/bits.Len64 -/
noncomputable def math_bits_Len64_j3 (x0_3 : Int) (x2_3 : Int) : Option (Int) :=
  bnd (gOct [0, 1, 2, 2, 3, 3, 3, 3, 4, 4, 4, 4, 4, 4, 4, 4, 5, 5, 5, 5, 5, 5, 5, 5, 5, 5, 5, 5, 5, 5, 5, 5, 6, 6, 6, 6, 6, 6, 6, 6, 6, 6, 6, 6, 6, 6, 6, 6, 6, 6, 6, 6, 6, 6, 6, 6, 6, 6, 6, 6, 6, 6, 6, 6, 7, 7, 7, 7, 7, 7, 7, 7, 7, 7, 7, 7, 7, 7, 7, 7, 7, 7, 7, 7, 7, 7, 7, 7, 7, 7, 7, 7, 7, 7, 7, 7, 7, 7, 7, 7, 7, 7, 7, 7, 7, 7, 7, 7, 7, 7, 7, 7, 7, 7, 7, 7, 7, 7, 7, 7, 7, 7, 7, 7, 7, 7, 7, 7, 8, 8, 8, 8, 8, 8, 8, 8, 8, 8, 8, 8, 8, 8, 8, 8, 8, 8, 8, 8, 8, 8, 8, 8, 8, 8, 8, 8, 8, 8, 8, 8, 8, 8, 8, 8, 8, 8, 8, 8, 8, 8, 8, 8, 8, 8, 8, 8, 8, 8, 8, 8, 8, 8, 8, 8, 8, 8, 8, 8, 8, 8, 8, 8, 8, 8, 8, 8, 8, 8, 8, 8, 8, 8, 8, 8, 8, 8, 8, 8, 8, 8, 8, 8, 8, 8, 8, 8, 8, 8, 8, 8, 8, 8, 8, 8, 8, 8, 8, 8, 8, 8, 8, 8, 8, 8, 8, 8, 8, 8, 8, 8, 8, 8, 8, 8, 8, 8, 8, 8, 8, 8, 8, 8, 8, 8, 8, 8] (wU8 x0_3)) fun t22 =>
  bnd (gK (-9223372036854775808) 9223372036854775807 t22) fun t23 =>
  bnd (gI (x2_3 + t23)) fun t24 =>
  some t24
noncomputable def math_bits_Len64_j2 (x0_2 : Int) (x2_2 : Int) : Option (Int) :=
  cnd (decide (256 ≤ x0_2)) (bnd (gShr 64 x0_2 8) fun t16 =>
  bnd (gI (x2_2 + 8)) fun t18 =>
  math_bits_Len64_j3 t16 t18) (math_bits_Len64_j3 x0_2 x2_2)
noncomputable def math_bits_Len64_j1 (x0 : Int) (x2 : Int) : Option (Int) :=
  cnd (decide (65536 ≤ x0)) (bnd (gShr 64 x0 16) fun t10 =>
  bnd (gI (x2 + 16)) fun t12 =>
  math_bits_Len64_j2 t10 t12) (math_bits_Len64_j2 x0 x2)
noncomputable def math_bits_Len64 (a0 : Int) : Option (Int) :=
  cnd (decide (4294967296 ≤ a0)) (bnd (gShr 64 a0 32) fun t6 =>
  math_bits_Len64_j1 t6 32) (math_bits_Len64_j1 a0 0)

/-! internal/strconv.log10Pow2 -/
noncomputable def internal_strconv_log10Pow2 (a0 : Int) : Option (Int) :=
  bnd (gI (a0 * 78913)) fun t4 =>
  bnd (gShr 64 t4 18) fun t5 =>
  some t5

/-! internal/strconv.bool2[int] -/
noncomputable def internal_strconv_bool2_int (a0 : Bool) : Option (Int) :=
  cnd a0 (some 1) (some 0)

/-! internal/strconv.formatBase10 -/
noncomputable def internal_strconv_formatBase10_j3 (x4_3 : Int) (x12_2 : Int) (l_3 : (List Int)) : Option ((List Int)) :=
  cnd (decide (0 < x4_3)) (bnd (gAt l_3 0) fun t166 =>
  bnd (gSet l_3 0 (wU8 (wU32 (48 + x12_2)))) fun l0 =>
  some l0) (some l_3)
noncomputable def internal_strconv_formatBase10_j2 (x4_2 : Int) (x12 : Int) (l_2 : (List Int)) : Option ((List Int)) :=
  cnd (decide (2 ≤ x4_2)) (bnd (gRem x12 100) fun t141 =>
  bnd (gQuoU 32 x12 100) fun t144 =>
  bnd (gI (x4_2 - 1)) fun t147 =>
  bnd (gI (x4_2 - 2)) fun t150 =>
  bnd (gOct [48, 48, 48, 49, 48, 50, 48, 51, 48, 52, 48, 53, 48, 54, 48, 55, 48, 56, 48, 57, 49, 48, 49, 49, 49, 50, 49, 51, 49, 52, 49, 53, 49, 54, 49, 55, 49, 56, 49, 57, 50, 48, 50, 49, 50, 50, 50, 51, 50, 52, 50, 53, 50, 54, 50, 55, 50, 56, 50, 57, 51, 48, 51, 49, 51, 50, 51, 51, 51, 52, 51, 53, 51, 54, 51, 55, 51, 56, 51, 57, 52, 48, 52, 49, 52, 50, 52, 51, 52, 52, 52, 53, 52, 54, 52, 55, 52, 56, 52, 57, 53, 48, 53, 49, 53, 50, 53, 51, 53, 52, 53, 53, 53, 54, 53, 55, 53, 56, 53, 57, 54, 48, 54, 49, 54, 50, 54, 51, 54, 52, 54, 53, 54, 54, 54, 55, 54, 56, 54, 57, 55, 48, 55, 49, 55, 50, 55, 51, 55, 52, 55, 53, 55, 54, 55, 55, 55, 56, 55, 57, 56, 48, 56, 49, 56, 50, 56, 51, 56, 52, 56, 53, 56, 54, 56, 55, 56, 56, 56, 57, 57, 48, 57, 49, 57, 50, 57, 51, 57, 52, 57, 53, 57, 54, 57, 55, 57, 56, 57, 57] (wU32 ((wU32 (t141 * 2)) + 1))) fun t153 =>
  bnd (gOct [48, 48, 48, 49, 48, 50, 48, 51, 48, 52, 48, 53, 48, 54, 48, 55, 48, 56, 48, 57, 49, 48, 49, 49, 49, 50, 49, 51, 49, 52, 49, 53, 49, 54, 49, 55, 49, 56, 49, 57, 50, 48, 50, 49, 50, 50, 50, 51, 50, 52, 50, 53, 50, 54, 50, 55, 50, 56, 50, 57, 51, 48, 51, 49, 51, 50, 51, 51, 51, 52, 51, 53, 51, 54, 51, 55, 51, 56, 51, 57, 52, 48, 52, 49, 52, 50, 52, 51, 52, 52, 52, 53, 52, 54, 52, 55, 52, 56, 52, 57, 53, 48, 53, 49, 53, 50, 53, 51, 53, 52, 53, 53, 53, 54, 53, 55, 53, 56, 53, 57, 54, 48, 54, 49, 54, 50, 54, 51, 54, 52, 54, 53, 54, 54, 54, 55, 54, 56, 54, 57, 55, 48, 55, 49, 55, 50, 55, 51, 55, 52, 55, 53, 55, 54, 55, 55, 55, 56, 55, 57, 56, 48, 56, 49, 56, 50, 56, 51, 56, 52, 56, 53, 56, 54, 56, 55, 56, 56, 56, 57, 57, 48, 57, 49, 57, 50, 57, 51, 57, 52, 57, 53, 57, 54, 57, 55, 57, 56, 57, 57] (wU32 (t141 * 2))) fun t155 =>
  bnd (gAt l_2 t147) fun t156 =>
  bnd (gSet l_2 t147 t153) fun l0_2 =>
  bnd (gAt l0_2 t150) fun t157 =>
  bnd (gSet l0_2 t150 t155) fun l0_3 =>
  bnd (gI (x4_2 - 2)) fun t159 =>
  internal_strconv_formatBase10_j3 t159 t144 l0_3) (internal_strconv_formatBase10_j3 x4_2 x12 l_2)
noncomputable def internal_strconv_formatBase10_j1 (x1 : Int) (x4 : Int) (l : (List Int)) : Option ((List Int)) :=
  cnd (decide (4 ≤ x4)) (bnd (gRem (wU32 x1) 10000) fun t101 =>
  bnd (gQuoU 32 (wU32 x1) 10000) fun t103 =>
  bnd (gQuoU 32 t101 100) fun t105 =>
  bnd (gRem t101 100) fun t108 =>
  bnd (gI (x4 - 1)) fun t112 =>
  bnd (gI (x4 - 2)) fun t115 =>
  bnd (gOct [48, 48, 48, 49, 48, 50, 48, 51, 48, 52, 48, 53, 48, 54, 48, 55, 48, 56, 48, 57, 49, 48, 49, 49, 49, 50, 49, 51, 49, 52, 49, 53, 49, 54, 49, 55, 49, 56, 49, 57, 50, 48, 50, 49, 50, 50, 50, 51, 50, 52, 50, 53, 50, 54, 50, 55, 50, 56, 50, 57, 51, 48, 51, 49, 51, 50, 51, 51, 51, 52, 51, 53, 51, 54, 51, 55, 51, 56, 51, 57, 52, 48, 52, 49, 52, 50, 52, 51, 52, 52, 52, 53, 52, 54, 52, 55, 52, 56, 52, 57, 53, 48, 53, 49, 53, 50, 53, 51, 53, 52, 53, 53, 53, 54, 53, 55, 53, 56, 53, 57, 54, 48, 54, 49, 54, 50, 54, 51, 54, 52, 54, 53, 54, 54, 54, 55, 54, 56, 54, 57, 55, 48, 55, 49, 55, 50, 55, 51, 55, 52, 55, 53, 55, 54, 55, 55, 55, 56, 55, 57, 56, 48, 56, 49, 56, 50, 56, 51, 56, 52, 56, 53, 56, 54, 56, 55, 56, 56, 56, 57, 57, 48, 57, 49, 57, 50, 57, 51, 57, 52, 57, 53, 57, 54, 57, 55, 57, 56, 57, 57] (wU32 ((wU32 (t108 * 2)) + 1))) fun t118 =>
  bnd (gOct [48, 48, 48, 49, 48, 50, 48, 51, 48, 52, 48, 53, 48, 54, 48, 55, 48, 56, 48, 57, 49, 48, 49, 49, 49, 50, 49, 51, 49, 52, 49, 53, 49, 54, 49, 55, 49, 56, 49, 57, 50, 48, 50, 49, 50, 50, 50, 51, 50, 52, 50, 53, 50, 54, 50, 55, 50, 56, 50, 57, 51, 48, 51, 49, 51, 50, 51, 51, 51, 52, 51, 53, 51, 54, 51, 55, 51, 56, 51, 57, 52, 48, 52, 49, 52, 50, 52, 51, 52, 52, 52, 53, 52, 54, 52, 55, 52, 56, 52, 57, 53, 48, 53, 49, 53, 50, 53, 51, 53, 52, 53, 53, 53, 54, 53, 55, 53, 56, 53, 57, 54, 48, 54, 49, 54, 50, 54, 51, 54, 52, 54, 53, 54, 54, 54, 55, 54, 56, 54, 57, 55, 48, 55, 49, 55, 50, 55, 51, 55, 52, 55, 53, 55, 54, 55, 55, 55, 56, 55, 57, 56, 48, 56, 49, 56, 50, 56, 51, 56, 52, 56, 53, 56, 54, 56, 55, 56, 56, 56, 57, 57, 48, 57, 49, 57, 50, 57, 51, 57, 52, 57, 53, 57, 54, 57, 55, 57, 56, 57, 57] (wU32 (t108 * 2))) fun t120 =>
  bnd (gAt l t112) fun t121 =>
  bnd (gSet l t112 t118) fun l0_4 =>
  bnd (gAt l0_4 t115) fun t122 =>
  bnd (gSet l0_4 t115 t120) fun l0_5 =>
  bnd (gI (x4 - 3)) fun t125 =>
  bnd (gI (x4 - 4)) fun t128 =>
  bnd (gOct [48, 48, 48, 49, 48, 50, 48, 51, 48, 52, 48, 53, 48, 54, 48, 55, 48, 56, 48, 57, 49, 48, 49, 49, 49, 50, 49, 51, 49, 52, 49, 53, 49, 54, 49, 55, 49, 56, 49, 57, 50, 48, 50, 49, 50, 50, 50, 51, 50, 52, 50, 53, 50, 54, 50, 55, 50, 56, 50, 57, 51, 48, 51, 49, 51, 50, 51, 51, 51, 52, 51, 53, 51, 54, 51, 55, 51, 56, 51, 57, 52, 48, 52, 49, 52, 50, 52, 51, 52, 52, 52, 53, 52, 54, 52, 55, 52, 56, 52, 57, 53, 48, 53, 49, 53, 50, 53, 51, 53, 52, 53, 53, 53, 54, 53, 55, 53, 56, 53, 57, 54, 48, 54, 49, 54, 50, 54, 51, 54, 52, 54, 53, 54, 54, 54, 55, 54, 56, 54, 57, 55, 48, 55, 49, 55, 50, 55, 51, 55, 52, 55, 53, 55, 54, 55, 55, 55, 56, 55, 57, 56, 48, 56, 49, 56, 50, 56, 51, 56, 52, 56, 53, 56, 54, 56, 55, 56, 56, 56, 57, 57, 48, 57, 49, 57, 50, 57, 51, 57, 52, 57, 53, 57, 54, 57, 55, 57, 56, 57, 57] (wU32 ((wU32 (t105 * 2)) + 1))) fun t131 =>
  bnd (gOct [48, 48, 48, 49, 48, 50, 48, 51, 48, 52, 48, 53, 48, 54, 48, 55, 48, 56, 48, 57, 49, 48, 49, 49, 49, 50, 49, 51, 49, 52, 49, 53, 49, 54, 49, 55, 49, 56, 49, 57, 50, 48, 50, 49, 50, 50, 50, 51, 50, 52, 50, 53, 50, 54, 50, 55, 50, 56, 50, 57, 51, 48, 51, 49, 51, 50, 51, 51, 51, 52, 51, 53, 51, 54, 51, 55, 51, 56, 51, 57, 52, 48, 52, 49, 52, 50, 52, 51, 52, 52, 52, 53, 52, 54, 52, 55, 52, 56, 52, 57, 53, 48, 53, 49, 53, 50, 53, 51, 53, 52, 53, 53, 53, 54, 53, 55, 53, 56, 53, 57, 54, 48, 54, 49, 54, 50, 54, 51, 54, 52, 54, 53, 54, 54, 54, 55, 54, 56, 54, 57, 55, 48, 55, 49, 55, 50, 55, 51, 55, 52, 55, 53, 55, 54, 55, 55, 55, 56, 55, 57, 56, 48, 56, 49, 56, 50, 56, 51, 56, 52, 56, 53, 56, 54, 56, 55, 56, 56, 56, 57, 57, 48, 57, 49, 57, 50, 57, 51, 57, 52, 57, 53, 57, 54, 57, 55, 57, 56, 57, 57] (wU32 (t105 * 2))) fun t133 =>
  bnd (gAt l0_5 t125) fun t134 =>
  bnd (gSet l0_5 t125 t131) fun l0_6 =>
  bnd (gAt l0_6 t128) fun t135 =>
  bnd (gSet l0_6 t128 t133) fun l0_7 =>
  bnd (gI (x4 - 4)) fun t137 =>
  internal_strconv_formatBase10_j2 t137 t103 l0_7) (internal_strconv_formatBase10_j2 x4 (wU32 x1) l)
noncomputable def internal_strconv_formatBase10_l4 (next4 : ((Int × Int × (List Int)) → Option ((List Int)))) (x1_3 : Int) (x4_5 : Int) (l_5 : (List Int)) : Option ((List Int)) :=
  cnd (decide (8 ≤ x4_5)) (bnd (gRem x1_3 100000000) fun t22 =>
  bnd (gQuoU 64 x1_3 100000000) fun t25 =>
  bnd (gQuoU 32 (wU32 t22) 10000) fun t27 =>
  bnd (gRem (wU32 t22) 10000) fun t29 =>
  bnd (gQuoU 32 t29 100) fun t31 =>
  bnd (gRem t29 100) fun t34 =>
  bnd (gQuoU 32 t27 100) fun t37 =>
  bnd (gRem t27 100) fun t40 =>
  bnd (gI (x4_5 - 1)) fun t44 =>
  bnd (gI (x4_5 - 2)) fun t47 =>
  bnd (gOct [48, 48, 48, 49, 48, 50, 48, 51, 48, 52, 48, 53, 48, 54, 48, 55, 48, 56, 48, 57, 49, 48, 49, 49, 49, 50, 49, 51, 49, 52, 49, 53, 49, 54, 49, 55, 49, 56, 49, 57, 50, 48, 50, 49, 50, 50, 50, 51, 50, 52, 50, 53, 50, 54, 50, 55, 50, 56, 50, 57, 51, 48, 51, 49, 51, 50, 51, 51, 51, 52, 51, 53, 51, 54, 51, 55, 51, 56, 51, 57, 52, 48, 52, 49, 52, 50, 52, 51, 52, 52, 52, 53, 52, 54, 52, 55, 52, 56, 52, 57, 53, 48, 53, 49, 53, 50, 53, 51, 53, 52, 53, 53, 53, 54, 53, 55, 53, 56, 53, 57, 54, 48, 54, 49, 54, 50, 54, 51, 54, 52, 54, 53, 54, 54, 54, 55, 54, 56, 54, 57, 55, 48, 55, 49, 55, 50, 55, 51, 55, 52, 55, 53, 55, 54, 55, 55, 55, 56, 55, 57, 56, 48, 56, 49, 56, 50, 56, 51, 56, 52, 56, 53, 56, 54, 56, 55, 56, 56, 56, 57, 57, 48, 57, 49, 57, 50, 57, 51, 57, 52, 57, 53, 57, 54, 57, 55, 57, 56, 57, 57] (wU32 ((wU32 (t34 * 2)) + 1))) fun t50 =>
  bnd (gOct [48, 48, 48, 49, 48, 50, 48, 51, 48, 52, 48, 53, 48, 54, 48, 55, 48, 56, 48, 57, 49, 48, 49, 49, 49, 50, 49, 51, 49, 52, 49, 53, 49, 54, 49, 55, 49, 56, 49, 57, 50, 48, 50, 49, 50, 50, 50, 51, 50, 52, 50, 53, 50, 54, 50, 55, 50, 56, 50, 57, 51, 48, 51, 49, 51, 50, 51, 51, 51, 52, 51, 53, 51, 54, 51, 55, 51, 56, 51, 57, 52, 48, 52, 49, 52, 50, 52, 51, 52, 52, 52, 53, 52, 54, 52, 55, 52, 56, 52, 57, 53, 48, 53, 49, 53, 50, 53, 51, 53, 52, 53, 53, 53, 54, 53, 55, 53, 56, 53, 57, 54, 48, 54, 49, 54, 50, 54, 51, 54, 52, 54, 53, 54, 54, 54, 55, 54, 56, 54, 57, 55, 48, 55, 49, 55, 50, 55, 51, 55, 52, 55, 53, 55, 54, 55, 55, 55, 56, 55, 57, 56, 48, 56, 49, 56, 50, 56, 51, 56, 52, 56, 53, 56, 54, 56, 55, 56, 56, 56, 57, 57, 48, 57, 49, 57, 50, 57, 51, 57, 52, 57, 53, 57, 54, 57, 55, 57, 56, 57, 57] (wU32 (t34 * 2))) fun t52 =>
  bnd (gAt l_5 t44) fun t53 =>
  bnd (gSet l_5 t44 t50) fun l0_8 =>
  bnd (gAt l0_8 t47) fun t54 =>
  bnd (gSet l0_8 t47 t52) fun l0_9 =>
  bnd (gI (x4_5 - 3)) fun t57 =>
  bnd (gI (x4_5 - 4)) fun t60 =>
  bnd (gOct [48, 48, 48, 49, 48, 50, 48, 51, 48, 52, 48, 53, 48, 54, 48, 55, 48, 56, 48, 57, 49, 48, 49, 49, 49, 50, 49, 51, 49, 52, 49, 53, 49, 54, 49, 55, 49, 56, 49, 57, 50, 48, 50, 49, 50, 50, 50, 51, 50, 52, 50, 53, 50, 54, 50, 55, 50, 56, 50, 57, 51, 48, 51, 49, 51, 50, 51, 51, 51, 52, 51, 53, 51, 54, 51, 55, 51, 56, 51, 57, 52, 48, 52, 49, 52, 50, 52, 51, 52, 52, 52, 53, 52, 54, 52, 55, 52, 56, 52, 57, 53, 48, 53, 49, 53, 50, 53, 51, 53, 52, 53, 53, 53, 54, 53, 55, 53, 56, 53, 57, 54, 48, 54, 49, 54, 50, 54, 51, 54, 52, 54, 53, 54, 54, 54, 55, 54, 56, 54, 57, 55, 48, 55, 49, 55, 50, 55, 51, 55, 52, 55, 53, 55, 54, 55, 55, 55, 56, 55, 57, 56, 48, 56, 49, 56, 50, 56, 51, 56, 52, 56, 53, 56, 54, 56, 55, 56, 56, 56, 57, 57, 48, 57, 49, 57, 50, 57, 51, 57, 52, 57, 53, 57, 54, 57, 55, 57, 56, 57, 57] (wU32 ((wU32 (t31 * 2)) + 1))) fun t63 =>
  bnd (gOct [48, 48, 48, 49, 48, 50, 48, 51, 48, 52, 48, 53, 48, 54, 48, 55, 48, 56, 48, 57, 49, 48, 49, 49, 49, 50, 49, 51, 49, 52, 49, 53, 49, 54, 49, 55, 49, 56, 49, 57, 50, 48, 50, 49, 50, 50, 50, 51, 50, 52, 50, 53, 50, 54, 50, 55, 50, 56, 50, 57, 51, 48, 51, 49, 51, 50, 51, 51, 51, 52, 51, 53, 51, 54, 51, 55, 51, 56, 51, 57, 52, 48, 52, 49, 52, 50, 52, 51, 52, 52, 52, 53, 52, 54, 52, 55, 52, 56, 52, 57, 53, 48, 53, 49, 53, 50, 53, 51, 53, 52, 53, 53, 53, 54, 53, 55, 53, 56, 53, 57, 54, 48, 54, 49, 54, 50, 54, 51, 54, 52, 54, 53, 54, 54, 54, 55, 54, 56, 54, 57, 55, 48, 55, 49, 55, 50, 55, 51, 55, 52, 55, 53, 55, 54, 55, 55, 55, 56, 55, 57, 56, 48, 56, 49, 56, 50, 56, 51, 56, 52, 56, 53, 56, 54, 56, 55, 56, 56, 56, 57, 57, 48, 57, 49, 57, 50, 57, 51, 57, 52, 57, 53, 57, 54, 57, 55, 57, 56, 57, 57] (wU32 (t31 * 2))) fun t65 =>
  bnd (gAt l0_9 t57) fun t66 =>
  bnd (gSet l0_9 t57 t63) fun l0_10 =>
  bnd (gAt l0_10 t60) fun t67 =>
  bnd (gSet l0_10 t60 t65) fun l0_11 =>
  bnd (gI (x4_5 - 5)) fun t70 =>
  bnd (gI (x4_5 - 6)) fun t73 =>
  bnd (gOct [48, 48, 48, 49, 48, 50, 48, 51, 48, 52, 48, 53, 48, 54, 48, 55, 48, 56, 48, 57, 49, 48, 49, 49, 49, 50, 49, 51, 49, 52, 49, 53, 49, 54, 49, 55, 49, 56, 49, 57, 50, 48, 50, 49, 50, 50, 50, 51, 50, 52, 50, 53, 50, 54, 50, 55, 50, 56, 50, 57, 51, 48, 51, 49, 51, 50, 51, 51, 51, 52, 51, 53, 51, 54, 51, 55, 51, 56, 51, 57, 52, 48, 52, 49, 52, 50, 52, 51, 52, 52, 52, 53, 52, 54, 52, 55, 52, 56, 52, 57, 53, 48, 53, 49, 53, 50, 53, 51, 53, 52, 53, 53, 53, 54, 53, 55, 53, 56, 53, 57, 54, 48, 54, 49, 54, 50, 54, 51, 54, 52, 54, 53, 54, 54, 54, 55, 54, 56, 54, 57, 55, 48, 55, 49, 55, 50, 55, 51, 55, 52, 55, 53, 55, 54, 55, 55, 55, 56, 55, 57, 56, 48, 56, 49, 56, 50, 56, 51, 56, 52, 56, 53, 56, 54, 56, 55, 56, 56, 56, 57, 57, 48, 57, 49, 57, 50, 57, 51, 57, 52, 57, 53, 57, 54, 57, 55, 57, 56, 57, 57] (wU32 ((wU32 (t40 * 2)) + 1))) fun t76 =>
  bnd (gOct [48, 48, 48, 49, 48, 50, 48, 51, 48, 52, 48, 53, 48, 54, 48, 55, 48, 56, 48, 57, 49, 48, 49, 49, 49, 50, 49, 51, 49, 52, 49, 53, 49, 54, 49, 55, 49, 56, 49, 57, 50, 48, 50, 49, 50, 50, 50, 51, 50, 52, 50, 53, 50, 54, 50, 55, 50, 56, 50, 57, 51, 48, 51, 49, 51, 50, 51, 51, 51, 52, 51, 53, 51, 54, 51, 55, 51, 56, 51, 57, 52, 48, 52, 49, 52, 50, 52, 51, 52, 52, 52, 53, 52, 54, 52, 55, 52, 56, 52, 57, 53, 48, 53, 49, 53, 50, 53, 51, 53, 52, 53, 53, 53, 54, 53, 55, 53, 56, 53, 57, 54, 48, 54, 49, 54, 50, 54, 51, 54, 52, 54, 53, 54, 54, 54, 55, 54, 56, 54, 57, 55, 48, 55, 49, 55, 50, 55, 51, 55, 52, 55, 53, 55, 54, 55, 55, 55, 56, 55, 57, 56, 48, 56, 49, 56, 50, 56, 51, 56, 52, 56, 53, 56, 54, 56, 55, 56, 56, 56, 57, 57, 48, 57, 49, 57, 50, 57, 51, 57, 52, 57, 53, 57, 54, 57, 55, 57, 56, 57, 57] (wU32 (t40 * 2))) fun t78 =>
  bnd (gAt l0_11 t70) fun t79 =>
  bnd (gSet l0_11 t70 t76) fun l0_12 =>
  bnd (gAt l0_12 t73) fun t80 =>
  bnd (gSet l0_12 t73 t78) fun l0_13 =>
  bnd (gI (x4_5 - 7)) fun t83 =>
  bnd (gI (x4_5 - 8)) fun t86 =>
  bnd (gOct [48, 48, 48, 49, 48, 50, 48, 51, 48, 52, 48, 53, 48, 54, 48, 55, 48, 56, 48, 57, 49, 48, 49, 49, 49, 50, 49, 51, 49, 52, 49, 53, 49, 54, 49, 55, 49, 56, 49, 57, 50, 48, 50, 49, 50, 50, 50, 51, 50, 52, 50, 53, 50, 54, 50, 55, 50, 56, 50, 57, 51, 48, 51, 49, 51, 50, 51, 51, 51, 52, 51, 53, 51, 54, 51, 55, 51, 56, 51, 57, 52, 48, 52, 49, 52, 50, 52, 51, 52, 52, 52, 53, 52, 54, 52, 55, 52, 56, 52, 57, 53, 48, 53, 49, 53, 50, 53, 51, 53, 52, 53, 53, 53, 54, 53, 55, 53, 56, 53, 57, 54, 48, 54, 49, 54, 50, 54, 51, 54, 52, 54, 53, 54, 54, 54, 55, 54, 56, 54, 57, 55, 48, 55, 49, 55, 50, 55, 51, 55, 52, 55, 53, 55, 54, 55, 55, 55, 56, 55, 57, 56, 48, 56, 49, 56, 50, 56, 51, 56, 52, 56, 53, 56, 54, 56, 55, 56, 56, 56, 57, 57, 48, 57, 49, 57, 50, 57, 51, 57, 52, 57, 53, 57, 54, 57, 55, 57, 56, 57, 57] (wU32 ((wU32 (t37 * 2)) + 1))) fun t89 =>
  bnd (gOct [48, 48, 48, 49, 48, 50, 48, 51, 48, 52, 48, 53, 48, 54, 48, 55, 48, 56, 48, 57, 49, 48, 49, 49, 49, 50, 49, 51, 49, 52, 49, 53, 49, 54, 49, 55, 49, 56, 49, 57, 50, 48, 50, 49, 50, 50, 50, 51, 50, 52, 50, 53, 50, 54, 50, 55, 50, 56, 50, 57, 51, 48, 51, 49, 51, 50, 51, 51, 51, 52, 51, 53, 51, 54, 51, 55, 51, 56, 51, 57, 52, 48, 52, 49, 52, 50, 52, 51, 52, 52, 52, 53, 52, 54, 52, 55, 52, 56, 52, 57, 53, 48, 53, 49, 53, 50, 53, 51, 53, 52, 53, 53, 53, 54, 53, 55, 53, 56, 53, 57, 54, 48, 54, 49, 54, 50, 54, 51, 54, 52, 54, 53, 54, 54, 54, 55, 54, 56, 54, 57, 55, 48, 55, 49, 55, 50, 55, 51, 55, 52, 55, 53, 55, 54, 55, 55, 55, 56, 55, 57, 56, 48, 56, 49, 56, 50, 56, 51, 56, 52, 56, 53, 56, 54, 56, 55, 56, 56, 56, 57, 57, 48, 57, 49, 57, 50, 57, 51, 57, 52, 57, 53, 57, 54, 57, 55, 57, 56, 57, 57] (wU32 (t37 * 2))) fun t91 =>
  bnd (gAt l0_13 t83) fun t92 =>
  bnd (gSet l0_13 t83 t89) fun l0_14 =>
  bnd (gAt l0_14 t86) fun t93 =>
  bnd (gSet l0_14 t86 t91) fun l0_15 =>
  bnd (gI (x4_5 - 8)) fun t95 =>
  next4 (t25, t95, l0_15)) (internal_strconv_formatBase10_j1 x1_3 x4_5 l_5)
noncomputable def internal_strconv_formatBase10 (a0 : (List Int)) (a1 : Int) : Option ((List Int)) :=
  fix (fun next4 s => internal_strconv_formatBase10_l4 next4 s.1 s.2.1 s.2.2) (a1, (a0.length : Int), a0)

/-! internal/strconv.isPowerOfTwo -/
noncomputable def internal_strconv_isPowerOfTwo (a0 : Int) : Option (Bool) :=
  bnd (gI (a0 - 1)) fun t5 =>
  some (decide ((wI64 (bAnd 64 a0 t5)) = 0))

/-! math/bits.TrailingZeros32 -/
noncomputable def math_bits_TrailingZeros32 (a0 : Int) : Option (Int) :=
  cnd (decide (a0 = 0)) (some 32) (none)

/-! math/bits.TrailingZeros64 -/
noncomputable def math_bits_TrailingZeros64 (a0 : Int) : Option (Int) :=
  cnd (decide (a0 = 0)) (some 64) (none)

/-! math/bits.TrailingZeros -/
noncomputable def math_bits_TrailingZeros (a0 : Int) : Option (Int) :=
  bnd (math_bits_TrailingZeros64 a0) fun t7 =>
  some t7

/-! internal/strconv.FormatInt -/
noncomputable def internal_strconv_FormatInt_j2 (x6 : Int) : Option ((List UInt8)) :=
  none
noncomputable def internal_strconv_FormatInt_j1 (a0 : Int) : Option ((List UInt8)) :=
  cnd (decide (a0 < 0)) (internal_strconv_FormatInt_j2 (wU64 (0 - (wU64 a0)))) (internal_strconv_FormatInt_j2 (wU64 a0))
noncomputable def internal_strconv_FormatInt (a0 : Int) (a1 : Int) : Option ((List UInt8)) :=
  cnd (decide (a1 = 10)) (cnd (decide (0 ≤ a0)) (cnd (decide (a0 < 100)) (bnd (internal_strconv_small a0) fun t19 =>
  some t19) (internal_strconv_FormatInt_j1 a0)) (internal_strconv_FormatInt_j1 a0)) (none)

/-! internal/strconv.Itoa -/
noncomputable def internal_strconv_Itoa (a0 : Int) : Option ((List UInt8)) :=
  bnd (internal_strconv_FormatInt a0 10) fun t4 =>
  some t4

/-! strconv.Itoa -/
noncomputable def strconv_Itoa (a0 : Int) : Option ((List UInt8)) :=
  bnd (internal_strconv_Itoa a0) fun t4 =>
  some t4

/-! internal/stringslite.HasPrefix -/
noncomputable def internal_stringslite_HasPrefix (a0 : (List UInt8)) (a1 : (List UInt8)) : Option (Bool) :=
  cnd (decide ((a1.length : Int) ≤ (a0.length : Int))) (bnd (gCut a0 0 (a1.length : Int)) fun t14 =>
  some (decide (t14 = a1))) (some false)

/-! strings.HasPrefix -/
noncomputable def strings_HasPrefix (a0 : (List UInt8)) (a1 : (List UInt8)) : Option (Bool) :=
  bnd (internal_stringslite_HasPrefix a0 a1) fun t7 =>
  some t7

/-! math/bits.Mul32 -/
noncomputable def math_bits_Mul32 (a0 : Int) (a1 : Int) : Option (Int × Int) :=
  bnd (gK 0 18446744073709551615 a0) fun t8 =>
  bnd (gK 0 18446744073709551615 a1) fun t10 =>
  bnd (gShr 64 (wU64 (t8 * t10)) 32) fun t13 =>
  some ((wU32 t13), (wU32 (wU64 (t8 * t10))))

/-! math/bits.Mul64 -/
noncomputable def math_bits_Mul64 (a0 : Int) (a1 : Int) : Option (Int × Int) :=
  bnd (gShr 64 a0 32) fun t17 =>
  bnd (gShr 64 a1 32) fun t21 =>
  bnd (gShr 64 (wU64 ((wU64 (bAnd 64 a0 4294967295)) * (wU64 (bAnd 64 a1 4294967295)))) 32) fun t29 =>
  bnd (gShr 64 (wU64 ((wU64 (t17 * (wU64 (bAnd 64 a1 4294967295)))) + t29)) 32) fun t34 =>
  bnd (gShr 64 (wU64 ((wU64 (bAnd 64 (wU64 ((wU64 (t17 * (wU64 (bAnd 64 a1 4294967295)))) + t29)) 4294967295)) + (wU64 ((wU64 (bAnd 64 a0 4294967295)) * t21)))) 32) fun t46 =>
  some ((wU64 ((wU64 ((wU64 (t17 * t21)) + t34)) + t46)), (wU64 (a0 * a1)))

/-! math/bits.Mul -/
noncomputable def math_bits_Mul (a0 : Int) (a1 : Int) : Option (Int × Int) :=
  bnd (math_bits_Mul64 a0 a1) fun t25 =>
  some (t25.1, t25.2)

/-! strings.Repeat -/
noncomputable def strings_Repeat_j2 (x8 : Int) : Option ((List UInt8)) :=
  none
noncomputable def strings_Repeat_j1 (a0 : (List UInt8)) (t26 : (Int × Int)) : Option ((List UInt8)) :=
  cnd (decide (8192 < (wI64 t26.2))) (bnd (gQuo 8192 (a0.length : Int)) fun t99 =>
  bnd (gI (t99 * (a0.length : Int))) fun t102 =>
  cnd (decide (t102 = 0)) (strings_Repeat_j2 (a0.length : Int)) (strings_Repeat_j2 t102)) (strings_Repeat_j2 (wI64 t26.2))
noncomputable def strings_Repeat_j7 (a0 : (List UInt8)) (t26 : (Int × Int)) (x76 : Bool) : Option ((List UInt8)) :=
  cnd x76 (bnd (gCut [61, 61, 61, 61, 61, 61, 61, 61, 61, 61, 61, 61, 61, 61, 61, 61, 61, 61, 61, 61, 61, 61, 61, 61, 61, 61, 61, 61, 61, 61, 61, 61, 61, 61, 61, 61, 61, 61, 61, 61, 61, 61, 61, 61, 61, 61, 61, 61, 61, 61, 61, 61, 61, 61, 61, 61, 61, 61, 61, 61, 61, 61, 61, 61, 61, 61, 61, 61, 61, 61, 61, 61, 61, 61, 61, 61, 61, 61, 61, 61, 61, 61, 61, 61, 61, 61, 61, 61, 61, 61, 61, 61, 61, 61, 61, 61, 61, 61, 61, 61, 61, 61, 61, 61, 61, 61, 61, 61, 61, 61, 61, 61, 61, 61, 61, 61, 61, 61, 61, 61, 61, 61, 61, 61, 61, 61, 61, 61] 0 (wI64 t26.2)) fun t84 =>
  some t84) (cnd (decide ((wI64 t26.2) ≤ 64)) (bnd (strings_HasPrefix [9, 9, 9, 9, 9, 9, 9, 9, 9, 9, 9, 9, 9, 9, 9, 9, 9, 9, 9, 9, 9, 9, 9, 9, 9, 9, 9, 9, 9, 9, 9, 9, 9, 9, 9, 9, 9, 9, 9, 9, 9, 9, 9, 9, 9, 9, 9, 9, 9, 9, 9, 9, 9, 9, 9, 9, 9, 9, 9, 9, 9, 9, 9, 9] a0) fun t90 =>
  cnd t90 (bnd (gCut [9, 9, 9, 9, 9, 9, 9, 9, 9, 9, 9, 9, 9, 9, 9, 9, 9, 9, 9, 9, 9, 9, 9, 9, 9, 9, 9, 9, 9, 9, 9, 9, 9, 9, 9, 9, 9, 9, 9, 9, 9, 9, 9, 9, 9, 9, 9, 9, 9, 9, 9, 9, 9, 9, 9, 9, 9, 9, 9, 9, 9, 9, 9, 9] 0 (wI64 t26.2)) fun t93 =>
  some t93) (strings_Repeat_j1 a0 t26)) (strings_Repeat_j1 a0 t26))
noncomputable def strings_Repeat_j6 (a0 : (List UInt8)) (t26 : (Int × Int)) (x67 : Bool) : Option ((List UInt8)) :=
  cnd x67 (bnd (gCut [48, 48, 48, 48, 48, 48, 48, 48, 48, 48, 48, 48, 48, 48, 48, 48, 48, 48, 48, 48, 48, 48, 48, 48, 48, 48, 48, 48, 48, 48, 48, 48, 48, 48, 48, 48, 48, 48, 48, 48, 48, 48, 48, 48, 48, 48, 48, 48, 48, 48, 48, 48, 48, 48, 48, 48, 48, 48, 48, 48, 48, 48, 48, 48] 0 (wI64 t26.2)) fun t75 =>
  some t75) (cnd (decide ((wI64 t26.2) ≤ 128)) (bnd (strings_HasPrefix [61, 61, 61, 61, 61, 61, 61, 61, 61, 61, 61, 61, 61, 61, 61, 61, 61, 61, 61, 61, 61, 61, 61, 61, 61, 61, 61, 61, 61, 61, 61, 61, 61, 61, 61, 61, 61, 61, 61, 61, 61, 61, 61, 61, 61, 61, 61, 61, 61, 61, 61, 61, 61, 61, 61, 61, 61, 61, 61, 61, 61, 61, 61, 61, 61, 61, 61, 61, 61, 61, 61, 61, 61, 61, 61, 61, 61, 61, 61, 61, 61, 61, 61, 61, 61, 61, 61, 61, 61, 61, 61, 61, 61, 61, 61, 61, 61, 61, 61, 61, 61, 61, 61, 61, 61, 61, 61, 61, 61, 61, 61, 61, 61, 61, 61, 61, 61, 61, 61, 61, 61, 61, 61, 61, 61, 61, 61, 61] a0) fun t81 =>
  strings_Repeat_j7 a0 t26 t81) (strings_Repeat_j7 a0 t26 false))
noncomputable def strings_Repeat_j5 (a0 : (List UInt8)) (t26 : (Int × Int)) (x58 : Bool) : Option ((List UInt8)) :=
  cnd x58 (bnd (gCut [45, 45, 45, 45, 45, 45, 45, 45, 45, 45, 45, 45, 45, 45, 45, 45, 45, 45, 45, 45, 45, 45, 45, 45, 45, 45, 45, 45, 45, 45, 45, 45, 45, 45, 45, 45, 45, 45, 45, 45, 45, 45, 45, 45, 45, 45, 45, 45, 45, 45, 45, 45, 45, 45, 45, 45, 45, 45, 45, 45, 45, 45, 45, 45, 45, 45, 45, 45, 45, 45, 45, 45, 45, 45, 45, 45, 45, 45, 45, 45, 45, 45, 45, 45, 45, 45, 45, 45, 45, 45, 45, 45, 45, 45, 45, 45, 45, 45, 45, 45, 45, 45, 45, 45, 45, 45, 45, 45, 45, 45, 45, 45, 45, 45, 45, 45, 45, 45, 45, 45, 45, 45, 45, 45, 45, 45, 45, 45] 0 (wI64 t26.2)) fun t66 =>
  some t66) (cnd (decide ((wI64 t26.2) ≤ 64)) (bnd (strings_HasPrefix [48, 48, 48, 48, 48, 48, 48, 48, 48, 48, 48, 48, 48, 48, 48, 48, 48, 48, 48, 48, 48, 48, 48, 48, 48, 48, 48, 48, 48, 48, 48, 48, 48, 48, 48, 48, 48, 48, 48, 48, 48, 48, 48, 48, 48, 48, 48, 48, 48, 48, 48, 48, 48, 48, 48, 48, 48, 48, 48, 48, 48, 48, 48, 48] a0) fun t72 =>
  strings_Repeat_j6 a0 t26 t72) (strings_Repeat_j6 a0 t26 false))
noncomputable def strings_Repeat_j4 (a0 : (List UInt8)) (t26 : (Int × Int)) (x49 : Bool) : Option ((List UInt8)) :=
  cnd x49 (bnd (gCut [32, 32, 32, 32, 32, 32, 32, 32, 32, 32, 32, 32, 32, 32, 32, 32, 32, 32, 32, 32, 32, 32, 32, 32, 32, 32, 32, 32, 32, 32, 32, 32, 32, 32, 32, 32, 32, 32, 32, 32, 32, 32, 32, 32, 32, 32, 32, 32, 32, 32, 32, 32, 32, 32, 32, 32, 32, 32, 32, 32, 32, 32, 32, 32, 32, 32, 32, 32, 32, 32, 32, 32, 32, 32, 32, 32, 32, 32, 32, 32, 32, 32, 32, 32, 32, 32, 32, 32, 32, 32, 32, 32, 32, 32, 32, 32, 32, 32, 32, 32, 32, 32, 32, 32, 32, 32, 32, 32, 32, 32, 32, 32, 32, 32, 32, 32, 32, 32, 32, 32, 32, 32, 32, 32, 32, 32, 32, 32] 0 (wI64 t26.2)) fun t57 =>
  some t57) (cnd (decide ((wI64 t26.2) ≤ 128)) (bnd (strings_HasPrefix [45, 45, 45, 45, 45, 45, 45, 45, 45, 45, 45, 45, 45, 45, 45, 45, 45, 45, 45, 45, 45, 45, 45, 45, 45, 45, 45, 45, 45, 45, 45, 45, 45, 45, 45, 45, 45, 45, 45, 45, 45, 45, 45, 45, 45, 45, 45, 45, 45, 45, 45, 45, 45, 45, 45, 45, 45, 45, 45, 45, 45, 45, 45, 45, 45, 45, 45, 45, 45, 45, 45, 45, 45, 45, 45, 45, 45, 45, 45, 45, 45, 45, 45, 45, 45, 45, 45, 45, 45, 45, 45, 45, 45, 45, 45, 45, 45, 45, 45, 45, 45, 45, 45, 45, 45, 45, 45, 45, 45, 45, 45, 45, 45, 45, 45, 45, 45, 45, 45, 45, 45, 45, 45, 45, 45, 45, 45, 45] a0) fun t63 =>
  strings_Repeat_j5 a0 t26 t63) (strings_Repeat_j5 a0 t26 false))
noncomputable def strings_Repeat_j3 (a0 : (List UInt8)) (t26 : (Int × Int)) (x43 : Bool) : Option ((List UInt8)) :=
  cnd x43 (cnd (decide ((wI64 t26.2) ≤ 128)) (bnd (strings_HasPrefix [32, 32, 32, 32, 32, 32, 32, 32, 32, 32, 32, 32, 32, 32, 32, 32, 32, 32, 32, 32, 32, 32, 32, 32, 32, 32, 32, 32, 32, 32, 32, 32, 32, 32, 32, 32, 32, 32, 32, 32, 32, 32, 32, 32, 32, 32, 32, 32, 32, 32, 32, 32, 32, 32, 32, 32, 32, 32, 32, 32, 32, 32, 32, 32, 32, 32, 32, 32, 32, 32, 32, 32, 32, 32, 32, 32, 32, 32, 32, 32, 32, 32, 32, 32, 32, 32, 32, 32, 32, 32, 32, 32, 32, 32, 32, 32, 32, 32, 32, 32, 32, 32, 32, 32, 32, 32, 32, 32, 32, 32, 32, 32, 32, 32, 32, 32, 32, 32, 32, 32, 32, 32, 32, 32, 32, 32, 32, 32] a0) fun t54 =>
  strings_Repeat_j4 a0 t26 t54) (strings_Repeat_j4 a0 t26 false)) (strings_Repeat_j1 a0 t26)
noncomputable def strings_Repeat (a0 : (List UInt8)) (a1 : Int) : Option ((List UInt8)) :=
  cnd (decide (a1 = 0)) (some []) (cnd (decide (a1 = 1)) (some a0) (cnd (decide (a1 < 0)) (none) (bnd (math_bits_Mul (wU64 (a0.length : Int)) (wU64 a1)) fun t26 =>
  cnd (decide (0 < t26.1)) (none) (cnd (decide (9223372036854775807 < t26.2)) (none) (cnd (decide ((a0.length : Int) = 0)) (some []) (bnd (gOct a0 0) fun t42 =>
  cnd (decide (t42 = 32)) (strings_Repeat_j3 a0 t26 (decide (t42 = 32))) (cnd (decide (t42 = 45)) (strings_Repeat_j3 a0 t26 (decide (t42 = 45))) (cnd (decide (t42 = 48)) (strings_Repeat_j3 a0 t26 (decide (t42 = 48))) (cnd (decide (t42 = 61)) (strings_Repeat_j3 a0 t26 (decide (t42 = 61))) (strings_Repeat_j3 a0 t26 (decide (t42 = 9))))))))))))

/-! tintype/where.degrees -/
noncomputable def where_degrees_j1 (x0 : Int) (x3 : (List UInt8)) : Option ((List UInt8)) :=
  bnd (gRem x0 1000000) fun t10 =>
  bnd (strconv_Itoa t10) fun t11 =>
  bnd (gQuo x0 1000000) fun t14 =>
  bnd (strconv_Itoa t14) fun t15 =>
  bnd (gCat x3 t15) fun t16 =>
  bnd (gCat t16 [46]) fun t17 =>
  bnd (gI (6 - (t11.length : Int))) fun t20 =>
  bnd (strings_Repeat [48] t20) fun t21 =>
  bnd (gCat t17 t21) fun t22 =>
  bnd (gCat t22 t11) fun t24 =>
  some t24
noncomputable def where_degrees (a0 : Int) : Option ((List UInt8)) :=
  cnd (decide (a0 < 0)) (bnd (gI (-a0)) fun t8 =>
  where_degrees_j1 t8 [45]) (where_degrees_j1 a0 [])

/-! tintype/where.PlaceText -/
noncomputable def where_PlaceText (a0 : T_api_Place) : Option ((List UInt8) × Int) :=
  bnd (where_CheckPlace a0) fun t6 =>
  cnd (decide (t6 ≠ 0)) (some ([], t6)) (bnd (where_degrees a0.Lat) fun t12 =>
  bnd (gCat t12 [32]) fun t13 =>
  bnd (where_degrees a0.Lon) fun t16 =>
  bnd (gCat t13 t16) fun t17 =>
  some (t17, 0))

/-! tintype/tintkeep2.awakeWhere -/
noncomputable def Keep_awakeWhere  : Option (Bool) :=
  bnd (where_PlaceText (⟨0, 0⟩ : T_api_Place)) fun t5 =>
  cnd (decide (t5.2 = 0)) (some (decide (t5.1 = [48, 46, 48, 48, 48, 48, 48, 48, 32, 48, 46, 48, 48, 48, 48, 48, 48]))) (some false)

/-! tintype/where.isMoment -/
noncomputable def where_isMoment (a0 : Int) : Option (Bool) :=
  bnd (where_outside a0 0 6311433599) fun t4 =>
  some (!t4)

/-! tintype/where.CheckTrack -/
noncomputable def where_CheckTrack_j2 (x11_2 : Int) (next1 : ((Int) → Option (Int))) : Option (Int) :=
  bnd (gI (x11_2 + 1)) fun t39 =>
  next1 t39
noncomputable def where_CheckTrack_l1 (a0 : (List T_where_Fix)) (next1 : ((Int) → Option (Int))) (x11_2 : Int) : Option (Int) :=
  cnd (decide (x11_2 < (a0.length : Int))) (bnd (gAt a0 x11_2) fun t14 =>
  bnd (where_isMoment t14.Moment) fun t18 =>
  cnd (!t18) (some 2) (bnd (where_CheckPlace t14.Place) fun t22 =>
  cnd (decide (t22 ≠ 0)) (some t22) (cnd (decide (0 < x11_2)) (bnd (gI (x11_2 - 1)) fun t33 =>
  bnd (gAt a0 t33) fun t34 =>
  cnd (decide (t14.Moment ≤ t34.Moment)) (some 5) (where_CheckTrack_j2 x11_2 next1)) (where_CheckTrack_j2 x11_2 next1)))) (some 0)
noncomputable def where_CheckTrack (a0 : (List T_where_Fix)) : Option (Int) :=
  cnd (decide (2000 < (a0.length : Int))) (some 4) (fix (fun next1 s => where_CheckTrack_l1 a0 next1 s) 0)

/-! tintype/where.checkParts -/
noncomputable def where_checkParts (a0 : (List T_where_Fix)) (a1 : Int) (a2 : Int) : Option (Int) :=
  bnd (where_CheckTrack a0) fun t9 =>
  cnd (decide (t9 ≠ 0)) (some t9) (bnd (where_outside a1 0 30000000) fun t14 =>
  cnd t14 (some 2) (bnd (where_isMoment a2) fun t17 =>
  cnd (!t17) (some 2) (some 0)))

/-! tintype/where.cosine -/
noncomputable def where_cosine (a0 : Int) : Option (Int) :=
  bnd (gQuo a0 100) fun t5 =>
  bnd (gI (4 * t5)) fun t7 =>
  bnd (gI (t7 * t5)) fun t9 =>
  bnd (gI (3240000000000 - t9)) fun t10 =>
  bnd (gI (t10 * 1000000)) fun t11 =>
  bnd (gI (t5 * t5)) fun t14 =>
  bnd (gI (3240000000000 + t14)) fun t15 =>
  bnd (gQuo t11 t15) fun t16 =>
  some t16

/-! tintype/where.eastward -/
noncomputable def where_eastward (a0 : Int) (a1 : Int) : Option (Int) :=
  bnd (gI (a1 - a0)) fun t7 =>
  bnd (gRem t7 360000000) fun t8 =>
  bnd (gI (t8 + 360000000)) fun t9 =>
  bnd (gRem t9 360000000) fun t10 =>
  some t10

/-! tintype/where.short -/
noncomputable def where_short (a0 : Int) (a1 : Int) : Option (Int) :=
  bnd (where_eastward a0 a1) fun t8 =>
  cnd (decide (180000000 ≤ t8)) (bnd (gI (t8 - 360000000)) fun t12 =>
  some t12) (some t8)

/-! tintype/where.floor -/
noncomputable def where_floor (a0 : Int) (a1 : Int) : Option (Int) :=
  bnd (gQuo a0 a1) fun t8 =>
  bnd (gRem a0 a1) fun t11 =>
  cnd (decide (t11 < 0)) (bnd (gI (t8 - 1)) fun t14 =>
  some t14) (some t8)

/-! math.Sqrt -/
noncomputable def math_Sqrt (a0 : Nat) : Option (Nat) :=
  bnd (gSqrt a0) fun t4 =>
  some t4

/-! tintype/where.root -/
noncomputable def where_root_l2 (a0 : Int) (next2 : ((Int) → Option (Int))) (x3_3 : Int) : Option (Int) :=
  bnd (gI (x3_3 + 1)) fun t16 =>
  bnd (gI (x3_3 + 1)) fun t18 =>
  bnd (gI (t16 * t18)) fun t19 =>
  cnd (decide (t19 ≤ a0)) (bnd (gI (x3_3 + 1)) fun t23 =>
  next2 t23) (some x3_3)
noncomputable def where_root_j1 (a0 : Int) (x3 : Int) : Option (Int) :=
  fix (fun next2 s => where_root_l2 a0 next2 s) x3
noncomputable def where_root_l3 (a0 : Int) (next3 : ((Int) → Option (Int))) (x3_5 : Int) : Option (Int) :=
  bnd (gI (x3_5 * x3_5)) fun t10 =>
  cnd (decide (a0 < t10)) (bnd (gI (x3_5 - 1)) fun t14 =>
  next3 t14) (where_root_j1 a0 x3_5)
noncomputable def where_root (a0 : Int) : Option (Int) :=
  bnd (gIF a0) fun t5 =>
  bnd (math_Sqrt t5) fun t6 =>
  bnd (gFI t6) fun t7 =>
  fix (fun next3 s => where_root_l3 a0 next3 s) t7

/-! tintype/where.distance -/
noncomputable def where_distance (a0 : T_api_Place) (a1 : T_api_Place) : Option (Int) :=
  bnd (gI (a1.Lat - a0.Lat)) fun t11 =>
  bnd (where_short a0.Lon a1.Lon) fun t16 =>
  bnd (gI (a0.Lat + a1.Lat)) fun t21 =>
  bnd (where_floor t21 2) fun t22 =>
  bnd (where_cosine t22) fun t23 =>
  bnd (gI (t16 * t23)) fun t24 =>
  bnd (gQuo t24 1000000) fun t25 =>
  bnd (gI (t11 * t11)) fun t28 =>
  bnd (gI (t25 * t25)) fun t31 =>
  bnd (gI (t28 + t31)) fun t32 =>
  bnd (where_root t32) fun t33 =>
  bnd (gI (t33 * 111195)) fun t34 =>
  bnd (gQuo t34 1000000) fun t35 =>
  some t35

/-! tintype/where.Stops$1 -/
noncomputable def where_Stops_1_l1 (q0 : Int) (a0 : (List T_where_Fix)) (a1 : Int) (next1 : ((Int) → Option (Int))) (x6_2 : Int) : Option (Int) :=
  bnd (gI (x6_2 + 1)) fun t9 =>
  cnd (decide (t9 < (a0.length : Int))) (bnd (gI (x6_2 + 1)) fun t16 =>
  bnd (gAt a0 t16) fun t17 =>
  bnd (gAt a0 a1) fun t22 =>
  bnd (where_distance t17.Place t22.Place) fun t25 =>
  cnd (decide (t25 ≤ q0)) (bnd (gI (x6_2 + 1)) fun t30 =>
  next1 t30) (some x6_2)) (some x6_2)
noncomputable def where_Stops_1 (q0 : Int) (a0 : (List T_where_Fix)) (a1 : Int) : Option (Int) :=
  fix (fun next1 s => where_Stops_1_l1 q0 a0 a1 next1 s) a1

/-! tintype/where.Stops$2 -/
noncomputable def where_Stops_2 (q0 : Int) (a0 : (List T_where_Fix)) (a1 : Int) (a2 : Int) : Option (Bool) :=
  bnd (gAt a0 a2) fun t10 =>
  bnd (gAt a0 a1) fun t15 =>
  bnd (gI (t10.Moment - t15.Moment)) fun t18 =>
  some (decide (q0 ≤ t18))

/-! tintype/where.Stops$3 -/
noncomputable def where_Stops_3 (a0 : Int) (a1 : Int) : Option (Int) :=
  bnd (gI (a0 + 1)) fun t6 =>
  some t6

/-! tintype/where.middle -/
noncomputable def where_middle_j2 (x12_3 : Int) (next1 : ((Int × Int × Int) → Option (Int))) (x3_3 : Int) (x4_4 : Int) : Option (Int) :=
  bnd (gI (x12_3 + 1)) fun t38 =>
  next1 (x3_3, x4_4, t38)
noncomputable def where_middle_j3 (x3_2 : Int) (x4_3 : Int) (x12_3 : Int) (next1 : ((Int × Int × Int) → Option (Int))) (x7 : Int) : Option (Int) :=
  cnd (decide (x4_3 < 0)) (where_middle_j2 x12_3 next1 x12_3 x7) (cnd (decide (x7 < x4_3)) (where_middle_j2 x12_3 next1 x12_3 x7) (where_middle_j2 x12_3 next1 x3_2 x4_3))
noncomputable def where_middle_l4 (a0 : (List T_api_Place)) (x3_2 : Int) (x4_3 : Int) (x12_3 : Int) (next1 : ((Int × Int × Int) → Option (Int))) (t15 : T_api_Place) (next4 : ((Int × Int) → Option (Int))) (x7_3 : Int) (x19_2 : Int) : Option (Int) :=
  cnd (decide (x19_2 < (a0.length : Int))) (bnd (gAt a0 x19_2) fun t21 =>
  bnd (where_distance t15 t21) fun t26 =>
  bnd (gI (x7_3 + t26)) fun t27 =>
  bnd (gI (x19_2 + 1)) fun t28 =>
  next4 (t27, t28)) (where_middle_j3 x3_2 x4_3 x12_3 next1 x7_3)
noncomputable def where_middle_l1 (a0 : (List T_api_Place)) (next1 : ((Int × Int × Int) → Option (Int))) (x3_2 : Int) (x4_3 : Int) (x12_3 : Int) : Option (Int) :=
  cnd (decide (x12_3 < (a0.length : Int))) (bnd (gAt a0 x12_3) fun t15 =>
  fix (fun next4 s => where_middle_l4 a0 x3_2 x4_3 x12_3 next1 t15 next4 s.1 s.2) (0, 0)) (some x3_2)
noncomputable def where_middle (a0 : (List T_api_Place)) : Option (Int) :=
  fix (fun next1 s => where_middle_l1 a0 next1 s.1 s.2.1 s.2.2) (0, (-1), 0)

/-! tintype/where.Stops$4 -/
noncomputable def where_Stops_4 (a0 : (List T_api_Place)) : Option (T_api_Place) :=
  bnd (where_middle a0) fun t5 =>
  bnd (gAt a0 t5) fun t6 =>
  some t6

/-! (tintype/where.part).parts -/
noncomputable def where_part_parts_j1 (l : (List T_where_Stop)) : Option ((List T_where_Stop)) :=
  some l
noncomputable def where_part_parts_j3 (a0 : T_where_part) (x6_2 : Int) (l_3 : (List T_where_Stop)) (next2 : ((Int × (List T_where_Stop)) → Option ((List T_where_Stop)))) (t19 : (Int)) (l_4 : (List T_api_Place)) : Option ((List T_where_Stop)) :=
  bnd (a0.place_ l_4) fun t54 =>
  bnd (gApp 32 l_3 ([(⟨x6_2, t19, t54⟩ : T_where_Stop)] : List T_where_Stop)) fun l57 =>
  bnd (gI (t19 + 1)) fun t59 =>
  next2 (t59, l57)
noncomputable def where_part_parts_l4 (a0 : T_where_part) (x6_2 : Int) (l_3 : (List T_where_Stop)) (next2 : ((Int × (List T_where_Stop)) → Option ((List T_where_Stop)))) (t19 : (Int)) (t36 : (List T_where_Fix)) (next4 : ((Int × (List T_api_Place)) → Option ((List T_where_Stop)))) (x38_2 : Int) (l_6 : (List T_api_Place)) : Option ((List T_where_Stop)) :=
  cnd (decide (x38_2 < (t36.length : Int))) (bnd (gAt t36 x38_2) fun t40 =>
  bnd (gApp 16 l_6 ([t40.Place] : List T_api_Place)) fun l46 =>
  bnd (gI (x38_2 + 1)) fun t47 =>
  next4 (t47, l46)) (where_part_parts_j3 a0 x6_2 l_3 next2 t19 l_6)
noncomputable def where_part_parts_l2 (a0 : T_where_part) (a1 : (List T_where_Fix)) (next2 : ((Int × (List T_where_Stop)) → Option ((List T_where_Stop)))) (x6_2 : Int) (l_3 : (List T_where_Stop)) : Option ((List T_where_Stop)) :=
  cnd (decide (x6_2 < (a1.length : Int))) (bnd (a0.end_ a1 x6_2) fun t19 =>
  bnd (a0.counts_ a1 x6_2 t19) fun t25 =>
  cnd (!t25) (bnd (a0.step_ x6_2 t19) fun t31 =>
  next2 (t31, l_3)) (bnd (gI (t19 + 1)) fun t35 =>
  bnd (gCut a1 x6_2 t35) fun t36 =>
  fix (fun next4 s => where_part_parts_l4 a0 x6_2 l_3 next2 t19 t36 next4 s.1 s.2) (0, ([] : List T_api_Place)))) (where_part_parts_j1 l_3)
noncomputable def where_part_parts (a0 : T_where_part) (a1 : (List T_where_Fix)) : Option ((List T_where_Stop)) :=
  fix (fun next2 s => where_part_parts_l2 a0 a1 next2 s.1 s.2) (0, ([] : List T_where_Stop))

/-! tintype/where.Stops -/
noncomputable def where_Stops (a0 : (List T_where_Fix)) (a1 : Int) (a2 : Int) : Option ((List T_where_Stop) × Int) :=
  bnd (where_checkParts a0 a1 a2) fun t13 =>
  cnd (decide (t13 ≠ 0)) (some (([] : List T_where_Stop), t13)) (bnd (where_part_parts (⟨(where_Stops_1 a1), (where_Stops_2 a2), where_Stops_3, where_Stops_4⟩ : T_where_part) a0) fun t22 =>
  some (t22, 0))

/-! tintype/where.checkPlaces -/
noncomputable def where_checkPlaces_l1 (a0 : (List T_api_Place)) (next1 : ((Int) → Option (Int))) (x8_2 : Int) : Option (Int) :=
  cnd (decide (x8_2 < (a0.length : Int))) (bnd (gAt a0 x8_2) fun t10 =>
  bnd (where_CheckPlace t10) fun t13 =>
  cnd (decide (t13 ≠ 0)) (some t13) (bnd (gI (x8_2 + 1)) fun t17 =>
  next1 t17)) (some 0)
noncomputable def where_checkPlaces (a0 : (List T_api_Place)) : Option (Int) :=
  fix (fun next1 s => where_checkPlaces_l1 a0 next1 s) 0

/-! tintype/where.Distance -/
noncomputable def where_Distance (a0 : T_api_Place) (a1 : T_api_Place) : Option (Int × Int) :=
  bnd (where_checkPlaces ([a0, a1] : List T_api_Place)) fun t10 =>
  cnd (decide (t10 ≠ 0)) (some (0, t10)) (bnd (where_distance a0 a1) fun t16 =>
  some (t16, 0))

/-! tintype/tintkeep2.WhereStopsHold -/
noncomputable def Keep_WhereStopsHold_j2 (x29_2 : Int) (next1 : ((Int × Int) → Option (Bool))) (x9_3 : Int) (x39 : Int) (x41 : Int) (x42 : Bool) (x46 : Int) (x49 : Bool) (x54 : Int) (x57 : Int) (x60 : Int) (x63 : Int) (x64 : Int) (x66 : Bool) (m : Int) (m_2 : Int) (m_3 : Int) (m_4 : Int) : Option (Bool) :=
  bnd (gI (x29_2 + 1)) fun t103 =>
  next1 (x9_3, t103)
noncomputable def Keep_WhereStopsHold_j3 (a0 : (List T_where_Fix)) (a2 : Int) (x29_2 : Int) (next1 : ((Int × Int) → Option (Bool))) (t31 : T_where_Stop) (t55 : T_where_Fix) (t61 : T_where_Fix) (t64 : Int) (x41_2 : Int) (x42_2 : Bool) (x60_2 : Int) (m_5 : Int) : Option (Bool) :=
  bnd (gI (t31.To + 1)) fun t102 =>
  Keep_WhereStopsHold_j2 x29_2 next1 t102 t31.To x41_2 x42_2 t31.To (decide ((a0.length : Int) ≤ t31.To)) t31.To t55.Moment x60_2 t61.Moment t64 (decide (t64 < a2)) m_5 t31.To t31.Place.Lat t31.Place.Lon
noncomputable def Keep_WhereStopsHold_l4 (a0 : (List T_where_Fix)) (a1 : Int) (a2 : Int) (x29_2 : Int) (next1 : ((Int × Int) → Option (Bool))) (t31 : T_where_Stop) (t55 : T_where_Fix) (t61 : T_where_Fix) (t64 : Int) (t74 : (List T_where_Fix)) (next4 : ((Int) → Option (Bool))) (x76_2 : Int) : Option (Bool) :=
  cnd (decide (x76_2 < (t74.length : Int))) (bnd (gAt t74 x76_2) fun t78 =>
  bnd (gAt a0 t31.From) fun t84 =>
  bnd (where_Distance t84.Place t78.Place) fun t89 =>
  cnd (decide (t89.2 ≠ 0)) (some false) (cnd (decide (a1 < t89.1)) (some false) (bnd (gI (x76_2 + 1)) fun t99 =>
  next4 t99))) (Keep_WhereStopsHold_j3 a0 a2 x29_2 next1 t31 t55 t61 t64 t31.From (decide (t31.To < t31.From)) t31.From t31.From)
noncomputable def Keep_WhereStopsHold_l1 (a0 : (List T_where_Fix)) (a1 : Int) (a2 : Int) (t22 : ((List T_where_Stop) × Int)) (next1 : ((Int × Int) → Option (Bool))) (x9_2 : Int) (x29_2 : Int) : Option (Bool) :=
  cnd (decide (x29_2 < (t22.1.length : Int))) (bnd (gAt t22.1 x29_2) fun t31 =>
  cnd (decide (t31.From < x9_2)) (some false) (cnd (decide (t31.To < t31.From)) (some false) (cnd (decide ((a0.length : Int) ≤ t31.To)) (some false) (bnd (gAt a0 t31.To) fun t55 =>
  bnd (gAt a0 t31.From) fun t61 =>
  bnd (gI (t55.Moment - t61.Moment)) fun t64 =>
  cnd (decide (t64 < a2)) (some false) (bnd (gI (t31.To + 1)) fun t73 =>
  bnd (gCut a0 t31.From t73) fun t74 =>
  fix (fun next4 s => Keep_WhereStopsHold_l4 a0 a1 a2 x29_2 next1 t31 t55 t61 t64 t74 next4 s) 0))))) (some true)
noncomputable def Keep_WhereStopsHold (a0 : (List T_where_Fix)) (a1 : Int) (a2 : Int) : Option (Bool) :=
  bnd (Keep_awakeWhere) fun t16 =>
  cnd (!t16) (some false) (bnd (where_Stops a0 a1 a2) fun t22 =>
  cnd (decide (t22.2 ≠ 0)) (some true) (fix (fun next1 s => Keep_WhereStopsHold_l1 a0 a1 a2 t22 next1 s.1 s.2) (0, 0)))

/-! tintype/where.wrap -/
noncomputable def where_wrap (a0 : Int) : Option (Int) :=
  bnd (where_eastward (-180000000) a0) fun t4 =>
  bnd (gI (t4 - 180000000)) fun t5 =>
  some t5

/-! tintype/where.between -/
noncomputable def where_between (a0 : T_api_Place) (a1 : T_api_Place) (a2 : Int) (a3 : Int) : Option (T_api_Place) :=
  bnd (gI (a1.Lat - a0.Lat)) fun t15 =>
  bnd (gI (t15 * a2)) fun t17 =>
  bnd (where_floor t17 a3) fun t19 =>
  bnd (gI (a0.Lat + t19)) fun t20 =>
  bnd (where_short a0.Lon a1.Lon) fun t27 =>
  bnd (gI (t27 * a2)) fun t29 =>
  bnd (where_floor t29 a3) fun t31 =>
  bnd (gI (a0.Lon + t31)) fun t32 =>
  bnd (where_wrap t32) fun t33 =>
  some (⟨t20, t33⟩ : T_api_Place)

/-! tintype/where.simplify -/
noncomputable def where_simplify_j1 (a0 : (List T_where_Fix)) (a1 : Int) (a2 : Int) (a3 : Int) (a4 : (List Bool)) (self : ((List T_where_Fix) × Int × Int × Int × (List Bool)) → Option ((List Bool))) (x10 : Int) : Option ((List Bool)) :=
  cnd (decide (x10 < 0)) (some a4) (bnd (gAt a4 x10) fun t67 =>
  bnd (gSet a4 x10 true) fun l0 =>
  bnd (self (a0, a1, x10, a3, l0)) fun t73 =>
  bnd (self (a0, x10, a2, a3, t73)) fun t79 =>
  some t79)
noncomputable def where_simplify_j3 (x14_2 : Int) (next2 : ((Int × Int × Int) → Option ((List Bool)))) (x10_4 : Int) (x11_3 : Int) : Option ((List Bool)) :=
  bnd (gI (x14_2 + 1)) fun t32 =>
  next2 (x10_4, x11_3, t32)
noncomputable def where_simplify_l2 (a0 : (List T_where_Fix)) (a1 : Int) (a2 : Int) (a3 : Int) (a4 : (List Bool)) (self : ((List T_where_Fix) × Int × Int × Int × (List Bool)) → Option ((List Bool))) (t20 : T_where_Fix) (t24 : T_where_Fix) (next2 : ((Int × Int × Int) → Option ((List Bool)))) (x10_3 : Int) (x11_2 : Int) (x14_2 : Int) : Option ((List Bool)) :=
  cnd (decide (x14_2 < a2)) (bnd (gAt a0 x14_2) fun t39 =>
  bnd (gI (t39.Moment - t20.Moment)) fun t44 =>
  bnd (gI (t24.Moment - t20.Moment)) fun t49 =>
  bnd (where_between t20.Place t24.Place t44 t49) fun t50 =>
  bnd (gAt a0 x14_2) fun t53 =>
  bnd (where_distance t53.Place t50) fun t57 =>
  cnd (decide (x11_2 < t57)) (where_simplify_j3 x14_2 next2 x14_2 t57) (where_simplify_j3 x14_2 next2 x10_3 x11_2)) (where_simplify_j1 a0 a1 a2 a3 a4 self x10_3)
noncomputable def where_simplify_body (self : ((List T_where_Fix) × Int × Int × Int × (List Bool)) → Option ((List Bool))) (a0 : (List T_where_Fix)) (a1 : Int) (a2 : Int) (a3 : Int) (a4 : (List Bool)) : Option ((List Bool)) :=
  bnd (gAt a0 a1) fun t20 =>
  bnd (gAt a0 a2) fun t24 =>
  bnd (gI (a1 + 1)) fun t27 =>
  fix (fun next2 s => where_simplify_l2 a0 a1 a2 a3 a4 self t20 t24 next2 s.1 s.2.1 s.2.2) ((-1), a3, t27)
noncomputable def where_simplify (a0 : (List T_where_Fix)) (a1 : Int) (a2 : Int) (a3 : Int) (a4 : (List Bool)) : Option ((List Bool)) :=
  fix (fun (self : ((List T_where_Fix) × Int × Int × Int × (List Bool)) → Option ((List Bool))) (s : (List T_where_Fix) × Int × Int × Int × (List Bool)) => where_simplify_body self s.1 s.2.1 s.2.2.1 s.2.2.2.1 s.2.2.2.2) (a0, a1, a2, a3, a4)

/-! tintype/where.Simple -/
noncomputable def where_Simple_j2 (l_2 : (List T_where_Fix)) : Option ((List T_where_Fix) × Int) :=
  some (l_2, 0)
noncomputable def where_Simple_j4 (x39_2 : Int) (next3 : ((Int × (List T_where_Fix)) → Option ((List T_where_Fix) × Int))) (l_5 : (List T_where_Fix)) : Option ((List T_where_Fix) × Int) :=
  bnd (gI (x39_2 + 1)) fun t52 =>
  next3 (t52, l_5)
noncomputable def where_Simple_l3 (a0 : (List T_where_Fix)) (l : (List Bool)) (next3 : ((Int × (List T_where_Fix)) → Option ((List T_where_Fix) × Int))) (x39_2 : Int) (l_4 : (List T_where_Fix)) : Option ((List T_where_Fix) × Int) :=
  cnd (decide (x39_2 < (a0.length : Int))) (bnd (gAt a0 x39_2) fun t42 =>
  bnd (gAt l x39_2) fun t46 =>
  cnd t46 (bnd (gApp 24 l_4 ([t42] : List T_where_Fix)) fun l51 =>
  where_Simple_j4 x39_2 next3 l51) (where_Simple_j4 x39_2 next3 l_4)) (where_Simple_j2 l_4)
noncomputable def where_Simple_j1 (a0 : (List T_where_Fix)) (l : (List Bool)) : Option ((List T_where_Fix) × Int) :=
  fix (fun next3 s => where_Simple_l3 a0 l next3 s.1 s.2) (0, ([] : List T_where_Fix))
noncomputable def where_Simple (a0 : (List T_where_Fix)) (a1 : Int) : Option ((List T_where_Fix) × Int) :=
  bnd (where_CheckTrack a0) fun t13 =>
  cnd (decide (t13 ≠ 0)) (some (([] : List T_where_Fix), t13)) (bnd (where_outside a1 0 30000000) fun t18 =>
  cnd t18 (some (([] : List T_where_Fix), 2)) (bnd (gMake 1 (a0.length : Int) false) fun t21 =>
  bnd (gI ((a0.length : Int) - 1)) fun t24 =>
  cnd (decide (0 ≤ t24)) (bnd (gAt t21 0) fun t30 =>
  bnd (gSet t21 0 true) fun l0 =>
  bnd (gAt l0 t24) fun t31 =>
  bnd (gSet l0 t24 true) fun l0_2 =>
  bnd (where_simplify a0 0 t24 a1 l0_2) fun t36 =>
  where_Simple_j1 a0 t36) (where_Simple_j1 a0 t21)))

/-! sort.Search -/
noncomputable def sort_Search_l1 (a1 : (Int → Option (Bool))) (next1 : ((Int × Int) → Option (Int))) (x5_2 : Int) (x6_2 : Int) : Option (Int) :=
  cnd (decide (x5_2 < x6_2)) (bnd (gI (x5_2 + x6_2)) fun t14 =>
  bnd (gShr 64 (wU64 t14) 1) fun t16 =>
  bnd (a1 (wI64 t16)) fun t20 =>
  cnd (!t20) (bnd (gI ((wI64 t16) + 1)) fun t23 =>
  next1 (t23, x6_2)) (next1 (x5_2, (wI64 t16)))) (some x5_2)
noncomputable def sort_Search (a0 : Int) (a1 : (Int → Option (Bool))) : Option (Int) :=
  fix (fun next1 s => sort_Search_l1 a1 next1 s.1 s.2) (0, a0)

/-! tintype/where.at$1 -/
noncomputable def where_at_1 (q0 : (List T_where_Fix)) (q1 : Int) (a0 : Int) : Option (Bool) :=
  bnd (gAt q0 a0) fun t7 =>
  some (decide (q1 ≤ t7.Moment))

/-! tintype/where.at -/
noncomputable def where_at_j4  : Option (T_api_Place × Bool) :=
  some ((⟨0, 0⟩ : T_api_Place), false)
noncomputable def where_at_j6 (a2 : Int) (t14 : (Int)) (x10 : Int) (x88 : Bool) (m_4 : (List T_where_Fix)) : Option (T_api_Place × Bool) :=
  cnd x88 (bnd (gI (t14 - 1)) fun t109 =>
  bnd (gAt m_4 t109) fun t110 =>
  some (t110.Place, true)) (cnd (decide (t14 < (m_4.length : Int))) (cnd (decide (x10 ≤ a2)) (bnd (gAt m_4 t14) fun t125 =>
  some (t125.Place, true)) (where_at_j4)) (where_at_j4))
noncomputable def where_at_j5 (a2 : Int) (t14 : (Int)) (x9 : Int) (x10 : Int) (x56 : Bool) (m_3 : (List T_where_Fix)) : Option (T_api_Place × Bool) :=
  cnd x56 (bnd (gI (t14 - 1)) fun t74 =>
  bnd (gAt m_3 t74) fun t75 =>
  bnd (gAt m_3 t14) fun t80 =>
  bnd (gI (x9 + x10)) fun t86 =>
  bnd (where_between t75.Place t80.Place x9 t86) fun t87 =>
  some (t87, true)) (cnd (decide (0 < t14)) (cnd (decide (x9 ≤ a2)) (cnd (decide (t14 = (m_3.length : Int))) (where_at_j6 a2 t14 x10 true m_3) (where_at_j6 a2 t14 x10 (decide (x9 ≤ x10)) m_3)) (where_at_j6 a2 t14 x10 false m_3)) (where_at_j6 a2 t14 x10 false m_3))
noncomputable def where_at_j3 (a2 : Int) (t14 : (Int)) (x9 : Int) (x10 : Int) (m_2 : (List T_where_Fix)) : Option (T_api_Place × Bool) :=
  cnd (decide (0 < t14)) (cnd (decide (t14 < (m_2.length : Int))) (bnd (gI (x9 + x10)) fun t68 =>
  where_at_j5 a2 t14 x9 x10 (decide (t68 ≤ a2)) m_2) (where_at_j5 a2 t14 x9 x10 false m_2)) (where_at_j5 a2 t14 x9 x10 false m_2)
noncomputable def where_at_j2 (a1 : Int) (a2 : Int) (t14 : (Int)) (x9 : Int) (m : (List T_where_Fix)) : Option (T_api_Place × Bool) :=
  cnd (decide (t14 < (m.length : Int))) (bnd (gAt m t14) fun t51 =>
  bnd (gI (t51.Moment - a1)) fun t55 =>
  where_at_j3 a2 t14 x9 t55 m) (where_at_j3 a2 t14 x9 a2 m)
noncomputable def where_at_j1 (a0 : (List T_where_Fix)) (a1 : Int) (a2 : Int) (t14 : (Int)) : Option (T_api_Place × Bool) :=
  cnd (decide (0 < t14)) (bnd (gI (t14 - 1)) fun t40 =>
  bnd (gAt a0 t40) fun t41 =>
  bnd (gI (a1 - t41.Moment)) fun t44 =>
  where_at_j2 a1 a2 t14 t44 a0) (where_at_j2 a1 a2 t14 a2 a0)
noncomputable def where_at (a0 : (List T_where_Fix)) (a1 : Int) (a2 : Int) : Option (T_api_Place × Bool) :=
  bnd (sort_Search (a0.length : Int) (where_at_1 a0 a1)) fun t14 =>
  cnd (decide (t14 < (a0.length : Int))) (bnd (gAt a0 t14) fun t22 =>
  cnd (decide (t22.Moment = a1)) (bnd (gAt a0 t14) fun t30 =>
  some (t30.Place, true)) (where_at_j1 a0 a1 a2 t14)) (where_at_j1 a0 a1 a2 t14)

/-! tintype/where.At -/
noncomputable def where_At (a0 : (List T_where_Fix)) (a1 : Int) (a2 : Int) : Option (T_api_Place × Int) :=
  bnd (where_CheckTrack a0) fun t12 =>
  cnd (decide (t12 ≠ 0)) (some ((⟨0, 0⟩ : T_api_Place), t12)) (bnd (where_isMoment a1) fun t18 =>
  cnd (!t18) (some ((⟨0, 0⟩ : T_api_Place), 2)) (cnd (decide (a2 < 0)) (some ((⟨0, 0⟩ : T_api_Place), 2)) (bnd (where_at a0 a1 a2) fun t29 =>
  cnd (!t29.2) (some ((⟨0, 0⟩ : T_api_Place), 7)) (some (t29.1, 0)))))

/-! tintype/tintkeep2.WhereSimpleNear -/
noncomputable def Keep_WhereSimpleNear_l1 (a0 : (List T_where_Fix)) (a1 : Int) (t18 : ((List T_where_Fix) × Int)) (next1 : ((Int) → Option (Bool))) (x57_2 : Int) : Option (Bool) :=
  cnd (decide (x57_2 < (a0.length : Int))) (bnd (gAt a0 x57_2) fun t59 =>
  bnd (where_At t18.1 t59.Moment 6311433599) fun t65 =>
  cnd (decide (t65.2 ≠ 0)) (some false) (bnd (where_Distance t65.1 t59.Place) fun t74 =>
  cnd (decide (t74.2 ≠ 0)) (some false) (cnd (decide (a1 < t74.1)) (some false) (bnd (gI (x57_2 + 1)) fun t84 =>
  next1 t84)))) (some true)
noncomputable def Keep_WhereSimpleNear (a0 : (List T_where_Fix)) (a1 : Int) : Option (Bool) :=
  bnd (Keep_awakeWhere) fun t13 =>
  cnd (!t13) (some false) (bnd (where_Simple a0 a1) fun t18 =>
  cnd (decide (t18.2 ≠ 0)) (some true) (cnd (decide ((a0.length : Int) = 0)) (some true) (cnd (decide ((t18.1.length : Int) = 0)) (some false) (bnd (gAt t18.1 0) fun t33 =>
  bnd (gAt a0 0) fun t36 =>
  cnd (!(eq_where_Fix t33 t36)) (some false) (bnd (gI ((t18.1.length : Int) - 1)) fun t44 =>
  bnd (gAt t18.1 t44) fun t45 =>
  bnd (gI ((a0.length : Int) - 1)) fun t50 =>
  bnd (gAt a0 t50) fun t51 =>
  cnd (!(eq_where_Fix t45 t51)) (some false) (fix (fun next1 s => Keep_WhereSimpleNear_l1 a0 a1 t18 next1 s) 0))))))

end Go.M
