/- WherePacks: the models, printed by our generator from the compiled program. Conditions: none. -/
import Derived.Test.YtohdhdiaahiicaaDoorMd7
namespace Go.M
open Go.Md
set_option maxRecDepth 100000
set_option linter.unusedVariables false

structure T_api_Place where
  Lat : Int
  Lon : Int
instance : Inhabited T_api_Place := ⟨⟨0, 0⟩⟩

def eq_api_Place (x y : T_api_Place) : Bool := decide (x.Lat = y.Lat ∧ x.Lon = y.Lon)

/-! tintype/where.outside -/
noncomputable def where_outside (a0 : Int) (a1 : Int) (a2 : Int) : Option (Bool) :=
  cnd (decide (a0 < a1)) (some true) (some (decide (a2 < a0)))

/-! tintype/where.isLat -/
noncomputable def where_isLat (a0 : Int) : Option (Bool) :=
  bnd (where_outside a0 (-90000000) 90000000) fun t4 =>
  some (!t4)

/-! tintype/where.isLon -/
noncomputable def where_isLon (a0 : Int) : Option (Bool) :=
  bnd (where_outside a0 (-180000000) 179999999) fun t4 =>
  some (!t4)

/-! tintype/where.CheckPlace -/
noncomputable def where_CheckPlace (a0 : T_api_Place) : Option (Int) :=
  bnd (where_isLat a0.Lat) fun t5 =>
  cnd (!t5) (some 2) (bnd (where_isLon a0.Lon) fun t10 =>
  cnd (!t10) (some 2) (some 0))

/-! tintype/where.checkPlaces -/
noncomputable def where_checkPlaces_l1 (a0 : (List T_api_Place)) (next1 : ((Int) → Option (Int))) (x8_2 : Int) : Option (Int) :=
  cnd (decide (x8_2 < (a0.length : Int))) (bnd (gAt a0 x8_2) fun t10 =>
  bnd (where_CheckPlace t10) fun t13 =>
  cnd (decide (t13 ≠ 0)) (some t13) (bnd (gI (x8_2 + 1)) fun t17 =>
  next1 t17)) (some 0)
noncomputable def where_checkPlaces (a0 : (List T_api_Place)) : Option (Int) :=
  fix (fun next1 s => where_checkPlaces_l1 a0 next1 s) 0

/-! tintype/where.checkList -/
noncomputable def where_checkList (a0 : (List T_api_Place)) : Option (Int) :=
  cnd (decide (1000 < (a0.length : Int))) (some 4) (bnd (where_checkPlaces a0) fun t7 =>
  some t7)

/-! tintype/where.packed -/
noncomputable def where_packed_j2 (x5_2 : Int) (l : (List Int)) : Option ((List Int)) :=
  bnd (gI (63 + x5_2)) fun t26 =>
  bnd (gApp 1 l ([(wU8 t26)] : List Int)) fun l29 =>
  some l29
noncomputable def where_packed_l3 (next3 : ((Int × (List Int)) → Option ((List Int)))) (x5_4 : Int) (l_3 : (List Int)) : Option ((List Int)) :=
  cnd (decide (32 ≤ x5_4)) (bnd (gRem x5_4 32) fun t19 =>
  bnd (gI (95 + t19)) fun t20 =>
  bnd (gApp 1 l_3 ([(wU8 t20)] : List Int)) fun l23 =>
  bnd (gQuo x5_4 32) fun t16 =>
  next3 (t16, l23)) (where_packed_j2 x5_4 l_3)
noncomputable def where_packed_j1 (a0 : (List Int)) (x5 : Int) : Option ((List Int)) :=
  fix (fun next3 s => where_packed_l3 next3 s.1 s.2) (x5, a0)
noncomputable def where_packed (a0 : (List Int)) (a1 : Int) : Option ((List Int)) :=
  bnd (gI (2 * a1)) fun t7 =>
  cnd (decide (a1 < 0)) (bnd (gI ((-2) * a1)) fun t11 =>
  bnd (gI (t11 - 1)) fun t12 =>
  where_packed_j1 a0 t12) (where_packed_j1 a0 t7)

/-! tintype/where.Pack -/
noncomputable def where_Pack_j1 (l : (List Int)) : Option ((List UInt8) × Int) :=
  some ((toStr l), 0)
noncomputable def where_Pack_l2 (a0 : (List T_api_Place)) (next2 : ((Int × Int × Int × (List Int)) → Option ((List UInt8) × Int))) (x17_2 : Int) (m_3 : Int) (m_4 : Int) (l_3 : (List Int)) : Option ((List UInt8) × Int) :=
  cnd (decide (x17_2 < (a0.length : Int))) (bnd (gAt a0 x17_2) fun t19 =>
  bnd (gI (t19.Lat - m_3)) fun t26 =>
  bnd (where_packed l_3 t26) fun t27 =>
  bnd (gI (t19.Lon - m_4)) fun t32 =>
  bnd (where_packed t27 t32) fun t33 =>
  bnd (gI (x17_2 + 1)) fun t35 =>
  next2 (t35, t19.Lat, t19.Lon, t33)) (where_Pack_j1 l_3)
noncomputable def where_Pack (a0 : (List T_api_Place)) : Option ((List UInt8) × Int) :=
  bnd (where_checkList a0) fun t10 =>
  cnd (decide (t10 ≠ 0)) (some ([], t10)) (fix (fun next2 s => where_Pack_l2 a0 next2 s.1 s.2.1 s.2.2.1 s.2.2.2) (0, 0, 0, ([] : List Int)))

/-! tintype/tintlaw2.first -/
noncomputable def Law_first_l1 (a0 : (List Int)) (next1 : ((Int) → Option (Int))) (x7_2 : Int) : Option (Int) :=
  cnd (decide (x7_2 < (a0.length : Int))) (bnd (gAt a0 x7_2) fun t9 =>
  cnd (decide (t9 ≠ 0)) (some t9) (bnd (gI (x7_2 + 1)) fun t14 =>
  next1 t14)) (some 0)
noncomputable def Law_first (a0 : (List Int)) : Option (Int) :=
  fix (fun next1 s => Law_first_l1 a0 next1 s) 0

/-! tintype/tintlaw2.unless -/
noncomputable def Law_unless (a0 : Bool) (a1 : Int) : Option (Int) :=
  cnd a0 (some 0) (some a1)

/-! tintype/tintref2.PlaceFault -/
noncomputable def R_PlaceFault (a0 : T_api_Place) : Option (Int) :=
  cnd (decide (a0.Lat < (-90000000))) (some 2) (cnd (decide (90000000 < a0.Lat)) (some 2) (cnd (decide (a0.Lon < (-180000000))) (some 2) (cnd (decide (179999999 < a0.Lon)) (some 2) (some 0))))

/-! tintype/tintlaw2.listFault -/
noncomputable def Law_listFault_l2 (a0 : (List T_api_Place)) (next2 : ((Int × Int) → Option (Int))) (x5_3 : Int) (x24_2 : Int) : Option (Int) :=
  cnd (decide (x24_2 < (a0.length : Int))) (bnd (gAt a0 x24_2) fun t26 =>
  bnd (R_PlaceFault t26) fun t30 =>
  bnd (Law_first ([x5_3, t30] : List Int)) fun t32 =>
  bnd (gI (x24_2 + 1)) fun t33 =>
  next2 (t32, t33)) (some x5_3)
noncomputable def Law_listFault_j1 (a0 : (List T_api_Place)) (x5 : Int) : Option (Int) :=
  fix (fun next2 s => Law_listFault_l2 a0 next2 s.1 s.2) (x5, 0)
noncomputable def Law_listFault (a0 : (List T_api_Place)) (a1 : Bool) : Option (Int) :=
  cnd (decide (0 < (a0.length : Int))) (bnd (Law_unless true 7) fun t15 =>
  bnd (Law_unless (decide ((a0.length : Int) ≤ 1000)) 4) fun t19 =>
  bnd (Law_first ([t15, t19] : List Int)) fun t21 =>
  Law_listFault_j1 a0 t21) (bnd (Law_unless (!a1) 7) fun t15_2 =>
  bnd (Law_unless (decide ((a0.length : Int) ≤ 1000)) 4) fun t19_2 =>
  bnd (Law_first ([t15_2, t19_2] : List Int)) fun t21_2 =>
  Law_listFault_j1 a0 t21_2)

/-! tintype/tintref2.PackOf$1 -/
noncomputable def R_PackOf_1_j2 (x3_2 : Int) (m : (List UInt8)) : Option ((List UInt8)) :=
  bnd (gI (63 + x3_2)) fun t22 =>
  bnd (gBldB m (wU8 t22)) fun t24 =>
  some t24
noncomputable def R_PackOf_1_l3 (next3 : ((Int × (List UInt8)) → Option ((List UInt8)))) (x3_4 : Int) (m_3 : (List UInt8)) : Option ((List UInt8)) :=
  cnd (decide (32 ≤ x3_4)) (bnd (gRem x3_4 32) fun t14 =>
  bnd (gI (63 + t14)) fun t15 =>
  bnd (gI (t15 + 32)) fun t16 =>
  bnd (gBldB m_3 (wU8 t16)) fun t18 =>
  bnd (gQuo x3_4 32) fun t20 =>
  next3 (t20, t18)) (R_PackOf_1_j2 x3_4 m_3)
noncomputable def R_PackOf_1_j1 (q0 : (List UInt8)) (x3 : Int) : Option ((List UInt8)) :=
  fix (fun next3 s => R_PackOf_1_l3 next3 s.1 s.2) (x3, q0)
noncomputable def R_PackOf_1 (q0 : (List UInt8)) (a0 : Int) : Option ((List UInt8)) :=
  bnd (gI (2 * a0)) fun t5 =>
  cnd (decide (a0 < 0)) (bnd (gI ((-2) * a0)) fun t9 =>
  bnd (gI (t9 - 1)) fun t10 =>
  R_PackOf_1_j1 q0 t10) (R_PackOf_1_j1 q0 t5)

/-! tintype/tintref2.PackOf -/
noncomputable def R_PackOf_j1 (m : (List UInt8)) : Option ((List UInt8)) :=
  some m
noncomputable def R_PackOf_l2 (a0 : (List T_api_Place)) (next2 : ((Int × (List UInt8) × Int × Int) → Option ((List UInt8)))) (x12_2 : Int) (m_5 : (List UInt8)) (m_6 : Int) (m_7 : Int) : Option ((List UInt8)) :=
  cnd (decide (x12_2 < (a0.length : Int))) (bnd (gAt a0 x12_2) fun t14 =>
  bnd (gI (t14.Lat - m_6)) fun t21 =>
  bnd (R_PackOf_1 m_5 t21) fun t22 =>
  bnd (gI (t14.Lon - m_7)) fun t28 =>
  bnd (R_PackOf_1 t22 t28) fun t29 =>
  bnd (gI (x12_2 + 1)) fun t31 =>
  next2 (t31, t29, t14.Lat, t14.Lon)) (R_PackOf_j1 m_5)
noncomputable def R_PackOf (a0 : (List T_api_Place)) : Option ((List UInt8)) :=
  fix (fun next2 s => R_PackOf_l2 a0 next2 s.1 s.2.1 s.2.2.1 s.2.2.2) (0, [], 0, 0)

/-! tintype/tintlaw2.told[string] -/
noncomputable def Law_told_string_j1 (a0 : (List UInt8)) (a1 : Int) (a3 : Int) (x2 : (List UInt8)) : Option (Bool) :=
  cnd (decide (a0 = x2)) (some (decide (a1 = a3))) (some false)
noncomputable def Law_told_string (a0 : (List UInt8)) (a1 : Int) (a2 : (List UInt8)) (a3 : Int) : Option (Bool) :=
  cnd (decide (a3 ≠ 0)) (Law_told_string_j1 a0 a1 a3 []) (Law_told_string_j1 a0 a1 a3 a2)

/-! tintype/where.unpack -/
noncomputable def where_unpack_j2 (a0 : (List UInt8)) (x6_2 : Int) (t31 : Int) : Option (Int × (List UInt8) × Bool) :=
  bnd (gRem t31 2) fun t41 =>
  cnd (decide (t41 = 1)) (bnd (gI (t31 + 1)) fun t44 =>
  bnd (gI (-t44)) fun t45 =>
  bnd (gQuo t45 2) fun t46 =>
  bnd (gI (x6_2 + 1)) fun t49 =>
  bnd (gCut a0 t49 a0.length) fun t50 =>
  some (t46, t50, true)) (bnd (gQuo t31 2) fun t52 =>
  bnd (gI (x6_2 + 1)) fun t55 =>
  bnd (gCut a0 t55 a0.length) fun t56 =>
  some (t52, t56, true))
noncomputable def where_unpack_l1 (a0 : (List UInt8)) (next1 : ((Int × Int) → Option (Int × (List UInt8) × Bool))) (x5_2 : Int) (x6_2 : Int) : Option (Int × (List UInt8) × Bool) :=
  cnd (decide (x6_2 < (a0.length : Int))) (cnd (decide (x6_2 < 6)) (bnd (gOct a0 x6_2) fun t20 =>
  bnd (gK (-9223372036854775808) 9223372036854775807 t20) fun t21 =>
  bnd (gI (t21 - 63)) fun t22 =>
  bnd (where_outside t22 0 63) fun t24 =>
  cnd t24 (some (0, [], false)) (bnd (gRem t22 32) fun t27 =>
  bnd (gI (5 * x6_2)) fun t29 =>
  bnd (gShl t27 t29) fun t30 =>
  bnd (gI (x5_2 + t30)) fun t31 =>
  cnd (decide (32 ≤ t22)) (bnd (gI (x6_2 + 1)) fun t17 =>
  next1 (t31, t17)) (cnd (decide (t22 = 0)) (cnd (decide (0 < x6_2)) (some (0, [], false)) (where_unpack_j2 a0 x6_2 t31)) (where_unpack_j2 a0 x6_2 t31)))) (some (0, [], false))) (some (0, [], false))
noncomputable def where_unpack (a0 : (List UInt8)) : Option (Int × (List UInt8) × Bool) :=
  fix (fun next1 s => where_unpack_l1 a0 next1 s.1 s.2) (0, 0)

/-! tintype/where.Unpack -/
noncomputable def where_Unpack_j1 (l : (List T_api_Place)) : Option ((List T_api_Place) × Int) :=
  bnd (where_checkList l) fun t52 =>
  cnd (decide (t52 ≠ 0)) (some (([] : List T_api_Place), t52)) (some (l, 0))
noncomputable def where_Unpack_l2 (next2 : (((List UInt8) × Int × Int × (List T_api_Place)) → Option ((List T_api_Place) × Int))) (x0_2 : (List UInt8)) (m_3 : Int) (m_4 : Int) (l_3 : (List T_api_Place)) : Option ((List T_api_Place) × Int) :=
  cnd (decide (x0_2 ≠ [])) (bnd (where_unpack x0_2) fun t21 =>
  bnd (where_unpack t21.2.1) fun t27 =>
  cnd (!t21.2.2) (some (([] : List T_api_Place), 8)) (cnd (!t27.2.2) (some (([] : List T_api_Place), 8)) (bnd (gI (m_3 + t21.1)) fun t40 =>
  bnd (gI (m_4 + t27.1)) fun t44 =>
  bnd (gApp 16 l_3 ([(⟨t40, t44⟩ : T_api_Place)] : List T_api_Place)) fun l49 =>
  next2 (t27.2.1, t40, t44, l49)))) (where_Unpack_j1 l_3)
noncomputable def where_Unpack (a0 : (List UInt8)) : Option ((List T_api_Place) × Int) :=
  cnd (decide (1000000 < (a0.length : Int))) (some (([] : List T_api_Place), 4)) (fix (fun next2 s => where_Unpack_l2 next2 s.1 s.2.1 s.2.2.1 s.2.2.2) (a0, 0, 0, ([] : List T_api_Place)))

/-! tintype/tintref2.UnpackOf -/
noncomputable def R_UnpackOf_l2 (l : (List Int)) (next2 : ((Int × Int × Int × (List T_api_Place)) → Option ((List T_api_Place) × Int))) (x12_2 : Int) (m_3 : Int) (m_4 : Int) (l_3 : (List T_api_Place)) : Option ((List T_api_Place) × Int) :=
  cnd (decide (x12_2 < (l.length : Int))) (bnd (gAt l x12_2) fun t102 =>
  bnd (gI (m_3 + t102)) fun t104 =>
  bnd (gI (x12_2 + 1)) fun t109 =>
  bnd (gAt l t109) fun t110 =>
  bnd (gI (m_4 + t110)) fun t112 =>
  bnd (R_PlaceFault (⟨t104, t112⟩ : T_api_Place)) fun t115 =>
  cnd (decide (t115 ≠ 0)) (some (([] : List T_api_Place), t115)) (bnd (gApp 16 l_3 ([(⟨t104, t112⟩ : T_api_Place)] : List T_api_Place)) fun l122 =>
  bnd (gI (x12_2 + 2)) fun t97 =>
  next2 (t97, t104, t112, l122))) (some (l_3, 0))
noncomputable def R_UnpackOf_j1 (l : (List Int)) : Option ((List T_api_Place) × Int) :=
  bnd (gRem (l.length : Int) 2) fun t85 =>
  cnd (decide (t85 = 1)) (some (([] : List T_api_Place), 8)) (bnd (gQuo (l.length : Int) 2) fun t89 =>
  cnd (decide (1000 < t89)) (some (([] : List T_api_Place), 4)) (fix (fun next2 s => R_UnpackOf_l2 l next2 s.1 s.2.1 s.2.2.1 s.2.2.2) (0, 0, 0, ([] : List T_api_Place))))
noncomputable def R_UnpackOf_j5 (l_5 : (List Int)) (next3 : ((Int × (List Int)) → Option ((List T_api_Place) × Int))) (x5_3 : Int) (x6_2 : Int) : Option ((List T_api_Place) × Int) :=
  bnd (gApp 8 l_5 ([x6_2] : List Int)) fun l82 =>
  next3 (x5_3, l82)
noncomputable def R_UnpackOf_j4 (l_5 : (List Int)) (next3 : ((Int × (List Int)) → Option ((List T_api_Place) × Int))) (x5_3 : Int) (x6 : Int) : Option ((List T_api_Place) × Int) :=
  bnd (gRem x6 2) fun t71 =>
  cnd (decide (t71 = 1)) (bnd (gI (x6 + 1)) fun t74 =>
  bnd (gI (-t74)) fun t75 =>
  bnd (gQuo t75 2) fun t76 =>
  R_UnpackOf_j5 l_5 next3 x5_3 t76) (bnd (gQuo x6 2) fun t78 =>
  R_UnpackOf_j5 l_5 next3 x5_3 t78)
noncomputable def R_UnpackOf_j7 (x5_5 : Int) (next6 : ((Int × Int × Int × Bool) → Option ((List T_api_Place) × Int))) (t46 : Int) (t55 : Int) (x7_3 : Int) : Option ((List T_api_Place) × Int) :=
  bnd (gI (x5_5 + 1)) fun t69 =>
  next6 (t69, t55, x7_3, (decide (32 ≤ t46)))
noncomputable def R_UnpackOf_l6 (a0 : (List UInt8)) (l_5 : (List Int)) (next3 : ((Int × (List Int)) → Option ((List T_api_Place) × Int))) (next6 : ((Int × Int × Int × Bool) → Option ((List T_api_Place) × Int))) (x5_5 : Int) (x6_4 : Int) (x7_2 : Int) (x8_2 : Bool) : Option ((List T_api_Place) × Int) :=
  cnd x8_2 (cnd (decide (x5_5 = (a0.length : Int))) (some (([] : List T_api_Place), 8)) (bnd (gOct a0 x5_5) fun t29 =>
  cnd (decide (t29 < 63)) (some (([] : List T_api_Place), 8)) (bnd (gOct a0 x5_5) fun t35 =>
  cnd (decide (126 < t35)) (some (([] : List T_api_Place), 8)) (cnd (decide (x7_2 = 6)) (some (([] : List T_api_Place), 8)) (bnd (gOct a0 x5_5) fun t44 =>
  bnd (gK (-9223372036854775808) 9223372036854775807 t44) fun t45 =>
  bnd (gI (t45 - 63)) fun t46 =>
  bnd (gRem t46 32) fun t51 =>
  bnd (gI (5 * x7_2)) fun t53 =>
  bnd (gShl t51 t53) fun t54 =>
  bnd (gI (x6_4 + t54)) fun t55 =>
  bnd (gI (x7_2 + 1)) fun t57 =>
  cnd (!(decide (32 ≤ t46))) (cnd (decide (t46 = 0)) (cnd (decide (1 < t57)) (some (([] : List T_api_Place), 8)) (R_UnpackOf_j7 x5_5 next6 t46 t55 t57)) (R_UnpackOf_j7 x5_5 next6 t46 t55 t57)) (R_UnpackOf_j7 x5_5 next6 t46 t55 t57)))))) (R_UnpackOf_j4 l_5 next3 x5_5 x6_4)
noncomputable def R_UnpackOf_l3 (a0 : (List UInt8)) (next3 : ((Int × (List Int)) → Option ((List T_api_Place) × Int))) (x5_2 : Int) (l_5 : (List Int)) : Option ((List T_api_Place) × Int) :=
  cnd (decide (x5_2 < (a0.length : Int))) (fix (fun next6 s => R_UnpackOf_l6 a0 l_5 next3 next6 s.1 s.2.1 s.2.2.1 s.2.2.2) (x5_2, 0, 0, true)) (R_UnpackOf_j1 l_5)
noncomputable def R_UnpackOf (a0 : (List UInt8)) : Option ((List T_api_Place) × Int) :=
  cnd (decide (1000000 < (a0.length : Int))) (some (([] : List T_api_Place), 4)) (fix (fun next3 s => R_UnpackOf_l3 a0 next3 s.1 s.2) (0, ([] : List Int)))

/-! slices.Equal[[]tintype/api.Place,tintype/api.Place] -/
noncomputable def slices_Equal_api_Place_l1 (a0 : (List T_api_Place)) (a1 : (List T_api_Place)) (next1 : ((Int) → Option (Bool))) (x13_2 : Int) : Option (Bool) :=
  cnd (decide (x13_2 < (a0.length : Int))) (bnd (gAt a0 x13_2) fun t18 =>
  bnd (gAt a1 x13_2) fun t22 =>
  cnd (!(eq_api_Place t18 t22)) (some false) (bnd (gI (x13_2 + 1)) fun t25 =>
  next1 t25)) (some true)
noncomputable def slices_Equal_api_Place (a0 : (List T_api_Place)) (a1 : (List T_api_Place)) : Option (Bool) :=
  cnd (decide ((a0.length : Int) ≠ (a1.length : Int))) (some false) (fix (fun next1 s => slices_Equal_api_Place_l1 a0 a1 next1 s) 0)

/-! tintype/tintlaw2.listed[tintype/api.Place] -/
noncomputable def Law_listed_api_Place_j1 (a0 : (List T_api_Place)) (a1 : Int) (a3 : Int) (x2 : (List T_api_Place)) : Option (Bool) :=
  bnd (slices_Equal_api_Place a0 x2) fun t13 =>
  cnd t13 (some (decide (a1 = a3))) (some false)
noncomputable def Law_listed_api_Place (a0 : (List T_api_Place)) (a1 : Int) (a2 : (List T_api_Place)) (a3 : Int) : Option (Bool) :=
  cnd (decide (a3 ≠ 0)) (Law_listed_api_Place_j1 a0 a1 a3 ([] : (List T_api_Place))) (Law_listed_api_Place_j1 a0 a1 a3 a2)

/-! tintype/tintlaw2.WherePacks -/
noncomputable def Law_WherePacks_l2 (a1 : (List UInt8)) (x8 : (List UInt8)) (next2 : ((Int) → Option (Bool))) (x36_2 : Int) : Option (Bool) :=
  cnd (decide (x36_2 < 2)) (bnd (gAt ([a1, x8] : List (List UInt8)) x36_2) fun t38 =>
  bnd (where_Unpack t38) fun t42 =>
  bnd (R_UnpackOf t38) fun t47 =>
  bnd (Law_listed_api_Place t42.1 t42.2 t47.1 t47.2) fun t54 =>
  cnd (!t54) (some false) (bnd (gI (x36_2 + 1)) fun t56 =>
  next2 t56)) (some true)
noncomputable def Law_WherePacks_j1 (a1 : (List UInt8)) (t17 : ((List UInt8) × Int)) (t21 : (Int)) (x8 : (List UInt8)) : Option (Bool) :=
  bnd (Law_told_string t17.1 t17.2 x8 t21) fun t30 =>
  cnd (!t30) (some false) (fix (fun next2 s => Law_WherePacks_l2 a1 x8 next2 s) 0)
noncomputable def Law_WherePacks (a0 : (List T_api_Place)) (a1 : (List UInt8)) : Option (Bool) :=
  bnd (where_Pack a0) fun t17 =>
  bnd (Law_listFault a0 false) fun t21 =>
  cnd (decide (t21 = 0)) (bnd (R_PackOf a0) fun t25 =>
  Law_WherePacks_j1 a1 t17 t21 t25) (Law_WherePacks_j1 a1 t17 t21 [])

end Go.M
