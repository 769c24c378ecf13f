/- WhereLists: the models, printed by our generator from the compiled program. Conditions: none. -/
import Derived.Test.YtinpjnlocahjjaaLx16
namespace Go.M
open Go.Md
set_option maxRecDepth 100000
set_option linter.unusedVariables false

structure T_api_Place where
  Lat : Int
  Lon : Int
instance : Inhabited T_api_Place := ⟨⟨0, 0⟩⟩


/-! tintype/tintlaw2.first -/
noncomputable def Law_first_l1 (a0 : (List Int)) (next1 : ((Int) → Option (Int))) (x7_2 : Int) : Option (Int) :=
  cnd (decide (x7_2 < (a0.length : Int))) (bnd (gAt a0 x7_2) fun t9 =>
  cnd (decide (t9 ≠ 0)) (some t9) (bnd (gI (x7_2 + 1)) fun t14 =>
  next1 t14)) (some 0)
noncomputable def Law_first (a0 : (List Int)) : Option (Int) :=
  fix (fun next1 s => Law_first_l1 a0 next1 s) 0

/-! tintype/tintlaw2.unless -/
noncomputable def Law_unless (a0 : Bool) (a1 : Int) : Option (Int) :=
  cnd a0 (some 0) (some a1)

/-! tintype/where.outside -/
noncomputable def where_outside (a0 : Int) (a1 : Int) (a2 : Int) : Option (Bool) :=
  cnd (decide (a0 < a1)) (some true) (some (decide (a2 < a0)))

/-! tintype/where.isLat -/
noncomputable def where_isLat (a0 : Int) : Option (Bool) :=
  bnd (where_outside a0 (-90000000) 90000000) fun t4 =>
  some (!t4)

/-! tintype/where.isLon -/
noncomputable def where_isLon (a0 : Int) : Option (Bool) :=
  bnd (where_outside a0 (-180000000) 179999999) fun t4 =>
  some (!t4)

/-! tintype/where.CheckPlace -/
noncomputable def where_CheckPlace (a0 : T_api_Place) : Option (Int) :=
  bnd (where_isLat a0.Lat) fun t5 =>
  cnd (!t5) (some 2) (bnd (where_isLon a0.Lon) fun t10 =>
  cnd (!t10) (some 2) (some 0))

/-! tintype/where.checkPlaces -/
noncomputable def where_checkPlaces_l1 (a0 : (List T_api_Place)) (next1 : ((Int) → Option (Int))) (x8_2 : Int) : Option (Int) :=
  cnd (decide (x8_2 < (a0.length : Int))) (bnd (gAt a0 x8_2) fun t10 =>
  bnd (where_CheckPlace t10) fun t13 =>
  cnd (decide (t13 ≠ 0)) (some t13) (bnd (gI (x8_2 + 1)) fun t17 =>
  next1 t17)) (some 0)
noncomputable def where_checkPlaces (a0 : (List T_api_Place)) : Option (Int) :=
  fix (fun next1 s => where_checkPlaces_l1 a0 next1 s) 0

/-! tintype/where.checkList -/
noncomputable def where_checkList (a0 : (List T_api_Place)) : Option (Int) :=
  cnd (decide (1000 < (a0.length : Int))) (some 4) (bnd (where_checkPlaces a0) fun t7 =>
  some t7)

/-! tintype/where.eastward -/
noncomputable def where_eastward (a0 : Int) (a1 : Int) : Option (Int) :=
  bnd (gI (a1 - a0)) fun t7 =>
  bnd (gRem t7 360000000) fun t8 =>
  bnd (gI (t8 + 360000000)) fun t9 =>
  bnd (gRem t9 360000000) fun t10 =>
  some t10

/-! tintype/where.short -/
noncomputable def where_short (a0 : Int) (a1 : Int) : Option (Int) :=
  bnd (where_eastward a0 a1) fun t8 =>
  cnd (decide (180000000 ≤ t8)) (bnd (gI (t8 - 360000000)) fun t12 =>
  some t12) (some t8)

/-! tintype/where.cosine -/
noncomputable def where_cosine (a0 : Int) : Option (Int) :=
  bnd (gQuo a0 100) fun t5 =>
  bnd (gI (4 * t5)) fun t7 =>
  bnd (gI (t7 * t5)) fun t9 =>
  bnd (gI (3240000000000 - t9)) fun t10 =>
  bnd (gI (t10 * 1000000)) fun t11 =>
  bnd (gI (t5 * t5)) fun t14 =>
  bnd (gI (3240000000000 + t14)) fun t15 =>
  bnd (gQuo t11 t15) fun t16 =>
  some t16

/-! tintype/where.floor -/
noncomputable def where_floor (a0 : Int) (a1 : Int) : Option (Int) :=
  bnd (gQuo a0 a1) fun t8 =>
  bnd (gRem a0 a1) fun t11 =>
  cnd (decide (t11 < 0)) (bnd (gI (t8 - 1)) fun t14 =>
  some t14) (some t8)

/-! math.Sqrt -/
noncomputable def math_Sqrt (a0 : Nat) : Option (Nat) :=
  bnd (gSqrt a0) fun t4 =>
  some t4

/-! tintype/where.root -/
noncomputable def where_root_l2 (a0 : Int) (next2 : ((Int) → Option (Int))) (x3_3 : Int) : Option (Int) :=
  bnd (gI (x3_3 + 1)) fun t16 =>
  bnd (gI (x3_3 + 1)) fun t18 =>
  bnd (gI (t16 * t18)) fun t19 =>
  cnd (decide (t19 ≤ a0)) (bnd (gI (x3_3 + 1)) fun t23 =>
  next2 t23) (some x3_3)
noncomputable def where_root_j1 (a0 : Int) (x3 : Int) : Option (Int) :=
  fix (fun next2 s => where_root_l2 a0 next2 s) x3
noncomputable def where_root_l3 (a0 : Int) (next3 : ((Int) → Option (Int))) (x3_5 : Int) : Option (Int) :=
  bnd (gI (x3_5 * x3_5)) fun t10 =>
  cnd (decide (a0 < t10)) (bnd (gI (x3_5 - 1)) fun t14 =>
  next3 t14) (where_root_j1 a0 x3_5)
noncomputable def where_root (a0 : Int) : Option (Int) :=
  bnd (gIF a0) fun t5 =>
  bnd (math_Sqrt t5) fun t6 =>
  bnd (gFI t6) fun t7 =>
  fix (fun next3 s => where_root_l3 a0 next3 s) t7

/-! tintype/where.distance -/
noncomputable def where_distance (a0 : T_api_Place) (a1 : T_api_Place) : Option (Int) :=
  bnd (gI (a1.Lat - a0.Lat)) fun t11 =>
  bnd (where_short a0.Lon a1.Lon) fun t16 =>
  bnd (gI (a0.Lat + a1.Lat)) fun t21 =>
  bnd (where_floor t21 2) fun t22 =>
  bnd (where_cosine t22) fun t23 =>
  bnd (gI (t16 * t23)) fun t24 =>
  bnd (gQuo t24 1000000) fun t25 =>
  bnd (gI (t11 * t11)) fun t28 =>
  bnd (gI (t25 * t25)) fun t31 =>
  bnd (gI (t28 + t31)) fun t32 =>
  bnd (where_root t32) fun t33 =>
  bnd (gI (t33 * 111195)) fun t34 =>
  bnd (gQuo t34 1000000) fun t35 =>
  some t35

/-! tintype/where.Groups -/
noncomputable def where_Groups_j1 (l : (List (List Int))) : Option ((List (List Int)) × Int) :=
  some (l, 0)
noncomputable def where_Groups_j3 (x25_2 : Int) (next2 : ((Int × (List Bool) × (List (List Int))) → Option ((List (List Int)) × Int))) (l_6 : (List Bool)) (l_7 : (List (List Int))) : Option ((List (List Int)) × Int) :=
  bnd (gI (x25_2 + 1)) fun t84 =>
  next2 (t84, l_6, l_7)
noncomputable def where_Groups_j4 (x25_2 : Int) (l_5 : (List (List Int))) (next2 : ((Int × (List Bool) × (List (List Int))) → Option ((List (List Int)) × Int))) (l_8 : (List Bool)) (l_9 : (List Int)) : Option ((List (List Int)) × Int) :=
  bnd (gSortI l_9) fun t78 =>
  bnd (gApp 24 l_5 ([t78] : List (List Int))) fun l83 =>
  where_Groups_j3 x25_2 next2 l_8 l83
noncomputable def where_Groups_j6 (x11_2 : Int) (next5 : ((Int × (List Bool) × (List Int)) → Option ((List (List Int)) × Int))) (l_14 : (List Bool)) (l_15 : (List Int)) : Option ((List (List Int)) × Int) :=
  bnd (gI (x11_2 + 1)) fun t42 =>
  next5 (t42, l_14, l_15)
noncomputable def where_Groups_j8 (x45_2 : Int) (next7 : ((Int × (List Bool) × (List Int)) → Option ((List (List Int)) × Int))) (l_20 : (List Bool)) (l_21 : (List Int)) : Option ((List (List Int)) × Int) :=
  bnd (gI (x45_2 + 1)) fun t76 =>
  next7 (t76, l_20, l_21)
noncomputable def where_Groups_l7 (a0 : (List T_api_Place)) (a1 : Int) (x11_2 : Int) (next5 : ((Int × (List Bool) × (List Int)) → Option ((List (List Int)) × Int))) (next7 : ((Int × (List Bool) × (List Int)) → Option ((List (List Int)) × Int))) (x45_2 : Int) (l_18 : (List Bool)) (l_19 : (List Int)) : Option ((List (List Int)) × Int) :=
  cnd (decide (x45_2 < (a0.length : Int))) (bnd (gAt l_18 x45_2) fun t50 =>
  cnd (!t50) (bnd (gAt l_19 x11_2) fun t57 =>
  bnd (gAt a0 t57) fun t59 =>
  bnd (gAt a0 x45_2) fun t63 =>
  bnd (where_distance t59 t63) fun t65 =>
  cnd (decide (t65 ≤ a1)) (bnd (gAt l_18 x45_2) fun t71 =>
  bnd (gSet l_18 x45_2 true) fun l1_2 =>
  bnd (gApp 8 l_19 ([x45_2] : List Int)) fun l75 =>
  where_Groups_j8 x45_2 next7 l1_2 l75) (where_Groups_j8 x45_2 next7 l_18 l_19)) (where_Groups_j8 x45_2 next7 l_18 l_19)) (where_Groups_j6 x11_2 next5 l_18 l_19)
noncomputable def where_Groups_l5 (a0 : (List T_api_Place)) (a1 : Int) (x25_2 : Int) (l_5 : (List (List Int))) (next2 : ((Int × (List Bool) × (List (List Int))) → Option ((List (List Int)) × Int))) (next5 : ((Int × (List Bool) × (List Int)) → Option ((List (List Int)) × Int))) (x11_2 : Int) (l_12 : (List Bool)) (l_13 : (List Int)) : Option ((List (List Int)) × Int) :=
  cnd (decide (x11_2 < (l_13.length : Int))) (fix (fun next7 s => where_Groups_l7 a0 a1 x11_2 next5 next7 s.1 s.2.1 s.2.2) (0, l_12, l_13)) (where_Groups_j4 x25_2 l_5 next2 l_12 l_13)
noncomputable def where_Groups_l2 (a0 : (List T_api_Place)) (a1 : Int) (next2 : ((Int × (List Bool) × (List (List Int))) → Option ((List (List Int)) × Int))) (x25_2 : Int) (l_4 : (List Bool)) (l_5 : (List (List Int))) : Option ((List (List Int)) × Int) :=
  cnd (decide (x25_2 < (a0.length : Int))) (bnd (gAt l_4 x25_2) fun t30 =>
  cnd t30 (where_Groups_j3 x25_2 next2 l_4 l_5) (bnd (gAt l_4 x25_2) fun t34 =>
  bnd (gSet l_4 x25_2 true) fun l1 =>
  fix (fun next5 s => where_Groups_l5 a0 a1 x25_2 l_5 next2 next5 s.1 s.2.1 s.2.2) (0, l1, ([x25_2] : List Int)))) (where_Groups_j1 l_5)
noncomputable def where_Groups (a0 : (List T_api_Place)) (a1 : Int) : Option ((List (List Int)) × Int) :=
  bnd (where_checkList a0) fun t14 =>
  cnd (decide (t14 ≠ 0)) (some (([] : List (List Int)), t14)) (bnd (where_outside a1 0 30000000) fun t19 =>
  cnd t19 (some (([] : List (List Int)), 2)) (bnd (gMake 1 (a0.length : Int) false) fun t22 =>
  fix (fun next2 s => where_Groups_l2 a0 a1 next2 s.1 s.2.1 s.2.2) (0, t22, ([] : List (List Int)))))

/-! tintype/where.middle -/
noncomputable def where_middle_j2 (x12_3 : Int) (next1 : ((Int × Int × Int) → Option (Int))) (x3_3 : Int) (x4_4 : Int) : Option (Int) :=
  bnd (gI (x12_3 + 1)) fun t38 =>
  next1 (x3_3, x4_4, t38)
noncomputable def where_middle_j3 (x3_2 : Int) (x4_3 : Int) (x12_3 : Int) (next1 : ((Int × Int × Int) → Option (Int))) (x7 : Int) : Option (Int) :=
  cnd (decide (x4_3 < 0)) (where_middle_j2 x12_3 next1 x12_3 x7) (cnd (decide (x7 < x4_3)) (where_middle_j2 x12_3 next1 x12_3 x7) (where_middle_j2 x12_3 next1 x3_2 x4_3))
noncomputable def where_middle_l4 (a0 : (List T_api_Place)) (x3_2 : Int) (x4_3 : Int) (x12_3 : Int) (next1 : ((Int × Int × Int) → Option (Int))) (t15 : T_api_Place) (next4 : ((Int × Int) → Option (Int))) (x7_3 : Int) (x19_2 : Int) : Option (Int) :=
  cnd (decide (x19_2 < (a0.length : Int))) (bnd (gAt a0 x19_2) fun t21 =>
  bnd (where_distance t15 t21) fun t26 =>
  bnd (gI (x7_3 + t26)) fun t27 =>
  bnd (gI (x19_2 + 1)) fun t28 =>
  next4 (t27, t28)) (where_middle_j3 x3_2 x4_3 x12_3 next1 x7_3)
noncomputable def where_middle_l1 (a0 : (List T_api_Place)) (next1 : ((Int × Int × Int) → Option (Int))) (x3_2 : Int) (x4_3 : Int) (x12_3 : Int) : Option (Int) :=
  cnd (decide (x12_3 < (a0.length : Int))) (bnd (gAt a0 x12_3) fun t15 =>
  fix (fun next4 s => where_middle_l4 a0 x3_2 x4_3 x12_3 next1 t15 next4 s.1 s.2) (0, 0)) (some x3_2)
noncomputable def where_middle (a0 : (List T_api_Place)) : Option (Int) :=
  fix (fun next1 s => where_middle_l1 a0 next1 s.1 s.2.1 s.2.2) (0, (-1), 0)

/-! tintype/where.Middle -/
noncomputable def where_Middle (a0 : (List T_api_Place)) : Option (Int × Int) :=
  cnd (decide ((a0.length : Int) = 0)) (some (0, 7)) (bnd (where_checkList a0) fun t9 =>
  cnd (decide (t9 ≠ 0)) (some (0, t9)) (bnd (where_middle a0) fun t14 =>
  some (t14, 0)))

/-! tintype/where.Nearest -/
noncomputable def where_Nearest_j1 (x8 : Int) (x9 : Int) : Option (Int × Int × Int) :=
  some (x8, x9, 0)
noncomputable def where_Nearest_j3 (x31_3 : Int) (next2 : ((Int × Int × Int) → Option (Int × Int × Int))) (x8_4 : Int) (x9_5 : Int) : Option (Int × Int × Int) :=
  bnd (gI (x31_3 + 1)) fun t48 =>
  next2 (x8_4, x9_5, t48)
noncomputable def where_Nearest_l2 (a0 : (List T_api_Place)) (a1 : T_api_Place) (next2 : ((Int × Int × Int) → Option (Int × Int × Int))) (x8_3 : Int) (x9_4 : Int) (x31_3 : Int) : Option (Int × Int × Int) :=
  cnd (decide (x31_3 < (a0.length : Int))) (bnd (gAt a0 x31_3) fun t34 =>
  bnd (where_distance a1 t34) fun t38 =>
  cnd (decide (x9_4 < 0)) (where_Nearest_j3 x31_3 next2 x31_3 t38) (cnd (decide (t38 < x9_4)) (where_Nearest_j3 x31_3 next2 x31_3 t38) (where_Nearest_j3 x31_3 next2 x8_3 x9_4))) (where_Nearest_j1 x8_3 x9_4)
noncomputable def where_Nearest (a0 : (List T_api_Place)) (a1 : T_api_Place) : Option (Int × Int × Int) :=
  cnd (decide ((a0.length : Int) = 0)) (some (0, 0, 7)) (cnd (decide (1000 < (a0.length : Int))) (some (0, 0, 4)) (bnd (gApp 16 ([a1] : List T_api_Place) a0) fun l24 =>
  bnd (where_checkPlaces l24) fun t25 =>
  cnd (decide (t25 ≠ 0)) (some (0, 0, t25)) (fix (fun next2 s => where_Nearest_l2 a0 a1 next2 s.1 s.2.1 s.2.2) (0, (-1), 0))))

/-! tintype/tintref2.PlaceFault -/
noncomputable def R_PlaceFault (a0 : T_api_Place) : Option (Int) :=
  cnd (decide (a0.Lat < (-90000000))) (some 2) (cnd (decide (90000000 < a0.Lat)) (some 2) (cnd (decide (a0.Lon < (-180000000))) (some 2) (cnd (decide (179999999 < a0.Lon)) (some 2) (some 0))))

/-! tintype/tintlaw2.listFault -/
noncomputable def Law_listFault_l2 (a0 : (List T_api_Place)) (next2 : ((Int × Int) → Option (Int))) (x5_3 : Int) (x24_2 : Int) : Option (Int) :=
  cnd (decide (x24_2 < (a0.length : Int))) (bnd (gAt a0 x24_2) fun t26 =>
  bnd (R_PlaceFault t26) fun t30 =>
  bnd (Law_first ([x5_3, t30] : List Int)) fun t32 =>
  bnd (gI (x24_2 + 1)) fun t33 =>
  next2 (t32, t33)) (some x5_3)
noncomputable def Law_listFault_j1 (a0 : (List T_api_Place)) (x5 : Int) : Option (Int) :=
  fix (fun next2 s => Law_listFault_l2 a0 next2 s.1 s.2) (x5, 0)
noncomputable def Law_listFault (a0 : (List T_api_Place)) (a1 : Bool) : Option (Int) :=
  cnd (decide (0 < (a0.length : Int))) (bnd (Law_unless true 7) fun t15 =>
  bnd (Law_unless (decide ((a0.length : Int) ≤ 1000)) 4) fun t19 =>
  bnd (Law_first ([t15, t19] : List Int)) fun t21 =>
  Law_listFault_j1 a0 t21) (bnd (Law_unless (!a1) 7) fun t15_2 =>
  bnd (Law_unless (decide ((a0.length : Int) ≤ 1000)) 4) fun t19_2 =>
  bnd (Law_first ([t15_2, t19_2] : List Int)) fun t21_2 =>
  Law_listFault_j1 a0 t21_2)

/-! tintype/tintlaw2.metresFault -/
noncomputable def Law_metresFault (a0 : Int) : Option (Int) :=
  cnd (decide (0 ≤ a0)) (bnd (Law_unless (decide (a0 ≤ 30000000)) 2) fun t9 =>
  some t9) (bnd (Law_unless false 2) fun t9_2 =>
  some t9_2)

/-! tintype/tintref2.eastward -/
noncomputable def R_eastward (a0 : Int) (a1 : Int) : Option (Int) :=
  bnd (gI (a1 - a0)) fun t8 =>
  cnd (decide (t8 < 0)) (bnd (gI (t8 + 360000000)) fun t12 =>
  some t12) (some t8)

/-! tintype/tintref2.short -/
noncomputable def R_short (a0 : Int) (a1 : Int) : Option (Int) :=
  bnd (R_eastward a0 a1) fun t8 =>
  cnd (decide (180000000 ≤ t8)) (bnd (gI (t8 - 360000000)) fun t12 =>
  some t12) (some t8)

/-! tintype/tintref2.CosineOf -/
noncomputable def R_CosineOf (a0 : Int) : Option (Int) :=
  bnd (gQuo a0 100) fun t5 =>
  bnd (gI (4 * t5)) fun t7 =>
  bnd (gI (t7 * t5)) fun t9 =>
  bnd (gI (3240000000000 - t9)) fun t10 =>
  bnd (gI (t10 * 1000000)) fun t11 =>
  bnd (gI (t5 * t5)) fun t14 =>
  bnd (gI (3240000000000 + t14)) fun t15 =>
  bnd (gQuo t11 t15) fun t16 =>
  some t16

/-! tintype/tintref2.down -/
noncomputable def R_down (a0 : Int) (a1 : Int) : Option (Int) :=
  bnd (gQuo a0 a1) fun t8 =>
  bnd (gRem a0 a1) fun t11 =>
  cnd (decide (t11 ≠ 0)) (cnd (decide ((decide (a0 < 0)) ≠ (decide (a1 < 0)))) (bnd (gI (t8 - 1)) fun t21 =>
  some t21) (some t8)) (some t8)

/-! tintype/tintref2.root -/
noncomputable def R_root_l1 (a0 : Int) (next1 : ((Int × Int) → Option (Int))) (x3_2 : Int) (x4_2 : Int) : Option (Int) :=
  cnd (decide (x3_2 < x4_2)) (bnd (gI (x3_2 + x4_2)) fun t11 =>
  bnd (gI (t11 + 1)) fun t12 =>
  bnd (gQuo t12 2) fun t13 =>
  bnd (gI (t13 * t13)) fun t16 =>
  cnd (decide (t16 ≤ a0)) (next1 (t13, x4_2)) (bnd (gI (t13 - 1)) fun t21 =>
  next1 (x3_2, t21))) (some x3_2)
noncomputable def R_root (a0 : Int) : Option (Int) :=
  fix (fun next1 s => R_root_l1 a0 next1 s.1 s.2) (0, 2147483648)

/-! tintype/tintref2.DistanceOf -/
noncomputable def R_DistanceOf (a0 : T_api_Place) (a1 : T_api_Place) : Option (Int) :=
  bnd (gI (a1.Lat - a0.Lat)) fun t11 =>
  bnd (R_short a0.Lon a1.Lon) fun t16 =>
  bnd (gI (a0.Lat + a1.Lat)) fun t21 =>
  bnd (R_down t21 2) fun t22 =>
  bnd (R_CosineOf t22) fun t23 =>
  bnd (gI (t16 * t23)) fun t24 =>
  bnd (gQuo t24 1000000) fun t25 =>
  bnd (gI (t11 * t11)) fun t28 =>
  bnd (gI (t25 * t25)) fun t31 =>
  bnd (gI (t28 + t31)) fun t32 =>
  bnd (R_root t32) fun t33 =>
  bnd (gI (t33 * 111195)) fun t34 =>
  bnd (gQuo t34 1000000) fun t35 =>
  some t35

/-! tintype/tintref2.GroupsOf -/
noncomputable def R_GroupsOf_j2 (x16_2 : Int) (next1 : ((Int × (List Bool) × (List (List Int))) → Option ((List (List Int))))) (l_5 : (List Bool)) (l_6 : (List (List Int))) : Option ((List (List Int))) :=
  bnd (gI (x16_2 + 1)) fun t74 =>
  next1 (t74, l_5, l_6)
noncomputable def R_GroupsOf_j3 (x16_2 : Int) (l_4 : (List (List Int))) (next1 : ((Int × (List Bool) × (List (List Int))) → Option ((List (List Int))))) (l_7 : (List Bool)) (l_8 : (List Int)) : Option ((List (List Int))) :=
  bnd (gSortI l_8) fun t69 =>
  bnd (gApp 24 l_4 ([t69] : List (List Int))) fun l73 =>
  R_GroupsOf_j2 x16_2 next1 l_7 l73
noncomputable def R_GroupsOf_j5 (x9_2 : Int) (next4 : ((Int × (List Bool) × (List Int)) → Option ((List (List Int))))) (l_13 : (List Bool)) (l_14 : (List Int)) : Option ((List (List Int))) :=
  bnd (gI (x9_2 + 1)) fun t33 =>
  next4 (t33, l_13, l_14)
noncomputable def R_GroupsOf_j7 (x36_2 : Int) (next6 : ((Int × (List Bool) × (List Int)) → Option ((List (List Int))))) (l_19 : (List Bool)) (l_20 : (List Int)) : Option ((List (List Int))) :=
  bnd (gI (x36_2 + 1)) fun t67 =>
  next6 (t67, l_19, l_20)
noncomputable def R_GroupsOf_l6 (a0 : (List T_api_Place)) (a1 : Int) (x9_2 : Int) (next4 : ((Int × (List Bool) × (List Int)) → Option ((List (List Int))))) (next6 : ((Int × (List Bool) × (List Int)) → Option ((List (List Int))))) (x36_2 : Int) (l_17 : (List Bool)) (l_18 : (List Int)) : Option ((List (List Int))) :=
  cnd (decide (x36_2 < (a0.length : Int))) (bnd (gAt l_17 x36_2) fun t41 =>
  cnd (!t41) (bnd (gAt l_18 x9_2) fun t48 =>
  bnd (gAt a0 t48) fun t50 =>
  bnd (gAt a0 x36_2) fun t54 =>
  bnd (R_DistanceOf t50 t54) fun t56 =>
  cnd (decide (t56 ≤ a1)) (bnd (gAt l_17 x36_2) fun t62 =>
  bnd (gSet l_17 x36_2 true) fun l1_2 =>
  bnd (gApp 8 l_18 ([x36_2] : List Int)) fun l66 =>
  R_GroupsOf_j7 x36_2 next6 l1_2 l66) (R_GroupsOf_j7 x36_2 next6 l_17 l_18)) (R_GroupsOf_j7 x36_2 next6 l_17 l_18)) (R_GroupsOf_j5 x9_2 next4 l_17 l_18)
noncomputable def R_GroupsOf_l4 (a0 : (List T_api_Place)) (a1 : Int) (x16_2 : Int) (l_4 : (List (List Int))) (next1 : ((Int × (List Bool) × (List (List Int))) → Option ((List (List Int))))) (next4 : ((Int × (List Bool) × (List Int)) → Option ((List (List Int))))) (x9_2 : Int) (l_11 : (List Bool)) (l_12 : (List Int)) : Option ((List (List Int))) :=
  cnd (decide (x9_2 < (l_12.length : Int))) (fix (fun next6 s => R_GroupsOf_l6 a0 a1 x9_2 next4 next6 s.1 s.2.1 s.2.2) (0, l_11, l_12)) (R_GroupsOf_j3 x16_2 l_4 next1 l_11 l_12)
noncomputable def R_GroupsOf_l1 (a0 : (List T_api_Place)) (a1 : Int) (next1 : ((Int × (List Bool) × (List (List Int))) → Option ((List (List Int))))) (x16_2 : Int) (l_3 : (List Bool)) (l_4 : (List (List Int))) : Option ((List (List Int))) :=
  cnd (decide (x16_2 < (a0.length : Int))) (bnd (gAt l_3 x16_2) fun t21 =>
  cnd t21 (R_GroupsOf_j2 x16_2 next1 l_3 l_4) (bnd (gAt l_3 x16_2) fun t25 =>
  bnd (gSet l_3 x16_2 true) fun l1 =>
  fix (fun next4 s => R_GroupsOf_l4 a0 a1 x16_2 l_4 next1 next4 s.1 s.2.1 s.2.2) (0, l1, ([x16_2] : List Int)))) (some l_4)
noncomputable def R_GroupsOf (a0 : (List T_api_Place)) (a1 : Int) : Option ((List (List Int))) :=
  bnd (gMake 1 (a0.length : Int) false) fun t13 =>
  fix (fun next1 s => R_GroupsOf_l1 a0 a1 next1 s.1 s.2.1 s.2.2) (0, t13, ([] : List (List Int)))

/-! tintype/tintref2.MiddleOf -/
noncomputable def R_MiddleOf_j2 (x12_3 : Int) (next1 : ((Int × Int × Int) → Option (Int))) (x3_3 : Int) (x4_4 : Int) : Option (Int) :=
  bnd (gI (x12_3 + 1)) fun t38 =>
  next1 (x3_3, x4_4, t38)
noncomputable def R_MiddleOf_j3 (x3_2 : Int) (x4_3 : Int) (x12_3 : Int) (next1 : ((Int × Int × Int) → Option (Int))) (x7 : Int) : Option (Int) :=
  cnd (decide (x4_3 < 0)) (R_MiddleOf_j2 x12_3 next1 x12_3 x7) (cnd (decide (x7 < x4_3)) (R_MiddleOf_j2 x12_3 next1 x12_3 x7) (R_MiddleOf_j2 x12_3 next1 x3_2 x4_3))
noncomputable def R_MiddleOf_l4 (a0 : (List T_api_Place)) (x3_2 : Int) (x4_3 : Int) (x12_3 : Int) (next1 : ((Int × Int × Int) → Option (Int))) (t15 : T_api_Place) (next4 : ((Int × Int) → Option (Int))) (x7_3 : Int) (x19_2 : Int) : Option (Int) :=
  cnd (decide (x19_2 < (a0.length : Int))) (bnd (gAt a0 x19_2) fun t21 =>
  bnd (R_DistanceOf t15 t21) fun t26 =>
  bnd (gI (x7_3 + t26)) fun t27 =>
  bnd (gI (x19_2 + 1)) fun t28 =>
  next4 (t27, t28)) (R_MiddleOf_j3 x3_2 x4_3 x12_3 next1 x7_3)
noncomputable def R_MiddleOf_l1 (a0 : (List T_api_Place)) (next1 : ((Int × Int × Int) → Option (Int))) (x3_2 : Int) (x4_3 : Int) (x12_3 : Int) : Option (Int) :=
  cnd (decide (x12_3 < (a0.length : Int))) (bnd (gAt a0 x12_3) fun t15 =>
  fix (fun next4 s => R_MiddleOf_l4 a0 x3_2 x4_3 x12_3 next1 t15 next4 s.1 s.2) (0, 0)) (some x3_2)
noncomputable def R_MiddleOf (a0 : (List T_api_Place)) : Option (Int) :=
  fix (fun next1 s => R_MiddleOf_l1 a0 next1 s.1 s.2.1 s.2.2) (0, (-1), 0)

/-! slices.Equal[[]int,int] -/
noncomputable def slices_Equal_int_l1 (a0 : (List Int)) (a1 : (List Int)) (next1 : ((Int) → Option (Bool))) (x13_2 : Int) : Option (Bool) :=
  cnd (decide (x13_2 < (a0.length : Int))) (bnd (gAt a0 x13_2) fun t18 =>
  bnd (gAt a1 x13_2) fun t22 =>
  cnd (decide (t18 ≠ t22)) (some false) (bnd (gI (x13_2 + 1)) fun t25 =>
  next1 t25)) (some true)
noncomputable def slices_Equal_int (a0 : (List Int)) (a1 : (List Int)) : Option (Bool) :=
  cnd (decide ((a0.length : Int) ≠ (a1.length : Int))) (some false) (fix (fun next1 s => slices_Equal_int_l1 a0 a1 next1 s) 0)

/-! slices.EqualFunc[[][]int,[][]int,[]int,[]int] -/
noncomputable def slices_EqualFunc_int_int_int_int_l1 (a0 : (List (List Int))) (a1 : (List (List Int))) (a2 : ((List Int) → (List Int) → Option (Bool))) (next1 : ((Int) → Option (Bool))) (x17_2 : Int) : Option (Bool) :=
  cnd (decide (x17_2 < (a0.length : Int))) (bnd (gAt a0 x17_2) fun t20 =>
  bnd (gAt a1 x17_2) fun t24 =>
  bnd (a2 t20 t24) fun t29 =>
  cnd (!t29) (some false) (bnd (gI (x17_2 + 1)) fun t31 =>
  next1 t31)) (some true)
noncomputable def slices_EqualFunc_int_int_int_int (a0 : (List (List Int))) (a1 : (List (List Int))) (a2 : ((List Int) → (List Int) → Option (Bool))) : Option (Bool) :=
  cnd (decide ((a0.length : Int) ≠ (a1.length : Int))) (some false) (fix (fun next1 s => slices_EqualFunc_int_int_int_int_l1 a0 a1 a2 next1 s) 0)

/-! tintype/tintlaw2.lists[int] -/
noncomputable def Law_lists_int_j1 (a0 : (List (List Int))) (a1 : Int) (a3 : Int) (x2 : (List (List Int))) : Option (Bool) :=
  bnd (slices_EqualFunc_int_int_int_int a0 x2 slices_Equal_int) fun t13 =>
  cnd t13 (some (decide (a1 = a3))) (some false)
noncomputable def Law_lists_int (a0 : (List (List Int))) (a1 : Int) (a2 : (List (List Int))) (a3 : Int) : Option (Bool) :=
  cnd (decide (a3 ≠ 0)) (Law_lists_int_j1 a0 a1 a3 ([] : (List (List Int)))) (Law_lists_int_j1 a0 a1 a3 a2)

/-! tintype/tintlaw2.told[int] -/
noncomputable def Law_told_int_j1 (a0 : Int) (a1 : Int) (a3 : Int) (x2 : Int) : Option (Bool) :=
  cnd (decide (a0 = x2)) (some (decide (a1 = a3))) (some false)
noncomputable def Law_told_int (a0 : Int) (a1 : Int) (a2 : Int) (a3 : Int) : Option (Bool) :=
  cnd (decide (a3 ≠ 0)) (Law_told_int_j1 a0 a1 a3 0) (Law_told_int_j1 a0 a1 a3 a2)

/-! tintype/tintlaw2.WhereLists -/
noncomputable def Law_WhereLists_j3 (t27 : ((List (List Int)) × Int)) (t32 : (Int × Int)) (t38 : (Int × Int × Int)) (t47 : (Int)) (t49 : (Int)) (t62 : (Int)) (l_2 : (List (List Int))) (x18 : Int) (x19 : Int) (x20 : Int) : Option (Bool) :=
  bnd (Law_lists_int t27.1 t27.2 l_2 t47) fun t98 =>
  cnd t98 (bnd (Law_told_int t32.1 t32.2 x18 t49) fun t104 =>
  cnd t104 (bnd (Law_told_int t38.1 t38.2.2 x19 t62) fun t111 =>
  cnd t111 (some (decide (t38.2.1 = x20))) (some false)) (some false)) (some false)
noncomputable def Law_WhereLists_j5 (x76_3 : Int) (next4 : ((Int × Int × Int) → Option (Bool))) (x19_4 : Int) (x20_5 : Int) : Option (Bool) :=
  bnd (gI (x76_3 + 1)) fun t93 =>
  next4 (x19_4, x20_5, t93)
noncomputable def Law_WhereLists_l4 (a0 : (List T_api_Place)) (a2 : T_api_Place) (t27 : ((List (List Int)) × Int)) (t32 : (Int × Int)) (t38 : (Int × Int × Int)) (t47 : (Int)) (t49 : (Int)) (t62 : (Int)) (l_2 : (List (List Int))) (x18 : Int) (next4 : ((Int × Int × Int) → Option (Bool))) (x19_3 : Int) (x20_4 : Int) (x76_3 : Int) : Option (Bool) :=
  cnd (decide (x76_3 < (a0.length : Int))) (bnd (gAt a0 x76_3) fun t79 =>
  bnd (R_DistanceOf a2 t79) fun t83 =>
  cnd (decide (x76_3 = 0)) (Law_WhereLists_j5 x76_3 next4 x76_3 t83) (cnd (decide (t83 < x20_4)) (Law_WhereLists_j5 x76_3 next4 x76_3 t83) (Law_WhereLists_j5 x76_3 next4 x19_3 x20_4))) (Law_WhereLists_j3 t27 t32 t38 t47 t49 t62 l_2 x18 x19_3 x20_4)
noncomputable def Law_WhereLists_j2 (a0 : (List T_api_Place)) (a2 : T_api_Place) (t27 : ((List (List Int)) × Int)) (t32 : (Int × Int)) (t38 : (Int × Int × Int)) (t47 : (Int)) (t49 : (Int)) (t62 : (Int)) (l_2 : (List (List Int))) (x18 : Int) : Option (Bool) :=
  cnd (decide (t62 = 0)) (fix (fun next4 s => Law_WhereLists_l4 a0 a2 t27 t32 t38 t47 t49 t62 l_2 x18 next4 s.1 s.2.1 s.2.2) (0, 0, 0)) (Law_WhereLists_j3 t27 t32 t38 t47 t49 t62 l_2 x18 0 0)
noncomputable def Law_WhereLists_j1 (a0 : (List T_api_Place)) (a2 : T_api_Place) (t27 : ((List (List Int)) × Int)) (t32 : (Int × Int)) (t38 : (Int × Int × Int)) (t47 : (Int)) (t49 : (Int)) (t62 : (Int)) (l_2 : (List (List Int))) : Option (Bool) :=
  cnd (decide (t49 = 0)) (bnd (R_MiddleOf a0) fun t71 =>
  Law_WhereLists_j2 a0 a2 t27 t32 t38 t47 t49 t62 l_2 t71) (Law_WhereLists_j2 a0 a2 t27 t32 t38 t47 t49 t62 l_2 0)
noncomputable def Law_WhereLists (a0 : (List T_api_Place)) (a1 : Int) (a2 : T_api_Place) : Option (Bool) :=
  bnd (where_Groups a0 a1) fun t27 =>
  bnd (where_Middle a0) fun t32 =>
  bnd (where_Nearest a0 a2) fun t38 =>
  bnd (Law_listFault a0 false) fun t43 =>
  bnd (Law_metresFault a1) fun t45 =>
  bnd (Law_first ([t43, t45] : List Int)) fun t47 =>
  bnd (Law_listFault a0 true) fun t49 =>
  bnd (Law_unless (decide (0 < (a0.length : Int))) 7) fun t53 =>
  bnd (Law_unless (decide ((a0.length : Int) ≤ 1000)) 4) fun t57 =>
  bnd (R_PlaceFault a2) fun t59 =>
  bnd (Law_first ([t53, t57, t59, t49] : List Int)) fun t62 =>
  cnd (decide (t47 = 0)) (bnd (R_GroupsOf a0 a1) fun t67 =>
  Law_WhereLists_j1 a0 a2 t27 t32 t38 t47 t49 t62 t67) (Law_WhereLists_j1 a0 a2 t27 t32 t38 t47 t49 t62 ([] : List (List Int)))

end Go.M
