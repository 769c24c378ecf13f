/- WherePlaced: the models, printed by our generator from the compiled program. Conditions: none. -/
import Derived.Test.YtinpjnlocahjjaaMd4
namespace Go.M
open Go.Md
set_option maxRecDepth 100000
set_option linter.unusedVariables false

structure T_api_Place where
  Lat : Int
  Lon : Int
instance : Inhabited T_api_Place := ⟨⟨0, 0⟩⟩

structure T_where_Fix where
  Moment : Int
  Place : T_api_Place
instance : Inhabited T_where_Fix := ⟨⟨0, default⟩⟩

structure T_api_Photo where
  Id : Int
  File : (List UInt8)
  Moment : Int
  Zone : Int
  Where : (List T_api_Place)
  W : Int
  H : Int
  Turn : Int
  Stars : Int
  Tags : (List (List UInt8))
  Caption : (List UInt8)
  People : (List Int)
  Hidden : Bool
instance : Inhabited T_api_Photo := ⟨⟨0, [], 0, 0, [], 0, 0, 0, 0, [], [], [], false⟩⟩

def eq_api_Place (x y : T_api_Place) : Bool := decide (x.Lat = y.Lat ∧ x.Lon = y.Lon)

/-! tintype/tintlaw2.first -/
noncomputable def Law_first_l1 (a0 : (List Int)) (next1 : ((Int) → Option (Int))) (x7_2 : Int) : Option (Int) :=
  cnd (decide (x7_2 < (a0.length : Int))) (bnd (gAt a0 x7_2) fun t9 =>
  cnd (decide (t9 ≠ 0)) (some t9) (bnd (gI (x7_2 + 1)) fun t14 =>
  next1 t14)) (some 0)
noncomputable def Law_first (a0 : (List Int)) : Option (Int) :=
  fix (fun next1 s => Law_first_l1 a0 next1 s) 0

/-! tintype/tintlaw2.unless -/
noncomputable def Law_unless (a0 : Bool) (a1 : Int) : Option (Int) :=
  cnd a0 (some 0) (some a1)

/-! tintype/where.outside -/
noncomputable def where_outside (a0 : Int) (a1 : Int) (a2 : Int) : Option (Bool) :=
  cnd (decide (a0 < a1)) (some true) (some (decide (a2 < a0)))

/-! tintype/where.isMoment -/
noncomputable def where_isMoment (a0 : Int) : Option (Bool) :=
  bnd (where_outside a0 0 6311433599) fun t4 =>
  some (!t4)

/-! tintype/where.isLat -/
noncomputable def where_isLat (a0 : Int) : Option (Bool) :=
  bnd (where_outside a0 (-90000000) 90000000) fun t4 =>
  some (!t4)

/-! tintype/where.isLon -/
noncomputable def where_isLon (a0 : Int) : Option (Bool) :=
  bnd (where_outside a0 (-180000000) 179999999) fun t4 =>
  some (!t4)

/-! tintype/where.CheckPlace -/
noncomputable def where_CheckPlace (a0 : T_api_Place) : Option (Int) :=
  bnd (where_isLat a0.Lat) fun t5 =>
  cnd (!t5) (some 2) (bnd (where_isLon a0.Lon) fun t10 =>
  cnd (!t10) (some 2) (some 0))

/-! tintype/where.CheckTrack -/
noncomputable def where_CheckTrack_j2 (x11_2 : Int) (next1 : ((Int) → Option (Int))) : Option (Int) :=
  bnd (gI (x11_2 + 1)) fun t39 =>
  next1 t39
noncomputable def where_CheckTrack_l1 (a0 : (List T_where_Fix)) (next1 : ((Int) → Option (Int))) (x11_2 : Int) : Option (Int) :=
  cnd (decide (x11_2 < (a0.length : Int))) (bnd (gAt a0 x11_2) fun t14 =>
  bnd (where_isMoment t14.Moment) fun t18 =>
  cnd (!t18) (some 2) (bnd (where_CheckPlace t14.Place) fun t22 =>
  cnd (decide (t22 ≠ 0)) (some t22) (cnd (decide (0 < x11_2)) (bnd (gI (x11_2 - 1)) fun t33 =>
  bnd (gAt a0 t33) fun t34 =>
  cnd (decide (t14.Moment ≤ t34.Moment)) (some 5) (where_CheckTrack_j2 x11_2 next1)) (where_CheckTrack_j2 x11_2 next1)))) (some 0)
noncomputable def where_CheckTrack (a0 : (List T_where_Fix)) : Option (Int) :=
  cnd (decide (2000 < (a0.length : Int))) (some 4) (fix (fun next1 s => where_CheckTrack_l1 a0 next1 s) 0)

/-! slices.Clone[[]tintype/api.Place,tintype/api.Place] -/
noncomputable def slices_Clone_api_Place (a0 : (List T_api_Place)) : Option ((List T_api_Place)) :=
  bnd (gApp 16 ([] : List T_api_Place) a0) fun l7 =>
  some l7

/-! slices.Clone[[]string,string] -/
noncomputable def slices_Clone_string (a0 : (List (List UInt8))) : Option ((List (List UInt8))) :=
  bnd (gApp 16 ([] : List (List UInt8)) a0) fun l7 =>
  some l7

/-! slices.Clone[[]int,int] -/
noncomputable def slices_Clone_int (a0 : (List Int)) : Option ((List Int)) :=
  bnd (gApp 8 ([] : List Int) a0) fun l7 =>
  some l7

/-! tintype/where.copyPhoto -/
noncomputable def where_copyPhoto (a0 : T_api_Photo) : Option (T_api_Photo) :=
  bnd (slices_Clone_api_Place a0.Where) fun t5 =>
  bnd (slices_Clone_string a0.Tags) fun t10 =>
  bnd (slices_Clone_int a0.People) fun t15 =>
  some (⟨a0.Id, a0.File, a0.Moment, a0.Zone, t5, a0.W, a0.H, a0.Turn, a0.Stars, t10, a0.Caption, t15, a0.Hidden⟩ : T_api_Photo)

/-! sort.Search -/
noncomputable def sort_Search_l1 (a1 : (Int → Option (Bool))) (next1 : ((Int × Int) → Option (Int))) (x5_2 : Int) (x6_2 : Int) : Option (Int) :=
  cnd (decide (x5_2 < x6_2)) (bnd (gI (x5_2 + x6_2)) fun t14 =>
  bnd (gShr 64 (wU64 t14) 1) fun t16 =>
  bnd (a1 (wI64 t16)) fun t20 =>
  cnd (!t20) (bnd (gI ((wI64 t16) + 1)) fun t23 =>
  next1 (t23, x6_2)) (next1 (x5_2, (wI64 t16)))) (some x5_2)
noncomputable def sort_Search (a0 : Int) (a1 : (Int → Option (Bool))) : Option (Int) :=
  fix (fun next1 s => sort_Search_l1 a1 next1 s.1 s.2) (0, a0)

/-! tintype/where.at$1 -/
noncomputable def where_at_1 (q0 : (List T_where_Fix)) (q1 : Int) (a0 : Int) : Option (Bool) :=
  bnd (gAt q0 a0) fun t7 =>
  some (decide (q1 ≤ t7.Moment))

/-! tintype/where.eastward -/
noncomputable def where_eastward (a0 : Int) (a1 : Int) : Option (Int) :=
  bnd (gI (a1 - a0)) fun t7 =>
  bnd (gRem t7 360000000) fun t8 =>
  bnd (gI (t8 + 360000000)) fun t9 =>
  bnd (gRem t9 360000000) fun t10 =>
  some t10

/-! tintype/where.short -/
noncomputable def where_short (a0 : Int) (a1 : Int) : Option (Int) :=
  bnd (where_eastward a0 a1) fun t8 =>
  cnd (decide (180000000 ≤ t8)) (bnd (gI (t8 - 360000000)) fun t12 =>
  some t12) (some t8)

/-! tintype/where.floor -/
noncomputable def where_floor (a0 : Int) (a1 : Int) : Option (Int) :=
  bnd (gQuo a0 a1) fun t8 =>
  bnd (gRem a0 a1) fun t11 =>
  cnd (decide (t11 < 0)) (bnd (gI (t8 - 1)) fun t14 =>
  some t14) (some t8)

/-! tintype/where.wrap -/
noncomputable def where_wrap (a0 : Int) : Option (Int) :=
  bnd (where_eastward (-180000000) a0) fun t4 =>
  bnd (gI (t4 - 180000000)) fun t5 =>
  some t5

/-! tintype/where.between -/
noncomputable def where_between (a0 : T_api_Place) (a1 : T_api_Place) (a2 : Int) (a3 : Int) : Option (T_api_Place) :=
  bnd (gI (a1.Lat - a0.Lat)) fun t15 =>
  bnd (gI (t15 * a2)) fun t17 =>
  bnd (where_floor t17 a3) fun t19 =>
  bnd (gI (a0.Lat + t19)) fun t20 =>
  bnd (where_short a0.Lon a1.Lon) fun t27 =>
  bnd (gI (t27 * a2)) fun t29 =>
  bnd (where_floor t29 a3) fun t31 =>
  bnd (gI (a0.Lon + t31)) fun t32 =>
  bnd (where_wrap t32) fun t33 =>
  some (⟨t20, t33⟩ : T_api_Place)

/-! tintype/where.at -/
noncomputable def where_at_j4  : Option (T_api_Place × Bool) :=
  some ((⟨0, 0⟩ : T_api_Place), false)
noncomputable def where_at_j6 (a0 : (List T_where_Fix)) (a2 : Int) (t14 : (Int)) (x10 : Int) (x88 : Bool) : Option (T_api_Place × Bool) :=
  cnd x88 (bnd (gI (t14 - 1)) fun t109 =>
  bnd (gAt a0 t109) fun t110 =>
  some (t110.Place, true)) (cnd (decide (t14 < (a0.length : Int))) (cnd (decide (x10 ≤ a2)) (bnd (gAt a0 t14) fun t125 =>
  some (t125.Place, true)) (where_at_j4)) (where_at_j4))
noncomputable def where_at_j5 (a0 : (List T_where_Fix)) (a2 : Int) (t14 : (Int)) (x9 : Int) (x10 : Int) (x56 : Bool) : Option (T_api_Place × Bool) :=
  cnd x56 (bnd (gI (t14 - 1)) fun t74 =>
  bnd (gAt a0 t74) fun t75 =>
  bnd (gAt a0 t14) fun t80 =>
  bnd (gI (x9 + x10)) fun t86 =>
  bnd (where_between t75.Place t80.Place x9 t86) fun t87 =>
  some (t87, true)) (cnd (decide (0 < t14)) (cnd (decide (x9 ≤ a2)) (cnd (decide (t14 = (a0.length : Int))) (where_at_j6 a0 a2 t14 x10 true) (where_at_j6 a0 a2 t14 x10 (decide (x9 ≤ x10)))) (where_at_j6 a0 a2 t14 x10 false)) (where_at_j6 a0 a2 t14 x10 false))
noncomputable def where_at_j3 (a0 : (List T_where_Fix)) (a2 : Int) (t14 : (Int)) (x9 : Int) (x10 : Int) : Option (T_api_Place × Bool) :=
  cnd (decide (0 < t14)) (cnd (decide (t14 < (a0.length : Int))) (bnd (gI (x9 + x10)) fun t68 =>
  where_at_j5 a0 a2 t14 x9 x10 (decide (t68 ≤ a2))) (where_at_j5 a0 a2 t14 x9 x10 false)) (where_at_j5 a0 a2 t14 x9 x10 false)
noncomputable def where_at_j2 (a0 : (List T_where_Fix)) (a1 : Int) (a2 : Int) (t14 : (Int)) (x9 : Int) : Option (T_api_Place × Bool) :=
  cnd (decide (t14 < (a0.length : Int))) (bnd (gAt a0 t14) fun t51 =>
  bnd (gI (t51.Moment - a1)) fun t55 =>
  where_at_j3 a0 a2 t14 x9 t55) (where_at_j3 a0 a2 t14 x9 a2)
noncomputable def where_at_j1 (a0 : (List T_where_Fix)) (a1 : Int) (a2 : Int) (t14 : (Int)) : Option (T_api_Place × Bool) :=
  cnd (decide (0 < t14)) (bnd (gI (t14 - 1)) fun t40 =>
  bnd (gAt a0 t40) fun t41 =>
  bnd (gI (a1 - t41.Moment)) fun t44 =>
  where_at_j2 a0 a1 a2 t14 t44) (where_at_j2 a0 a1 a2 t14 a2)
noncomputable def where_at (a0 : (List T_where_Fix)) (a1 : Int) (a2 : Int) : Option (T_api_Place × Bool) :=
  bnd (sort_Search (a0.length : Int) (where_at_1 a0 a1)) fun t14 =>
  cnd (decide (t14 < (a0.length : Int))) (bnd (gAt a0 t14) fun t22 =>
  cnd (decide (t22.Moment = a1)) (bnd (gAt a0 t14) fun t30 =>
  some (t30.Place, true)) (where_at_j1 a0 a1 a2 t14)) (where_at_j1 a0 a1 a2 t14)

/-! tintype/where.Placed -/
noncomputable def where_Placed_j1 (l : (List T_api_Photo)) : Option ((List T_api_Photo) × Int) :=
  some (l, 0)
noncomputable def where_Placed_j3 (x2_2 : Int) (x25_2 : Int) (x26_2 : Int) (l_3 : (List T_api_Photo)) (next2 : ((Int × Int × Int × (List T_api_Photo)) → Option ((List T_api_Photo) × Int))) (t31 : (T_api_Photo)) (l_4 : (List T_api_Place)) : Option ((List T_api_Photo) × Int) :=
  bnd (gApp 168 l_3 ([(⟨t31.Id, t31.File, t31.Moment, t31.Zone, l_4, t31.W, t31.H, t31.Turn, t31.Stars, t31.Tags, t31.Caption, t31.People, t31.Hidden⟩ : T_api_Photo)] : List T_api_Photo)) fun l56 =>
  bnd (gI (x26_2 + 1)) fun t57 =>
  next2 (x2_2, x25_2, t57, l56)
noncomputable def where_Placed_l2 (a0 : (List T_where_Fix)) (a1 : (List T_api_Photo)) (next2 : ((Int × Int × Int × (List T_api_Photo)) → Option ((List T_api_Photo) × Int))) (x2_2 : Int) (x25_2 : Int) (x26_2 : Int) (l_3 : (List T_api_Photo)) : Option ((List T_api_Photo) × Int) :=
  cnd (decide (x26_2 < x25_2)) (bnd (gAt a1 x26_2) fun t28 =>
  bnd (where_copyPhoto t28) fun t31 =>
  bnd (where_isMoment t31.Moment) fun t34 =>
  cnd t34 (cnd (decide ((t31.Where.length : Int) = 0)) (bnd (where_at a0 t31.Moment x2_2) fun t46 =>
  cnd t46.2 (where_Placed_j3 x2_2 x25_2 x26_2 l_3 next2 t31 ([t46.1] : List T_api_Place)) (where_Placed_j3 x2_2 x25_2 x26_2 l_3 next2 t31 t31.Where)) (where_Placed_j3 x2_2 x25_2 x26_2 l_3 next2 t31 t31.Where)) (where_Placed_j3 x2_2 x25_2 x26_2 l_3 next2 t31 t31.Where)) (where_Placed_j1 l_3)
noncomputable def where_Placed (a0 : (List T_where_Fix)) (a1 : (List T_api_Photo)) (a2 : Int) : Option ((List T_api_Photo) × Int) :=
  bnd (where_CheckTrack a0) fun t15 =>
  cnd (decide (t15 ≠ 0)) (some (([] : List T_api_Photo), t15)) (cnd (decide (a2 < 0)) (some (([] : List T_api_Photo), 2)) (cnd (decide (1000 < (a1.length : Int))) (some (([] : List T_api_Photo), 4)) (fix (fun next2 s => where_Placed_l2 a0 a1 next2 s.1 s.2.1 s.2.2.1 s.2.2.2) (a2, (a1.length : Int), 0, ([] : List T_api_Photo)))))

/-! tintype/tintref2.PlaceFault -/
noncomputable def R_PlaceFault (a0 : T_api_Place) : Option (Int) :=
  cnd (decide (a0.Lat < (-90000000))) (some 2) (cnd (decide (90000000 < a0.Lat)) (some 2) (cnd (decide (a0.Lon < (-180000000))) (some 2) (cnd (decide (179999999 < a0.Lon)) (some 2) (some 0))))

/-! tintype/tintref2.TrackFault -/
noncomputable def R_TrackFault_j2 (x11_2 : Int) (next1 : ((Int) → Option (Int))) (x21 : Int) (x22 : Bool) (m : Int) (m_2 : Int) (m_3 : Int) : Option (Int) :=
  bnd (gI (x11_2 + 1)) fun t43 =>
  next1 t43
noncomputable def R_TrackFault_l1 (a0 : (List T_where_Fix)) (next1 : ((Int) → Option (Int))) (x11_2 : Int) : Option (Int) :=
  cnd (decide (x11_2 < (a0.length : Int))) (bnd (gAt a0 x11_2) fun t14 =>
  cnd (decide (t14.Moment < 0)) (some 2) (cnd (decide (6311433599 < t14.Moment)) (some 2) (bnd (R_PlaceFault t14.Place) fun t26 =>
  cnd (decide (t26 ≠ 0)) (some t26) (cnd (decide (0 < x11_2)) (bnd (gI (x11_2 - 1)) fun t37 =>
  bnd (gAt a0 t37) fun t38 =>
  cnd (decide (t14.Moment ≤ t38.Moment)) (some 5) (R_TrackFault_j2 x11_2 next1 t14.Moment (decide (6311433599 < t14.Moment)) t14.Moment t14.Place.Lat t14.Place.Lon)) (R_TrackFault_j2 x11_2 next1 t14.Moment (decide (6311433599 < t14.Moment)) t14.Moment t14.Place.Lat t14.Place.Lon))))) (some 0)
noncomputable def R_TrackFault (a0 : (List T_where_Fix)) : Option (Int) :=
  cnd (decide (2000 < (a0.length : Int))) (some 4) (fix (fun next1 s => R_TrackFault_l1 a0 next1 s) 0)

/-! tintype/tintref2.eastward -/
noncomputable def R_eastward (a0 : Int) (a1 : Int) : Option (Int) :=
  bnd (gI (a1 - a0)) fun t8 =>
  cnd (decide (t8 < 0)) (bnd (gI (t8 + 360000000)) fun t12 =>
  some t12) (some t8)

/-! tintype/tintref2.short -/
noncomputable def R_short (a0 : Int) (a1 : Int) : Option (Int) :=
  bnd (R_eastward a0 a1) fun t8 =>
  cnd (decide (180000000 ≤ t8)) (bnd (gI (t8 - 360000000)) fun t12 =>
  some t12) (some t8)

/-! tintype/tintref2.down -/
noncomputable def R_down (a0 : Int) (a1 : Int) : Option (Int) :=
  bnd (gQuo a0 a1) fun t8 =>
  bnd (gRem a0 a1) fun t11 =>
  cnd (decide (t11 ≠ 0)) (cnd (decide ((decide (a0 < 0)) ≠ (decide (a1 < 0)))) (bnd (gI (t8 - 1)) fun t21 =>
  some t21) (some t8)) (some t8)

/-! tintype/tintref2.share -/
noncomputable def R_share (a0 : Int) (a1 : Int) (a2 : Int) : Option (Int) :=
  bnd (gI (a0 * a1)) fun t9 =>
  bnd (R_down t9 a2) fun t11 =>
  some t11

/-! tintype/tintref2.lon -/
noncomputable def R_lon_l2 (next2 : ((Int) → Option (Int))) (x0_3 : Int) : Option (Int) :=
  cnd (decide (180000000 ≤ x0_3)) (bnd (gI (x0_3 - 360000000)) fun t10 =>
  next2 t10) (some x0_3)
noncomputable def R_lon_j1 (x0 : Int) : Option (Int) :=
  fix (fun next2 s => R_lon_l2 next2 s) x0
noncomputable def R_lon_l3 (next3 : ((Int) → Option (Int))) (x0_5 : Int) : Option (Int) :=
  cnd (decide (x0_5 < (-180000000))) (bnd (gI (x0_5 + 360000000)) fun t6 =>
  next3 t6) (R_lon_j1 x0_5)
noncomputable def R_lon (a0 : Int) : Option (Int) :=
  fix (fun next3 s => R_lon_l3 next3 s) a0

/-! tintype/tintref2.BetweenOf -/
noncomputable def R_BetweenOf (a0 : T_api_Place) (a1 : T_api_Place) (a2 : Int) (a3 : Int) : Option (T_api_Place) :=
  bnd (gI (a1.Lat - a0.Lat)) fun t15 =>
  bnd (R_share t15 a2 a3) fun t18 =>
  bnd (gI (a0.Lat + t18)) fun t19 =>
  bnd (R_short a0.Lon a1.Lon) fun t26 =>
  bnd (R_share t26 a2 a3) fun t29 =>
  bnd (gI (a0.Lon + t29)) fun t30 =>
  bnd (R_lon t30) fun t31 =>
  some (⟨t19, t31⟩ : T_api_Place)

/-! tintype/tintref2.far -/
noncomputable def R_far (a0 : Int) : Option (Int) :=
  bnd (gI (-a0)) fun t5 =>
  some (max a0 t5)

/-! tintype/tintref2.AtOf -/
noncomputable def R_AtOf_j3 (a0 : (List T_where_Fix)) (x14 : Int) : Option (T_api_Place × Bool) :=
  cnd (decide (x14 < 0)) (some ((⟨0, 0⟩ : T_api_Place), false)) (bnd (gAt a0 x14) fun t135 =>
  some (t135.Place, true))
noncomputable def R_AtOf_j5 (x89_2 : Int) (next4 : ((Int × Int) → Option (T_api_Place × Bool))) (x14_4 : Int) : Option (T_api_Place × Bool) :=
  bnd (gI (x89_2 + 1)) fun t129 =>
  next4 (x14_4, t129)
noncomputable def R_AtOf_l4 (a0 : (List T_where_Fix)) (a1 : Int) (a2 : Int) (x8 : Int) (x9 : Int) (next4 : ((Int × Int) → Option (T_api_Place × Bool))) (x14_3 : Int) (x89_2 : Int) : Option (T_api_Place × Bool) :=
  cnd (decide (x89_2 < 2)) (bnd (gAt ([x8, x9] : List Int) x89_2) fun t91 =>
  cnd (decide (t91 < 0)) (R_AtOf_j5 x89_2 next4 x14_3) (bnd (gAt a0 t91) fun t98 =>
  bnd (gI (t98.Moment - a1)) fun t102 =>
  bnd (R_far t102) fun t103 =>
  cnd (decide (a2 < t103)) (R_AtOf_j5 x89_2 next4 x14_3) (cnd (decide (x14_3 < 0)) (R_AtOf_j5 x89_2 next4 t91) (bnd (gAt a0 t91) fun t112 =>
  bnd (gI (t112.Moment - a1)) fun t116 =>
  bnd (R_far t116) fun t117 =>
  bnd (gAt a0 x14_3) fun t120 =>
  bnd (gI (t120.Moment - a1)) fun t124 =>
  bnd (R_far t124) fun t125 =>
  cnd (decide (t117 < t125)) (R_AtOf_j5 x89_2 next4 t91) (R_AtOf_j5 x89_2 next4 x14_3))))) (R_AtOf_j3 a0 x14_3)
noncomputable def R_AtOf_j2 (a0 : (List T_where_Fix)) (a1 : Int) (a2 : Int) (x8 : Int) (x9 : Int) : Option (T_api_Place × Bool) :=
  fix (fun next4 s => R_AtOf_l4 a0 a1 a2 x8 x9 next4 s.1 s.2) ((-1), 0)
noncomputable def R_AtOf_j1 (a0 : (List T_where_Fix)) (a1 : Int) (a2 : Int) (x8 : Int) (x9 : Int) : Option (T_api_Place × Bool) :=
  cnd (decide (0 ≤ x8)) (cnd (decide (0 ≤ x9)) (bnd (gAt a0 x9) fun t51 =>
  bnd (gAt a0 x8) fun t56 =>
  bnd (gI (t51.Moment - t56.Moment)) fun t59 =>
  cnd (decide (t59 ≤ a2)) (bnd (gAt a0 x8) fun t65 =>
  bnd (gAt a0 x9) fun t69 =>
  bnd (gI (a1 - t65.Moment)) fun t78 =>
  bnd (gI (t69.Moment - t65.Moment)) fun t83 =>
  bnd (R_BetweenOf t65.Place t69.Place t78 t83) fun t84 =>
  some (t84, true)) (R_AtOf_j2 a0 a1 a2 x8 x9)) (R_AtOf_j2 a0 a1 a2 x8 x9)) (R_AtOf_j2 a0 a1 a2 x8 x9)
noncomputable def R_AtOf_j7 (x19_2 : Int) (next6 : ((Int × Int × Int) → Option (T_api_Place × Bool))) (x8_4 : Int) (x9_4 : Int) : Option (T_api_Place × Bool) :=
  bnd (gI (x19_2 + 1)) fun t41 =>
  next6 (x8_4, x9_4, t41)
noncomputable def R_AtOf_l6 (a0 : (List T_where_Fix)) (a1 : Int) (a2 : Int) (next6 : ((Int × Int × Int) → Option (T_api_Place × Bool))) (x8_3 : Int) (x9_3 : Int) (x19_2 : Int) : Option (T_api_Place × Bool) :=
  cnd (decide (x19_2 < (a0.length : Int))) (bnd (gAt a0 x19_2) fun t22 =>
  cnd (decide (t22.Moment = a1)) (some (t22.Place, true)) (cnd (decide (t22.Moment < a1)) (R_AtOf_j7 x19_2 next6 x19_2 x9_3) (cnd (decide (x9_3 < 0)) (R_AtOf_j7 x19_2 next6 x8_3 x19_2) (R_AtOf_j7 x19_2 next6 x8_3 x9_3)))) (R_AtOf_j1 a0 a1 a2 x8_3 x9_3)
noncomputable def R_AtOf (a0 : (List T_where_Fix)) (a1 : Int) (a2 : Int) : Option (T_api_Place × Bool) :=
  fix (fun next6 s => R_AtOf_l6 a0 a1 a2 next6 s.1 s.2.1 s.2.2) ((-1), (-1), 0)

/-! slices.Equal[[]tintype/api.Place,tintype/api.Place] -/
noncomputable def slices_Equal_api_Place_l1 (a0 : (List T_api_Place)) (a1 : (List T_api_Place)) (next1 : ((Int) → Option (Bool))) (x13_2 : Int) : Option (Bool) :=
  cnd (decide (x13_2 < (a0.length : Int))) (bnd (gAt a0 x13_2) fun t18 =>
  bnd (gAt a1 x13_2) fun t22 =>
  cnd (!(eq_api_Place t18 t22)) (some false) (bnd (gI (x13_2 + 1)) fun t25 =>
  next1 t25)) (some true)
noncomputable def slices_Equal_api_Place (a0 : (List T_api_Place)) (a1 : (List T_api_Place)) : Option (Bool) :=
  cnd (decide ((a0.length : Int) ≠ (a1.length : Int))) (some false) (fix (fun next1 s => slices_Equal_api_Place_l1 a0 a1 next1 s) 0)

/-! slices.Equal[[]string,string] -/
noncomputable def slices_Equal_string_l1 (a0 : (List (List UInt8))) (a1 : (List (List UInt8))) (next1 : ((Int) → Option (Bool))) (x13_2 : Int) : Option (Bool) :=
  cnd (decide (x13_2 < (a0.length : Int))) (bnd (gAt a0 x13_2) fun t18 =>
  bnd (gAt a1 x13_2) fun t22 =>
  cnd (decide (t18 ≠ t22)) (some false) (bnd (gI (x13_2 + 1)) fun t25 =>
  next1 t25)) (some true)
noncomputable def slices_Equal_string (a0 : (List (List UInt8))) (a1 : (List (List UInt8))) : Option (Bool) :=
  cnd (decide ((a0.length : Int) ≠ (a1.length : Int))) (some false) (fix (fun next1 s => slices_Equal_string_l1 a0 a1 next1 s) 0)

/-! slices.Equal[[]int,int] -/
noncomputable def slices_Equal_int_l1 (a0 : (List Int)) (a1 : (List Int)) (next1 : ((Int) → Option (Bool))) (x13_2 : Int) : Option (Bool) :=
  cnd (decide (x13_2 < (a0.length : Int))) (bnd (gAt a0 x13_2) fun t18 =>
  bnd (gAt a1 x13_2) fun t22 =>
  cnd (decide (t18 ≠ t22)) (some false) (bnd (gI (x13_2 + 1)) fun t25 =>
  next1 t25)) (some true)
noncomputable def slices_Equal_int (a0 : (List Int)) (a1 : (List Int)) : Option (Bool) :=
  cnd (decide ((a0.length : Int) ≠ (a1.length : Int))) (some false) (fix (fun next1 s => slices_Equal_int_l1 a0 a1 next1 s) 0)

/-! tintype/tintlaw2.WherePlaced -/
noncomputable def Law_WherePlaced_j2 (t20 : ((List T_api_Photo) × Int)) (x55_2 : Int) (next1 : ((Int) → Option (Bool))) (t58 : T_api_Photo) (x12_2 : (List T_api_Place)) : Option (Bool) :=
  bnd (gAt t20.1 x55_2) fun t89 =>
  bnd (slices_Equal_api_Place t89.Where x12_2) fun t94 =>
  cnd (!t94) (some false) (bnd (slices_Equal_string t89.Tags t58.Tags) fun t101 =>
  cnd (!t101) (some false) (bnd (slices_Equal_int t89.People t58.People) fun t109 =>
  cnd (!t109) (some false) (cnd (decide (t89.Id ≠ t58.Id)) (some false) (cnd (decide (t89.File ≠ t58.File)) (some false) (cnd (decide (t89.Moment ≠ t58.Moment)) (some false) (cnd (decide (t89.Zone ≠ t58.Zone)) (some false) (cnd (decide (t89.W ≠ t58.W)) (some false) (cnd (decide (t89.H ≠ t58.H)) (some false) (cnd (decide (t89.Turn ≠ t58.Turn)) (some false) (cnd (decide (t89.Stars ≠ t58.Stars)) (some false) (cnd (decide (t89.Caption ≠ t58.Caption)) (some false) (cnd (decide (t89.Hidden ≠ t58.Hidden)) (some false) (bnd (gI (x55_2 + 1)) fun t182 =>
  next1 t182)))))))))))))
noncomputable def Law_WherePlaced_l1 (a0 : (List T_where_Fix)) (a1 : (List T_api_Photo)) (a2 : Int) (t20 : ((List T_api_Photo) × Int)) (next1 : ((Int) → Option (Bool))) (x55_2 : Int) : Option (Bool) :=
  cnd (decide (x55_2 < (a1.length : Int))) (bnd (gAt a1 x55_2) fun t58 =>
  cnd (decide ((t58.Where.length : Int) = 0)) (cnd (decide (0 ≤ t58.Moment)) (cnd (decide (t58.Moment ≤ 6311433599)) (bnd (R_AtOf a0 t58.Moment a2) fun t81 =>
  cnd t81.2 (Law_WherePlaced_j2 t20 x55_2 next1 t58 ([t81.1] : List T_api_Place)) (Law_WherePlaced_j2 t20 x55_2 next1 t58 t58.Where)) (Law_WherePlaced_j2 t20 x55_2 next1 t58 t58.Where)) (Law_WherePlaced_j2 t20 x55_2 next1 t58 t58.Where)) (Law_WherePlaced_j2 t20 x55_2 next1 t58 t58.Where)) (some true)
noncomputable def Law_WherePlaced (a0 : (List T_where_Fix)) (a1 : (List T_api_Photo)) (a2 : Int) : Option (Bool) :=
  bnd (where_Placed a0 a1 a2) fun t20 =>
  bnd (R_TrackFault a0) fun t24 =>
  bnd (Law_unless (decide (0 ≤ a2)) 2) fun t27 =>
  bnd (Law_unless (decide ((a1.length : Int) ≤ 1000)) 4) fun t31 =>
  bnd (Law_first ([t24, t27, t31] : List Int)) fun t33 =>
  cnd (decide (t33 ≠ 0)) (cnd (decide (t20.2 = t33)) (some (decide ((t20.1.length : Int) = 0))) (some false)) (cnd (decide (t20.2 ≠ 0)) (some false) (cnd (decide ((t20.1.length : Int) ≠ (a1.length : Int))) (some false) (fix (fun next1 s => Law_WherePlaced_l1 a0 a1 a2 t20 next1 s) 0)))

end Go.M
