/- Where: the models, printed by our generator from the compiled program. Conditions: none. -/
import Derived.Test.YtfgehlmdcllclaaFl
namespace Go.M
open Go.Md
set_option maxRecDepth 100000
set_option linter.unusedVariables false

structure T_api_Place where
  Lat : Int
  Lon : Int
instance : Inhabited T_api_Place := ⟨⟨0, 0⟩⟩

structure T_where_Fix where
  Moment : Int
  Place : T_api_Place
instance : Inhabited T_where_Fix := ⟨⟨0, default⟩⟩

structure T_where_part where
  end_ : ((List T_where_Fix) → Int → Option (Int))
  counts_ : ((List T_where_Fix) → Int → Int → Option (Bool))
  step_ : (Int → Int → Option (Int))
  place_ : ((List T_api_Place) → Option (T_api_Place))
instance : Inhabited T_where_part := ⟨⟨fun _ _ => none, fun _ _ _ => none, fun _ _ => none, fun _ => none⟩⟩

structure T_where_Stop where
  From : Int
  To : Int
  Place : T_api_Place
instance : Inhabited T_where_Stop := ⟨⟨0, 0, default⟩⟩

def eq_where_Fix (x y : T_where_Fix) : Bool := decide (x.Moment = y.Moment ∧ (x.Place.Lat = y.Place.Lat ∧ x.Place.Lon = y.Place.Lon))
def eq_api_Place (x y : T_api_Place) : Bool := decide (x.Lat = y.Lat ∧ x.Lon = y.Lon)
def eq_where_Stop (x y : T_where_Stop) : Bool := decide (x.From = y.From ∧ x.To = y.To ∧ (x.Place.Lat = y.Place.Lat ∧ x.Place.Lon = y.Place.Lon))

/-! tintype/tintlaw2.first -/
noncomputable def Law_first_l1 (a0 : (List Int)) (next1 : ((Int) → Option (Int))) (x7_2 : Int) : Option (Int) :=
  cnd (decide (x7_2 < (a0.length : Int))) (bnd (gAt a0 x7_2) fun t9 =>
  cnd (decide (t9 ≠ 0)) (some t9) (bnd (gI (x7_2 + 1)) fun t14 =>
  next1 t14)) (some 0)
noncomputable def Law_first (a0 : (List Int)) : Option (Int) :=
  fix (fun next1 s => Law_first_l1 a0 next1 s) 0

/-! tintype/tintlaw2.unless -/
noncomputable def Law_unless (a0 : Bool) (a1 : Int) : Option (Int) :=
  cnd a0 (some 0) (some a1)

/-! tintype/tintlaw2.metresFault -/
noncomputable def Law_metresFault (a0 : Int) : Option (Int) :=
  cnd (decide (0 ≤ a0)) (bnd (Law_unless (decide (a0 ≤ 30000000)) 2) fun t9 =>
  some t9) (bnd (Law_unless false 2) fun t9_2 =>
  some t9_2)

/-! tintype/tintref2.PlaceFault -/
noncomputable def R_PlaceFault (a0 : T_api_Place) : Option (Int) :=
  cnd (decide (a0.Lat < (-90000000))) (some 2) (cnd (decide (90000000 < a0.Lat)) (some 2) (cnd (decide (a0.Lon < (-180000000))) (some 2) (cnd (decide (179999999 < a0.Lon)) (some 2) (some 0))))

/-! tintype/tintref2.TrackFault -/
noncomputable def R_TrackFault_j2 (x11_2 : Int) (next1 : ((Int) → Option (Int))) (x21 : Int) (x22 : Bool) (m : Int) (m_2 : Int) (m_3 : Int) : Option (Int) :=
  bnd (gI (x11_2 + 1)) fun t43 =>
  next1 t43
noncomputable def R_TrackFault_l1 (a0 : (List T_where_Fix)) (next1 : ((Int) → Option (Int))) (x11_2 : Int) : Option (Int) :=
  cnd (decide (x11_2 < (a0.length : Int))) (bnd (gAt a0 x11_2) fun t14 =>
  cnd (decide (t14.Moment < 0)) (some 2) (cnd (decide (6311433599 < t14.Moment)) (some 2) (bnd (R_PlaceFault t14.Place) fun t26 =>
  cnd (decide (t26 ≠ 0)) (some t26) (cnd (decide (0 < x11_2)) (bnd (gI (x11_2 - 1)) fun t37 =>
  bnd (gAt a0 t37) fun t38 =>
  cnd (decide (t14.Moment ≤ t38.Moment)) (some 5) (R_TrackFault_j2 x11_2 next1 t14.Moment (decide (6311433599 < t14.Moment)) t14.Moment t14.Place.Lat t14.Place.Lon)) (R_TrackFault_j2 x11_2 next1 t14.Moment (decide (6311433599 < t14.Moment)) t14.Moment t14.Place.Lat t14.Place.Lon))))) (some 0)
noncomputable def R_TrackFault (a0 : (List T_where_Fix)) : Option (Int) :=
  cnd (decide (2000 < (a0.length : Int))) (some 4) (fix (fun next1 s => R_TrackFault_l1 a0 next1 s) 0)

/-! tintype/where.outside -/
noncomputable def where_outside (a0 : Int) (a1 : Int) (a2 : Int) : Option (Bool) :=
  cnd (decide (a0 < a1)) (some true) (some (decide (a2 < a0)))

/-! tintype/where.isLat -/
noncomputable def where_isLat (a0 : Int) : Option (Bool) :=
  bnd (where_outside a0 (-90000000) 90000000) fun t4 =>
  some (!t4)

/-! tintype/where.isLon -/
noncomputable def where_isLon (a0 : Int) : Option (Bool) :=
  bnd (where_outside a0 (-180000000) 179999999) fun t4 =>
  some (!t4)

/-! tintype/where.CheckPlace -/
noncomputable def where_CheckPlace (a0 : T_api_Place) : Option (Int) :=
  bnd (where_isLat a0.Lat) fun t5 =>
  cnd (!t5) (some 2) (bnd (where_isLon a0.Lon) fun t10 =>
  cnd (!t10) (some 2) (some 0))

/-! tintype/where.isMoment -/
noncomputable def where_isMoment (a0 : Int) : Option (Bool) :=
  bnd (where_outside a0 0 6311433599) fun t4 =>
  some (!t4)

/-! tintype/where.CheckTrack -/
noncomputable def where_CheckTrack_j2 (x11_2 : Int) (next1 : ((Int) → Option (Int))) : Option (Int) :=
  bnd (gI (x11_2 + 1)) fun t39 =>
  next1 t39
noncomputable def where_CheckTrack_l1 (a0 : (List T_where_Fix)) (next1 : ((Int) → Option (Int))) (x11_2 : Int) : Option (Int) :=
  cnd (decide (x11_2 < (a0.length : Int))) (bnd (gAt a0 x11_2) fun t14 =>
  bnd (where_isMoment t14.Moment) fun t18 =>
  cnd (!t18) (some 2) (bnd (where_CheckPlace t14.Place) fun t22 =>
  cnd (decide (t22 ≠ 0)) (some t22) (cnd (decide (0 < x11_2)) (bnd (gI (x11_2 - 1)) fun t33 =>
  bnd (gAt a0 t33) fun t34 =>
  cnd (decide (t14.Moment ≤ t34.Moment)) (some 5) (where_CheckTrack_j2 x11_2 next1)) (where_CheckTrack_j2 x11_2 next1)))) (some 0)
noncomputable def where_CheckTrack (a0 : (List T_where_Fix)) : Option (Int) :=
  cnd (decide (2000 < (a0.length : Int))) (some 4) (fix (fun next1 s => where_CheckTrack_l1 a0 next1 s) 0)

/-! tintype/where.cosine -/
noncomputable def where_cosine (a0 : Int) : Option (Int) :=
  bnd (gQuo a0 100) fun t5 =>
  bnd (gI (4 * t5)) fun t7 =>
  bnd (gI (t7 * t5)) fun t9 =>
  bnd (gI (3240000000000 - t9)) fun t10 =>
  bnd (gI (t10 * 1000000)) fun t11 =>
  bnd (gI (t5 * t5)) fun t14 =>
  bnd (gI (3240000000000 + t14)) fun t15 =>
  bnd (gQuo t11 t15) fun t16 =>
  some t16

/-! tintype/where.eastward -/
noncomputable def where_eastward (a0 : Int) (a1 : Int) : Option (Int) :=
  bnd (gI (a1 - a0)) fun t7 =>
  bnd (gRem t7 360000000) fun t8 =>
  bnd (gI (t8 + 360000000)) fun t9 =>
  bnd (gRem t9 360000000) fun t10 =>
  some t10

/-! tintype/where.short -/
noncomputable def where_short (a0 : Int) (a1 : Int) : Option (Int) :=
  bnd (where_eastward a0 a1) fun t8 =>
  cnd (decide (180000000 ≤ t8)) (bnd (gI (t8 - 360000000)) fun t12 =>
  some t12) (some t8)

/-! tintype/where.floor -/
noncomputable def where_floor (a0 : Int) (a1 : Int) : Option (Int) :=
  bnd (gQuo a0 a1) fun t8 =>
  bnd (gRem a0 a1) fun t11 =>
  cnd (decide (t11 < 0)) (bnd (gI (t8 - 1)) fun t14 =>
  some t14) (some t8)

/-! math.Sqrt -/
noncomputable def math_Sqrt (a0 : Nat) : Option (Nat) :=
  bnd (gSqrt a0) fun t4 =>
  some t4

/-! tintype/where.root -/
noncomputable def where_root_l2 (a0 : Int) (next2 : ((Int) → Option (Int))) (x3_3 : Int) : Option (Int) :=
  bnd (gI (x3_3 + 1)) fun t16 =>
  bnd (gI (x3_3 + 1)) fun t18 =>
  bnd (gI (t16 * t18)) fun t19 =>
  cnd (decide (t19 ≤ a0)) (bnd (gI (x3_3 + 1)) fun t23 =>
  next2 t23) (some x3_3)
noncomputable def where_root_j1 (a0 : Int) (x3 : Int) : Option (Int) :=
  fix (fun next2 s => where_root_l2 a0 next2 s) x3
noncomputable def where_root_l3 (a0 : Int) (next3 : ((Int) → Option (Int))) (x3_5 : Int) : Option (Int) :=
  bnd (gI (x3_5 * x3_5)) fun t10 =>
  cnd (decide (a0 < t10)) (bnd (gI (x3_5 - 1)) fun t14 =>
  next3 t14) (where_root_j1 a0 x3_5)
noncomputable def where_root (a0 : Int) : Option (Int) :=
  bnd (gIF a0) fun t5 =>
  bnd (math_Sqrt t5) fun t6 =>
  bnd (gFI t6) fun t7 =>
  fix (fun next3 s => where_root_l3 a0 next3 s) t7

/-! tintype/where.distance -/
noncomputable def where_distance (a0 : T_api_Place) (a1 : T_api_Place) : Option (Int) :=
  bnd (gI (a1.Lat - a0.Lat)) fun t11 =>
  bnd (where_short a0.Lon a1.Lon) fun t16 =>
  bnd (gI (a0.Lat + a1.Lat)) fun t21 =>
  bnd (where_floor t21 2) fun t22 =>
  bnd (where_cosine t22) fun t23 =>
  bnd (gI (t16 * t23)) fun t24 =>
  bnd (gQuo t24 1000000) fun t25 =>
  bnd (gI (t11 * t11)) fun t28 =>
  bnd (gI (t25 * t25)) fun t31 =>
  bnd (gI (t28 + t31)) fun t32 =>
  bnd (where_root t32) fun t33 =>
  bnd (gI (t33 * 111195)) fun t34 =>
  bnd (gQuo t34 1000000) fun t35 =>
  some t35

/-! tintype/where.wrap -/
noncomputable def where_wrap (a0 : Int) : Option (Int) :=
  bnd (where_eastward (-180000000) a0) fun t4 =>
  bnd (gI (t4 - 180000000)) fun t5 =>
  some t5

/-! tintype/where.between -/
noncomputable def where_between (a0 : T_api_Place) (a1 : T_api_Place) (a2 : Int) (a3 : Int) : Option (T_api_Place) :=
  bnd (gI (a1.Lat - a0.Lat)) fun t15 =>
  bnd (gI (t15 * a2)) fun t17 =>
  bnd (where_floor t17 a3) fun t19 =>
  bnd (gI (a0.Lat + t19)) fun t20 =>
  bnd (where_short a0.Lon a1.Lon) fun t27 =>
  bnd (gI (t27 * a2)) fun t29 =>
  bnd (where_floor t29 a3) fun t31 =>
  bnd (gI (a0.Lon + t31)) fun t32 =>
  bnd (where_wrap t32) fun t33 =>
  some (⟨t20, t33⟩ : T_api_Place)

/-! tintype/where.simplify -/
noncomputable def where_simplify_j1 (a0 : (List T_where_Fix)) (a1 : Int) (a2 : Int) (a3 : Int) (a4 : (List Bool)) (self : ((List T_where_Fix) × Int × Int × Int × (List Bool)) → Option ((List Bool))) (x10 : Int) : Option ((List Bool)) :=
  cnd (decide (x10 < 0)) (some a4) (bnd (gAt a4 x10) fun t67 =>
  bnd (gSet a4 x10 true) fun l0 =>
  bnd (self (a0, a1, x10, a3, l0)) fun t73 =>
  bnd (self (a0, x10, a2, a3, t73)) fun t79 =>
  some t79)
noncomputable def where_simplify_j3 (x14_2 : Int) (next2 : ((Int × Int × Int) → Option ((List Bool)))) (x10_4 : Int) (x11_3 : Int) : Option ((List Bool)) :=
  bnd (gI (x14_2 + 1)) fun t32 =>
  next2 (x10_4, x11_3, t32)
noncomputable def where_simplify_l2 (a0 : (List T_where_Fix)) (a1 : Int) (a2 : Int) (a3 : Int) (a4 : (List Bool)) (self : ((List T_where_Fix) × Int × Int × Int × (List Bool)) → Option ((List Bool))) (t20 : T_where_Fix) (t24 : T_where_Fix) (next2 : ((Int × Int × Int) → Option ((List Bool)))) (x10_3 : Int) (x11_2 : Int) (x14_2 : Int) : Option ((List Bool)) :=
  cnd (decide (x14_2 < a2)) (bnd (gAt a0 x14_2) fun t39 =>
  bnd (gI (t39.Moment - t20.Moment)) fun t44 =>
  bnd (gI (t24.Moment - t20.Moment)) fun t49 =>
  bnd (where_between t20.Place t24.Place t44 t49) fun t50 =>
  bnd (gAt a0 x14_2) fun t53 =>
  bnd (where_distance t53.Place t50) fun t57 =>
  cnd (decide (x11_2 < t57)) (where_simplify_j3 x14_2 next2 x14_2 t57) (where_simplify_j3 x14_2 next2 x10_3 x11_2)) (where_simplify_j1 a0 a1 a2 a3 a4 self x10_3)
noncomputable def where_simplify_body (self : ((List T_where_Fix) × Int × Int × Int × (List Bool)) → Option ((List Bool))) (a0 : (List T_where_Fix)) (a1 : Int) (a2 : Int) (a3 : Int) (a4 : (List Bool)) : Option ((List Bool)) :=
  bnd (gAt a0 a1) fun t20 =>
  bnd (gAt a0 a2) fun t24 =>
  bnd (gI (a1 + 1)) fun t27 =>
  fix (fun next2 s => where_simplify_l2 a0 a1 a2 a3 a4 self t20 t24 next2 s.1 s.2.1 s.2.2) ((-1), a3, t27)
noncomputable def where_simplify (a0 : (List T_where_Fix)) (a1 : Int) (a2 : Int) (a3 : Int) (a4 : (List Bool)) : Option ((List Bool)) :=
  fix (fun (self : ((List T_where_Fix) × Int × Int × Int × (List Bool)) → Option ((List Bool))) (s : (List T_where_Fix) × Int × Int × Int × (List Bool)) => where_simplify_body self s.1 s.2.1 s.2.2.1 s.2.2.2.1 s.2.2.2.2) (a0, a1, a2, a3, a4)

/-! tintype/where.Simple -/
noncomputable def where_Simple_j2 (l_2 : (List T_where_Fix)) : Option ((List T_where_Fix) × Int) :=
  some (l_2, 0)
noncomputable def where_Simple_j4 (x39_2 : Int) (next3 : ((Int × (List T_where_Fix)) → Option ((List T_where_Fix) × Int))) (l_5 : (List T_where_Fix)) : Option ((List T_where_Fix) × Int) :=
  bnd (gI (x39_2 + 1)) fun t52 =>
  next3 (t52, l_5)
noncomputable def where_Simple_l3 (a0 : (List T_where_Fix)) (l : (List Bool)) (next3 : ((Int × (List T_where_Fix)) → Option ((List T_where_Fix) × Int))) (x39_2 : Int) (l_4 : (List T_where_Fix)) : Option ((List T_where_Fix) × Int) :=
  cnd (decide (x39_2 < (a0.length : Int))) (bnd (gAt a0 x39_2) fun t42 =>
  bnd (gAt l x39_2) fun t46 =>
  cnd t46 (bnd (gApp 24 l_4 ([t42] : List T_where_Fix)) fun l51 =>
  where_Simple_j4 x39_2 next3 l51) (where_Simple_j4 x39_2 next3 l_4)) (where_Simple_j2 l_4)
noncomputable def where_Simple_j1 (a0 : (List T_where_Fix)) (l : (List Bool)) : Option ((List T_where_Fix) × Int) :=
  fix (fun next3 s => where_Simple_l3 a0 l next3 s.1 s.2) (0, ([] : List T_where_Fix))
noncomputable def where_Simple (a0 : (List T_where_Fix)) (a1 : Int) : Option ((List T_where_Fix) × Int) :=
  bnd (where_CheckTrack a0) fun t13 =>
  cnd (decide (t13 ≠ 0)) (some (([] : List T_where_Fix), t13)) (bnd (where_outside a1 0 30000000) fun t18 =>
  cnd t18 (some (([] : List T_where_Fix), 2)) (bnd (gMake 1 (a0.length : Int) false) fun t21 =>
  bnd (gI ((a0.length : Int) - 1)) fun t24 =>
  cnd (decide (0 ≤ t24)) (bnd (gAt t21 0) fun t30 =>
  bnd (gSet t21 0 true) fun l0 =>
  bnd (gAt l0 t24) fun t31 =>
  bnd (gSet l0 t24 true) fun l0_2 =>
  bnd (where_simplify a0 0 t24 a1 l0_2) fun t36 =>
  where_Simple_j1 a0 t36) (where_Simple_j1 a0 t21)))

/-! tintype/tintref2.lon -/
noncomputable def R_lon_l2 (next2 : ((Int) → Option (Int))) (x0_3 : Int) : Option (Int) :=
  cnd (decide (180000000 ≤ x0_3)) (bnd (gI (x0_3 - 360000000)) fun t10 =>
  next2 t10) (some x0_3)
noncomputable def R_lon_j1 (x0 : Int) : Option (Int) :=
  fix (fun next2 s => R_lon_l2 next2 s) x0
noncomputable def R_lon_l3 (next3 : ((Int) → Option (Int))) (x0_5 : Int) : Option (Int) :=
  cnd (decide (x0_5 < (-180000000))) (bnd (gI (x0_5 + 360000000)) fun t6 =>
  next3 t6) (R_lon_j1 x0_5)
noncomputable def R_lon (a0 : Int) : Option (Int) :=
  fix (fun next3 s => R_lon_l3 next3 s) a0

/-! tintype/tintref2.down -/
noncomputable def R_down (a0 : Int) (a1 : Int) : Option (Int) :=
  bnd (gQuo a0 a1) fun t8 =>
  bnd (gRem a0 a1) fun t11 =>
  cnd (decide (t11 ≠ 0)) (cnd (decide ((decide (a0 < 0)) ≠ (decide (a1 < 0)))) (bnd (gI (t8 - 1)) fun t21 =>
  some t21) (some t8)) (some t8)

/-! tintype/tintref2.share -/
noncomputable def R_share (a0 : Int) (a1 : Int) (a2 : Int) : Option (Int) :=
  bnd (gI (a0 * a1)) fun t9 =>
  bnd (R_down t9 a2) fun t11 =>
  some t11

/-! tintype/tintref2.eastward -/
noncomputable def R_eastward (a0 : Int) (a1 : Int) : Option (Int) :=
  bnd (gI (a1 - a0)) fun t8 =>
  cnd (decide (t8 < 0)) (bnd (gI (t8 + 360000000)) fun t12 =>
  some t12) (some t8)

/-! tintype/tintref2.short -/
noncomputable def R_short (a0 : Int) (a1 : Int) : Option (Int) :=
  bnd (R_eastward a0 a1) fun t8 =>
  cnd (decide (180000000 ≤ t8)) (bnd (gI (t8 - 360000000)) fun t12 =>
  some t12) (some t8)

/-! tintype/tintref2.BetweenOf -/
noncomputable def R_BetweenOf (a0 : T_api_Place) (a1 : T_api_Place) (a2 : Int) (a3 : Int) : Option (T_api_Place) :=
  bnd (gI (a1.Lat - a0.Lat)) fun t15 =>
  bnd (R_share t15 a2 a3) fun t18 =>
  bnd (gI (a0.Lat + t18)) fun t19 =>
  bnd (R_short a0.Lon a1.Lon) fun t26 =>
  bnd (R_share t26 a2 a3) fun t29 =>
  bnd (gI (a0.Lon + t29)) fun t30 =>
  bnd (R_lon t30) fun t31 =>
  some (⟨t19, t31⟩ : T_api_Place)

/-! tintype/tintref2.CosineOf -/
noncomputable def R_CosineOf (a0 : Int) : Option (Int) :=
  bnd (gQuo a0 100) fun t5 =>
  bnd (gI (4 * t5)) fun t7 =>
  bnd (gI (t7 * t5)) fun t9 =>
  bnd (gI (3240000000000 - t9)) fun t10 =>
  bnd (gI (t10 * 1000000)) fun t11 =>
  bnd (gI (t5 * t5)) fun t14 =>
  bnd (gI (3240000000000 + t14)) fun t15 =>
  bnd (gQuo t11 t15) fun t16 =>
  some t16

/-! tintype/tintref2.root -/
noncomputable def R_root_l1 (a0 : Int) (next1 : ((Int × Int) → Option (Int))) (x3_2 : Int) (x4_2 : Int) : Option (Int) :=
  cnd (decide (x3_2 < x4_2)) (bnd (gI (x3_2 + x4_2)) fun t11 =>
  bnd (gI (t11 + 1)) fun t12 =>
  bnd (gQuo t12 2) fun t13 =>
  bnd (gI (t13 * t13)) fun t16 =>
  cnd (decide (t16 ≤ a0)) (next1 (t13, x4_2)) (bnd (gI (t13 - 1)) fun t21 =>
  next1 (x3_2, t21))) (some x3_2)
noncomputable def R_root (a0 : Int) : Option (Int) :=
  fix (fun next1 s => R_root_l1 a0 next1 s.1 s.2) (0, 2147483648)

/-! tintype/tintref2.DistanceOf -/
noncomputable def R_DistanceOf (a0 : T_api_Place) (a1 : T_api_Place) : Option (Int) :=
  bnd (gI (a1.Lat - a0.Lat)) fun t11 =>
  bnd (R_short a0.Lon a1.Lon) fun t16 =>
  bnd (gI (a0.Lat + a1.Lat)) fun t21 =>
  bnd (R_down t21 2) fun t22 =>
  bnd (R_CosineOf t22) fun t23 =>
  bnd (gI (t16 * t23)) fun t24 =>
  bnd (gQuo t24 1000000) fun t25 =>
  bnd (gI (t11 * t11)) fun t28 =>
  bnd (gI (t25 * t25)) fun t31 =>
  bnd (gI (t28 + t31)) fun t32 =>
  bnd (R_root t32) fun t33 =>
  bnd (gI (t33 * 111195)) fun t34 =>
  bnd (gQuo t34 1000000) fun t35 =>
  some t35

/-! tintype/tintref2.SimpleOf$1 -/
noncomputable def R_SimpleOf_1_j1 (q0 : Int) (q1 : (List T_where_Fix)) (q2 : (List Bool)) (a0 : Int) (a1 : Int) (self : (Int × (List T_where_Fix) × (List Bool) × Int × Int) → Option ((List Bool))) (x8 : Int) : Option ((List Bool)) :=
  cnd (decide (0 ≤ x8)) (bnd (gAt q2 x8) fun t70 =>
  bnd (gSet q2 x8 true) fun l1 =>
  bnd (self (q0, q1, l1, a0, x8)) fun t74 =>
  bnd (self (q0, q1, t74, x8, a1)) fun t78 =>
  some t78) (some q2)
noncomputable def R_SimpleOf_1_j3 (x10_2 : Int) (next2 : ((Int × Int × Int) → Option ((List Bool)))) (x8_4 : Int) (x9_3 : Int) : Option ((List Bool)) :=
  bnd (gI (x10_2 + 1)) fun t20 =>
  next2 (x8_4, x9_3, t20)
noncomputable def R_SimpleOf_1_l2 (q0 : Int) (q1 : (List T_where_Fix)) (q2 : (List Bool)) (a0 : Int) (a1 : Int) (self : (Int × (List T_where_Fix) × (List Bool) × Int × Int) → Option ((List Bool))) (next2 : ((Int × Int × Int) → Option ((List Bool)))) (x8_3 : Int) (x9_2 : Int) (x10_2 : Int) : Option ((List Bool)) :=
  cnd (decide (x10_2 < a1)) (bnd (gAt q1 a0) fun t23 =>
  bnd (gAt q1 a1) fun t28 =>
  bnd (gAt q1 x10_2) fun t33 =>
  bnd (gAt q1 a0) fun t38 =>
  bnd (gI (t33.Moment - t38.Moment)) fun t41 =>
  bnd (gAt q1 a1) fun t44 =>
  bnd (gAt q1 a0) fun t49 =>
  bnd (gI (t44.Moment - t49.Moment)) fun t52 =>
  bnd (R_BetweenOf t23.Place t28.Place t41 t52) fun t53 =>
  bnd (gAt q1 x10_2) fun t57 =>
  bnd (R_DistanceOf t53 t57.Place) fun t60 =>
  cnd (decide (x9_2 < t60)) (R_SimpleOf_1_j3 x10_2 next2 x10_2 t60) (R_SimpleOf_1_j3 x10_2 next2 x8_3 x9_2)) (R_SimpleOf_1_j1 q0 q1 q2 a0 a1 self x8_3)
noncomputable def R_SimpleOf_1_body (self : (Int × (List T_where_Fix) × (List Bool) × Int × Int) → Option ((List Bool))) (q0 : Int) (q1 : (List T_where_Fix)) (q2 : (List Bool)) (a0 : Int) (a1 : Int) : Option ((List Bool)) :=
  bnd (gI (a0 + 1)) fun t15 =>
  fix (fun next2 s => R_SimpleOf_1_l2 q0 q1 q2 a0 a1 self next2 s.1 s.2.1 s.2.2) ((-1), q0, t15)
noncomputable def R_SimpleOf_1 (q0 : Int) (q1 : (List T_where_Fix)) (q2 : (List Bool)) (a0 : Int) (a1 : Int) : Option ((List Bool)) :=
  fix (fun (self : (Int × (List T_where_Fix) × (List Bool) × Int × Int) → Option ((List Bool))) (s : Int × (List T_where_Fix) × (List Bool) × Int × Int) => R_SimpleOf_1_body self s.1 s.2.1 s.2.2.1 s.2.2.2.1 s.2.2.2.2) (q0, q1, q2, a0, a1)

/-! tintype/tintref2.SimpleOf -/
noncomputable def R_SimpleOf_j3 (x31_2 : Int) (next2 : ((Int × (List T_where_Fix)) → Option ((List T_where_Fix)))) (l_4 : (List T_where_Fix)) : Option ((List T_where_Fix)) :=
  bnd (gI (x31_2 + 1)) fun t44 =>
  next2 (t44, l_4)
noncomputable def R_SimpleOf_l2 (a0 : (List T_where_Fix)) (l : (List Bool)) (next2 : ((Int × (List T_where_Fix)) → Option ((List T_where_Fix)))) (x31_2 : Int) (l_3 : (List T_where_Fix)) : Option ((List T_where_Fix)) :=
  cnd (decide (x31_2 < (a0.length : Int))) (bnd (gAt a0 x31_2) fun t34 =>
  bnd (gAt l x31_2) fun t38 =>
  cnd t38 (bnd (gApp 24 l_3 ([t34] : List T_where_Fix)) fun l43 =>
  R_SimpleOf_j3 x31_2 next2 l43) (R_SimpleOf_j3 x31_2 next2 l_3)) (some l_3)
noncomputable def R_SimpleOf_j1 (a0 : (List T_where_Fix)) (l : (List Bool)) : Option ((List T_where_Fix)) :=
  fix (fun next2 s => R_SimpleOf_l2 a0 l next2 s.1 s.2) (0, ([] : List T_where_Fix))
noncomputable def R_SimpleOf (a0 : (List T_where_Fix)) (a1 : Int) : Option ((List T_where_Fix)) :=
  bnd (gMake 1 (a0.length : Int) false) fun t12 =>
  cnd (decide (0 < (a0.length : Int))) (bnd (gI ((a0.length : Int) - 1)) fun t21 =>
  bnd (gAt t12 0) fun t22 =>
  bnd (gSet t12 0 true) fun l2 =>
  bnd (gAt l2 t21) fun t23 =>
  bnd (gSet l2 t21 true) fun l2_2 =>
  bnd (gI ((a0.length : Int) - 1)) fun t27 =>
  bnd (R_SimpleOf_1 a1 a0 l2_2 0 t27) fun t28 =>
  R_SimpleOf_j1 a0 t28) (R_SimpleOf_j1 a0 t12)

/-! slices.Equal[[]tintype/where.Fix,tintype/where.Fix] -/
noncomputable def slices_Equal_where_Fix_l1 (a0 : (List T_where_Fix)) (a1 : (List T_where_Fix)) (next1 : ((Int) → Option (Bool))) (x13_2 : Int) : Option (Bool) :=
  cnd (decide (x13_2 < (a0.length : Int))) (bnd (gAt a0 x13_2) fun t18 =>
  bnd (gAt a1 x13_2) fun t22 =>
  cnd (!(eq_where_Fix t18 t22)) (some false) (bnd (gI (x13_2 + 1)) fun t25 =>
  next1 t25)) (some true)
noncomputable def slices_Equal_where_Fix (a0 : (List T_where_Fix)) (a1 : (List T_where_Fix)) : Option (Bool) :=
  cnd (decide ((a0.length : Int) ≠ (a1.length : Int))) (some false) (fix (fun next1 s => slices_Equal_where_Fix_l1 a0 a1 next1 s) 0)

/-! tintype/tintlaw2.listed[tintype/where.Fix] -/
noncomputable def Law_listed_where_Fix_j1 (a0 : (List T_where_Fix)) (a1 : Int) (a3 : Int) (x2 : (List T_where_Fix)) : Option (Bool) :=
  bnd (slices_Equal_where_Fix a0 x2) fun t13 =>
  cnd t13 (some (decide (a1 = a3))) (some false)
noncomputable def Law_listed_where_Fix (a0 : (List T_where_Fix)) (a1 : Int) (a2 : (List T_where_Fix)) (a3 : Int) : Option (Bool) :=
  cnd (decide (a3 ≠ 0)) (Law_listed_where_Fix_j1 a0 a1 a3 ([] : (List T_where_Fix))) (Law_listed_where_Fix_j1 a0 a1 a3 a2)

/-! tintype/tintlaw2.WhereSimple -/
noncomputable def Law_WhereSimple_j1 (t12 : ((List T_where_Fix) × Int)) (t20 : (Int)) (l : (List T_where_Fix)) : Option (Bool) :=
  bnd (Law_listed_where_Fix t12.1 t12.2 l t20) fun t30 =>
  some t30
noncomputable def Law_WhereSimple (a0 : (List T_where_Fix)) (a1 : Int) : Option (Bool) :=
  bnd (where_Simple a0 a1) fun t12 =>
  bnd (R_TrackFault a0) fun t16 =>
  bnd (Law_metresFault a1) fun t18 =>
  bnd (Law_first ([t16, t18] : List Int)) fun t20 =>
  cnd (decide (t20 = 0)) (bnd (R_SimpleOf a0 a1) fun t25 =>
  Law_WhereSimple_j1 t12 t20 t25) (Law_WhereSimple_j1 t12 t20 ([] : List T_where_Fix))

/-! tintype/tintref2.far -/
noncomputable def R_far (a0 : Int) : Option (Int) :=
  bnd (gI (-a0)) fun t5 =>
  some (max a0 t5)

/-! tintype/tintref2.AtOf -/
noncomputable def R_AtOf_j3 (a0 : (List T_where_Fix)) (x14 : Int) : Option (T_api_Place × Bool) :=
  cnd (decide (x14 < 0)) (some ((⟨0, 0⟩ : T_api_Place), false)) (bnd (gAt a0 x14) fun t135 =>
  some (t135.Place, true))
noncomputable def R_AtOf_j5 (x89_2 : Int) (next4 : ((Int × Int) → Option (T_api_Place × Bool))) (x14_4 : Int) : Option (T_api_Place × Bool) :=
  bnd (gI (x89_2 + 1)) fun t129 =>
  next4 (x14_4, t129)
noncomputable def R_AtOf_l4 (a0 : (List T_where_Fix)) (a1 : Int) (a2 : Int) (x8 : Int) (x9 : Int) (next4 : ((Int × Int) → Option (T_api_Place × Bool))) (x14_3 : Int) (x89_2 : Int) : Option (T_api_Place × Bool) :=
  cnd (decide (x89_2 < 2)) (bnd (gAt ([x8, x9] : List Int) x89_2) fun t91 =>
  cnd (decide (t91 < 0)) (R_AtOf_j5 x89_2 next4 x14_3) (bnd (gAt a0 t91) fun t98 =>
  bnd (gI (t98.Moment - a1)) fun t102 =>
  bnd (R_far t102) fun t103 =>
  cnd (decide (a2 < t103)) (R_AtOf_j5 x89_2 next4 x14_3) (cnd (decide (x14_3 < 0)) (R_AtOf_j5 x89_2 next4 t91) (bnd (gAt a0 t91) fun t112 =>
  bnd (gI (t112.Moment - a1)) fun t116 =>
  bnd (R_far t116) fun t117 =>
  bnd (gAt a0 x14_3) fun t120 =>
  bnd (gI (t120.Moment - a1)) fun t124 =>
  bnd (R_far t124) fun t125 =>
  cnd (decide (t117 < t125)) (R_AtOf_j5 x89_2 next4 t91) (R_AtOf_j5 x89_2 next4 x14_3))))) (R_AtOf_j3 a0 x14_3)
noncomputable def R_AtOf_j2 (a0 : (List T_where_Fix)) (a1 : Int) (a2 : Int) (x8 : Int) (x9 : Int) : Option (T_api_Place × Bool) :=
  fix (fun next4 s => R_AtOf_l4 a0 a1 a2 x8 x9 next4 s.1 s.2) ((-1), 0)
noncomputable def R_AtOf_j1 (a0 : (List T_where_Fix)) (a1 : Int) (a2 : Int) (x8 : Int) (x9 : Int) : Option (T_api_Place × Bool) :=
  cnd (decide (0 ≤ x8)) (cnd (decide (0 ≤ x9)) (bnd (gAt a0 x9) fun t51 =>
  bnd (gAt a0 x8) fun t56 =>
  bnd (gI (t51.Moment - t56.Moment)) fun t59 =>
  cnd (decide (t59 ≤ a2)) (bnd (gAt a0 x8) fun t65 =>
  bnd (gAt a0 x9) fun t69 =>
  bnd (gI (a1 - t65.Moment)) fun t78 =>
  bnd (gI (t69.Moment - t65.Moment)) fun t83 =>
  bnd (R_BetweenOf t65.Place t69.Place t78 t83) fun t84 =>
  some (t84, true)) (R_AtOf_j2 a0 a1 a2 x8 x9)) (R_AtOf_j2 a0 a1 a2 x8 x9)) (R_AtOf_j2 a0 a1 a2 x8 x9)
noncomputable def R_AtOf_j7 (x19_2 : Int) (next6 : ((Int × Int × Int) → Option (T_api_Place × Bool))) (x8_4 : Int) (x9_4 : Int) : Option (T_api_Place × Bool) :=
  bnd (gI (x19_2 + 1)) fun t41 =>
  next6 (x8_4, x9_4, t41)
noncomputable def R_AtOf_l6 (a0 : (List T_where_Fix)) (a1 : Int) (a2 : Int) (next6 : ((Int × Int × Int) → Option (T_api_Place × Bool))) (x8_3 : Int) (x9_3 : Int) (x19_2 : Int) : Option (T_api_Place × Bool) :=
  cnd (decide (x19_2 < (a0.length : Int))) (bnd (gAt a0 x19_2) fun t22 =>
  cnd (decide (t22.Moment = a1)) (some (t22.Place, true)) (cnd (decide (t22.Moment < a1)) (R_AtOf_j7 x19_2 next6 x19_2 x9_3) (cnd (decide (x9_3 < 0)) (R_AtOf_j7 x19_2 next6 x8_3 x19_2) (R_AtOf_j7 x19_2 next6 x8_3 x9_3)))) (R_AtOf_j1 a0 a1 a2 x8_3 x9_3)
noncomputable def R_AtOf (a0 : (List T_where_Fix)) (a1 : Int) (a2 : Int) : Option (T_api_Place × Bool) :=
  fix (fun next6 s => R_AtOf_l6 a0 a1 a2 next6 s.1 s.2.1 s.2.2) ((-1), (-1), 0)

/-! tintype/tintlaw2.told[int] -/
noncomputable def Law_told_int_j1 (a0 : Int) (a1 : Int) (a3 : Int) (x2 : Int) : Option (Bool) :=
  cnd (decide (a0 = x2)) (some (decide (a1 = a3))) (some false)
noncomputable def Law_told_int (a0 : Int) (a1 : Int) (a2 : Int) (a3 : Int) : Option (Bool) :=
  cnd (decide (a3 ≠ 0)) (Law_told_int_j1 a0 a1 a3 0) (Law_told_int_j1 a0 a1 a3 a2)

/-! tintype/tintlaw2.told[tintype/api.Place] -/
noncomputable def Law_told_api_Place_j1 (a0 : T_api_Place) (a1 : Int) (a3 : Int) (m : Int) (m_2 : Int) : Option (Bool) :=
  cnd (eq_api_Place a0 (⟨m, m_2⟩ : T_api_Place)) (some (decide (a1 = a3))) (some false)
noncomputable def Law_told_api_Place (a0 : T_api_Place) (a1 : Int) (a2 : T_api_Place) (a3 : Int) : Option (Bool) :=
  cnd (decide (a3 ≠ 0)) (Law_told_api_Place_j1 a0 a1 a3 0 0) (Law_told_api_Place_j1 a0 a1 a3 a2.Lat a2.Lon)

/-! sort.Search -/
noncomputable def sort_Search_l1 (a1 : (Int → Option (Bool))) (next1 : ((Int × Int) → Option (Int))) (x5_2 : Int) (x6_2 : Int) : Option (Int) :=
  cnd (decide (x5_2 < x6_2)) (bnd (gI (x5_2 + x6_2)) fun t14 =>
  bnd (gShr 64 (wU64 t14) 1) fun t16 =>
  bnd (a1 (wI64 t16)) fun t20 =>
  cnd (!t20) (bnd (gI ((wI64 t16) + 1)) fun t23 =>
  next1 (t23, x6_2)) (next1 (x5_2, (wI64 t16)))) (some x5_2)
noncomputable def sort_Search (a0 : Int) (a1 : (Int → Option (Bool))) : Option (Int) :=
  fix (fun next1 s => sort_Search_l1 a1 next1 s.1 s.2) (0, a0)

/-! tintype/where.at$1 -/
noncomputable def where_at_1 (q0 : (List T_where_Fix)) (q1 : Int) (a0 : Int) : Option (Bool) :=
  bnd (gAt q0 a0) fun t7 =>
  some (decide (q1 ≤ t7.Moment))

/-! tintype/where.at -/
noncomputable def where_at_j4  : Option (T_api_Place × Bool) :=
  some ((⟨0, 0⟩ : T_api_Place), false)
noncomputable def where_at_j6 (a2 : Int) (t14 : (Int)) (x10 : Int) (x88 : Bool) (m_4 : (List T_where_Fix)) : Option (T_api_Place × Bool) :=
  cnd x88 (bnd (gI (t14 - 1)) fun t109 =>
  bnd (gAt m_4 t109) fun t110 =>
  some (t110.Place, true)) (cnd (decide (t14 < (m_4.length : Int))) (cnd (decide (x10 ≤ a2)) (bnd (gAt m_4 t14) fun t125 =>
  some (t125.Place, true)) (where_at_j4)) (where_at_j4))
noncomputable def where_at_j5 (a2 : Int) (t14 : (Int)) (x9 : Int) (x10 : Int) (x56 : Bool) (m_3 : (List T_where_Fix)) : Option (T_api_Place × Bool) :=
  cnd x56 (bnd (gI (t14 - 1)) fun t74 =>
  bnd (gAt m_3 t74) fun t75 =>
  bnd (gAt m_3 t14) fun t80 =>
  bnd (gI (x9 + x10)) fun t86 =>
  bnd (where_between t75.Place t80.Place x9 t86) fun t87 =>
  some (t87, true)) (cnd (decide (0 < t14)) (cnd (decide (x9 ≤ a2)) (cnd (decide (t14 = (m_3.length : Int))) (where_at_j6 a2 t14 x10 true m_3) (where_at_j6 a2 t14 x10 (decide (x9 ≤ x10)) m_3)) (where_at_j6 a2 t14 x10 false m_3)) (where_at_j6 a2 t14 x10 false m_3))
noncomputable def where_at_j3 (a2 : Int) (t14 : (Int)) (x9 : Int) (x10 : Int) (m_2 : (List T_where_Fix)) : Option (T_api_Place × Bool) :=
  cnd (decide (0 < t14)) (cnd (decide (t14 < (m_2.length : Int))) (bnd (gI (x9 + x10)) fun t68 =>
  where_at_j5 a2 t14 x9 x10 (decide (t68 ≤ a2)) m_2) (where_at_j5 a2 t14 x9 x10 false m_2)) (where_at_j5 a2 t14 x9 x10 false m_2)
noncomputable def where_at_j2 (a1 : Int) (a2 : Int) (t14 : (Int)) (x9 : Int) (m : (List T_where_Fix)) : Option (T_api_Place × Bool) :=
  cnd (decide (t14 < (m.length : Int))) (bnd (gAt m t14) fun t51 =>
  bnd (gI (t51.Moment - a1)) fun t55 =>
  where_at_j3 a2 t14 x9 t55 m) (where_at_j3 a2 t14 x9 a2 m)
noncomputable def where_at_j1 (a0 : (List T_where_Fix)) (a1 : Int) (a2 : Int) (t14 : (Int)) : Option (T_api_Place × Bool) :=
  cnd (decide (0 < t14)) (bnd (gI (t14 - 1)) fun t40 =>
  bnd (gAt a0 t40) fun t41 =>
  bnd (gI (a1 - t41.Moment)) fun t44 =>
  where_at_j2 a1 a2 t14 t44 a0) (where_at_j2 a1 a2 t14 a2 a0)
noncomputable def where_at (a0 : (List T_where_Fix)) (a1 : Int) (a2 : Int) : Option (T_api_Place × Bool) :=
  bnd (sort_Search (a0.length : Int) (where_at_1 a0 a1)) fun t14 =>
  cnd (decide (t14 < (a0.length : Int))) (bnd (gAt a0 t14) fun t22 =>
  cnd (decide (t22.Moment = a1)) (bnd (gAt a0 t14) fun t30 =>
  some (t30.Place, true)) (where_at_j1 a0 a1 a2 t14)) (where_at_j1 a0 a1 a2 t14)

/-! tintype/where.At -/
noncomputable def where_At (a0 : (List T_where_Fix)) (a1 : Int) (a2 : Int) : Option (T_api_Place × Int) :=
  bnd (where_CheckTrack a0) fun t12 =>
  cnd (decide (t12 ≠ 0)) (some ((⟨0, 0⟩ : T_api_Place), t12)) (bnd (where_isMoment a1) fun t18 =>
  cnd (!t18) (some ((⟨0, 0⟩ : T_api_Place), 2)) (cnd (decide (a2 < 0)) (some ((⟨0, 0⟩ : T_api_Place), 2)) (bnd (where_at a0 a1 a2) fun t29 =>
  cnd (!t29.2) (some ((⟨0, 0⟩ : T_api_Place), 7)) (some (t29.1, 0)))))

/-! tintype/where.Length -/
noncomputable def where_Length_l1 (a0 : (List T_where_Fix)) (next1 : ((Int × Int) → Option (Int × Int))) (x5_2 : Int) (x6_2 : Int) : Option (Int × Int) :=
  cnd (decide (x6_2 < (a0.length : Int))) (bnd (gI (x6_2 - 1)) fun t21 =>
  bnd (gAt a0 t21) fun t22 =>
  bnd (gAt a0 x6_2) fun t27 =>
  bnd (where_distance t22.Place t27.Place) fun t30 =>
  bnd (gI (x5_2 + t30)) fun t31 =>
  bnd (gI (x6_2 + 1)) fun t17 =>
  next1 (t31, t17)) (some (x5_2, 0))
noncomputable def where_Length (a0 : (List T_where_Fix)) : Option (Int × Int) :=
  bnd (where_CheckTrack a0) fun t8 =>
  cnd (decide (t8 ≠ 0)) (some (0, t8)) (fix (fun next1 s => where_Length_l1 a0 next1 s.1 s.2) (0, 1))

/-! tintype/tintlaw2.momentFault -/
noncomputable def Law_momentFault (a0 : Int) : Option (Int) :=
  cnd (decide (0 ≤ a0)) (bnd (Law_unless (decide (a0 ≤ 6311433599)) 2) fun t9 =>
  some t9) (bnd (Law_unless false 2) fun t9_2 =>
  some t9_2)

/-! tintype/tintref2.LengthOf -/
noncomputable def R_LengthOf_l1 (a0 : (List T_where_Fix)) (next1 : ((Int × Int) → Option (Int))) (x3_2 : Int) (x4_2 : Int) : Option (Int) :=
  cnd (decide (x4_2 < (a0.length : Int))) (bnd (gI (x4_2 - 1)) fun t14 =>
  bnd (gAt a0 t14) fun t15 =>
  bnd (gAt a0 x4_2) fun t20 =>
  bnd (R_DistanceOf t15.Place t20.Place) fun t23 =>
  bnd (gI (x3_2 + t23)) fun t24 =>
  bnd (gI (x4_2 + 1)) fun t10 =>
  next1 (t24, t10)) (some x3_2)
noncomputable def R_LengthOf (a0 : (List T_where_Fix)) : Option (Int) :=
  fix (fun next1 s => R_LengthOf_l1 a0 next1 s.1 s.2) (0, 1)

/-! tintype/tintlaw2.WhereTracks -/
noncomputable def Law_WhereTracks_j2 (a0 : (List T_where_Fix)) (t17 : (Int)) (t22 : (T_api_Place × Int)) (t27 : (Int × Int)) (x12 : Int) (m : Int) (m_2 : Int) (x15 : Int) : Option (Bool) :=
  bnd (where_CheckTrack a0) fun t54 =>
  cnd (decide (t54 = t17)) (bnd (Law_told_api_Place t22.1 t22.2 (⟨m, m_2⟩ : T_api_Place) x12) fun t62 =>
  cnd t62 (bnd (Law_told_int t27.1 t27.2 x15 t17) fun t69 =>
  some t69) (some false)) (some false)
noncomputable def Law_WhereTracks_j1 (a0 : (List T_where_Fix)) (t17 : (Int)) (t22 : (T_api_Place × Int)) (t27 : (Int × Int)) (x12 : Int) (m : Int) (m_2 : Int) : Option (Bool) :=
  cnd (decide (t17 = 0)) (bnd (R_LengthOf a0) fun t52 =>
  Law_WhereTracks_j2 a0 t17 t22 t27 x12 m m_2 t52) (Law_WhereTracks_j2 a0 t17 t22 t27 x12 m m_2 0)
noncomputable def Law_WhereTracks (a0 : (List T_where_Fix)) (a1 : Int) (a2 : Int) : Option (Bool) :=
  bnd (R_TrackFault a0) fun t17 =>
  bnd (where_At a0 a1 a2) fun t22 =>
  bnd (where_Length a0) fun t27 =>
  bnd (Law_momentFault a1) fun t32 =>
  bnd (Law_unless (decide (0 ≤ a2)) 2) fun t35 =>
  bnd (Law_first ([t17, t32, t35] : List Int)) fun t37 =>
  cnd (decide (t37 = 0)) (bnd (R_AtOf a0 a1 a2) fun t44 =>
  bnd (Law_unless t44.2 7) fun t48 =>
  Law_WhereTracks_j1 a0 t17 t22 t27 t48 t44.1.Lat t44.1.Lon) (Law_WhereTracks_j1 a0 t17 t22 t27 t37 0 0)

/-! tintype/where.checkParts -/
noncomputable def where_checkParts (a0 : (List T_where_Fix)) (a1 : Int) (a2 : Int) : Option (Int) :=
  bnd (where_CheckTrack a0) fun t9 =>
  cnd (decide (t9 ≠ 0)) (some t9) (bnd (where_outside a1 0 30000000) fun t14 =>
  cnd t14 (some 2) (bnd (where_isMoment a2) fun t17 =>
  cnd (!t17) (some 2) (some 0)))

/-! tintype/where.Stops$1 -/
noncomputable def where_Stops_1_l1 (q0 : Int) (a0 : (List T_where_Fix)) (a1 : Int) (next1 : ((Int) → Option (Int))) (x6_2 : Int) : Option (Int) :=
  bnd (gI (x6_2 + 1)) fun t9 =>
  cnd (decide (t9 < (a0.length : Int))) (bnd (gI (x6_2 + 1)) fun t16 =>
  bnd (gAt a0 t16) fun t17 =>
  bnd (gAt a0 a1) fun t22 =>
  bnd (where_distance t17.Place t22.Place) fun t25 =>
  cnd (decide (t25 ≤ q0)) (bnd (gI (x6_2 + 1)) fun t30 =>
  next1 t30) (some x6_2)) (some x6_2)
noncomputable def where_Stops_1 (q0 : Int) (a0 : (List T_where_Fix)) (a1 : Int) : Option (Int) :=
  fix (fun next1 s => where_Stops_1_l1 q0 a0 a1 next1 s) a1

/-! tintype/where.Stops$2 -/
noncomputable def where_Stops_2 (q0 : Int) (a0 : (List T_where_Fix)) (a1 : Int) (a2 : Int) : Option (Bool) :=
  bnd (gAt a0 a2) fun t10 =>
  bnd (gAt a0 a1) fun t15 =>
  bnd (gI (t10.Moment - t15.Moment)) fun t18 =>
  some (decide (q0 ≤ t18))

/-! tintype/where.Stops$3 -/
noncomputable def where_Stops_3 (a0 : Int) (a1 : Int) : Option (Int) :=
  bnd (gI (a0 + 1)) fun t6 =>
  some t6

/-! tintype/where.middle -/
noncomputable def where_middle_j2 (x12_3 : Int) (next1 : ((Int × Int × Int) → Option (Int))) (x3_3 : Int) (x4_4 : Int) : Option (Int) :=
  bnd (gI (x12_3 + 1)) fun t38 =>
  next1 (x3_3, x4_4, t38)
noncomputable def where_middle_j3 (x3_2 : Int) (x4_3 : Int) (x12_3 : Int) (next1 : ((Int × Int × Int) → Option (Int))) (x7 : Int) : Option (Int) :=
  cnd (decide (x4_3 < 0)) (where_middle_j2 x12_3 next1 x12_3 x7) (cnd (decide (x7 < x4_3)) (where_middle_j2 x12_3 next1 x12_3 x7) (where_middle_j2 x12_3 next1 x3_2 x4_3))
noncomputable def where_middle_l4 (a0 : (List T_api_Place)) (x3_2 : Int) (x4_3 : Int) (x12_3 : Int) (next1 : ((Int × Int × Int) → Option (Int))) (t15 : T_api_Place) (next4 : ((Int × Int) → Option (Int))) (x7_3 : Int) (x19_2 : Int) : Option (Int) :=
  cnd (decide (x19_2 < (a0.length : Int))) (bnd (gAt a0 x19_2) fun t21 =>
  bnd (where_distance t15 t21) fun t26 =>
  bnd (gI (x7_3 + t26)) fun t27 =>
  bnd (gI (x19_2 + 1)) fun t28 =>
  next4 (t27, t28)) (where_middle_j3 x3_2 x4_3 x12_3 next1 x7_3)
noncomputable def where_middle_l1 (a0 : (List T_api_Place)) (next1 : ((Int × Int × Int) → Option (Int))) (x3_2 : Int) (x4_3 : Int) (x12_3 : Int) : Option (Int) :=
  cnd (decide (x12_3 < (a0.length : Int))) (bnd (gAt a0 x12_3) fun t15 =>
  fix (fun next4 s => where_middle_l4 a0 x3_2 x4_3 x12_3 next1 t15 next4 s.1 s.2) (0, 0)) (some x3_2)
noncomputable def where_middle (a0 : (List T_api_Place)) : Option (Int) :=
  fix (fun next1 s => where_middle_l1 a0 next1 s.1 s.2.1 s.2.2) (0, (-1), 0)

/-! tintype/where.Stops$4 -/
noncomputable def where_Stops_4 (a0 : (List T_api_Place)) : Option (T_api_Place) :=
  bnd (where_middle a0) fun t5 =>
  bnd (gAt a0 t5) fun t6 =>
  some t6

/-! (tintype/where.part).parts -/
noncomputable def where_part_parts_j1 (l : (List T_where_Stop)) : Option ((List T_where_Stop)) :=
  some l
noncomputable def where_part_parts_j3 (a0 : T_where_part) (x6_2 : Int) (l_3 : (List T_where_Stop)) (next2 : ((Int × (List T_where_Stop)) → Option ((List T_where_Stop)))) (t19 : (Int)) (l_4 : (List T_api_Place)) : Option ((List T_where_Stop)) :=
  bnd (a0.place_ l_4) fun t54 =>
  bnd (gApp 32 l_3 ([(⟨x6_2, t19, t54⟩ : T_where_Stop)] : List T_where_Stop)) fun l57 =>
  bnd (gI (t19 + 1)) fun t59 =>
  next2 (t59, l57)
noncomputable def where_part_parts_l4 (a0 : T_where_part) (x6_2 : Int) (l_3 : (List T_where_Stop)) (next2 : ((Int × (List T_where_Stop)) → Option ((List T_where_Stop)))) (t19 : (Int)) (t36 : (List T_where_Fix)) (next4 : ((Int × (List T_api_Place)) → Option ((List T_where_Stop)))) (x38_2 : Int) (l_6 : (List T_api_Place)) : Option ((List T_where_Stop)) :=
  cnd (decide (x38_2 < (t36.length : Int))) (bnd (gAt t36 x38_2) fun t40 =>
  bnd (gApp 16 l_6 ([t40.Place] : List T_api_Place)) fun l46 =>
  bnd (gI (x38_2 + 1)) fun t47 =>
  next4 (t47, l46)) (where_part_parts_j3 a0 x6_2 l_3 next2 t19 l_6)
noncomputable def where_part_parts_l2 (a0 : T_where_part) (a1 : (List T_where_Fix)) (next2 : ((Int × (List T_where_Stop)) → Option ((List T_where_Stop)))) (x6_2 : Int) (l_3 : (List T_where_Stop)) : Option ((List T_where_Stop)) :=
  cnd (decide (x6_2 < (a1.length : Int))) (bnd (a0.end_ a1 x6_2) fun t19 =>
  bnd (a0.counts_ a1 x6_2 t19) fun t25 =>
  cnd (!t25) (bnd (a0.step_ x6_2 t19) fun t31 =>
  next2 (t31, l_3)) (bnd (gI (t19 + 1)) fun t35 =>
  bnd (gCut a1 x6_2 t35) fun t36 =>
  fix (fun next4 s => where_part_parts_l4 a0 x6_2 l_3 next2 t19 t36 next4 s.1 s.2) (0, ([] : List T_api_Place)))) (where_part_parts_j1 l_3)
noncomputable def where_part_parts (a0 : T_where_part) (a1 : (List T_where_Fix)) : Option ((List T_where_Stop)) :=
  fix (fun next2 s => where_part_parts_l2 a0 a1 next2 s.1 s.2) (0, ([] : List T_where_Stop))

/-! tintype/where.Stops -/
noncomputable def where_Stops (a0 : (List T_where_Fix)) (a1 : Int) (a2 : Int) : Option ((List T_where_Stop) × Int) :=
  bnd (where_checkParts a0 a1 a2) fun t13 =>
  cnd (decide (t13 ≠ 0)) (some (([] : List T_where_Stop), t13)) (bnd (where_part_parts (⟨(where_Stops_1 a1), (where_Stops_2 a2), where_Stops_3, where_Stops_4⟩ : T_where_part) a0) fun t22 =>
  some (t22, 0))

/-! tintype/where.Trips$1 -/
noncomputable def where_Trips_1_l1 (q0 : Int) (q1 : Int) (a0 : (List T_where_Fix)) (next1 : ((Int) → Option (Int))) (x7_2 : Int) : Option (Int) :=
  bnd (gI (x7_2 + 1)) fun t10 =>
  cnd (decide (t10 < (a0.length : Int))) (bnd (gI (x7_2 + 1)) fun t17 =>
  bnd (gAt a0 t17) fun t18 =>
  bnd (gAt a0 x7_2) fun t23 =>
  bnd (gI (t18.Moment - t23.Moment)) fun t26 =>
  cnd (decide (t26 ≤ q0)) (bnd (gAt a0 x7_2) fun t33 =>
  bnd (gI (x7_2 + 1)) fun t38 =>
  bnd (gAt a0 t38) fun t39 =>
  bnd (where_distance t33.Place t39.Place) fun t42 =>
  cnd (decide (t42 ≤ q1)) (bnd (gI (x7_2 + 1)) fun t47 =>
  next1 t47) (some x7_2)) (some x7_2)) (some x7_2)
noncomputable def where_Trips_1 (q0 : Int) (q1 : Int) (a0 : (List T_where_Fix)) (a1 : Int) : Option (Int) :=
  fix (fun next1 s => where_Trips_1_l1 q0 q1 a0 next1 s) a1

/-! tintype/where.Trips$2 -/
noncomputable def where_Trips_2 (a0 : (List T_where_Fix)) (a1 : Int) (a2 : Int) : Option (Bool) :=
  some (decide (a1 < a2))

/-! tintype/where.Trips$3 -/
noncomputable def where_Trips_3 (a0 : Int) (a1 : Int) : Option (Int) :=
  bnd (gI (a1 + 1)) fun t6 =>
  some t6

/-! tintype/where.Trips$4 -/
noncomputable def where_Trips_4 (a0 : (List T_api_Place)) : Option (T_api_Place) :=
  bnd (gI ((a0.length : Int) - 1)) fun t6 =>
  bnd (gAt a0 t6) fun t7 =>
  some t7

/-! tintype/where.Trips -/
noncomputable def where_Trips (a0 : (List T_where_Fix)) (a1 : Int) (a2 : Int) : Option ((List T_where_Stop) × Int) :=
  bnd (where_checkParts a0 a2 a1) fun t13 =>
  cnd (decide (t13 ≠ 0)) (some (([] : List T_where_Stop), t13)) (bnd (where_part_parts (⟨(where_Trips_1 a1 a2), where_Trips_2, where_Trips_3, where_Trips_4⟩ : T_where_part) a0) fun t21 =>
  some (t21, 0))

/-! tintype/tintref2.MiddleOf -/
noncomputable def R_MiddleOf_j2 (x12_3 : Int) (next1 : ((Int × Int × Int) → Option (Int))) (x3_3 : Int) (x4_4 : Int) : Option (Int) :=
  bnd (gI (x12_3 + 1)) fun t38 =>
  next1 (x3_3, x4_4, t38)
noncomputable def R_MiddleOf_j3 (x3_2 : Int) (x4_3 : Int) (x12_3 : Int) (next1 : ((Int × Int × Int) → Option (Int))) (x7 : Int) : Option (Int) :=
  cnd (decide (x4_3 < 0)) (R_MiddleOf_j2 x12_3 next1 x12_3 x7) (cnd (decide (x7 < x4_3)) (R_MiddleOf_j2 x12_3 next1 x12_3 x7) (R_MiddleOf_j2 x12_3 next1 x3_2 x4_3))
noncomputable def R_MiddleOf_l4 (a0 : (List T_api_Place)) (x3_2 : Int) (x4_3 : Int) (x12_3 : Int) (next1 : ((Int × Int × Int) → Option (Int))) (t15 : T_api_Place) (next4 : ((Int × Int) → Option (Int))) (x7_3 : Int) (x19_2 : Int) : Option (Int) :=
  cnd (decide (x19_2 < (a0.length : Int))) (bnd (gAt a0 x19_2) fun t21 =>
  bnd (R_DistanceOf t15 t21) fun t26 =>
  bnd (gI (x7_3 + t26)) fun t27 =>
  bnd (gI (x19_2 + 1)) fun t28 =>
  next4 (t27, t28)) (R_MiddleOf_j3 x3_2 x4_3 x12_3 next1 x7_3)
noncomputable def R_MiddleOf_l1 (a0 : (List T_api_Place)) (next1 : ((Int × Int × Int) → Option (Int))) (x3_2 : Int) (x4_3 : Int) (x12_3 : Int) : Option (Int) :=
  cnd (decide (x12_3 < (a0.length : Int))) (bnd (gAt a0 x12_3) fun t15 =>
  fix (fun next4 s => R_MiddleOf_l4 a0 x3_2 x4_3 x12_3 next1 t15 next4 s.1 s.2) (0, 0)) (some x3_2)
noncomputable def R_MiddleOf (a0 : (List T_api_Place)) : Option (Int) :=
  fix (fun next1 s => R_MiddleOf_l1 a0 next1 s.1 s.2.1 s.2.2) (0, (-1), 0)

/-! tintype/tintref2.StopsOf -/
noncomputable def R_StopsOf_j3 (x8_2 : Int) (l_2 : (List T_where_Stop)) (next1 : ((Int × (List T_where_Stop)) → Option ((List T_where_Stop)))) (x9 : Int) (l_3 : (List T_api_Place)) : Option ((List T_where_Stop)) :=
  bnd (R_MiddleOf l_3) fun t77 =>
  bnd (gAt l_3 t77) fun t78 =>
  bnd (gApp 32 l_2 ([(⟨x8_2, x9, t78⟩ : T_where_Stop)] : List T_where_Stop)) fun l82 =>
  bnd (gI (x9 + 1)) fun t84 =>
  next1 (t84, l82)
noncomputable def R_StopsOf_l4 (x8_2 : Int) (l_2 : (List T_where_Stop)) (next1 : ((Int × (List T_where_Stop)) → Option ((List T_where_Stop)))) (x9 : Int) (t60 : (List T_where_Fix)) (next4 : ((Int × (List T_api_Place)) → Option ((List T_where_Stop)))) (x62_2 : Int) (l_5 : (List T_api_Place)) : Option ((List T_where_Stop)) :=
  cnd (decide (x62_2 < (t60.length : Int))) (bnd (gAt t60 x62_2) fun t64 =>
  bnd (gApp 16 l_5 ([t64.Place] : List T_api_Place)) fun l70 =>
  bnd (gI (x62_2 + 1)) fun t71 =>
  next4 (t71, l70)) (R_StopsOf_j3 x8_2 l_2 next1 x9 l_5)
noncomputable def R_StopsOf_j2 (a0 : (List T_where_Fix)) (a2 : Int) (x8_2 : Int) (l_2 : (List T_where_Stop)) (next1 : ((Int × (List T_where_Stop)) → Option ((List T_where_Stop)))) (x9 : Int) : Option ((List T_where_Stop)) :=
  bnd (gAt a0 x9) fun t43 =>
  bnd (gAt a0 x8_2) fun t48 =>
  bnd (gI (t43.Moment - t48.Moment)) fun t51 =>
  cnd (decide (t51 < a2)) (bnd (gI (x8_2 + 1)) fun t55 =>
  next1 (t55, l_2)) (bnd (gI (x9 + 1)) fun t59 =>
  bnd (gCut a0 x8_2 t59) fun t60 =>
  fix (fun next4 s => R_StopsOf_l4 x8_2 l_2 next1 x9 t60 next4 s.1 s.2) (0, ([] : List T_api_Place)))
noncomputable def R_StopsOf_l5 (a0 : (List T_where_Fix)) (a1 : Int) (a2 : Int) (x8_2 : Int) (l_2 : (List T_where_Stop)) (next1 : ((Int × (List T_where_Stop)) → Option ((List T_where_Stop)))) (next5 : ((Int) → Option ((List T_where_Stop)))) (x9_3 : Int) : Option ((List T_where_Stop)) :=
  bnd (gI (x9_3 + 1)) fun t19 =>
  cnd (decide (t19 < (a0.length : Int))) (bnd (gAt a0 x8_2) fun t26 =>
  bnd (gI (x9_3 + 1)) fun t31 =>
  bnd (gAt a0 t31) fun t32 =>
  bnd (R_DistanceOf t26.Place t32.Place) fun t35 =>
  cnd (decide (t35 ≤ a1)) (bnd (gI (x9_3 + 1)) fun t40 =>
  next5 t40) (R_StopsOf_j2 a0 a2 x8_2 l_2 next1 x9_3)) (R_StopsOf_j2 a0 a2 x8_2 l_2 next1 x9_3)
noncomputable def R_StopsOf_l1 (a0 : (List T_where_Fix)) (a1 : Int) (a2 : Int) (next1 : ((Int × (List T_where_Stop)) → Option ((List T_where_Stop)))) (x8_2 : Int) (l_2 : (List T_where_Stop)) : Option ((List T_where_Stop)) :=
  cnd (decide (x8_2 < (a0.length : Int))) (fix (fun next5 s => R_StopsOf_l5 a0 a1 a2 x8_2 l_2 next1 next5 s) x8_2) (some l_2)
noncomputable def R_StopsOf (a0 : (List T_where_Fix)) (a1 : Int) (a2 : Int) : Option ((List T_where_Stop)) :=
  fix (fun next1 s => R_StopsOf_l1 a0 a1 a2 next1 s.1 s.2) (0, ([] : List T_where_Stop))

/-! tintype/tintref2.TripsOf -/
noncomputable def R_TripsOf_j2 (x12_2 : Int) (next1 : ((Int × Int × (List T_where_Stop)) → Option ((List T_where_Stop)))) (x8_3 : Int) (l_3 : (List T_where_Stop)) : Option ((List T_where_Stop)) :=
  bnd (gI (x12_2 + 1)) fun t68 =>
  next1 (x8_3, t68, l_3)
noncomputable def R_TripsOf_j4 (x12_2 : Int) (next1 : ((Int × Int × (List T_where_Stop)) → Option ((List T_where_Stop)))) (l_4 : (List T_where_Stop)) : Option ((List T_where_Stop)) :=
  bnd (gI (x12_2 + 1)) fun t67 =>
  R_TripsOf_j2 x12_2 next1 t67 l_4
noncomputable def R_TripsOf_j3 (a0 : (List T_where_Fix)) (x8_2 : Int) (x12_2 : Int) (l_2 : (List T_where_Stop)) (next1 : ((Int × Int × (List T_where_Stop)) → Option ((List T_where_Stop)))) : Option ((List T_where_Stop)) :=
  cnd (decide (x8_2 < x12_2)) (bnd (gAt a0 x12_2) fun t60 =>
  bnd (gApp 32 l_2 ([(⟨x8_2, x12_2, t60.Place⟩ : T_where_Stop)] : List T_where_Stop)) fun l65 =>
  R_TripsOf_j4 x12_2 next1 l65) (R_TripsOf_j4 x12_2 next1 l_2)
noncomputable def R_TripsOf_l1 (a0 : (List T_where_Fix)) (a1 : Int) (a2 : Int) (next1 : ((Int × Int × (List T_where_Stop)) → Option ((List T_where_Stop)))) (x8_2 : Int) (x12_2 : Int) (l_2 : (List T_where_Stop)) : Option ((List T_where_Stop)) :=
  cnd (decide (x12_2 < (a0.length : Int))) (bnd (gI (x12_2 + 1)) fun t16 =>
  cnd (decide (t16 < (a0.length : Int))) (bnd (gI (x12_2 + 1)) fun t23 =>
  bnd (gAt a0 t23) fun t24 =>
  bnd (gAt a0 x12_2) fun t29 =>
  bnd (gI (t24.Moment - t29.Moment)) fun t32 =>
  cnd (decide (t32 ≤ a1)) (bnd (gAt a0 x12_2) fun t39 =>
  bnd (gI (x12_2 + 1)) fun t44 =>
  bnd (gAt a0 t44) fun t45 =>
  bnd (R_DistanceOf t39.Place t45.Place) fun t48 =>
  cnd (decide (t48 ≤ a2)) (R_TripsOf_j2 x12_2 next1 x8_2 l_2) (R_TripsOf_j3 a0 x8_2 x12_2 l_2 next1)) (R_TripsOf_j3 a0 x8_2 x12_2 l_2 next1)) (R_TripsOf_j3 a0 x8_2 x12_2 l_2 next1)) (some l_2)
noncomputable def R_TripsOf (a0 : (List T_where_Fix)) (a1 : Int) (a2 : Int) : Option ((List T_where_Stop)) :=
  fix (fun next1 s => R_TripsOf_l1 a0 a1 a2 next1 s.1 s.2.1 s.2.2) (0, 0, ([] : List T_where_Stop))

/-! slices.Equal[[]tintype/where.Stop,tintype/where.Stop] -/
noncomputable def slices_Equal_where_Stop_l1 (a0 : (List T_where_Stop)) (a1 : (List T_where_Stop)) (next1 : ((Int) → Option (Bool))) (x13_2 : Int) : Option (Bool) :=
  cnd (decide (x13_2 < (a0.length : Int))) (bnd (gAt a0 x13_2) fun t18 =>
  bnd (gAt a1 x13_2) fun t22 =>
  cnd (!(eq_where_Stop t18 t22)) (some false) (bnd (gI (x13_2 + 1)) fun t25 =>
  next1 t25)) (some true)
noncomputable def slices_Equal_where_Stop (a0 : (List T_where_Stop)) (a1 : (List T_where_Stop)) : Option (Bool) :=
  cnd (decide ((a0.length : Int) ≠ (a1.length : Int))) (some false) (fix (fun next1 s => slices_Equal_where_Stop_l1 a0 a1 next1 s) 0)

/-! tintype/tintlaw2.listed[tintype/where.Stop] -/
noncomputable def Law_listed_where_Stop_j1 (a0 : (List T_where_Stop)) (a1 : Int) (a3 : Int) (x2 : (List T_where_Stop)) : Option (Bool) :=
  bnd (slices_Equal_where_Stop a0 x2) fun t13 =>
  cnd t13 (some (decide (a1 = a3))) (some false)
noncomputable def Law_listed_where_Stop (a0 : (List T_where_Stop)) (a1 : Int) (a2 : (List T_where_Stop)) (a3 : Int) : Option (Bool) :=
  cnd (decide (a3 ≠ 0)) (Law_listed_where_Stop_j1 a0 a1 a3 ([] : (List T_where_Stop))) (Law_listed_where_Stop_j1 a0 a1 a3 a2)

/-! tintype/tintlaw2.WhereStops -/
noncomputable def Law_WhereStops_j1 (t18 : ((List T_where_Stop) × Int)) (t25 : ((List T_where_Stop) × Int)) (t35 : (Int)) (l : (List T_where_Stop)) (l_2 : (List T_where_Stop)) : Option (Bool) :=
  bnd (Law_listed_where_Stop t18.1 t18.2 l t35) fun t50 =>
  cnd t50 (bnd (Law_listed_where_Stop t25.1 t25.2 l_2 t35) fun t56 =>
  some t56) (some false)
noncomputable def Law_WhereStops (a0 : (List T_where_Fix)) (a1 : Int) (a2 : Int) : Option (Bool) :=
  bnd (where_Stops a0 a1 a2) fun t18 =>
  bnd (where_Trips a0 a2 a1) fun t25 =>
  bnd (R_TrackFault a0) fun t29 =>
  bnd (Law_metresFault a1) fun t31 =>
  bnd (Law_momentFault a2) fun t33 =>
  bnd (Law_first ([t29, t31, t33] : List Int)) fun t35 =>
  cnd (decide (t35 = 0)) (bnd (R_StopsOf a0 a1 a2) fun t41 =>
  bnd (R_TripsOf a0 a2 a1) fun t45 =>
  Law_WhereStops_j1 t18 t25 t35 t41 t45) (Law_WhereStops_j1 t18 t25 t35 ([] : List T_where_Stop) ([] : List T_where_Stop))

end Go.M
