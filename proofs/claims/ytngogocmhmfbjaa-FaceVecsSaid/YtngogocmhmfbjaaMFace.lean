/- FaceVecs: the models, printed by our generator from the compiled program. Conditions: none. -/
import Derived.Test.YtngogocmhmfbjaaMd
namespace Go.M
open Go.Md
set_option maxRecDepth 100000
set_option linter.unusedVariables false

structure T_face_Likeness where
  Id : Int
  Photo : Int
  Vec : (Nat → Int)
instance : Inhabited T_face_Likeness := ⟨⟨0, 0, fun _ => 0⟩⟩

def eq_face_Vec (x y : (Nat → Int)) : Bool := decide ((List.range 12).map x = (List.range 12).map y)

/-! tintype/tintref2.VecFault -/
noncomputable def R_VecFault_l1 (a0 : (Nat → Int)) (next1 : ((Int) → Option (Int))) (x6_2 : Int) : Option (Int) :=
  cnd (decide (x6_2 < 12)) (bnd (gIx 12 x6_2) fun k8 =>
  cnd (decide ((a0 k8) < (-127))) (some 2) (cnd (decide (127 < (a0 k8))) (some 2) (bnd (gI (x6_2 + 1)) fun t15 =>
  next1 t15))) (some 0)
noncomputable def R_VecFault (a0 : (Nat → Int)) : Option (Int) :=
  fix (fun next1 s => R_VecFault_l1 a0 next1 s) 0

/-! tintype/face.outside -/
noncomputable def face_outside (a0 : Int) (a1 : Int) (a2 : Int) : Option (Bool) :=
  cnd (decide (a0 < a1)) (some true) (some (decide (a2 < a0)))

/-! tintype/face.CheckVec -/
noncomputable def face_CheckVec_l1 (a0 : (Nat → Int)) (next1 : ((Int) → Option (Int))) (x6_2 : Int) : Option (Int) :=
  cnd (decide (x6_2 < 12)) (bnd (gIx 12 x6_2) fun k8 =>
  bnd (face_outside (a0 k8) (-127) 127) fun t10 =>
  cnd t10 (some 2) (bnd (gI (x6_2 + 1)) fun t11 =>
  next1 t11)) (some 0)
noncomputable def face_CheckVec (a0 : (Nat → Int)) : Option (Int) :=
  fix (fun next1 s => face_CheckVec_l1 a0 next1 s) 0

/-! tintype/face.checkVecs -/
noncomputable def face_checkVecs_l1 (a0 : (List (Nat → Int))) (next1 : ((Int) → Option (Int))) (x8_2 : Int) : Option (Int) :=
  cnd (decide (x8_2 < (a0.length : Int))) (bnd (gAt a0 x8_2) fun t10 =>
  bnd (face_CheckVec t10) fun t13 =>
  cnd (decide (t13 ≠ 0)) (some t13) (bnd (gI (x8_2 + 1)) fun t17 =>
  next1 t17)) (some 0)
noncomputable def face_checkVecs (a0 : (List (Nat → Int))) : Option (Int) :=
  fix (fun next1 s => face_checkVecs_l1 a0 next1 s) 0

/-! tintype/face.far -/
noncomputable def face_far_l1 (a0 : (Nat → Int)) (a1 : (Nat → Int)) (next1 : ((Int × Int) → Option (Int))) (x5_2 : Int) (x9_2 : Int) : Option (Int) :=
  cnd (decide (x9_2 < 12)) (bnd (gIx 12 x9_2) fun k12 =>
  bnd (gIx 12 x9_2) fun k16 =>
  bnd (gI ((a0 k12) - (a1 k16))) fun t18 =>
  bnd (gIx 12 x9_2) fun k21 =>
  bnd (gI ((a0 k12) - (a1 k21))) fun t23 =>
  bnd (gI (t18 * t23)) fun t24 =>
  bnd (gI (x5_2 + t24)) fun t25 =>
  bnd (gI (x9_2 + 1)) fun t26 =>
  next1 (t25, t26)) (some x5_2)
noncomputable def face_far (a0 : (Nat → Int)) (a1 : (Nat → Int)) : Option (Int) :=
  fix (fun next1 s => face_far_l1 a0 a1 next1 s.1 s.2) (0, 0)

/-! tintype/face.Far -/
noncomputable def face_Far (a0 : (Nat → Int)) (a1 : (Nat → Int)) : Option (Int × Int) :=
  bnd (face_checkVecs ([a0, a1] : List (Nat → Int))) fun t10 =>
  cnd (decide (t10 ≠ 0)) (some (0, t10)) (bnd (face_far a0 a1) fun t16 =>
  some (t16, 0))

/-! tintype/face.floor -/
noncomputable def face_floor (a0 : Int) (a1 : Int) : Option (Int) :=
  bnd (gQuo a0 a1) fun t8 =>
  bnd (gRem a0 a1) fun t11 =>
  cnd (decide (t11 < 0)) (bnd (gI (t8 - 1)) fun t14 =>
  some t14) (some t8)

/-! tintype/face.Mean -/
noncomputable def face_Mean_j2 (m_2 : (Nat → Int)) : Option ((Nat → Int) × Int) :=
  some (m_2, 0)
noncomputable def face_Mean_l3 (a0 : (List (Nat → Int))) (m : (Nat → Int)) (next3 : ((Int × (Nat → Int)) → Option ((Nat → Int) × Int))) (x48_2 : Int) (m_4 : (Nat → Int)) : Option ((Nat → Int) × Int) :=
  cnd (decide (x48_2 < 12)) (bnd (gIx 12 x48_2) fun k51 =>
  bnd (face_floor (m k51) (a0.length : Int)) fun t56 =>
  bnd (gIx 12 x48_2) fun k57 =>
  bnd (gI (x48_2 + 1)) fun t58 =>
  next3 (t58, (setA m_4 k57 t56))) (face_Mean_j2 m_4)
noncomputable def face_Mean_j1 (a0 : (List (Nat → Int))) (m : (Nat → Int)) : Option ((Nat → Int) × Int) :=
  fix (fun next3 s => face_Mean_l3 a0 m next3 s.1 s.2) (0, m)
noncomputable def face_Mean_j5 (x30_2 : Int) (next4 : ((Int × (Nat → Int)) → Option ((Nat → Int) × Int))) (m_7 : (Nat → Int)) : Option ((Nat → Int) × Int) :=
  bnd (gI (x30_2 + 1)) fun t46 =>
  next4 (t46, m_7)
noncomputable def face_Mean_l6 (x30_2 : Int) (next4 : ((Int × (Nat → Int)) → Option ((Nat → Int) × Int))) (t32 : (Nat → Int)) (next6 : ((Int × (Nat → Int)) → Option ((Nat → Int) × Int))) (x35_2 : Int) (m_9 : (Nat → Int)) : Option ((Nat → Int) × Int) :=
  cnd (decide (x35_2 < 12)) (bnd (gIx 12 x35_2) fun k38 =>
  bnd (gIx 12 x35_2) fun k40 =>
  bnd (gI ((m_9 k40) + (t32 k38))) fun t43 =>
  bnd (gIx 12 x35_2) fun k44 =>
  bnd (gI (x35_2 + 1)) fun t45 =>
  next6 (t45, (setA m_9 k44 t43))) (face_Mean_j5 x30_2 next4 m_9)
noncomputable def face_Mean_l4 (a0 : (List (Nat → Int))) (next4 : ((Int × (Nat → Int)) → Option ((Nat → Int) × Int))) (x30_2 : Int) (m_6 : (Nat → Int)) : Option ((Nat → Int) × Int) :=
  cnd (decide (x30_2 < (a0.length : Int))) (bnd (gAt a0 x30_2) fun t32 =>
  fix (fun next6 s => face_Mean_l6 x30_2 next4 t32 next6 s.1 s.2) (0, m_6)) (face_Mean_j1 a0 m_6)
noncomputable def face_Mean (a0 : (List (Nat → Int))) : Option ((Nat → Int) × Int) :=
  cnd (decide ((a0.length : Int) = 0)) (some ((fun _ => 0), 7)) (cnd (decide (300 < (a0.length : Int))) (some ((fun _ => 0), 4)) (bnd (face_checkVecs a0) fun t23 =>
  cnd (decide (t23 ≠ 0)) (some ((fun _ => 0), t23)) (fix (fun next4 s => face_Mean_l4 a0 next4 s.1 s.2) (0, (fun _ => 0)))))

/-! tintype/tintref2.down -/
noncomputable def R_down (a0 : Int) (a1 : Int) : Option (Int) :=
  bnd (gQuo a0 a1) fun t8 =>
  bnd (gRem a0 a1) fun t11 =>
  cnd (decide (t11 ≠ 0)) (cnd (decide ((decide (a0 < 0)) ≠ (decide (a1 < 0)))) (bnd (gI (t8 - 1)) fun t21 =>
  some t21) (some t8)) (some t8)

/-! tintype/tintref2.MeanOf -/
noncomputable def R_MeanOf_j2 (m_2 : (Nat → Int)) : Option ((Nat → Int) × Int) :=
  some (m_2, 0)
noncomputable def R_MeanOf_l3 (a0 : (List (Nat → Int))) (m : (Nat → Int)) (next3 : ((Int × (Nat → Int)) → Option ((Nat → Int) × Int))) (x46_2 : Int) (m_4 : (Nat → Int)) : Option ((Nat → Int) × Int) :=
  cnd (decide (x46_2 < 12)) (bnd (gIx 12 x46_2) fun k49 =>
  bnd (R_down (m k49) (a0.length : Int)) fun t54 =>
  bnd (gIx 12 x46_2) fun k55 =>
  bnd (gI (x46_2 + 1)) fun t56 =>
  next3 (t56, (setA m_4 k55 t54))) (R_MeanOf_j2 m_4)
noncomputable def R_MeanOf_j1 (a0 : (List (Nat → Int))) (m : (Nat → Int)) : Option ((Nat → Int) × Int) :=
  fix (fun next3 s => R_MeanOf_l3 a0 m next3 s.1 s.2) (0, (fun _ => 0))
noncomputable def R_MeanOf_j5 (x22_2 : Int) (next4 : ((Int × (Nat → Int)) → Option ((Nat → Int) × Int))) (m_7 : (Nat → Int)) : Option ((Nat → Int) × Int) :=
  bnd (gI (x22_2 + 1)) fun t44 =>
  next4 (t44, m_7)
noncomputable def R_MeanOf_l6 (x22_2 : Int) (next4 : ((Int × (Nat → Int)) → Option ((Nat → Int) × Int))) (t24 : (Nat → Int)) (next6 : ((Int × (Nat → Int)) → Option ((Nat → Int) × Int))) (x33_2 : Int) (m_9 : (Nat → Int)) : Option ((Nat → Int) × Int) :=
  cnd (decide (x33_2 < 12)) (bnd (gIx 12 x33_2) fun k36 =>
  bnd (gIx 12 x33_2) fun k38 =>
  bnd (gI ((m_9 k38) + (t24 k36))) fun t41 =>
  bnd (gIx 12 x33_2) fun k42 =>
  bnd (gI (x33_2 + 1)) fun t43 =>
  next6 (t43, (setA m_9 k42 t41))) (R_MeanOf_j5 x22_2 next4 m_9)
noncomputable def R_MeanOf_l4 (a0 : (List (Nat → Int))) (next4 : ((Int × (Nat → Int)) → Option ((Nat → Int) × Int))) (x22_2 : Int) (m_6 : (Nat → Int)) : Option ((Nat → Int) × Int) :=
  cnd (decide (x22_2 < (a0.length : Int))) (bnd (gAt a0 x22_2) fun t24 =>
  bnd (R_VecFault t24) fun t27 =>
  cnd (decide (t27 ≠ 0)) (some ((fun _ => 0), t27)) (fix (fun next6 s => R_MeanOf_l6 x22_2 next4 t24 next6 s.1 s.2) (0, m_6))) (R_MeanOf_j1 a0 m_6)
noncomputable def R_MeanOf (a0 : (List (Nat → Int))) : Option ((Nat → Int) × Int) :=
  cnd (decide ((a0.length : Int) = 0)) (some ((fun _ => 0), 7)) (cnd (decide (300 < (a0.length : Int))) (some ((fun _ => 0), 4)) (fix (fun next4 s => R_MeanOf_l4 a0 next4 s.1 s.2) (0, (fun _ => 0))))

/-! tintype/tintlaw2.first -/
noncomputable def Law_first_l1 (a0 : (List Int)) (next1 : ((Int) → Option (Int))) (x7_2 : Int) : Option (Int) :=
  cnd (decide (x7_2 < (a0.length : Int))) (bnd (gAt a0 x7_2) fun t9 =>
  cnd (decide (t9 ≠ 0)) (some t9) (bnd (gI (x7_2 + 1)) fun t14 =>
  next1 t14)) (some 0)
noncomputable def Law_first (a0 : (List Int)) : Option (Int) :=
  fix (fun next1 s => Law_first_l1 a0 next1 s) 0

/-! tintype/tintref2.FarOf -/
noncomputable def R_FarOf_l1 (a0 : (Nat → Int)) (a1 : (Nat → Int)) (next1 : ((Int × Int) → Option (Int))) (x5_2 : Int) (x9_2 : Int) : Option (Int) :=
  cnd (decide (x9_2 < 12)) (bnd (gIx 12 x9_2) fun k12 =>
  bnd (gIx 12 x9_2) fun k16 =>
  bnd (gI ((a0 k12) - (a1 k16))) fun t18 =>
  bnd (gIx 12 x9_2) fun k21 =>
  bnd (gI ((a0 k12) - (a1 k21))) fun t23 =>
  bnd (gI (t18 * t23)) fun t24 =>
  bnd (gI (x5_2 + t24)) fun t25 =>
  bnd (gI (x9_2 + 1)) fun t26 =>
  next1 (t25, t26)) (some x5_2)
noncomputable def R_FarOf (a0 : (Nat → Int)) (a1 : (Nat → Int)) : Option (Int) :=
  fix (fun next1 s => R_FarOf_l1 a0 a1 next1 s.1 s.2) (0, 0)

/-! tintype/tintlaw2.told[int] -/
noncomputable def Law_told_int_j1 (a0 : Int) (a1 : Int) (a3 : Int) (x2 : Int) : Option (Bool) :=
  cnd (decide (a0 = x2)) (some (decide (a1 = a3))) (some false)
noncomputable def Law_told_int (a0 : Int) (a1 : Int) (a2 : Int) (a3 : Int) : Option (Bool) :=
  cnd (decide (a3 ≠ 0)) (Law_told_int_j1 a0 a1 a3 0) (Law_told_int_j1 a0 a1 a3 a2)

/-! tintype/tintlaw2.told[tintype/face.Vec] -/
noncomputable def Law_told_face_Vec_j1 (a0 : (Nat → Int)) (a1 : Int) (a3 : Int) (m : (Nat → Int)) : Option (Bool) :=
  cnd (eq_face_Vec a0 m) (some (decide (a1 = a3))) (some false)
noncomputable def Law_told_face_Vec (a0 : (Nat → Int)) (a1 : Int) (a2 : (Nat → Int)) (a3 : Int) : Option (Bool) :=
  cnd (decide (a3 ≠ 0)) (Law_told_face_Vec_j1 a0 a1 a3 (fun _ => 0)) (Law_told_face_Vec_j1 a0 a1 a3 a2)

/-! tintype/face.Check -/
noncomputable def face_Check_j2 (x11_2 : Int) (next1 : ((Int) → Option (Int))) (t14 : T_face_Likeness) : Option (Int) :=
  bnd (face_CheckVec t14.Vec) fun t39 =>
  cnd (decide (t39 ≠ 0)) (some t39) (bnd (gI (x11_2 + 1)) fun t43 =>
  next1 t43)
noncomputable def face_Check_l1 (a0 : (List T_face_Likeness)) (next1 : ((Int) → Option (Int))) (x11_2 : Int) : Option (Int) :=
  cnd (decide (x11_2 < (a0.length : Int))) (bnd (gAt a0 x11_2) fun t14 =>
  bnd (face_outside t14.Id 1 1000000) fun t18 =>
  cnd t18 (some 2) (bnd (face_outside t14.Photo 1 1000000) fun t22 =>
  cnd t22 (some 2) (cnd (decide (0 < x11_2)) (bnd (gI (x11_2 - 1)) fun t31 =>
  bnd (gAt a0 t31) fun t32 =>
  cnd (decide (t14.Id ≤ t32.Id)) (some 5) (face_Check_j2 x11_2 next1 t14)) (face_Check_j2 x11_2 next1 t14)))) (some 0)
noncomputable def face_Check (a0 : (List T_face_Likeness)) : Option (Int) :=
  cnd (decide (300 < (a0.length : Int))) (some 4) (fix (fun next1 s => face_Check_l1 a0 next1 s) 0)

/-! tintype/tintref2.idOk -/
noncomputable def R_idOk (a0 : Int) : Option (Bool) :=
  cnd (decide (1 ≤ a0)) (some (decide (a0 ≤ 1000000))) (some false)

/-! tintype/tintref2.LikesFault -/
noncomputable def R_LikesFault_j2 (x11_2 : Int) (next1 : ((Int) → Option (Int))) (t14 : T_face_Likeness) (x24 : Bool) (x25 : Bool) : Option (Int) :=
  bnd (R_VecFault t14.Vec) fun t43 =>
  cnd (decide (t43 ≠ 0)) (some t43) (bnd (gI (x11_2 + 1)) fun t47 =>
  next1 t47)
noncomputable def R_LikesFault_l1 (a0 : (List T_face_Likeness)) (next1 : ((Int) → Option (Int))) (x11_2 : Int) : Option (Int) :=
  cnd (decide (x11_2 < (a0.length : Int))) (bnd (gAt a0 x11_2) fun t14 =>
  bnd (R_idOk t14.Id) fun t19 =>
  cnd (!t19) (some 2) (bnd (R_idOk t14.Photo) fun t24 =>
  cnd (!t24) (some 2) (cnd (decide (0 < x11_2)) (bnd (gI (x11_2 - 1)) fun t35 =>
  bnd (gAt a0 t35) fun t36 =>
  cnd (decide (t14.Id ≤ t36.Id)) (some 5) (R_LikesFault_j2 x11_2 next1 t14 t24 (!t24))) (R_LikesFault_j2 x11_2 next1 t14 t24 (!t24))))) (some 0)
noncomputable def R_LikesFault (a0 : (List T_face_Likeness)) : Option (Int) :=
  cnd (decide (300 < (a0.length : Int))) (some 4) (fix (fun next1 s => R_LikesFault_l1 a0 next1 s) 0)

/-! tintype/tintlaw2.FaceVecs -/
noncomputable def Law_FaceVecs_j1 (a0 : (Nat → Int)) (a3 : (List T_face_Likeness)) (t19 : (Int)) (t23 : (Int × Int)) (t28 : ((Nat → Int) × Int)) (t33 : ((Nat → Int) × Int)) (t40 : (Int)) (x17 : Int) : Option (Bool) :=
  bnd (face_CheckVec a0) fun t47 =>
  cnd (decide (t47 = t19)) (bnd (Law_told_int t23.1 t23.2 x17 t40) fun t55 =>
  cnd t55 (bnd (Law_told_face_Vec t28.1 t28.2 t33.1 t33.2) fun t62 =>
  cnd t62 (bnd (face_Check a3) fun t66 =>
  bnd (R_LikesFault a3) fun t68 =>
  some (decide (t66 = t68))) (some false)) (some false)) (some false)
noncomputable def Law_FaceVecs (a0 : (Nat → Int)) (a1 : (Nat → Int)) (a2 : (List (Nat → Int))) (a3 : (List T_face_Likeness)) : Option (Bool) :=
  bnd (R_VecFault a0) fun t19 =>
  bnd (face_Far a0 a1) fun t23 =>
  bnd (face_Mean a2) fun t28 =>
  bnd (R_MeanOf a2) fun t33 =>
  bnd (R_VecFault a1) fun t38 =>
  bnd (Law_first ([t19, t38] : List Int)) fun t40 =>
  cnd (decide (t40 = 0)) (bnd (R_FarOf a0 a1) fun t45 =>
  Law_FaceVecs_j1 a0 a3 t19 t23 t28 t33 t40 t45) (Law_FaceVecs_j1 a0 a3 t19 t23 t28 t33 t40 0)

end Go.M
