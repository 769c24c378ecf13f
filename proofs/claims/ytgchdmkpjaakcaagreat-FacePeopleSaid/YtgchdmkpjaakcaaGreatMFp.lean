/- FacePeople: the models, printed by our generator from the compiled program. Conditions: none. -/
import Derived.Test.YtgchdmkpjaakcaaGreatMd7
namespace Go.M
open Go.Md
set_option maxRecDepth 100000
set_option linter.unusedVariables false

structure T_face_Likeness where
  Id : Int
  Photo : Int
  Vec : (Nat → Int)
instance : Inhabited T_face_Likeness := ⟨⟨0, 0, fun _ => 0⟩⟩

structure T_face_Person where
  Id : Int
  Name : (List UInt8)
  Likes : (List Int)
  Nots : (List Int)
instance : Inhabited T_face_Person := ⟨⟨0, [], [], []⟩⟩

structure T_face_Match where
  Person : Int
  Far : Int
instance : Inhabited T_face_Match := ⟨⟨0, 0⟩⟩

def eq_face_Match (x y : T_face_Match) : Bool := decide (x.Person = y.Person ∧ x.Far = y.Far)

/-! tintype/tintref2.idOk -/
noncomputable def R_idOk (a0 : Int) : Option (Bool) :=
  cnd (decide (1 ≤ a0)) (some (decide (a0 ≤ 1000000))) (some false)

/-! tintype/tintref2.VecFault -/
noncomputable def R_VecFault_l1 (a0 : (Nat → Int)) (next1 : ((Int) → Option (Int))) (x6_2 : Int) : Option (Int) :=
  cnd (decide (x6_2 < 12)) (bnd (gIx 12 x6_2) fun k8 =>
  cnd (decide ((a0 k8) < (-127))) (some 2) (cnd (decide (127 < (a0 k8))) (some 2) (bnd (gI (x6_2 + 1)) fun t15 =>
  next1 t15))) (some 0)
noncomputable def R_VecFault (a0 : (Nat → Int)) : Option (Int) :=
  fix (fun next1 s => R_VecFault_l1 a0 next1 s) 0

/-! tintype/tintref2.LikesFault -/
noncomputable def R_LikesFault_j2 (x11_2 : Int) (next1 : ((Int) → Option (Int))) (t14 : T_face_Likeness) (x24 : Bool) (x25 : Bool) : Option (Int) :=
  bnd (R_VecFault t14.Vec) fun t43 =>
  cnd (decide (t43 ≠ 0)) (some t43) (bnd (gI (x11_2 + 1)) fun t47 =>
  next1 t47)
noncomputable def R_LikesFault_l1 (a0 : (List T_face_Likeness)) (next1 : ((Int) → Option (Int))) (x11_2 : Int) : Option (Int) :=
  cnd (decide (x11_2 < (a0.length : Int))) (bnd (gAt a0 x11_2) fun t14 =>
  bnd (R_idOk t14.Id) fun t19 =>
  cnd (!t19) (some 2) (bnd (R_idOk t14.Photo) fun t24 =>
  cnd (!t24) (some 2) (cnd (decide (0 < x11_2)) (bnd (gI (x11_2 - 1)) fun t35 =>
  bnd (gAt a0 t35) fun t36 =>
  cnd (decide (t14.Id ≤ t36.Id)) (some 5) (R_LikesFault_j2 x11_2 next1 t14 t24 (!t24))) (R_LikesFault_j2 x11_2 next1 t14 t24 (!t24))))) (some 0)
noncomputable def R_LikesFault (a0 : (List T_face_Likeness)) : Option (Int) :=
  cnd (decide (300 < (a0.length : Int))) (some 4) (fix (fun next1 s => R_LikesFault_l1 a0 next1 s) 0)

/-! tintype/face.outside -/
noncomputable def face_outside (a0 : Int) (a1 : Int) (a2 : Int) : Option (Bool) :=
  cnd (decide (a0 < a1)) (some true) (some (decide (a2 < a0)))

/-! tintype/face.CheckVec -/
noncomputable def face_CheckVec_l1 (a0 : (Nat → Int)) (next1 : ((Int) → Option (Int))) (x6_2 : Int) : Option (Int) :=
  cnd (decide (x6_2 < 12)) (bnd (gIx 12 x6_2) fun k8 =>
  bnd (face_outside (a0 k8) (-127) 127) fun t10 =>
  cnd t10 (some 2) (bnd (gI (x6_2 + 1)) fun t11 =>
  next1 t11)) (some 0)
noncomputable def face_CheckVec (a0 : (Nat → Int)) : Option (Int) :=
  fix (fun next1 s => face_CheckVec_l1 a0 next1 s) 0

/-! tintype/face.Check -/
noncomputable def face_Check_j2 (x11_2 : Int) (next1 : ((Int) → Option (Int))) (t14 : T_face_Likeness) : Option (Int) :=
  bnd (face_CheckVec t14.Vec) fun t39 =>
  cnd (decide (t39 ≠ 0)) (some t39) (bnd (gI (x11_2 + 1)) fun t43 =>
  next1 t43)
noncomputable def face_Check_l1 (a0 : (List T_face_Likeness)) (next1 : ((Int) → Option (Int))) (x11_2 : Int) : Option (Int) :=
  cnd (decide (x11_2 < (a0.length : Int))) (bnd (gAt a0 x11_2) fun t14 =>
  bnd (face_outside t14.Id 1 1000000) fun t18 =>
  cnd t18 (some 2) (bnd (face_outside t14.Photo 1 1000000) fun t22 =>
  cnd t22 (some 2) (cnd (decide (0 < x11_2)) (bnd (gI (x11_2 - 1)) fun t31 =>
  bnd (gAt a0 t31) fun t32 =>
  cnd (decide (t14.Id ≤ t32.Id)) (some 5) (face_Check_j2 x11_2 next1 t14)) (face_Check_j2 x11_2 next1 t14)))) (some 0)
noncomputable def face_Check (a0 : (List T_face_Likeness)) : Option (Int) :=
  cnd (decide (300 < (a0.length : Int))) (some 4) (fix (fun next1 s => face_Check_l1 a0 next1 s) 0)

/-! slices.Concat[[]int,int] -/
noncomputable def slices_Concat_int_l2 (a0 : (List (List Int))) (u24 : Nat) (next2 : ((Int × (List Int)) → Option ((List Int)))) (x27_2 : Int) (l_2 : (List Int)) : Option ((List Int)) :=
  cnd (decide (x27_2 < (a0.length : Int))) (bnd (gAt a0 x27_2) fun t29 =>
  bnd (gApC u24 l_2 t29) fun l33 =>
  bnd (gI (x27_2 + 1)) fun t34 =>
  next2 (t34, l33)) (some l_2)
noncomputable def slices_Concat_int_j1 (a0 : (List (List Int))) (x3 : Int) : Option ((List Int)) :=
  bnd (gGroC 8 x3) fun u24 =>
  fix (fun next2 s => slices_Concat_int_l2 a0 u24 next2 s.1 s.2) (0, ([] : List Int))
noncomputable def slices_Concat_int_l3 (a0 : (List (List Int))) (next3 : ((Int × Int) → Option ((List Int)))) (x3_3 : Int) (x11_2 : Int) : Option ((List Int)) :=
  cnd (decide (x11_2 < (a0.length : Int))) (bnd (gAt a0 x11_2) fun t13 =>
  bnd (gI (x3_3 + (t13.length : Int))) fun t18 =>
  cnd (decide (t18 < 0)) (none) (bnd (gI (x11_2 + 1)) fun t22 =>
  next3 (t18, t22))) (slices_Concat_int_j1 a0 x3_3)
noncomputable def slices_Concat_int (a0 : (List (List Int))) : Option ((List Int)) :=
  fix (fun next3 s => slices_Concat_int_l3 a0 next3 s.1 s.2) (0, 0)

/-! slices.BinarySearchFunc[[]tintype/face.Likeness,tintype/face.Likeness,int] -/
noncomputable def slices_BinarySearchFunc_face_Likeness_int_j1 (a0 : (List T_face_Likeness)) (a1 : Int) (a2 : (T_face_Likeness → Int → Option (Int))) (x9 : Int) : Option (Int × Bool) :=
  cnd (decide (x9 < (a0.length : Int))) (bnd (gAt a0 x9) fun t43 =>
  bnd (a2 t43 a1) fun t46 =>
  some (x9, (decide (t46 = 0)))) (some (x9, false))
noncomputable def slices_BinarySearchFunc_face_Likeness_int_l2 (a0 : (List T_face_Likeness)) (a1 : Int) (a2 : (T_face_Likeness → Int → Option (Int))) (next2 : ((Int × Int) → Option (Int × Bool))) (x9_3 : Int) (x10_2 : Int) : Option (Int × Bool) :=
  cnd (decide (x9_3 < x10_2)) (bnd (gI (x9_3 + x10_2)) fun t20 =>
  bnd (gShr 64 (wU64 t20) 1) fun t22 =>
  bnd (gAt a0 (wI64 t22)) fun t27 =>
  bnd (a2 t27 a1) fun t30 =>
  cnd (decide (t30 < 0)) (bnd (gI ((wI64 t22) + 1)) fun t33 =>
  next2 (t33, x10_2)) (next2 (x9_3, (wI64 t22)))) (slices_BinarySearchFunc_face_Likeness_int_j1 a0 a1 a2 x9_3)
noncomputable def slices_BinarySearchFunc_face_Likeness_int (a0 : (List T_face_Likeness)) (a1 : Int) (a2 : (T_face_Likeness → Int → Option (Int))) : Option (Int × Bool) :=
  fix (fun next2 s => slices_BinarySearchFunc_face_Likeness_int_l2 a0 a1 a2 next2 s.1 s.2) (0, (a0.length : Int))

/-! tintype/face.at$1 -/
noncomputable def face_at_1 (a0 : T_face_Likeness) (a1 : Int) : Option (Int) :=
  cnd (decide (a0.Id < a1)) (some (-1)) (cnd (decide (a1 < a0.Id)) (some 1) (some 0))

/-! tintype/face.at -/
noncomputable def face_at (a0 : (List T_face_Likeness)) (a1 : Int) : Option (Int × Bool) :=
  bnd (slices_BinarySearchFunc_face_Likeness_int a0 a1 face_at_1) fun t8 =>
  some (t8.1, t8.2)

/-! tintype/face.far -/
noncomputable def face_far_l1 (a0 : (Nat → Int)) (a1 : (Nat → Int)) (next1 : ((Int × Int) → Option (Int))) (x5_2 : Int) (x9_2 : Int) : Option (Int) :=
  cnd (decide (x9_2 < 12)) (bnd (gIx 12 x9_2) fun k12 =>
  bnd (gIx 12 x9_2) fun k16 =>
  bnd (gI ((a0 k12) - (a1 k16))) fun t18 =>
  bnd (gIx 12 x9_2) fun k21 =>
  bnd (gI ((a0 k12) - (a1 k21))) fun t23 =>
  bnd (gI (t18 * t23)) fun t24 =>
  bnd (gI (x5_2 + t24)) fun t25 =>
  bnd (gI (x9_2 + 1)) fun t26 =>
  next1 (t25, t26)) (some x5_2)
noncomputable def face_far (a0 : (Nat → Int)) (a1 : (Nat → Int)) : Option (Int) :=
  fix (fun next1 s => face_far_l1 a0 a1 next1 s.1 s.2) (0, 0)

/-! tintype/face.score -/
noncomputable def face_score_j2 (t60 : (List Int)) (x14 : Int) : Option (Int) :=
  bnd (gQuo x14 (t60.length : Int)) fun t77 =>
  some t77
noncomputable def face_score_l3 (t60 : (List Int)) (next3 : ((Int × Int) → Option (Int))) (x14_3 : Int) (x66_2 : Int) : Option (Int) :=
  cnd (decide (x66_2 < (t60.length : Int))) (bnd (gAt t60 x66_2) fun t68 =>
  bnd (gI (x14_3 + t68)) fun t72 =>
  bnd (gI (x66_2 + 1)) fun t73 =>
  next3 (t72, t73)) (face_score_j2 t60 x14_3)
noncomputable def face_score_j1 (l : (List Int)) : Option (Int) :=
  bnd (gSortI l) fun t55 =>
  bnd (gCut t55 0 (min 3 (t55.length : Int))) fun t60 =>
  cnd (decide ((t60.length : Int) = 0)) (some 774192) (fix (fun next3 s => face_score_l3 t60 next3 s.1 s.2) (0, 0))
noncomputable def face_score_j5 (x26_2 : Int) (next4 : ((Int × (List Int)) → Option (Int))) (l_4 : (List Int)) : Option (Int) :=
  bnd (gI (x26_2 + 1)) fun t53 =>
  next4 (t53, l_4)
noncomputable def face_score_l4 (a0 : (List T_face_Likeness)) (a1 : T_face_Person) (a2 : Int) (t20 : (Int × Bool)) (next4 : ((Int × (List Int)) → Option (Int))) (x26_2 : Int) (l_3 : (List Int)) : Option (Int) :=
  cnd (decide (x26_2 < (a1.Likes.length : Int))) (bnd (gAt a1.Likes x26_2) fun t28 =>
  cnd (decide (t28 ≠ a2)) (bnd (face_at a0 t28) fun t36 =>
  bnd (gAt a0 t20.1) fun t42 =>
  bnd (gAt a0 t36.1) fun t47 =>
  bnd (face_far t42.Vec t47.Vec) fun t50 =>
  bnd (gApp 8 l_3 ([t50] : List Int)) fun l52 =>
  face_score_j5 x26_2 next4 l52) (face_score_j5 x26_2 next4 l_3)) (face_score_j1 l_3)
noncomputable def face_score (a0 : (List T_face_Likeness)) (a1 : T_face_Person) (a2 : Int) : Option (Int) :=
  bnd (face_at a0 a2) fun t20 =>
  fix (fun next4 s => face_score_l4 a0 a1 a2 t20 next4 s.1 s.2) (0, ([] : List Int))

/-! tintype/face.Score -/
noncomputable def face_Score_j1 (a0 : (List T_face_Likeness)) (a1 : T_face_Person) (a2 : Int) : Option (Int × Int) :=
  bnd (face_score a0 a1 a2) fun t41 =>
  some (t41, 0)
noncomputable def face_Score_l2 (a0 : (List T_face_Likeness)) (a1 : T_face_Person) (a2 : Int) (t23 : ((List Int))) (next2 : ((Int) → Option (Int × Int))) (x25_2 : Int) : Option (Int × Int) :=
  cnd (decide (x25_2 < (t23.length : Int))) (bnd (gAt t23 x25_2) fun t27 =>
  bnd (face_at a0 t27) fun t32 =>
  cnd (!t32.2) (some (0, 7)) (bnd (gI (x25_2 + 1)) fun t37 =>
  next2 t37)) (face_Score_j1 a0 a1 a2)
noncomputable def face_Score (a0 : (List T_face_Likeness)) (a1 : T_face_Person) (a2 : Int) : Option (Int × Int) :=
  bnd (face_Check a0) fun t14 =>
  cnd (decide (t14 ≠ 0)) (some (0, t14)) (bnd (slices_Concat_int ([([a2] : List Int), a1.Likes] : List (List Int))) fun t23 =>
  fix (fun next2 s => face_Score_l2 a0 a1 a2 t23 next2 s) 0)

/-! slices.IndexFunc[[]tintype/face.Likeness,tintype/face.Likeness] -/
noncomputable def slices_IndexFunc_face_Likeness_l1 (a0 : (List T_face_Likeness)) (a1 : (T_face_Likeness → Option (Bool))) (next1 : ((Int) → Option (Int))) (x8_2 : Int) : Option (Int) :=
  cnd (decide (x8_2 < (a0.length : Int))) (bnd (gAt a0 x8_2) fun t14 =>
  bnd (a1 t14) fun t16 =>
  cnd t16 (some x8_2) (bnd (gI (x8_2 + 1)) fun t18 =>
  next1 t18)) (some (-1))
noncomputable def slices_IndexFunc_face_Likeness (a0 : (List T_face_Likeness)) (a1 : (T_face_Likeness → Option (Bool))) : Option (Int) :=
  fix (fun next1 s => slices_IndexFunc_face_Likeness_l1 a0 a1 next1 s) 0

/-! tintype/tintref2.LikeAt$1 -/
noncomputable def R_LikeAt_1 (q0 : Int) (a0 : T_face_Likeness) : Option (Bool) :=
  some (decide (a0.Id = q0))

/-! tintype/tintref2.LikeAt -/
noncomputable def R_LikeAt (a0 : (List T_face_Likeness)) (a1 : Int) : Option (Int) :=
  bnd (slices_IndexFunc_face_Likeness a0 (R_LikeAt_1 a1)) fun t7 =>
  some t7

/-! slices.IndexFunc[[]int,int] -/
noncomputable def slices_IndexFunc_int_l1 (a0 : (List Int)) (a1 : (Int → Option (Bool))) (next1 : ((Int) → Option (Int))) (x8_2 : Int) : Option (Int) :=
  cnd (decide (x8_2 < (a0.length : Int))) (bnd (gAt a0 x8_2) fun t14 =>
  bnd (a1 t14) fun t16 =>
  cnd t16 (some x8_2) (bnd (gI (x8_2 + 1)) fun t18 =>
  next1 t18)) (some (-1))
noncomputable def slices_IndexFunc_int (a0 : (List Int)) (a1 : (Int → Option (Bool))) : Option (Int) :=
  fix (fun next1 s => slices_IndexFunc_int_l1 a0 a1 next1 s) 0

/-! slices.ContainsFunc[[]int,int] -/
noncomputable def slices_ContainsFunc_int (a0 : (List Int)) (a1 : (Int → Option (Bool))) : Option (Bool) :=
  bnd (slices_IndexFunc_int a0 a1) fun t7 =>
  some (decide (0 ≤ t7))

/-! tintype/tintlaw2.FacePeople$1 -/
noncomputable def Law_FacePeople_1 (q0 : (List T_face_Likeness)) (a0 : Int) : Option (Bool) :=
  bnd (R_LikeAt q0 a0) fun t6 =>
  some (decide (t6 < 0))

/-! tintype/tintref2.FarOf -/
noncomputable def R_FarOf_l1 (a0 : (Nat → Int)) (a1 : (Nat → Int)) (next1 : ((Int × Int) → Option (Int))) (x5_2 : Int) (x9_2 : Int) : Option (Int) :=
  cnd (decide (x9_2 < 12)) (bnd (gIx 12 x9_2) fun k12 =>
  bnd (gIx 12 x9_2) fun k16 =>
  bnd (gI ((a0 k12) - (a1 k16))) fun t18 =>
  bnd (gIx 12 x9_2) fun k21 =>
  bnd (gI ((a0 k12) - (a1 k21))) fun t23 =>
  bnd (gI (t18 * t23)) fun t24 =>
  bnd (gI (x5_2 + t24)) fun t25 =>
  bnd (gI (x9_2 + 1)) fun t26 =>
  next1 (t25, t26)) (some x5_2)
noncomputable def R_FarOf (a0 : (Nat → Int)) (a1 : (Nat → Int)) : Option (Int) :=
  fix (fun next1 s => R_FarOf_l1 a0 a1 next1 s.1 s.2) (0, 0)

/-! tintype/tintref2.ScoreOf -/
noncomputable def R_ScoreOf_j2 (t51 : (List Int)) (x10 : Int) : Option (Int) :=
  bnd (gQuo x10 (t51.length : Int)) fun t65 =>
  some t65
noncomputable def R_ScoreOf_l3 (t51 : (List Int)) (next3 : ((Int × Int) → Option (Int))) (x10_3 : Int) (x54_2 : Int) : Option (Int) :=
  cnd (decide (x54_2 < (t51.length : Int))) (bnd (gAt t51 x54_2) fun t56 =>
  bnd (gI (x10_3 + t56)) fun t60 =>
  bnd (gI (x54_2 + 1)) fun t61 =>
  next3 (t60, t61)) (R_ScoreOf_j2 t51 x10_3)
noncomputable def R_ScoreOf_j1 (l : (List Int)) : Option (Int) :=
  cnd (decide ((l.length : Int) = 0)) (some 774192) (bnd (gSortI l) fun t46 =>
  bnd (gCut t46 0 (min (t46.length : Int) 3)) fun t51 =>
  fix (fun next3 s => R_ScoreOf_l3 t51 next3 s.1 s.2) (0, 0))
noncomputable def R_ScoreOf_j5 (x16_2 : Int) (next4 : ((Int × (List Int)) → Option (Int))) (l_4 : (List Int)) : Option (Int) :=
  bnd (gI (x16_2 + 1)) fun t41 =>
  next4 (t41, l_4)
noncomputable def R_ScoreOf_l4 (a0 : (List T_face_Likeness)) (a1 : T_face_Person) (a2 : Int) (next4 : ((Int × (List Int)) → Option (Int))) (x16_2 : Int) (l_3 : (List Int)) : Option (Int) :=
  cnd (decide (x16_2 < (a1.Likes.length : Int))) (bnd (gAt a1.Likes x16_2) fun t18 =>
  cnd (decide (t18 ≠ a2)) (bnd (R_LikeAt a0 t18) fun t27 =>
  bnd (gAt a0 t27) fun t28 =>
  bnd (R_LikeAt a0 a2) fun t34 =>
  bnd (gAt a0 t34) fun t35 =>
  bnd (R_FarOf t28.Vec t35.Vec) fun t38 =>
  bnd (gApp 8 l_3 ([t38] : List Int)) fun l40 =>
  R_ScoreOf_j5 x16_2 next4 l40) (R_ScoreOf_j5 x16_2 next4 l_3)) (R_ScoreOf_j1 l_3)
noncomputable def R_ScoreOf (a0 : (List T_face_Likeness)) (a1 : T_face_Person) (a2 : Int) : Option (Int) :=
  fix (fun next4 s => R_ScoreOf_l4 a0 a1 a2 next4 s.1 s.2) (0, ([] : List Int))

/-! tintype/tintlaw2.told[int] -/
noncomputable def Law_told_int_j1 (a0 : Int) (a1 : Int) (a3 : Int) (x2 : Int) : Option (Bool) :=
  cnd (decide (a0 = x2)) (some (decide (a1 = a3))) (some false)
noncomputable def Law_told_int (a0 : Int) (a1 : Int) (a2 : Int) (a3 : Int) : Option (Bool) :=
  cnd (decide (a3 ≠ 0)) (Law_told_int_j1 a0 a1 a3 0) (Law_told_int_j1 a0 a1 a3 a2)

/-! tintype/tintref2.TitleOk -/
noncomputable def R_TitleOk_l1 (a0 : (List UInt8)) (next1 : ((Int) → Option (Bool))) (x14_2 : Int) : Option (Bool) :=
  cnd (decide (x14_2 < (a0.length : Int))) (bnd (gOct a0 x14_2) fun t19 =>
  cnd (decide (t19 < 32)) (some false) (bnd (gI (x14_2 + 1)) fun t21 =>
  next1 t21)) (some true)
noncomputable def R_TitleOk (a0 : (List UInt8)) : Option (Bool) :=
  cnd (decide ((a0.length : Int) < 1)) (some false) (cnd (decide (60 < (a0.length : Int))) (some false) (fix (fun next1 s => R_TitleOk_l1 a0 next1 s) 0))

/-! slices.Index[[]int,int] -/
noncomputable def slices_Index_int_l1 (a0 : (List Int)) (a1 : Int) (next1 : ((Int) → Option (Int))) (x8_2 : Int) : Option (Int) :=
  cnd (decide (x8_2 < (a0.length : Int))) (bnd (gAt a0 x8_2) fun t14 =>
  cnd (decide (a1 = t14)) (some x8_2) (bnd (gI (x8_2 + 1)) fun t18 =>
  next1 t18)) (some (-1))
noncomputable def slices_Index_int (a0 : (List Int)) (a1 : Int) : Option (Int) :=
  fix (fun next1 s => slices_Index_int_l1 a0 a1 next1 s) 0

/-! slices.Contains[[]int,int] -/
noncomputable def slices_Contains_int (a0 : (List Int)) (a1 : Int) : Option (Bool) :=
  bnd (slices_Index_int a0 a1) fun t7 =>
  some (decide (0 ≤ t7))

/-! tintype/tintref2.PeopleFault -/
noncomputable def R_PeopleFault_j2 (x24_2 : Int) (next1 : ((Int × (List (Int × Bool))) → Option (Int))) (mp_3 : (List (Int × Bool))) : Option (Int) :=
  bnd (gI (x24_2 + 1)) fun t127 =>
  next1 (t127, mp_3)
noncomputable def R_PeopleFault_l6 (a0 : (List T_face_Likeness)) (x24_2 : Int) (next1 : ((Int × (List (Int × Bool))) → Option (Int))) (t27 : T_face_Person) (next6 : ((Int × (List (Int × Bool)) × (List (Int × Bool))) → Option (Int))) (x103_2 : Int) (mp_6 : (List (Int × Bool))) (mp_7 : (List (Int × Bool))) : Option (Int) :=
  cnd (decide (x103_2 < (t27.Likes.length : Int))) (bnd (gAt t27.Likes x103_2) fun t105 =>
  bnd (R_LikeAt a0 t105) fun t110 =>
  bnd (gAt a0 t110) fun t111 =>
  cnd ((mGet mp_6 t105).getD false) (some 6) (cnd ((mGet mp_7 t111.Photo).getD false) (some 6) (bnd (gI (x103_2 + 1)) fun t126 =>
  next6 (t126, (mSet mp_6 t105 true), (mSet mp_7 t111.Photo true))))) (R_PeopleFault_j2 x24_2 next1 mp_6)
noncomputable def R_PeopleFault_j5 (a0 : (List T_face_Likeness)) (x24_2 : Int) (mp_2 : (List (Int × Bool))) (next1 : ((Int × (List (Int × Bool))) → Option (Int))) (t27 : T_face_Person) : Option (Int) :=
  fix (fun next6 s => R_PeopleFault_l6 a0 x24_2 next1 t27 next6 s.1 s.2.1 s.2.2) (0, mp_2, ([] : (List (Int × Bool))))
noncomputable def R_PeopleFault_l7 (a0 : (List T_face_Likeness)) (x24_2 : Int) (mp_2 : (List (Int × Bool))) (next1 : ((Int × (List (Int × Bool))) → Option (Int))) (t27 : T_face_Person) (next7 : ((Int) → Option (Int))) (x91_2 : Int) : Option (Int) :=
  cnd (decide (x91_2 < (t27.Likes.length : Int))) (bnd (gAt t27.Likes x91_2) fun t93 =>
  bnd (slices_Contains_int t27.Nots t93) fun t98 =>
  cnd t98 (some 11) (bnd (gI (x91_2 + 1)) fun t99 =>
  next7 t99)) (R_PeopleFault_j5 a0 x24_2 mp_2 next1 t27)
noncomputable def R_PeopleFault_j4 (a0 : (List T_face_Likeness)) (x24_2 : Int) (mp_2 : (List (Int × Bool))) (next1 : ((Int × (List (Int × Bool))) → Option (Int))) (t27 : T_face_Person) : Option (Int) :=
  fix (fun next7 s => R_PeopleFault_l7 a0 x24_2 mp_2 next1 t27 next7 s) 0
noncomputable def R_PeopleFault_j9 (x59_2 : Int) (next8 : ((Int) → Option (Int))) : Option (Int) :=
  bnd (gI (x59_2 + 1)) fun t86 =>
  next8 t86
noncomputable def R_PeopleFault_j11 (x65_2 : Int) (next10 : ((Int) → Option (Int))) : Option (Int) :=
  bnd (gI (x65_2 + 1)) fun t85 =>
  next10 t85
noncomputable def R_PeopleFault_l10 (a0 : (List T_face_Likeness)) (x59_2 : Int) (next8 : ((Int) → Option (Int))) (t61 : (List Int)) (next10 : ((Int) → Option (Int))) (x65_2 : Int) : Option (Int) :=
  cnd (decide (x65_2 < (t61.length : Int))) (bnd (gAt t61 x65_2) fun t68 =>
  bnd (R_LikeAt a0 t68) fun t72 =>
  cnd (decide (t72 < 0)) (some 7) (cnd (decide (0 < x65_2)) (bnd (gI (x65_2 - 1)) fun t80 =>
  bnd (gAt t61 t80) fun t81 =>
  cnd (decide (t68 ≤ t81)) (some 5) (R_PeopleFault_j11 x65_2 next10)) (R_PeopleFault_j11 x65_2 next10))) (R_PeopleFault_j9 x59_2 next8)
noncomputable def R_PeopleFault_l8 (a0 : (List T_face_Likeness)) (x24_2 : Int) (mp_2 : (List (Int × Bool))) (next1 : ((Int × (List (Int × Bool))) → Option (Int))) (t27 : T_face_Person) (next8 : ((Int) → Option (Int))) (x59_2 : Int) : Option (Int) :=
  cnd (decide (x59_2 < 2)) (bnd (gAt ([t27.Likes, t27.Nots] : List (List Int)) x59_2) fun t61 =>
  fix (fun next10 s => R_PeopleFault_l10 a0 x59_2 next8 t61 next10 s) 0) (R_PeopleFault_j4 a0 x24_2 mp_2 next1 t27)
noncomputable def R_PeopleFault_j3 (a0 : (List T_face_Likeness)) (x24_2 : Int) (mp_2 : (List (Int × Bool))) (next1 : ((Int × (List (Int × Bool))) → Option (Int))) (t27 : T_face_Person) : Option (Int) :=
  fix (fun next8 s => R_PeopleFault_l8 a0 x24_2 mp_2 next1 t27 next8 s) 0
noncomputable def R_PeopleFault_l1 (a0 : (List T_face_Likeness)) (a1 : (List T_face_Person)) (next1 : ((Int × (List (Int × Bool))) → Option (Int))) (x24_2 : Int) (mp_2 : (List (Int × Bool))) : Option (Int) :=
  cnd (decide (x24_2 < (a1.length : Int))) (bnd (gAt a1 x24_2) fun t27 =>
  bnd (R_idOk t27.Id) fun t32 =>
  cnd (!t32) (some 2) (cnd (decide (0 < x24_2)) (bnd (gI (x24_2 - 1)) fun t42 =>
  bnd (gAt a1 t42) fun t43 =>
  cnd (decide (t27.Id ≤ t43.Id)) (some 5) (bnd (R_TitleOk t27.Name) fun t51 =>
  cnd (!t51) (some 3) (R_PeopleFault_j3 a0 x24_2 mp_2 next1 t27))) (bnd (R_TitleOk t27.Name) fun t51_2 =>
  cnd (!t51_2) (some 3) (R_PeopleFault_j3 a0 x24_2 mp_2 next1 t27)))) (some 0)
noncomputable def R_PeopleFault (a0 : (List T_face_Likeness)) (a1 : (List T_face_Person)) : Option (Int) :=
  cnd (decide (100 < (a1.length : Int))) (some 4) (fix (fun next1 s => R_PeopleFault_l1 a0 a1 next1 s.1 s.2) (0, ([] : (List (Int × Bool)))))

/-! slices.IndexFunc[[]byte,byte] -/
noncomputable def slices_IndexFunc_byte_l1 (a0 : (List Int)) (a1 : (Int → Option (Bool))) (next1 : ((Int) → Option (Int))) (x8_2 : Int) : Option (Int) :=
  cnd (decide (x8_2 < (a0.length : Int))) (bnd (gAt a0 x8_2) fun t14 =>
  bnd (a1 t14) fun t16 =>
  cnd t16 (some x8_2) (bnd (gI (x8_2 + 1)) fun t18 =>
  next1 t18)) (some (-1))
noncomputable def slices_IndexFunc_byte (a0 : (List Int)) (a1 : (Int → Option (Bool))) : Option (Int) :=
  fix (fun next1 s => slices_IndexFunc_byte_l1 a0 a1 next1 s) 0

/-! slices.ContainsFunc[[]byte,byte] -/
noncomputable def slices_ContainsFunc_byte (a0 : (List Int)) (a1 : (Int → Option (Bool))) : Option (Bool) :=
  bnd (slices_IndexFunc_byte a0 a1) fun t7 =>
  some (decide (0 ≤ t7))

/-! tintype/face.isTitle$1 -/
noncomputable def face_isTitle_1 (a0 : Int) : Option (Bool) :=
  some (decide (a0 < 32))

/-! tintype/face.isTitle -/
noncomputable def face_isTitle (a0 : (List UInt8)) : Option (Bool) :=
  bnd (face_outside (a0.length : Int) 1 60) fun t5 =>
  cnd (!t5) (bnd (gByt a0) fun t9 =>
  bnd (slices_ContainsFunc_byte t9 face_isTitle_1) fun t10 =>
  some (!t10)) (some false)

/-! tintype/face.checkIds -/
noncomputable def face_checkIds_j2 (x11_2 : Int) (next1 : ((Int) → Option (Int))) : Option (Int) :=
  bnd (gI (x11_2 + 1)) fun t35 =>
  next1 t35
noncomputable def face_checkIds_l1 (a0 : (List T_face_Likeness)) (a1 : (List Int)) (next1 : ((Int) → Option (Int))) (x11_2 : Int) : Option (Int) :=
  cnd (decide (x11_2 < (a1.length : Int))) (bnd (gAt a1 x11_2) fun t14 =>
  bnd (face_at a0 t14) fun t19 =>
  cnd (!t19.2) (some 7) (cnd (decide (0 < x11_2)) (bnd (gI (x11_2 - 1)) fun t30 =>
  bnd (gAt a1 t30) fun t31 =>
  cnd (decide (t14 ≤ t31)) (some 5) (face_checkIds_j2 x11_2 next1)) (face_checkIds_j2 x11_2 next1))) (some 0)
noncomputable def face_checkIds (a0 : (List T_face_Likeness)) (a1 : (List Int)) : Option (Int) :=
  fix (fun next1 s => face_checkIds_l1 a0 a1 next1 s) 0

/-! cmp.isNaN[int] -/
noncomputable def cmp_isNaN_int (a0 : Int) : Option (Bool) :=
  some (decide (a0 ≠ a0))

/-! cmp.Less[int] -/
noncomputable def cmp_Less_int (a0 : Int) (a1 : Int) : Option (Bool) :=
  bnd (cmp_isNaN_int a0) fun t6 =>
  cnd t6 (bnd (cmp_isNaN_int a1) fun t9 =>
  cnd (!t9) (some true) (some (decide (a0 < a1)))) (some (decide (a0 < a1)))

/-! slices.isNaN[int] -/
noncomputable def slices_isNaN_int (a0 : Int) : Option (Bool) :=
  some (decide (a0 ≠ a0))

/-! slices.BinarySearch[[]int,int] -/
noncomputable def slices_BinarySearch_int_j1 (a0 : (List Int)) (a1 : Int) (x7 : Int) : Option (Int × Bool) :=
  cnd (decide (x7 < (a0.length : Int))) (bnd (gAt a0 x7) fun t38 =>
  cnd (decide (t38 = a1)) (some (x7, true)) (bnd (gAt a0 x7) fun t45 =>
  bnd (slices_isNaN_int t45) fun t47 =>
  cnd t47 (bnd (slices_isNaN_int a1) fun t50 =>
  some (x7, t50)) (some (x7, false)))) (some (x7, false))
noncomputable def slices_BinarySearch_int_l2 (a0 : (List Int)) (a1 : Int) (next2 : ((Int × Int) → Option (Int × Bool))) (x7_3 : Int) (x8_2 : Int) : Option (Int × Bool) :=
  cnd (decide (x7_3 < x8_2)) (bnd (gI (x7_3 + x8_2)) fun t18 =>
  bnd (gShr 64 (wU64 t18) 1) fun t20 =>
  bnd (gAt a0 (wI64 t20)) fun t24 =>
  bnd (cmp_Less_int t24 a1) fun t27 =>
  cnd t27 (bnd (gI ((wI64 t20) + 1)) fun t29 =>
  next2 (t29, x8_2)) (next2 (x7_3, (wI64 t20)))) (slices_BinarySearch_int_j1 a0 a1 x7_3)
noncomputable def slices_BinarySearch_int (a0 : (List Int)) (a1 : Int) : Option (Int × Bool) :=
  fix (fun next2 s => slices_BinarySearch_int_l2 a0 a1 next2 s.1 s.2) (0, (a0.length : Int))

/-! tintype/face.contains -/
noncomputable def face_contains (a0 : (List Int)) (a1 : Int) : Option (Bool) :=
  bnd (slices_BinarySearch_int a0 a1) fun t10 =>
  some t10.2

/-! tintype/face.checkPerson$1 -/
noncomputable def face_checkPerson_1 (q0 : T_face_Person) (a0 : Int) : Option (Bool) :=
  bnd (face_contains q0.Nots a0) fun t7 =>
  some t7

/-! tintype/face.checkPerson -/
noncomputable def face_checkPerson_j1 (a1 : T_face_Person) : Option (Int) :=
  bnd (slices_ContainsFunc_int a1.Likes (face_checkPerson_1 a1)) fun t32 =>
  cnd t32 (some 11) (some 0)
noncomputable def face_checkPerson_l2 (a0 : (List T_face_Likeness)) (a1 : T_face_Person) (next2 : ((Int) → Option (Int))) (x18_2 : Int) : Option (Int) :=
  cnd (decide (x18_2 < 2)) (bnd (gAt ([a1.Likes, a1.Nots] : List (List Int)) x18_2) fun t20 =>
  bnd (face_checkIds a0 t20) fun t24 =>
  cnd (decide (t24 ≠ 0)) (some t24) (bnd (gI (x18_2 + 1)) fun t28 =>
  next2 t28)) (face_checkPerson_j1 a1)
noncomputable def face_checkPerson (a0 : (List T_face_Likeness)) (a1 : T_face_Person) : Option (Int) :=
  bnd (face_isTitle a1.Name) fun t10 =>
  cnd (!t10) (some 3) (fix (fun next2 s => face_checkPerson_l2 a0 a1 next2 s) 0)

/-! tintype/face.photoOf -/
noncomputable def face_photoOf (a0 : (List T_face_Likeness)) (a1 : Int) : Option (Int) :=
  bnd (face_at a0 a1) fun t10 =>
  bnd (gAt a0 t10.1) fun t15 =>
  some t15.Photo

/-! tintype/face.photosOf -/
noncomputable def face_photosOf_l1 (a0 : (List T_face_Likeness)) (a1 : (List Int)) (next1 : ((Int × (List Int)) → Option ((List Int)))) (x10_2 : Int) (l_2 : (List Int)) : Option ((List Int)) :=
  cnd (decide (x10_2 < (a1.length : Int))) (bnd (gAt a1 x10_2) fun t12 =>
  bnd (face_photoOf a0 t12) fun t17 =>
  bnd (gApp 8 l_2 ([t17] : List Int)) fun l19 =>
  bnd (gI (x10_2 + 1)) fun t20 =>
  next1 (t20, l19)) (some l_2)
noncomputable def face_photosOf (a0 : (List T_face_Likeness)) (a1 : (List Int)) : Option ((List Int)) :=
  fix (fun next1 s => face_photosOf_l1 a0 a1 next1 s.1 s.2) (0, ([] : List Int))

/-! tintype/face.CheckPeople$1 -/
noncomputable def face_CheckPeople_1 (q0 : (List (Int × Bool))) (a0 : Int) : Option (Bool) :=
  some ((mGet q0 a0).getD false)

/-! tintype/face.with -/
noncomputable def face_with (a0 : (List Int)) (a1 : (List Int)) : Option ((List Int)) :=
  bnd (slices_Concat_int ([a0, a1] : List (List Int))) fun t9 =>
  bnd (gSortI t9) fun t11 =>
  bnd (gCmpI t11) fun t13 =>
  some t13

/-! tintype/face.CheckPeople -/
noncomputable def face_CheckPeople_j2 (x24_2 : Int) (next1 : ((Int × (List (Int × Bool))) → Option (Int))) (x62 : Int) (x64 : Int) (x65 : Bool) (l : (List Int)) (l_2 : (List Int)) (mp_3 : (List (Int × Bool))) : Option (Int) :=
  bnd (gI (x24_2 + 1)) fun t77 =>
  next1 (t77, mp_3)
noncomputable def face_CheckPeople_l4 (x24_2 : Int) (next1 : ((Int × (List (Int × Bool))) → Option (Int))) (t27 : T_face_Person) (t54 : ((List Int))) (t61 : ((List Int))) (next4 : ((Int × (List (Int × Bool))) → Option (Int))) (x70_2 : Int) (mp_5 : (List (Int × Bool))) : Option (Int) :=
  cnd (decide (x70_2 < (t27.Likes.length : Int))) (bnd (gAt t27.Likes x70_2) fun t72 =>
  bnd (gI (x70_2 + 1)) fun t76 =>
  next4 (t76, (mSet mp_5 t72 true))) (face_CheckPeople_j2 x24_2 next1 (t61.length : Int) (t54.length : Int) (decide ((t61.length : Int) < (t54.length : Int))) t54 t61 mp_5)
noncomputable def face_CheckPeople_j3 (a0 : (List T_face_Likeness)) (x24_2 : Int) (mp_2 : (List (Int × Bool))) (next1 : ((Int × (List (Int × Bool))) → Option (Int))) (t27 : T_face_Person) : Option (Int) :=
  bnd (face_checkPerson a0 t27) fun t47 =>
  cnd (decide (t47 ≠ 0)) (some t47) (bnd (face_photosOf a0 t27.Likes) fun t54 =>
  bnd (slices_ContainsFunc_int t27.Likes (face_CheckPeople_1 mp_2)) fun t58 =>
  cnd t58 (some 6) (bnd (face_with t54 ([] : (List Int))) fun t61 =>
  cnd (decide ((t61.length : Int) < (t54.length : Int))) (some 6) (fix (fun next4 s => face_CheckPeople_l4 x24_2 next1 t27 t54 t61 next4 s.1 s.2) (0, mp_2))))
noncomputable def face_CheckPeople_l1 (a0 : (List T_face_Likeness)) (a1 : (List T_face_Person)) (next1 : ((Int × (List (Int × Bool))) → Option (Int))) (x24_2 : Int) (mp_2 : (List (Int × Bool))) : Option (Int) :=
  cnd (decide (x24_2 < (a1.length : Int))) (bnd (gAt a1 x24_2) fun t27 =>
  bnd (face_outside t27.Id 1 1000000) fun t31 =>
  cnd t31 (some 2) (cnd (decide (0 < x24_2)) (bnd (gI (x24_2 - 1)) fun t39 =>
  bnd (gAt a1 t39) fun t40 =>
  cnd (decide (t27.Id ≤ t40.Id)) (some 5) (face_CheckPeople_j3 a0 x24_2 mp_2 next1 t27)) (face_CheckPeople_j3 a0 x24_2 mp_2 next1 t27))) (some 0)
noncomputable def face_CheckPeople (a0 : (List T_face_Likeness)) (a1 : (List T_face_Person)) : Option (Int) :=
  bnd (face_Check a0) fun t14 =>
  cnd (decide (t14 ≠ 0)) (some t14) (cnd (decide (100 < (a1.length : Int))) (some 4) (fix (fun next1 s => face_CheckPeople_l1 a0 a1 next1 s.1 s.2) (0, ([] : (List (Int × Bool))))))

/-! slices.IndexFunc[[]tintype/face.Person,tintype/face.Person] -/
noncomputable def slices_IndexFunc_face_Person_l1 (a0 : (List T_face_Person)) (a1 : (T_face_Person → Option (Bool))) (next1 : ((Int) → Option (Int))) (x8_2 : Int) : Option (Int) :=
  cnd (decide (x8_2 < (a0.length : Int))) (bnd (gAt a0 x8_2) fun t14 =>
  bnd (a1 t14) fun t16 =>
  cnd t16 (some x8_2) (bnd (gI (x8_2 + 1)) fun t18 =>
  next1 t18)) (some (-1))
noncomputable def slices_IndexFunc_face_Person (a0 : (List T_face_Person)) (a1 : (T_face_Person → Option (Bool))) : Option (Int) :=
  fix (fun next1 s => slices_IndexFunc_face_Person_l1 a0 a1 next1 s) 0

/-! tintype/face.owner$1 -/
noncomputable def face_owner_1 (q0 : Int) (a0 : T_face_Person) : Option (Bool) :=
  bnd (face_contains a0.Likes q0) fun t7 =>
  some t7

/-! tintype/face.owner -/
noncomputable def face_owner (a0 : (List T_face_Person)) (a1 : Int) : Option (Int) :=
  bnd (slices_IndexFunc_face_Person a0 (face_owner_1 a1)) fun t7 =>
  some t7

/-! tintype/face.hasPhoto -/
noncomputable def face_hasPhoto (a0 : (List T_face_Likeness)) (a1 : T_face_Person) (a2 : Int) : Option (Bool) :=
  bnd (face_photosOf a0 a1.Likes) fun t10 =>
  bnd (face_photoOf a0 a2) fun t13 =>
  bnd (slices_Contains_int t10 t13) fun t14 =>
  some t14

/-! cmp.Or[int] -/
noncomputable def cmp_Or_int_l1 (a0 : (List Int)) (next1 : ((Int) → Option (Int))) (x8_2 : Int) : Option (Int) :=
  cnd (decide (x8_2 < (a0.length : Int))) (bnd (gAt a0 x8_2) fun t10 =>
  cnd (decide (t10 ≠ 0)) (some t10) (bnd (gI (x8_2 + 1)) fun t16 =>
  next1 t16)) (some 0)
noncomputable def cmp_Or_int (a0 : (List Int)) : Option (Int) :=
  fix (fun next1 s => cmp_Or_int_l1 a0 next1 s) 0

/-! cmp.Compare[int] -/
noncomputable def cmp_Compare_int (a0 : Int) (a1 : Int) : Option (Int) :=
  bnd (cmp_isNaN_int a0) fun t8 =>
  bnd (cmp_isNaN_int a1) fun t10 =>
  cnd t8 (cnd t10 (some 0) (some (-1))) (cnd t10 (some 1) (cnd (decide (a0 < a1)) (some (-1)) (cnd (decide (a1 < a0)) (some 1) (some 0))))

/-! tintype/face.matches$1 -/
noncomputable def face_matches_1 (a0 : T_face_Match) (a1 : T_face_Match) : Option (Int) :=
  bnd (cmp_Compare_int a0.Far a1.Far) fun t9 =>
  bnd (cmp_Compare_int a0.Person a1.Person) fun t14 =>
  bnd (cmp_Or_int ([t9, t14] : List Int)) fun t16 =>
  some t16

/-! tintype/face.matches -/
noncomputable def face_matches_j1 (l : (List T_face_Match)) : Option ((List T_face_Match)) :=
  bnd (gSortF l face_matches_1) fun t46 =>
  some t46
noncomputable def face_matches_j3 (x12_2 : Int) (next2 : ((Int × (List T_face_Match)) → Option ((List T_face_Match)))) (l_4 : (List T_face_Match)) : Option ((List T_face_Match)) :=
  bnd (gI (x12_2 + 1)) fun t44 =>
  next2 (t44, l_4)
noncomputable def face_matches_l2 (a0 : (List T_face_Likeness)) (a1 : (List T_face_Person)) (a2 : Int) (next2 : ((Int × (List T_face_Match)) → Option ((List T_face_Match)))) (x12_2 : Int) (l_3 : (List T_face_Match)) : Option ((List T_face_Match)) :=
  cnd (decide (x12_2 < (a1.length : Int))) (bnd (gAt a1 x12_2) fun t14 =>
  cnd (decide (0 < (t14.Likes.length : Int))) (bnd (face_contains t14.Nots a2) fun t24 =>
  cnd (!t24) (bnd (face_hasPhoto a0 t14 a2) fun t31 =>
  cnd (!t31) (bnd (face_score a0 t14 a2) fun t40 =>
  bnd (gApp 16 l_3 ([(⟨t14.Id, t40⟩ : T_face_Match)] : List T_face_Match)) fun l43 =>
  face_matches_j3 x12_2 next2 l43) (face_matches_j3 x12_2 next2 l_3)) (face_matches_j3 x12_2 next2 l_3)) (face_matches_j3 x12_2 next2 l_3)) (face_matches_j1 l_3)
noncomputable def face_matches (a0 : (List T_face_Likeness)) (a1 : (List T_face_Person)) (a2 : Int) : Option ((List T_face_Match)) :=
  fix (fun next2 s => face_matches_l2 a0 a1 a2 next2 s.1 s.2) (0, ([] : List T_face_Match))

/-! tintype/face.Suggest -/
noncomputable def face_Suggest (a0 : (List T_face_Likeness)) (a1 : (List T_face_Person)) (a2 : Int) : Option ((List T_face_Match) × Int) :=
  bnd (face_CheckPeople a0 a1) fun t14 =>
  cnd (decide (t14 ≠ 0)) (some (([] : List T_face_Match), t14)) (bnd (face_at a0 a2) fun t21 =>
  cnd (!t21.2) (some (([] : List T_face_Match), 7)) (bnd (face_owner a1 a2) fun t28 =>
  cnd (decide (0 ≤ t28)) (some (([] : List T_face_Match), 11)) (bnd (face_matches a0 a1 a2) fun t33 =>
  bnd (gCut t33 0 (min 5 (t33.length : Int))) fun t38 =>
  some (t38, 0))))

/-! tintype/tintref2.OwnerOf$1 -/
noncomputable def R_OwnerOf_1 (q0 : Int) (a0 : T_face_Person) : Option (Bool) :=
  bnd (slices_Contains_int a0.Likes q0) fun t7 =>
  some t7

/-! tintype/tintref2.OwnerOf -/
noncomputable def R_OwnerOf (a0 : (List T_face_Person)) (a1 : Int) : Option (Int) :=
  bnd (slices_IndexFunc_face_Person a0 (R_OwnerOf_1 a1)) fun t7 =>
  some t7

/-! tintype/tintref2.InPhoto$1 -/
noncomputable def R_InPhoto_1 (q0 : (List T_face_Likeness)) (q1 : Int) (a0 : Int) : Option (Bool) :=
  bnd (R_LikeAt q0 a0) fun t8 =>
  bnd (gAt q0 t8) fun t9 =>
  some (decide (t9.Photo = q1))

/-! tintype/tintref2.InPhoto -/
noncomputable def R_InPhoto (a0 : (List T_face_Likeness)) (a1 : T_face_Person) (a2 : Int) : Option (Bool) :=
  bnd (slices_ContainsFunc_int a1.Likes (R_InPhoto_1 a0 a2)) fun t10 =>
  some t10

/-! slices.insertionSortCmpFunc[tintype/face.Match] -/
noncomputable def slices_insertionSortCmpFunc_face_Match_j2 (x8_2 : Int) (next1 : ((Int × (List T_face_Match)) → Option ((List T_face_Match)))) (l_3 : (List T_face_Match)) : Option ((List T_face_Match)) :=
  bnd (gI (x8_2 + 1)) fun t16 =>
  next1 (t16, l_3)
noncomputable def slices_insertionSortCmpFunc_face_Match_l3 (a1 : Int) (a3 : (T_face_Match → T_face_Match → Option (Int))) (x8_2 : Int) (next1 : ((Int × (List T_face_Match)) → Option ((List T_face_Match)))) (next3 : ((Int × (List T_face_Match)) → Option ((List T_face_Match)))) (x9_2 : Int) (l_5 : (List T_face_Match)) : Option ((List T_face_Match)) :=
  cnd (decide (a1 < x9_2)) (bnd (gAt l_5 x9_2) fun t25 =>
  bnd (gI (x9_2 - 1)) fun t29 =>
  bnd (gAt l_5 t29) fun t30 =>
  bnd (a3 t25 t30) fun t32 =>
  cnd (decide (t32 < 0)) (bnd (gI (x9_2 - 1)) fun t41 =>
  bnd (gI (x9_2 - 1)) fun t44 =>
  bnd (gAt l_5 t44) fun t45 =>
  bnd (gAt l_5 x9_2) fun t49 =>
  bnd (gAt l_5 x9_2) fun t51 =>
  bnd (gSet l_5 x9_2 t45) fun l0 =>
  bnd (gAt l0 t41) fun t52 =>
  bnd (gSet l0 t41 t49) fun l0_2 =>
  bnd (gI (x9_2 - 1)) fun t36 =>
  next3 (t36, l0_2)) (slices_insertionSortCmpFunc_face_Match_j2 x8_2 next1 l_5)) (slices_insertionSortCmpFunc_face_Match_j2 x8_2 next1 l_5)
noncomputable def slices_insertionSortCmpFunc_face_Match_l1 (a1 : Int) (a2 : Int) (a3 : (T_face_Match → T_face_Match → Option (Int))) (next1 : ((Int × (List T_face_Match)) → Option ((List T_face_Match)))) (x8_2 : Int) (l_2 : (List T_face_Match)) : Option ((List T_face_Match)) :=
  cnd (decide (x8_2 < a2)) (fix (fun next3 s => slices_insertionSortCmpFunc_face_Match_l3 a1 a3 x8_2 next1 next3 s.1 s.2) (x8_2, l_2)) (some l_2)
noncomputable def slices_insertionSortCmpFunc_face_Match (a0 : (List T_face_Match)) (a1 : Int) (a2 : Int) (a3 : (T_face_Match → T_face_Match → Option (Int))) : Option ((List T_face_Match)) :=
  bnd (gI (a1 + 1)) fun t11 =>
  fix (fun next1 s => slices_insertionSortCmpFunc_face_Match_l1 a1 a2 a3 next1 s.1 s.2) (t11, a0)

/-! slices.swapRangeCmpFunc[tintype/face.Match] -/
noncomputable def slices_swapRangeCmpFunc_face_Match_l1 (a1 : Int) (a2 : Int) (a3 : Int) (next1 : ((Int × (List T_face_Match)) → Option ((List T_face_Match)))) (x10_2 : Int) (l_2 : (List T_face_Match)) : Option ((List T_face_Match)) :=
  cnd (decide (x10_2 < a3)) (bnd (gI (a1 + x10_2)) fun t19 =>
  bnd (gI (a2 + x10_2)) fun t23 =>
  bnd (gI (a2 + x10_2)) fun t27 =>
  bnd (gAt l_2 t27) fun t28 =>
  bnd (gI (a1 + x10_2)) fun t33 =>
  bnd (gAt l_2 t33) fun t34 =>
  bnd (gAt l_2 t19) fun t36 =>
  bnd (gSet l_2 t19 t28) fun l0 =>
  bnd (gAt l0 t23) fun t37 =>
  bnd (gSet l0 t23 t34) fun l0_2 =>
  bnd (gI (x10_2 + 1)) fun t15 =>
  next1 (t15, l0_2)) (some l_2)
noncomputable def slices_swapRangeCmpFunc_face_Match (a0 : (List T_face_Match)) (a1 : Int) (a2 : Int) (a3 : Int) (a4 : (T_face_Match → T_face_Match → Option (Int))) : Option ((List T_face_Match)) :=
  fix (fun next1 s => slices_swapRangeCmpFunc_face_Match_l1 a1 a2 a3 next1 s.1 s.2) (0, a0)

/-! slices.rotateCmpFunc[tintype/face.Match] -/
noncomputable def slices_rotateCmpFunc_face_Match_j1 (a2 : Int) (a4 : (T_face_Match → T_face_Match → Option (Int))) (x10 : Int) (l : (List T_face_Match)) : Option ((List T_face_Match)) :=
  bnd (gI (a2 - x10)) fun t53 =>
  bnd (slices_swapRangeCmpFunc_face_Match l t53 a2 x10 a4) fun t57 =>
  some t57
noncomputable def slices_rotateCmpFunc_face_Match_l2 (a2 : Int) (a4 : (T_face_Match → T_face_Match → Option (Int))) (next2 : ((Int × Int × (List T_face_Match)) → Option ((List T_face_Match)))) (x10_3 : Int) (x11_2 : Int) (l_3 : (List T_face_Match)) : Option ((List T_face_Match)) :=
  cnd (decide (x10_3 ≠ x11_2)) (cnd (decide (x11_2 < x10_3)) (bnd (gI (a2 - x10_3)) fun t27 =>
  bnd (slices_swapRangeCmpFunc_face_Match l_3 t27 a2 x11_2 a4) fun t31 =>
  bnd (gI (x10_3 - x11_2)) fun t34 =>
  next2 (t34, x11_2, t31)) (bnd (gI (a2 - x10_3)) fun t38 =>
  bnd (gI (a2 + x11_2)) fun t41 =>
  bnd (gI (t41 - x10_3)) fun t43 =>
  bnd (slices_swapRangeCmpFunc_face_Match l_3 t38 t43 x10_3 a4) fun t46 =>
  bnd (gI (x11_2 - x10_3)) fun t49 =>
  next2 (x10_3, t49, t46))) (slices_rotateCmpFunc_face_Match_j1 a2 a4 x10_3 l_3)
noncomputable def slices_rotateCmpFunc_face_Match (a0 : (List T_face_Match)) (a1 : Int) (a2 : Int) (a3 : Int) (a4 : (T_face_Match → T_face_Match → Option (Int))) : Option ((List T_face_Match)) :=
  bnd (gI (a2 - a1)) fun t14 =>
  bnd (gI (a3 - a2)) fun t17 =>
  fix (fun next2 s => slices_rotateCmpFunc_face_Match_l2 a2 a4 next2 s.1 s.2.1 s.2.2) (t14, t17, a0)

/-! slices.symMergeCmpFunc[tintype/face.Match] -/
noncomputable def slices_symMergeCmpFunc_face_Match_j6 (a3 : Int) (a4 : (T_face_Match → T_face_Match → Option (Int))) (self : ((List T_face_Match) × Int × Int × Int × (T_face_Match → T_face_Match → Option (Int))) → Option ((List T_face_Match))) (t133 : Int) (t177 : Int) (l_2 : (List T_face_Match)) : Option ((List T_face_Match)) :=
  cnd (decide ((wI64 t133) < t177)) (cnd (decide (t177 < a3)) (bnd (self (l_2, (wI64 t133), t177, a3, a4)) fun t219 =>
  some t219) (some l_2)) (some l_2)
noncomputable def slices_symMergeCmpFunc_face_Match_j5 (a1 : Int) (a3 : Int) (a4 : (T_face_Match → T_face_Match → Option (Int))) (self : ((List T_face_Match) × Int × Int × Int × (T_face_Match → T_face_Match → Option (Int))) → Option ((List T_face_Match))) (t133 : Int) (x20_2 : Int) (t177 : Int) (l : (List T_face_Match)) : Option ((List T_face_Match)) :=
  cnd (decide (a1 < x20_2)) (cnd (decide (x20_2 < (wI64 t133))) (bnd (self (l, a1, x20_2, (wI64 t133), a4)) fun t205 =>
  slices_symMergeCmpFunc_face_Match_j6 a3 a4 self t133 t177 t205) (slices_symMergeCmpFunc_face_Match_j6 a3 a4 self t133 t177 l)) (slices_symMergeCmpFunc_face_Match_j6 a3 a4 self t133 t177 l)
noncomputable def slices_symMergeCmpFunc_face_Match_j4 (a0 : (List T_face_Match)) (a1 : Int) (a2 : Int) (a3 : Int) (a4 : (T_face_Match → T_face_Match → Option (Int))) (self : ((List T_face_Match) × Int × Int × Int × (T_face_Match → T_face_Match → Option (Int))) → Option ((List T_face_Match))) (t133 : Int) (t137 : Int) (x20_2 : Int) : Option ((List T_face_Match)) :=
  bnd (gI (t137 - x20_2)) fun t177 =>
  cnd (decide (x20_2 < a2)) (cnd (decide (a2 < t177)) (bnd (slices_rotateCmpFunc_face_Match a0 x20_2 a2 t177 a4) fun t191 =>
  slices_symMergeCmpFunc_face_Match_j5 a1 a3 a4 self t133 x20_2 t177 t191) (slices_symMergeCmpFunc_face_Match_j5 a1 a3 a4 self t133 x20_2 t177 a0)) (slices_symMergeCmpFunc_face_Match_j5 a1 a3 a4 self t133 x20_2 t177 a0)
noncomputable def slices_symMergeCmpFunc_face_Match_l7 (a0 : (List T_face_Match)) (a1 : Int) (a2 : Int) (a3 : Int) (a4 : (T_face_Match → T_face_Match → Option (Int))) (self : ((List T_face_Match) × Int × Int × Int × (T_face_Match → T_face_Match → Option (Int))) → Option ((List T_face_Match))) (t133 : Int) (t137 : Int) (t148 : Int) (next7 : ((Int × Int) → Option ((List T_face_Match)))) (x20_4 : Int) (x21_3 : Int) : Option ((List T_face_Match)) :=
  cnd (decide (x20_4 < x21_3)) (bnd (gI (x20_4 + x21_3)) fun t154 =>
  bnd (gShr 64 (wU64 t154) 1) fun t156 =>
  bnd (gI (t148 - (wI64 t156))) fun t162 =>
  bnd (gAt a0 t162) fun t163 =>
  bnd (gAt a0 (wI64 t156)) fun t167 =>
  bnd (a4 t163 t167) fun t169 =>
  cnd (!(decide (t169 < 0))) (bnd (gI ((wI64 t156) + 1)) fun t173 =>
  next7 (t173, x21_3)) (next7 (x20_4, (wI64 t156)))) (slices_symMergeCmpFunc_face_Match_j4 a0 a1 a2 a3 a4 self t133 t137 x20_4)
noncomputable def slices_symMergeCmpFunc_face_Match_j3 (a0 : (List T_face_Match)) (a1 : Int) (a2 : Int) (a3 : Int) (a4 : (T_face_Match → T_face_Match → Option (Int))) (self : ((List T_face_Match) × Int × Int × Int × (T_face_Match → T_face_Match → Option (Int))) → Option ((List T_face_Match))) (t133 : Int) (t137 : Int) (x20 : Int) (x21 : Int) : Option ((List T_face_Match)) :=
  bnd (gI (t137 - 1)) fun t148 =>
  fix (fun next7 s => slices_symMergeCmpFunc_face_Match_l7 a0 a1 a2 a3 a4 self t133 t137 t148 next7 s.1 s.2) (x20, x21)
noncomputable def slices_symMergeCmpFunc_face_Match_j2 (a0 : (List T_face_Match)) (a1 : Int) (a2 : Int) (a3 : Int) (a4 : (T_face_Match → T_face_Match → Option (Int))) (self : ((List T_face_Match) × Int × Int × Int × (T_face_Match → T_face_Match → Option (Int))) → Option ((List T_face_Match))) : Option ((List T_face_Match)) :=
  bnd (gI (a1 + a3)) fun t131 =>
  bnd (gShr 64 (wU64 t131) 1) fun t133 =>
  bnd (gI ((wI64 t133) + a2)) fun t137 =>
  cnd (decide ((wI64 t133) < a2)) (bnd (gI (t137 - a3)) fun t143 =>
  slices_symMergeCmpFunc_face_Match_j3 a0 a1 a2 a3 a4 self t133 t137 t143 (wI64 t133)) (slices_symMergeCmpFunc_face_Match_j3 a0 a1 a2 a3 a4 self t133 t137 a1 a2)
noncomputable def slices_symMergeCmpFunc_face_Match_l9 (x14 : Int) (next9 : ((Int × (List T_face_Match)) → Option ((List T_face_Match)))) (x17_2 : Int) (l_4 : (List T_face_Match)) : Option ((List T_face_Match)) :=
  cnd (decide (x14 < x17_2)) (bnd (gI (x17_2 - 1)) fun t117 =>
  bnd (gI (x17_2 - 1)) fun t120 =>
  bnd (gAt l_4 t120) fun t121 =>
  bnd (gAt l_4 x17_2) fun t125 =>
  bnd (gAt l_4 x17_2) fun t127 =>
  bnd (gSet l_4 x17_2 t121) fun l0 =>
  bnd (gAt l0 t117) fun t128 =>
  bnd (gSet l0 t117 t125) fun l0_2 =>
  bnd (gI (x17_2 - 1)) fun t112 =>
  next9 (t112, l0_2)) (some l_4)
noncomputable def slices_symMergeCmpFunc_face_Match_j8 (a0 : (List T_face_Match)) (a2 : Int) (x14 : Int) : Option ((List T_face_Match)) :=
  fix (fun next9 s => slices_symMergeCmpFunc_face_Match_l9 x14 next9 s.1 s.2) (a2, a0)
noncomputable def slices_symMergeCmpFunc_face_Match_l10 (a0 : (List T_face_Match)) (a2 : Int) (a4 : (T_face_Match → T_face_Match → Option (Int))) (next10 : ((Int × Int) → Option ((List T_face_Match)))) (x14_3 : Int) (x15_2 : Int) : Option ((List T_face_Match)) :=
  cnd (decide (x14_3 < x15_2)) (bnd (gI (x14_3 + x15_2)) fun t88 =>
  bnd (gShr 64 (wU64 t88) 1) fun t90 =>
  bnd (gAt a0 a2) fun t95 =>
  bnd (gAt a0 (wI64 t90)) fun t99 =>
  bnd (a4 t95 t99) fun t101 =>
  cnd (!(decide (t101 < 0))) (bnd (gI ((wI64 t90) + 1)) fun t105 =>
  next10 (t105, x15_2)) (next10 (x14_3, (wI64 t90)))) (slices_symMergeCmpFunc_face_Match_j8 a0 a2 x14_3)
noncomputable def slices_symMergeCmpFunc_face_Match_j1 (a0 : (List T_face_Match)) (a1 : Int) (a2 : Int) (a3 : Int) (a4 : (T_face_Match → T_face_Match → Option (Int))) (self : ((List T_face_Match) × Int × Int × Int × (T_face_Match → T_face_Match → Option (Int))) → Option ((List T_face_Match))) : Option ((List T_face_Match)) :=
  bnd (gI (a3 - a2)) fun t79 =>
  cnd (decide (t79 = 1)) (fix (fun next10 s => slices_symMergeCmpFunc_face_Match_l10 a0 a2 a4 next10 s.1 s.2) (a1, a2)) (slices_symMergeCmpFunc_face_Match_j2 a0 a1 a2 a3 a4 self)
noncomputable def slices_symMergeCmpFunc_face_Match_l12 (x10 : Int) (next12 : ((Int × (List T_face_Match)) → Option ((List T_face_Match)))) (x13_2 : Int) (l_6 : (List T_face_Match)) : Option ((List T_face_Match)) :=
  bnd (gI (x10 - 1)) fun t57 =>
  cnd (decide (x13_2 < t57)) (bnd (gI (x13_2 + 1)) fun t65 =>
  bnd (gI (x13_2 + 1)) fun t68 =>
  bnd (gAt l_6 t68) fun t69 =>
  bnd (gAt l_6 x13_2) fun t73 =>
  bnd (gAt l_6 x13_2) fun t75 =>
  bnd (gSet l_6 x13_2 t69) fun l0_3 =>
  bnd (gAt l0_3 t65) fun t76 =>
  bnd (gSet l0_3 t65 t73) fun l0_4 =>
  bnd (gI (x13_2 + 1)) fun t60 =>
  next12 (t60, l0_4)) (some l_6)
noncomputable def slices_symMergeCmpFunc_face_Match_j11 (a0 : (List T_face_Match)) (a1 : Int) (x10 : Int) : Option ((List T_face_Match)) :=
  fix (fun next12 s => slices_symMergeCmpFunc_face_Match_l12 x10 next12 s.1 s.2) (a1, a0)
noncomputable def slices_symMergeCmpFunc_face_Match_l13 (a0 : (List T_face_Match)) (a1 : Int) (a4 : (T_face_Match → T_face_Match → Option (Int))) (next13 : ((Int × Int) → Option ((List T_face_Match)))) (x10_3 : Int) (x11_2 : Int) : Option ((List T_face_Match)) :=
  cnd (decide (x10_3 < x11_2)) (bnd (gI (x10_3 + x11_2)) fun t36 =>
  bnd (gShr 64 (wU64 t36) 1) fun t38 =>
  bnd (gAt a0 (wI64 t38)) fun t43 =>
  bnd (gAt a0 a1) fun t47 =>
  bnd (a4 t43 t47) fun t49 =>
  cnd (decide (t49 < 0)) (bnd (gI ((wI64 t38) + 1)) fun t52 =>
  next13 (t52, x11_2)) (next13 (x10_3, (wI64 t38)))) (slices_symMergeCmpFunc_face_Match_j11 a0 a1 x10_3)
noncomputable def slices_symMergeCmpFunc_face_Match_body (self : ((List T_face_Match) × Int × Int × Int × (T_face_Match → T_face_Match → Option (Int))) → Option ((List T_face_Match))) (a0 : (List T_face_Match)) (a1 : Int) (a2 : Int) (a3 : Int) (a4 : (T_face_Match → T_face_Match → Option (Int))) : Option ((List T_face_Match)) :=
  bnd (gI (a2 - a1)) fun t27 =>
  cnd (decide (t27 = 1)) (fix (fun next13 s => slices_symMergeCmpFunc_face_Match_l13 a0 a1 a4 next13 s.1 s.2) (a2, a3)) (slices_symMergeCmpFunc_face_Match_j1 a0 a1 a2 a3 a4 self)
noncomputable def slices_symMergeCmpFunc_face_Match (a0 : (List T_face_Match)) (a1 : Int) (a2 : Int) (a3 : Int) (a4 : (T_face_Match → T_face_Match → Option (Int))) : Option ((List T_face_Match)) :=
  fix (fun (self : ((List T_face_Match) × Int × Int × Int × (T_face_Match → T_face_Match → Option (Int))) → Option ((List T_face_Match))) (s : (List T_face_Match) × Int × Int × Int × (T_face_Match → T_face_Match → Option (Int))) => slices_symMergeCmpFunc_face_Match_body self s.1 s.2.1 s.2.2.1 s.2.2.2.1 s.2.2.2.2) (a0, a1, a2, a3, a4)

/-! slices.stableCmpFunc[tintype/face.Match] -/
noncomputable def slices_stableCmpFunc_face_Match_j4 (x6_2 : Int) (next2 : ((Int × (List T_face_Match)) → Option ((List T_face_Match)))) (l_5 : (List T_face_Match)) : Option ((List T_face_Match)) :=
  bnd (gI (x6_2 * 2)) fun t62 =>
  next2 (t62, l_5)
noncomputable def slices_stableCmpFunc_face_Match_j3 (a1 : Int) (a2 : (T_face_Match → T_face_Match → Option (Int))) (x6_2 : Int) (next2 : ((Int × (List T_face_Match)) → Option ((List T_face_Match)))) (x7_2 : Int) (l_4 : (List T_face_Match)) : Option ((List T_face_Match)) :=
  bnd (gI (x7_2 + x6_2)) fun t51 =>
  cnd (decide (t51 < a1)) (bnd (slices_symMergeCmpFunc_face_Match l_4 x7_2 t51 a1 a2) fun t60 =>
  slices_stableCmpFunc_face_Match_j4 x6_2 next2 t60) (slices_stableCmpFunc_face_Match_j4 x6_2 next2 l_4)
noncomputable def slices_stableCmpFunc_face_Match_l5 (a1 : Int) (a2 : (T_face_Match → T_face_Match → Option (Int))) (x6_2 : Int) (next2 : ((Int × (List T_face_Match)) → Option ((List T_face_Match)))) (next5 : ((Int × Int × (List T_face_Match)) → Option ((List T_face_Match)))) (x7_4 : Int) (x8_2 : Int) (l_7 : (List T_face_Match)) : Option ((List T_face_Match)) :=
  cnd (decide (x8_2 ≤ a1)) (bnd (gI (x7_4 + x6_2)) fun t40 =>
  bnd (slices_symMergeCmpFunc_face_Match l_7 x7_4 t40 x8_2 a2) fun t43 =>
  bnd (gI (2 * x6_2)) fun t47 =>
  bnd (gI (x8_2 + t47)) fun t48 =>
  next5 (x8_2, t48, t43)) (slices_stableCmpFunc_face_Match_j3 a1 a2 x6_2 next2 x7_4 l_7)
noncomputable def slices_stableCmpFunc_face_Match_l2 (a1 : Int) (a2 : (T_face_Match → T_face_Match → Option (Int))) (next2 : ((Int × (List T_face_Match)) → Option ((List T_face_Match)))) (x6_2 : Int) (l_3 : (List T_face_Match)) : Option ((List T_face_Match)) :=
  cnd (decide (x6_2 < a1)) (bnd (gI (2 * x6_2)) fun t32 =>
  fix (fun next5 s => slices_stableCmpFunc_face_Match_l5 a1 a2 x6_2 next2 next5 s.1 s.2.1 s.2.2) (0, t32, l_3)) (some l_3)
noncomputable def slices_stableCmpFunc_face_Match_j1 (a1 : Int) (a2 : (T_face_Match → T_face_Match → Option (Int))) (x7 : Int) (l : (List T_face_Match)) : Option ((List T_face_Match)) :=
  bnd (slices_insertionSortCmpFunc_face_Match l x7 a1 a2) fun t27 =>
  fix (fun next2 s => slices_stableCmpFunc_face_Match_l2 a1 a2 next2 s.1 s.2) (20, t27)
noncomputable def slices_stableCmpFunc_face_Match_l6 (a1 : Int) (a2 : (T_face_Match → T_face_Match → Option (Int))) (next6 : ((Int × Int × (List T_face_Match)) → Option ((List T_face_Match)))) (x7_6 : Int) (x8_4 : Int) (l_9 : (List T_face_Match)) : Option ((List T_face_Match)) :=
  cnd (decide (x8_4 ≤ a1)) (bnd (slices_insertionSortCmpFunc_face_Match l_9 x7_6 x8_4 a2) fun t18 =>
  bnd (gI (x8_4 + 20)) fun t22 =>
  next6 (x8_4, t22, t18)) (slices_stableCmpFunc_face_Match_j1 a1 a2 x7_6 l_9)
noncomputable def slices_stableCmpFunc_face_Match (a0 : (List T_face_Match)) (a1 : Int) (a2 : (T_face_Match → T_face_Match → Option (Int))) : Option ((List T_face_Match)) :=
  fix (fun next6 s => slices_stableCmpFunc_face_Match_l6 a1 a2 next6 s.1 s.2.1 s.2.2) (0, 20, a0)

/-! slices.SortStableFunc[[]tintype/face.Match,tintype/face.Match] -/
noncomputable def slices_SortStableFunc_face_Match (a0 : (List T_face_Match)) (a1 : (T_face_Match → T_face_Match → Option (Int))) : Option ((List T_face_Match)) :=
  bnd (slices_stableCmpFunc_face_Match a0 (a0.length : Int) a1) fun t8 =>
  some t8

/-! tintype/tintref2.matches$1 -/
noncomputable def R_matches_1 (a0 : T_face_Match) (a1 : T_face_Match) : Option (Int) :=
  bnd (cmp_Compare_int a0.Far a1.Far) fun t9 =>
  some t9

/-! tintype/tintref2.matches -/
noncomputable def R_matches_j1 (l : (List T_face_Match)) : Option ((List T_face_Match)) :=
  bnd (slices_SortStableFunc_face_Match l R_matches_1) fun t52 =>
  some t52
noncomputable def R_matches_j3 (x12_2 : Int) (next2 : ((Int × (List T_face_Match)) → Option ((List T_face_Match)))) (l_4 : (List T_face_Match)) : Option ((List T_face_Match)) :=
  bnd (gI (x12_2 + 1)) fun t50 =>
  next2 (t50, l_4)
noncomputable def R_matches_l2 (a0 : (List T_face_Likeness)) (a1 : (List T_face_Person)) (a2 : Int) (next2 : ((Int × (List T_face_Match)) → Option ((List T_face_Match)))) (x12_2 : Int) (l_3 : (List T_face_Match)) : Option ((List T_face_Match)) :=
  cnd (decide (x12_2 < (a1.length : Int))) (bnd (gAt a1 x12_2) fun t14 =>
  cnd (decide (0 < (t14.Likes.length : Int))) (bnd (slices_Contains_int t14.Nots a2) fun t24 =>
  cnd (!t24) (bnd (R_LikeAt a0 a2) fun t33 =>
  bnd (gAt a0 t33) fun t34 =>
  bnd (R_InPhoto a0 t14 t34.Photo) fun t37 =>
  cnd (!t37) (bnd (R_ScoreOf a0 t14 a2) fun t46 =>
  bnd (gApp 16 l_3 ([(⟨t14.Id, t46⟩ : T_face_Match)] : List T_face_Match)) fun l49 =>
  R_matches_j3 x12_2 next2 l49) (R_matches_j3 x12_2 next2 l_3)) (R_matches_j3 x12_2 next2 l_3)) (R_matches_j3 x12_2 next2 l_3)) (R_matches_j1 l_3)
noncomputable def R_matches (a0 : (List T_face_Likeness)) (a1 : (List T_face_Person)) (a2 : Int) : Option ((List T_face_Match)) :=
  fix (fun next2 s => R_matches_l2 a0 a1 a2 next2 s.1 s.2) (0, ([] : List T_face_Match))

/-! tintype/tintref2.SuggestOf -/
noncomputable def R_SuggestOf (a0 : (List T_face_Likeness)) (a1 : (List T_face_Person)) (a2 : Int) : Option ((List T_face_Match) × Int) :=
  bnd (R_LikeAt a0 a2) fun t12 =>
  cnd (decide (t12 < 0)) (some (([] : List T_face_Match), 7)) (bnd (R_OwnerOf a1 a2) fun t17 =>
  cnd (decide (0 ≤ t17)) (some (([] : List T_face_Match), 11)) (bnd (R_matches a0 a1 a2) fun t22 =>
  bnd (gCut t22 0 (min (t22.length : Int) 5)) fun t27 =>
  some (t27, 0)))

/-! slices.Equal[[]tintype/face.Match,tintype/face.Match] -/
noncomputable def slices_Equal_face_Match_l1 (a0 : (List T_face_Match)) (a1 : (List T_face_Match)) (next1 : ((Int) → Option (Bool))) (x13_2 : Int) : Option (Bool) :=
  cnd (decide (x13_2 < (a0.length : Int))) (bnd (gAt a0 x13_2) fun t18 =>
  bnd (gAt a1 x13_2) fun t22 =>
  cnd (!(eq_face_Match t18 t22)) (some false) (bnd (gI (x13_2 + 1)) fun t25 =>
  next1 t25)) (some true)
noncomputable def slices_Equal_face_Match (a0 : (List T_face_Match)) (a1 : (List T_face_Match)) : Option (Bool) :=
  cnd (decide ((a0.length : Int) ≠ (a1.length : Int))) (some false) (fix (fun next1 s => slices_Equal_face_Match_l1 a0 a1 next1 s) 0)

/-! tintype/tintlaw2.listed[tintype/face.Match] -/
noncomputable def Law_listed_face_Match_j1 (a0 : (List T_face_Match)) (a1 : Int) (a3 : Int) (x2 : (List T_face_Match)) : Option (Bool) :=
  bnd (slices_Equal_face_Match a0 x2) fun t13 =>
  cnd t13 (some (decide (a1 = a3))) (some false)
noncomputable def Law_listed_face_Match (a0 : (List T_face_Match)) (a1 : Int) (a2 : (List T_face_Match)) (a3 : Int) : Option (Bool) :=
  cnd (decide (a3 ≠ 0)) (Law_listed_face_Match_j1 a0 a1 a3 ([] : (List T_face_Match))) (Law_listed_face_Match_j1 a0 a1 a3 a2)

/-! tintype/tintlaw2.FacePeople -/
noncomputable def Law_FacePeople_j3 (a0 : (List T_face_Likeness)) (a1 : (List T_face_Person)) (x7 : Int) (t70 : ((List T_face_Match) × Int)) (x17 : Int) (l : (List T_face_Match)) : Option (Bool) :=
  bnd (face_CheckPeople a0 a1) fun t85 =>
  cnd (decide (t85 = x7)) (bnd (Law_listed_face_Match t70.1 t70.2 l x17) fun t93 =>
  some t93) (some false)
noncomputable def Law_FacePeople_j2 (a0 : (List T_face_Likeness)) (a1 : (List T_face_Person)) (a2 : Int) (x7 : Int) : Option (Bool) :=
  bnd (face_Suggest a0 a1 a2) fun t70 =>
  cnd (decide (x7 = 0)) (bnd (R_SuggestOf a0 a1 a2) fun t80 =>
  Law_FacePeople_j3 a0 a1 x7 t70 t80.2 t80.1) (Law_FacePeople_j3 a0 a1 x7 t70 x7 ([] : List T_face_Match))
noncomputable def Law_FacePeople_j1 (a0 : (List T_face_Likeness)) (a1 : (List T_face_Person)) (a2 : Int) (t19 : (Int)) : Option (Bool) :=
  cnd (decide (t19 = 0)) (bnd (R_PeopleFault a0 a1) fun t65 =>
  Law_FacePeople_j2 a0 a1 a2 t65) (Law_FacePeople_j2 a0 a1 a2 t19)
noncomputable def Law_FacePeople_j6 (x22_2 : Int) (next4 : ((Int) → Option (Bool))) (t30 : (Int × Int)) (x12 : Int) (x13 : Int) : Option (Bool) :=
  bnd (Law_told_int t30.1 t30.2 x13 x12) fun t58 =>
  cnd (!t58) (some false) (bnd (gI (x22_2 + 1)) fun t60 =>
  next4 t60)
noncomputable def Law_FacePeople_j5 (a0 : (List T_face_Likeness)) (a2 : Int) (x22_2 : Int) (next4 : ((Int) → Option (Bool))) (t24 : T_face_Person) (t30 : (Int × Int)) (x12 : Int) : Option (Bool) :=
  cnd (decide (x12 = 0)) (bnd (R_ScoreOf a0 t24 a2) fun t53 =>
  Law_FacePeople_j6 x22_2 next4 t30 x12 t53) (Law_FacePeople_j6 x22_2 next4 t30 x12 0)
noncomputable def Law_FacePeople_l4 (a0 : (List T_face_Likeness)) (a1 : (List T_face_Person)) (a2 : Int) (t19 : (Int)) (next4 : ((Int) → Option (Bool))) (x22_2 : Int) : Option (Bool) :=
  cnd (decide (x22_2 < (a1.length : Int))) (bnd (gAt a1 x22_2) fun t24 =>
  bnd (face_Score a0 t24 a2) fun t30 =>
  cnd (decide (t19 = 0)) (bnd (R_LikeAt a0 a2) fun t39 =>
  cnd (decide (t39 < 0)) (Law_FacePeople_j5 a0 a2 x22_2 next4 t24 t30 7) (bnd (slices_ContainsFunc_int t24.Likes (Law_FacePeople_1 a0)) fun t45 =>
  cnd t45 (Law_FacePeople_j5 a0 a2 x22_2 next4 t24 t30 7) (Law_FacePeople_j5 a0 a2 x22_2 next4 t24 t30 t19))) (Law_FacePeople_j5 a0 a2 x22_2 next4 t24 t30 t19)) (Law_FacePeople_j1 a0 a1 a2 t19)
noncomputable def Law_FacePeople (a0 : (List T_face_Likeness)) (a1 : (List T_face_Person)) (a2 : Int) : Option (Bool) :=
  bnd (R_LikesFault a0) fun t19 =>
  fix (fun next4 s => Law_FacePeople_l4 a0 a1 a2 t19 next4 s) 0

end Go.M
