/- FaceSplits: the models, printed by our generator from the compiled program. Conditions: none. -/
import Derived.Test.YthhaabhnlndnoaaGreatMd7
namespace Go.M
open Go.Md
set_option maxRecDepth 100000
set_option linter.unusedVariables false

structure T_face_Likeness where
  Id : Int
  Photo : Int
  Vec : (Nat → Int)
instance : Inhabited T_face_Likeness := ⟨⟨0, 0, fun _ => 0⟩⟩

structure T_face_Person where
  Id : Int
  Name : (List UInt8)
  Likes : (List Int)
  Nots : (List Int)
instance : Inhabited T_face_Person := ⟨⟨0, [], [], []⟩⟩

structure T_face_Match where
  Person : Int
  Far : Int
instance : Inhabited T_face_Match := ⟨⟨0, 0⟩⟩

structure T_face_offer where
  id_ : Int
  person_ : Int
  far_ : Int
instance : Inhabited T_face_offer := ⟨⟨0, 0, 0⟩⟩


/-! tintype/face.outside -/
noncomputable def face_outside (a0 : Int) (a1 : Int) (a2 : Int) : Option (Bool) :=
  cnd (decide (a0 < a1)) (some true) (some (decide (a2 < a0)))

/-! tintype/face.CheckVec -/
noncomputable def face_CheckVec_l1 (a0 : (Nat → Int)) (next1 : ((Int) → Option (Int))) (x6_2 : Int) : Option (Int) :=
  cnd (decide (x6_2 < 12)) (bnd (gIx 12 x6_2) fun k8 =>
  bnd (face_outside (a0 k8) (-127) 127) fun t10 =>
  cnd t10 (some 2) (bnd (gI (x6_2 + 1)) fun t11 =>
  next1 t11)) (some 0)
noncomputable def face_CheckVec (a0 : (Nat → Int)) : Option (Int) :=
  fix (fun next1 s => face_CheckVec_l1 a0 next1 s) 0

/-! tintype/face.checkVecs -/
noncomputable def face_checkVecs_l1 (a0 : (List (Nat → Int))) (next1 : ((Int) → Option (Int))) (x8_2 : Int) : Option (Int) :=
  cnd (decide (x8_2 < (a0.length : Int))) (bnd (gAt a0 x8_2) fun t10 =>
  bnd (face_CheckVec t10) fun t13 =>
  cnd (decide (t13 ≠ 0)) (some t13) (bnd (gI (x8_2 + 1)) fun t17 =>
  next1 t17)) (some 0)
noncomputable def face_checkVecs (a0 : (List (Nat → Int))) : Option (Int) :=
  fix (fun next1 s => face_checkVecs_l1 a0 next1 s) 0

/-! tintype/face.far -/
noncomputable def face_far_l1 (a0 : (Nat → Int)) (a1 : (Nat → Int)) (next1 : ((Int × Int) → Option (Int))) (x5_2 : Int) (x9_2 : Int) : Option (Int) :=
  cnd (decide (x9_2 < 12)) (bnd (gIx 12 x9_2) fun k12 =>
  bnd (gIx 12 x9_2) fun k16 =>
  bnd (gI ((a0 k12) - (a1 k16))) fun t18 =>
  bnd (gIx 12 x9_2) fun k21 =>
  bnd (gI ((a0 k12) - (a1 k21))) fun t23 =>
  bnd (gI (t18 * t23)) fun t24 =>
  bnd (gI (x5_2 + t24)) fun t25 =>
  bnd (gI (x9_2 + 1)) fun t26 =>
  next1 (t25, t26)) (some x5_2)
noncomputable def face_far (a0 : (Nat → Int)) (a1 : (Nat → Int)) : Option (Int) :=
  fix (fun next1 s => face_far_l1 a0 a1 next1 s.1 s.2) (0, 0)

/-! tintype/face.Far -/
noncomputable def face_Far (a0 : (Nat → Int)) (a1 : (Nat → Int)) : Option (Int × Int) :=
  bnd (face_checkVecs ([a0, a1] : List (Nat → Int))) fun t10 =>
  cnd (decide (t10 ≠ 0)) (some (0, t10)) (bnd (face_far a0 a1) fun t16 =>
  some (t16, 0))

/-! tintype/tintkeep2.awakeFace -/
noncomputable def Keep_awakeFace  : Option (Bool) :=
  bnd (face_Far (fun _ => 0) (ofL [3, 0, 0, 0, 0, 0, 0, 0, 0, 0, 0, 0])) fun t6 =>
  cnd (decide (t6.2 = 0)) (some (decide (t6.1 = 9))) (some false)

/-! slices.Concat[[]int,int] -/
noncomputable def slices_Concat_int_l2 (a0 : (List (List Int))) (u24 : Nat) (next2 : ((Int × (List Int)) → Option ((List Int)))) (x27_2 : Int) (l_2 : (List Int)) : Option ((List Int)) :=
  cnd (decide (x27_2 < (a0.length : Int))) (bnd (gAt a0 x27_2) fun t29 =>
  bnd (gApC u24 l_2 t29) fun l33 =>
  bnd (gI (x27_2 + 1)) fun t34 =>
  next2 (t34, l33)) (some l_2)
noncomputable def slices_Concat_int_j1 (a0 : (List (List Int))) (x3 : Int) : Option ((List Int)) :=
  bnd (gGroC 8 x3) fun u24 =>
  fix (fun next2 s => slices_Concat_int_l2 a0 u24 next2 s.1 s.2) (0, ([] : List Int))
noncomputable def slices_Concat_int_l3 (a0 : (List (List Int))) (next3 : ((Int × Int) → Option ((List Int)))) (x3_3 : Int) (x11_2 : Int) : Option ((List Int)) :=
  cnd (decide (x11_2 < (a0.length : Int))) (bnd (gAt a0 x11_2) fun t13 =>
  bnd (gI (x3_3 + (t13.length : Int))) fun t18 =>
  cnd (decide (t18 < 0)) (none) (bnd (gI (x11_2 + 1)) fun t22 =>
  next3 (t18, t22))) (slices_Concat_int_j1 a0 x3_3)
noncomputable def slices_Concat_int (a0 : (List (List Int))) : Option ((List Int)) :=
  fix (fun next3 s => slices_Concat_int_l3 a0 next3 s.1 s.2) (0, 0)

/-! tintype/face.with -/
noncomputable def face_with (a0 : (List Int)) (a1 : (List Int)) : Option ((List Int)) :=
  bnd (slices_Concat_int ([a0, a1] : List (List Int))) fun t9 =>
  bnd (gSortI t9) fun t11 =>
  bnd (gCmpI t11) fun t13 =>
  some t13

/-! tintype/face.Check -/
noncomputable def face_Check_j2 (x11_2 : Int) (next1 : ((Int) → Option (Int))) (t14 : T_face_Likeness) : Option (Int) :=
  bnd (face_CheckVec t14.Vec) fun t39 =>
  cnd (decide (t39 ≠ 0)) (some t39) (bnd (gI (x11_2 + 1)) fun t43 =>
  next1 t43)
noncomputable def face_Check_l1 (a0 : (List T_face_Likeness)) (next1 : ((Int) → Option (Int))) (x11_2 : Int) : Option (Int) :=
  cnd (decide (x11_2 < (a0.length : Int))) (bnd (gAt a0 x11_2) fun t14 =>
  bnd (face_outside t14.Id 1 1000000) fun t18 =>
  cnd t18 (some 2) (bnd (face_outside t14.Photo 1 1000000) fun t22 =>
  cnd t22 (some 2) (cnd (decide (0 < x11_2)) (bnd (gI (x11_2 - 1)) fun t31 =>
  bnd (gAt a0 t31) fun t32 =>
  cnd (decide (t14.Id ≤ t32.Id)) (some 5) (face_Check_j2 x11_2 next1 t14)) (face_Check_j2 x11_2 next1 t14)))) (some 0)
noncomputable def face_Check (a0 : (List T_face_Likeness)) : Option (Int) :=
  cnd (decide (300 < (a0.length : Int))) (some 4) (fix (fun next1 s => face_Check_l1 a0 next1 s) 0)

/-! slices.IndexFunc[[]int,int] -/
noncomputable def slices_IndexFunc_int_l1 (a0 : (List Int)) (a1 : (Int → Option (Bool))) (next1 : ((Int) → Option (Int))) (x8_2 : Int) : Option (Int) :=
  cnd (decide (x8_2 < (a0.length : Int))) (bnd (gAt a0 x8_2) fun t14 =>
  bnd (a1 t14) fun t16 =>
  cnd t16 (some x8_2) (bnd (gI (x8_2 + 1)) fun t18 =>
  next1 t18)) (some (-1))
noncomputable def slices_IndexFunc_int (a0 : (List Int)) (a1 : (Int → Option (Bool))) : Option (Int) :=
  fix (fun next1 s => slices_IndexFunc_int_l1 a0 a1 next1 s) 0

/-! slices.ContainsFunc[[]int,int] -/
noncomputable def slices_ContainsFunc_int (a0 : (List Int)) (a1 : (Int → Option (Bool))) : Option (Bool) :=
  bnd (slices_IndexFunc_int a0 a1) fun t7 =>
  some (decide (0 ≤ t7))

/-! slices.IndexFunc[[]byte,byte] -/
noncomputable def slices_IndexFunc_byte_l1 (a0 : (List Int)) (a1 : (Int → Option (Bool))) (next1 : ((Int) → Option (Int))) (x8_2 : Int) : Option (Int) :=
  cnd (decide (x8_2 < (a0.length : Int))) (bnd (gAt a0 x8_2) fun t14 =>
  bnd (a1 t14) fun t16 =>
  cnd t16 (some x8_2) (bnd (gI (x8_2 + 1)) fun t18 =>
  next1 t18)) (some (-1))
noncomputable def slices_IndexFunc_byte (a0 : (List Int)) (a1 : (Int → Option (Bool))) : Option (Int) :=
  fix (fun next1 s => slices_IndexFunc_byte_l1 a0 a1 next1 s) 0

/-! slices.ContainsFunc[[]byte,byte] -/
noncomputable def slices_ContainsFunc_byte (a0 : (List Int)) (a1 : (Int → Option (Bool))) : Option (Bool) :=
  bnd (slices_IndexFunc_byte a0 a1) fun t7 =>
  some (decide (0 ≤ t7))

/-! tintype/face.isTitle$1 -/
noncomputable def face_isTitle_1 (a0 : Int) : Option (Bool) :=
  some (decide (a0 < 32))

/-! tintype/face.isTitle -/
noncomputable def face_isTitle (a0 : (List UInt8)) : Option (Bool) :=
  bnd (face_outside (a0.length : Int) 1 60) fun t5 =>
  cnd (!t5) (bnd (gByt a0) fun t9 =>
  bnd (slices_ContainsFunc_byte t9 face_isTitle_1) fun t10 =>
  some (!t10)) (some false)

/-! slices.BinarySearchFunc[[]tintype/face.Likeness,tintype/face.Likeness,int] -/
noncomputable def slices_BinarySearchFunc_face_Likeness_int_j1 (a0 : (List T_face_Likeness)) (a1 : Int) (a2 : (T_face_Likeness → Int → Option (Int))) (x9 : Int) : Option (Int × Bool) :=
  cnd (decide (x9 < (a0.length : Int))) (bnd (gAt a0 x9) fun t43 =>
  bnd (a2 t43 a1) fun t46 =>
  some (x9, (decide (t46 = 0)))) (some (x9, false))
noncomputable def slices_BinarySearchFunc_face_Likeness_int_l2 (a0 : (List T_face_Likeness)) (a1 : Int) (a2 : (T_face_Likeness → Int → Option (Int))) (next2 : ((Int × Int) → Option (Int × Bool))) (x9_3 : Int) (x10_2 : Int) : Option (Int × Bool) :=
  cnd (decide (x9_3 < x10_2)) (bnd (gI (x9_3 + x10_2)) fun t20 =>
  bnd (gShr 64 (wU64 t20) 1) fun t22 =>
  bnd (gAt a0 (wI64 t22)) fun t27 =>
  bnd (a2 t27 a1) fun t30 =>
  cnd (decide (t30 < 0)) (bnd (gI ((wI64 t22) + 1)) fun t33 =>
  next2 (t33, x10_2)) (next2 (x9_3, (wI64 t22)))) (slices_BinarySearchFunc_face_Likeness_int_j1 a0 a1 a2 x9_3)
noncomputable def slices_BinarySearchFunc_face_Likeness_int (a0 : (List T_face_Likeness)) (a1 : Int) (a2 : (T_face_Likeness → Int → Option (Int))) : Option (Int × Bool) :=
  fix (fun next2 s => slices_BinarySearchFunc_face_Likeness_int_l2 a0 a1 a2 next2 s.1 s.2) (0, (a0.length : Int))

/-! tintype/face.at$1 -/
noncomputable def face_at_1 (a0 : T_face_Likeness) (a1 : Int) : Option (Int) :=
  cnd (decide (a0.Id < a1)) (some (-1)) (cnd (decide (a1 < a0.Id)) (some 1) (some 0))

/-! tintype/face.at -/
noncomputable def face_at (a0 : (List T_face_Likeness)) (a1 : Int) : Option (Int × Bool) :=
  bnd (slices_BinarySearchFunc_face_Likeness_int a0 a1 face_at_1) fun t8 =>
  some (t8.1, t8.2)

/-! tintype/face.checkIds -/
noncomputable def face_checkIds_j2 (x11_2 : Int) (next1 : ((Int) → Option (Int))) : Option (Int) :=
  bnd (gI (x11_2 + 1)) fun t35 =>
  next1 t35
noncomputable def face_checkIds_l1 (a0 : (List T_face_Likeness)) (a1 : (List Int)) (next1 : ((Int) → Option (Int))) (x11_2 : Int) : Option (Int) :=
  cnd (decide (x11_2 < (a1.length : Int))) (bnd (gAt a1 x11_2) fun t14 =>
  bnd (face_at a0 t14) fun t19 =>
  cnd (!t19.2) (some 7) (cnd (decide (0 < x11_2)) (bnd (gI (x11_2 - 1)) fun t30 =>
  bnd (gAt a1 t30) fun t31 =>
  cnd (decide (t14 ≤ t31)) (some 5) (face_checkIds_j2 x11_2 next1)) (face_checkIds_j2 x11_2 next1))) (some 0)
noncomputable def face_checkIds (a0 : (List T_face_Likeness)) (a1 : (List Int)) : Option (Int) :=
  fix (fun next1 s => face_checkIds_l1 a0 a1 next1 s) 0

/-! cmp.isNaN[int] -/
noncomputable def cmp_isNaN_int (a0 : Int) : Option (Bool) :=
  some (decide (a0 ≠ a0))

/-! cmp.Less[int] -/
noncomputable def cmp_Less_int (a0 : Int) (a1 : Int) : Option (Bool) :=
  bnd (cmp_isNaN_int a0) fun t6 =>
  cnd t6 (bnd (cmp_isNaN_int a1) fun t9 =>
  cnd (!t9) (some true) (some (decide (a0 < a1)))) (some (decide (a0 < a1)))

/-! slices.isNaN[int] -/
noncomputable def slices_isNaN_int (a0 : Int) : Option (Bool) :=
  some (decide (a0 ≠ a0))

/-! slices.BinarySearch[[]int,int] -/
noncomputable def slices_BinarySearch_int_j1 (a0 : (List Int)) (a1 : Int) (x7 : Int) : Option (Int × Bool) :=
  cnd (decide (x7 < (a0.length : Int))) (bnd (gAt a0 x7) fun t38 =>
  cnd (decide (t38 = a1)) (some (x7, true)) (bnd (gAt a0 x7) fun t45 =>
  bnd (slices_isNaN_int t45) fun t47 =>
  cnd t47 (bnd (slices_isNaN_int a1) fun t50 =>
  some (x7, t50)) (some (x7, false)))) (some (x7, false))
noncomputable def slices_BinarySearch_int_l2 (a0 : (List Int)) (a1 : Int) (next2 : ((Int × Int) → Option (Int × Bool))) (x7_3 : Int) (x8_2 : Int) : Option (Int × Bool) :=
  cnd (decide (x7_3 < x8_2)) (bnd (gI (x7_3 + x8_2)) fun t18 =>
  bnd (gShr 64 (wU64 t18) 1) fun t20 =>
  bnd (gAt a0 (wI64 t20)) fun t24 =>
  bnd (cmp_Less_int t24 a1) fun t27 =>
  cnd t27 (bnd (gI ((wI64 t20) + 1)) fun t29 =>
  next2 (t29, x8_2)) (next2 (x7_3, (wI64 t20)))) (slices_BinarySearch_int_j1 a0 a1 x7_3)
noncomputable def slices_BinarySearch_int (a0 : (List Int)) (a1 : Int) : Option (Int × Bool) :=
  fix (fun next2 s => slices_BinarySearch_int_l2 a0 a1 next2 s.1 s.2) (0, (a0.length : Int))

/-! tintype/face.contains -/
noncomputable def face_contains (a0 : (List Int)) (a1 : Int) : Option (Bool) :=
  bnd (slices_BinarySearch_int a0 a1) fun t10 =>
  some t10.2

/-! tintype/face.checkPerson$1 -/
noncomputable def face_checkPerson_1 (q0 : T_face_Person) (a0 : Int) : Option (Bool) :=
  bnd (face_contains q0.Nots a0) fun t7 =>
  some t7

/-! tintype/face.checkPerson -/
noncomputable def face_checkPerson_j1 (a1 : T_face_Person) : Option (Int) :=
  bnd (slices_ContainsFunc_int a1.Likes (face_checkPerson_1 a1)) fun t32 =>
  cnd t32 (some 11) (some 0)
noncomputable def face_checkPerson_l2 (a0 : (List T_face_Likeness)) (a1 : T_face_Person) (next2 : ((Int) → Option (Int))) (x18_2 : Int) : Option (Int) :=
  cnd (decide (x18_2 < 2)) (bnd (gAt ([a1.Likes, a1.Nots] : List (List Int)) x18_2) fun t20 =>
  bnd (face_checkIds a0 t20) fun t24 =>
  cnd (decide (t24 ≠ 0)) (some t24) (bnd (gI (x18_2 + 1)) fun t28 =>
  next2 t28)) (face_checkPerson_j1 a1)
noncomputable def face_checkPerson (a0 : (List T_face_Likeness)) (a1 : T_face_Person) : Option (Int) :=
  bnd (face_isTitle a1.Name) fun t10 =>
  cnd (!t10) (some 3) (fix (fun next2 s => face_checkPerson_l2 a0 a1 next2 s) 0)

/-! tintype/face.photoOf -/
noncomputable def face_photoOf (a0 : (List T_face_Likeness)) (a1 : Int) : Option (Int) :=
  bnd (face_at a0 a1) fun t10 =>
  bnd (gAt a0 t10.1) fun t15 =>
  some t15.Photo

/-! tintype/face.photosOf -/
noncomputable def face_photosOf_l1 (a0 : (List T_face_Likeness)) (a1 : (List Int)) (next1 : ((Int × (List Int)) → Option ((List Int)))) (x10_2 : Int) (l_2 : (List Int)) : Option ((List Int)) :=
  cnd (decide (x10_2 < (a1.length : Int))) (bnd (gAt a1 x10_2) fun t12 =>
  bnd (face_photoOf a0 t12) fun t17 =>
  bnd (gApp 8 l_2 ([t17] : List Int)) fun l19 =>
  bnd (gI (x10_2 + 1)) fun t20 =>
  next1 (t20, l19)) (some l_2)
noncomputable def face_photosOf (a0 : (List T_face_Likeness)) (a1 : (List Int)) : Option ((List Int)) :=
  fix (fun next1 s => face_photosOf_l1 a0 a1 next1 s.1 s.2) (0, ([] : List Int))

/-! tintype/face.CheckPeople$1 -/
noncomputable def face_CheckPeople_1 (q0 : (List (Int × Bool))) (a0 : Int) : Option (Bool) :=
  some ((mGet q0 a0).getD false)

/-! tintype/face.CheckPeople -/
noncomputable def face_CheckPeople_j2 (x24_2 : Int) (next1 : ((Int × (List (Int × Bool))) → Option (Int))) (x62 : Int) (x64 : Int) (x65 : Bool) (l : (List Int)) (l_2 : (List Int)) (mp_3 : (List (Int × Bool))) : Option (Int) :=
  bnd (gI (x24_2 + 1)) fun t77 =>
  next1 (t77, mp_3)
noncomputable def face_CheckPeople_l4 (x24_2 : Int) (next1 : ((Int × (List (Int × Bool))) → Option (Int))) (t27 : T_face_Person) (t54 : ((List Int))) (t61 : ((List Int))) (next4 : ((Int × (List (Int × Bool))) → Option (Int))) (x70_2 : Int) (mp_5 : (List (Int × Bool))) : Option (Int) :=
  cnd (decide (x70_2 < (t27.Likes.length : Int))) (bnd (gAt t27.Likes x70_2) fun t72 =>
  bnd (gI (x70_2 + 1)) fun t76 =>
  next4 (t76, (mSet mp_5 t72 true))) (face_CheckPeople_j2 x24_2 next1 (t61.length : Int) (t54.length : Int) (decide ((t61.length : Int) < (t54.length : Int))) t54 t61 mp_5)
noncomputable def face_CheckPeople_j3 (a0 : (List T_face_Likeness)) (x24_2 : Int) (mp_2 : (List (Int × Bool))) (next1 : ((Int × (List (Int × Bool))) → Option (Int))) (t27 : T_face_Person) : Option (Int) :=
  bnd (face_checkPerson a0 t27) fun t47 =>
  cnd (decide (t47 ≠ 0)) (some t47) (bnd (face_photosOf a0 t27.Likes) fun t54 =>
  bnd (slices_ContainsFunc_int t27.Likes (face_CheckPeople_1 mp_2)) fun t58 =>
  cnd t58 (some 6) (bnd (face_with t54 ([] : (List Int))) fun t61 =>
  cnd (decide ((t61.length : Int) < (t54.length : Int))) (some 6) (fix (fun next4 s => face_CheckPeople_l4 x24_2 next1 t27 t54 t61 next4 s.1 s.2) (0, mp_2))))
noncomputable def face_CheckPeople_l1 (a0 : (List T_face_Likeness)) (a1 : (List T_face_Person)) (next1 : ((Int × (List (Int × Bool))) → Option (Int))) (x24_2 : Int) (mp_2 : (List (Int × Bool))) : Option (Int) :=
  cnd (decide (x24_2 < (a1.length : Int))) (bnd (gAt a1 x24_2) fun t27 =>
  bnd (face_outside t27.Id 1 1000000) fun t31 =>
  cnd t31 (some 2) (cnd (decide (0 < x24_2)) (bnd (gI (x24_2 - 1)) fun t39 =>
  bnd (gAt a1 t39) fun t40 =>
  cnd (decide (t27.Id ≤ t40.Id)) (some 5) (face_CheckPeople_j3 a0 x24_2 mp_2 next1 t27)) (face_CheckPeople_j3 a0 x24_2 mp_2 next1 t27))) (some 0)
noncomputable def face_CheckPeople (a0 : (List T_face_Likeness)) (a1 : (List T_face_Person)) : Option (Int) :=
  bnd (face_Check a0) fun t14 =>
  cnd (decide (t14 ≠ 0)) (some t14) (cnd (decide (100 < (a1.length : Int))) (some 4) (fix (fun next1 s => face_CheckPeople_l1 a0 a1 next1 s.1 s.2) (0, ([] : (List (Int × Bool))))))

/-! slices.IndexFunc[[]tintype/face.Likeness,tintype/face.Likeness] -/
noncomputable def slices_IndexFunc_face_Likeness_l1 (a0 : (List T_face_Likeness)) (a1 : (T_face_Likeness → Option (Bool))) (next1 : ((Int) → Option (Int))) (x8_2 : Int) : Option (Int) :=
  cnd (decide (x8_2 < (a0.length : Int))) (bnd (gAt a0 x8_2) fun t14 =>
  bnd (a1 t14) fun t16 =>
  cnd t16 (some x8_2) (bnd (gI (x8_2 + 1)) fun t18 =>
  next1 t18)) (some (-1))
noncomputable def slices_IndexFunc_face_Likeness (a0 : (List T_face_Likeness)) (a1 : (T_face_Likeness → Option (Bool))) : Option (Int) :=
  fix (fun next1 s => slices_IndexFunc_face_Likeness_l1 a0 a1 next1 s) 0

/-! slices.DeleteFunc[[]tintype/face.Likeness,tintype/face.Likeness] -/
noncomputable def slices_DeleteFunc_face_Likeness_j1 (x5 : Int) (l : (List T_face_Likeness)) : Option ((List T_face_Likeness)) :=
  bnd (gCut l x5 l.length) fun t38 =>
  bnd (gCut (clrL l x5 l.length (⟨0, 0, (fun _ => 0)⟩ : T_face_Likeness)) 0 x5) fun t41 =>
  some t41
noncomputable def slices_DeleteFunc_face_Likeness_j3 (x6_2 : Int) (next2 : ((Int × Int × (List T_face_Likeness)) → Option ((List T_face_Likeness)))) (x5_4 : Int) (l_4 : (List T_face_Likeness)) : Option ((List T_face_Likeness)) :=
  bnd (gI (x6_2 + 1)) fun t21 =>
  next2 (x5_4, t21, l_4)
noncomputable def slices_DeleteFunc_face_Likeness_l2 (a1 : (T_face_Likeness → Option (Bool))) (next2 : ((Int × Int × (List T_face_Likeness)) → Option ((List T_face_Likeness)))) (x5_3 : Int) (x6_2 : Int) (l_3 : (List T_face_Likeness)) : Option ((List T_face_Likeness)) :=
  cnd (decide (x6_2 < (l_3.length : Int))) (bnd (gAt l_3 x6_2) fun t24 =>
  bnd (a1 t24) fun t28 =>
  cnd (!t28) (bnd (gAt l_3 x5_3) fun t33 =>
  bnd (gSet l_3 x5_3 t24) fun l0 =>
  bnd (gI (x5_3 + 1)) fun t35 =>
  slices_DeleteFunc_face_Likeness_j3 x6_2 next2 t35 l0) (slices_DeleteFunc_face_Likeness_j3 x6_2 next2 x5_3 l_3)) (slices_DeleteFunc_face_Likeness_j1 x5_3 l_3)
noncomputable def slices_DeleteFunc_face_Likeness (a0 : (List T_face_Likeness)) (a1 : (T_face_Likeness → Option (Bool))) : Option ((List T_face_Likeness)) :=
  bnd (slices_IndexFunc_face_Likeness a0 a1) fun t10 =>
  cnd (decide (t10 = (-1))) (some a0) (bnd (gI (t10 + 1)) fun t15 =>
  fix (fun next2 s => slices_DeleteFunc_face_Likeness_l2 a1 next2 s.1 s.2.1 s.2.2) (t10, t15, a0))

/-! slices.Clone[[]tintype/face.Likeness,tintype/face.Likeness] -/
noncomputable def slices_Clone_face_Likeness (a0 : (List T_face_Likeness)) : Option ((List T_face_Likeness)) :=
  bnd (gApp 112 ([] : List T_face_Likeness) a0) fun l7 =>
  some l7

/-! slices.IndexFunc[[]tintype/face.Person,tintype/face.Person] -/
noncomputable def slices_IndexFunc_face_Person_l1 (a0 : (List T_face_Person)) (a1 : (T_face_Person → Option (Bool))) (next1 : ((Int) → Option (Int))) (x8_2 : Int) : Option (Int) :=
  cnd (decide (x8_2 < (a0.length : Int))) (bnd (gAt a0 x8_2) fun t14 =>
  bnd (a1 t14) fun t16 =>
  cnd t16 (some x8_2) (bnd (gI (x8_2 + 1)) fun t18 =>
  next1 t18)) (some (-1))
noncomputable def slices_IndexFunc_face_Person (a0 : (List T_face_Person)) (a1 : (T_face_Person → Option (Bool))) : Option (Int) :=
  fix (fun next1 s => slices_IndexFunc_face_Person_l1 a0 a1 next1 s) 0

/-! tintype/face.owner$1 -/
noncomputable def face_owner_1 (q0 : Int) (a0 : T_face_Person) : Option (Bool) :=
  bnd (face_contains a0.Likes q0) fun t7 =>
  some t7

/-! tintype/face.owner -/
noncomputable def face_owner (a0 : (List T_face_Person)) (a1 : Int) : Option (Int) :=
  bnd (slices_IndexFunc_face_Person a0 (face_owner_1 a1)) fun t7 =>
  some t7

/-! tintype/face.free$1 -/
noncomputable def face_free_1 (q0 : (List T_face_Person)) (a0 : T_face_Likeness) : Option (Bool) :=
  bnd (face_owner q0 a0.Id) fun t7 =>
  some (decide (0 ≤ t7))

/-! tintype/face.free -/
noncomputable def face_free (a0 : (List T_face_Likeness)) (a1 : (List T_face_Person)) : Option ((List T_face_Likeness)) :=
  bnd (slices_Clone_face_Likeness a0) fun t6 =>
  bnd (slices_DeleteFunc_face_Likeness t6 (face_free_1 a1)) fun t8 =>
  some t8

/-! slices.Index[[]int,int] -/
noncomputable def slices_Index_int_l1 (a0 : (List Int)) (a1 : Int) (next1 : ((Int) → Option (Int))) (x8_2 : Int) : Option (Int) :=
  cnd (decide (x8_2 < (a0.length : Int))) (bnd (gAt a0 x8_2) fun t14 =>
  cnd (decide (a1 = t14)) (some x8_2) (bnd (gI (x8_2 + 1)) fun t18 =>
  next1 t18)) (some (-1))
noncomputable def slices_Index_int (a0 : (List Int)) (a1 : Int) : Option (Int) :=
  fix (fun next1 s => slices_Index_int_l1 a0 a1 next1 s) 0

/-! slices.Contains[[]int,int] -/
noncomputable def slices_Contains_int (a0 : (List Int)) (a1 : Int) : Option (Bool) :=
  bnd (slices_Index_int a0 a1) fun t7 =>
  some (decide (0 ≤ t7))

/-! tintype/face.hasPhoto -/
noncomputable def face_hasPhoto (a0 : (List T_face_Likeness)) (a1 : T_face_Person) (a2 : Int) : Option (Bool) :=
  bnd (face_photosOf a0 a1.Likes) fun t10 =>
  bnd (face_photoOf a0 a2) fun t13 =>
  bnd (slices_Contains_int t10 t13) fun t14 =>
  some t14

/-! tintype/face.score -/
noncomputable def face_score_j2 (t60 : (List Int)) (x14 : Int) : Option (Int) :=
  bnd (gQuo x14 (t60.length : Int)) fun t77 =>
  some t77
noncomputable def face_score_l3 (t60 : (List Int)) (next3 : ((Int × Int) → Option (Int))) (x14_3 : Int) (x66_2 : Int) : Option (Int) :=
  cnd (decide (x66_2 < (t60.length : Int))) (bnd (gAt t60 x66_2) fun t68 =>
  bnd (gI (x14_3 + t68)) fun t72 =>
  bnd (gI (x66_2 + 1)) fun t73 =>
  next3 (t72, t73)) (face_score_j2 t60 x14_3)
noncomputable def face_score_j1 (l : (List Int)) : Option (Int) :=
  bnd (gSortI l) fun t55 =>
  bnd (gCut t55 0 (min 3 (t55.length : Int))) fun t60 =>
  cnd (decide ((t60.length : Int) = 0)) (some 774192) (fix (fun next3 s => face_score_l3 t60 next3 s.1 s.2) (0, 0))
noncomputable def face_score_j5 (x26_2 : Int) (next4 : ((Int × (List Int)) → Option (Int))) (l_4 : (List Int)) : Option (Int) :=
  bnd (gI (x26_2 + 1)) fun t53 =>
  next4 (t53, l_4)
noncomputable def face_score_l4 (a0 : (List T_face_Likeness)) (a1 : T_face_Person) (a2 : Int) (t20 : (Int × Bool)) (next4 : ((Int × (List Int)) → Option (Int))) (x26_2 : Int) (l_3 : (List Int)) : Option (Int) :=
  cnd (decide (x26_2 < (a1.Likes.length : Int))) (bnd (gAt a1.Likes x26_2) fun t28 =>
  cnd (decide (t28 ≠ a2)) (bnd (face_at a0 t28) fun t36 =>
  bnd (gAt a0 t20.1) fun t42 =>
  bnd (gAt a0 t36.1) fun t47 =>
  bnd (face_far t42.Vec t47.Vec) fun t50 =>
  bnd (gApp 8 l_3 ([t50] : List Int)) fun l52 =>
  face_score_j5 x26_2 next4 l52) (face_score_j5 x26_2 next4 l_3)) (face_score_j1 l_3)
noncomputable def face_score (a0 : (List T_face_Likeness)) (a1 : T_face_Person) (a2 : Int) : Option (Int) :=
  bnd (face_at a0 a2) fun t20 =>
  fix (fun next4 s => face_score_l4 a0 a1 a2 t20 next4 s.1 s.2) (0, ([] : List Int))

/-! cmp.Or[int] -/
noncomputable def cmp_Or_int_l1 (a0 : (List Int)) (next1 : ((Int) → Option (Int))) (x8_2 : Int) : Option (Int) :=
  cnd (decide (x8_2 < (a0.length : Int))) (bnd (gAt a0 x8_2) fun t10 =>
  cnd (decide (t10 ≠ 0)) (some t10) (bnd (gI (x8_2 + 1)) fun t16 =>
  next1 t16)) (some 0)
noncomputable def cmp_Or_int (a0 : (List Int)) : Option (Int) :=
  fix (fun next1 s => cmp_Or_int_l1 a0 next1 s) 0

/-! cmp.Compare[int] -/
noncomputable def cmp_Compare_int (a0 : Int) (a1 : Int) : Option (Int) :=
  bnd (cmp_isNaN_int a0) fun t8 =>
  bnd (cmp_isNaN_int a1) fun t10 =>
  cnd t8 (cnd t10 (some 0) (some (-1))) (cnd t10 (some 1) (cnd (decide (a0 < a1)) (some (-1)) (cnd (decide (a1 < a0)) (some 1) (some 0))))

/-! tintype/face.matches$1 -/
noncomputable def face_matches_1 (a0 : T_face_Match) (a1 : T_face_Match) : Option (Int) :=
  bnd (cmp_Compare_int a0.Far a1.Far) fun t9 =>
  bnd (cmp_Compare_int a0.Person a1.Person) fun t14 =>
  bnd (cmp_Or_int ([t9, t14] : List Int)) fun t16 =>
  some t16

/-! tintype/face.matches -/
noncomputable def face_matches_j1 (l : (List T_face_Match)) : Option ((List T_face_Match)) :=
  bnd (gSortF l face_matches_1) fun t46 =>
  some t46
noncomputable def face_matches_j3 (x12_2 : Int) (next2 : ((Int × (List T_face_Match)) → Option ((List T_face_Match)))) (l_4 : (List T_face_Match)) : Option ((List T_face_Match)) :=
  bnd (gI (x12_2 + 1)) fun t44 =>
  next2 (t44, l_4)
noncomputable def face_matches_l2 (a0 : (List T_face_Likeness)) (a1 : (List T_face_Person)) (a2 : Int) (next2 : ((Int × (List T_face_Match)) → Option ((List T_face_Match)))) (x12_2 : Int) (l_3 : (List T_face_Match)) : Option ((List T_face_Match)) :=
  cnd (decide (x12_2 < (a1.length : Int))) (bnd (gAt a1 x12_2) fun t14 =>
  cnd (decide (0 < (t14.Likes.length : Int))) (bnd (face_contains t14.Nots a2) fun t24 =>
  cnd (!t24) (bnd (face_hasPhoto a0 t14 a2) fun t31 =>
  cnd (!t31) (bnd (face_score a0 t14 a2) fun t40 =>
  bnd (gApp 16 l_3 ([(⟨t14.Id, t40⟩ : T_face_Match)] : List T_face_Match)) fun l43 =>
  face_matches_j3 x12_2 next2 l43) (face_matches_j3 x12_2 next2 l_3)) (face_matches_j3 x12_2 next2 l_3)) (face_matches_j3 x12_2 next2 l_3)) (face_matches_j1 l_3)
noncomputable def face_matches (a0 : (List T_face_Likeness)) (a1 : (List T_face_Person)) (a2 : Int) : Option ((List T_face_Match)) :=
  fix (fun next2 s => face_matches_l2 a0 a1 a2 next2 s.1 s.2) (0, ([] : List T_face_Match))

/-! tintype/face.Sort$1 -/
noncomputable def face_Sort_1 (a0 : T_face_offer) (a1 : T_face_offer) : Option (Int) :=
  bnd (cmp_Compare_int a0.far_ a1.far_) fun t9 =>
  bnd (cmp_Compare_int a0.id_ a1.id_) fun t14 =>
  bnd (cmp_Compare_int a0.person_ a1.person_) fun t19 =>
  bnd (cmp_Or_int ([t9, t14, t19] : List Int)) fun t21 =>
  some t21

/-! tintype/face.copyPeople -/
noncomputable def face_copyPeople_j1 (l : (List T_face_Person)) : Option ((List T_face_Person)) :=
  some l
noncomputable def face_copyPeople_l2 (a0 : (List T_face_Person)) (next2 : ((Int × Int × (List T_face_Person)) → Option ((List T_face_Person)))) (x7_2 : Int) (x8_2 : Int) (l_3 : (List T_face_Person)) : Option ((List T_face_Person)) :=
  cnd (decide (x8_2 < x7_2)) (bnd (gAt a0 x8_2) fun t10 =>
  bnd (face_with t10.Likes ([] : (List Int))) fun t14 =>
  bnd (face_with t10.Nots ([] : (List Int))) fun t17 =>
  bnd (gApp 72 l_3 ([(⟨t10.Id, t10.Name, t14, t17⟩ : T_face_Person)] : List T_face_Person)) fun l23 =>
  bnd (gI (x8_2 + 1)) fun t24 =>
  next2 (x7_2, t24, l23)) (face_copyPeople_j1 l_3)
noncomputable def face_copyPeople (a0 : (List T_face_Person)) : Option ((List T_face_Person)) :=
  fix (fun next2 s => face_copyPeople_l2 a0 next2 s.1 s.2.1 s.2.2) ((a0.length : Int), 0, ([] : List T_face_Person))

/-! slices.BinarySearchFunc[[]tintype/face.Person,tintype/face.Person,int] -/
noncomputable def slices_BinarySearchFunc_face_Person_int_j1 (a0 : (List T_face_Person)) (a1 : Int) (a2 : (T_face_Person → Int → Option (Int))) (x9 : Int) : Option (Int × Bool) :=
  cnd (decide (x9 < (a0.length : Int))) (bnd (gAt a0 x9) fun t43 =>
  bnd (a2 t43 a1) fun t46 =>
  some (x9, (decide (t46 = 0)))) (some (x9, false))
noncomputable def slices_BinarySearchFunc_face_Person_int_l2 (a0 : (List T_face_Person)) (a1 : Int) (a2 : (T_face_Person → Int → Option (Int))) (next2 : ((Int × Int) → Option (Int × Bool))) (x9_3 : Int) (x10_2 : Int) : Option (Int × Bool) :=
  cnd (decide (x9_3 < x10_2)) (bnd (gI (x9_3 + x10_2)) fun t20 =>
  bnd (gShr 64 (wU64 t20) 1) fun t22 =>
  bnd (gAt a0 (wI64 t22)) fun t27 =>
  bnd (a2 t27 a1) fun t30 =>
  cnd (decide (t30 < 0)) (bnd (gI ((wI64 t22) + 1)) fun t33 =>
  next2 (t33, x10_2)) (next2 (x9_3, (wI64 t22)))) (slices_BinarySearchFunc_face_Person_int_j1 a0 a1 a2 x9_3)
noncomputable def slices_BinarySearchFunc_face_Person_int (a0 : (List T_face_Person)) (a1 : Int) (a2 : (T_face_Person → Int → Option (Int))) : Option (Int × Bool) :=
  fix (fun next2 s => slices_BinarySearchFunc_face_Person_int_l2 a0 a1 a2 next2 s.1 s.2) (0, (a0.length : Int))

/-! tintype/face.personAt$1 -/
noncomputable def face_personAt_1 (a0 : T_face_Person) (a1 : Int) : Option (Int) :=
  bnd (cmp_Compare_int a0.Id a1) fun t8 =>
  some t8

/-! tintype/face.personAt -/
noncomputable def face_personAt (a0 : (List T_face_Person)) (a1 : Int) : Option (Int × Bool) :=
  bnd (slices_BinarySearchFunc_face_Person_int a0 a1 face_personAt_1) fun t8 =>
  some (t8.1, t8.2)

/-! tintype/face.Sort -/
noncomputable def face_Sort_j3 (x67_2 : Int) (next2 : ((Int × (List T_face_Person)) → Option ((List T_face_Person) × Int))) (l_4 : (List T_face_Person)) : Option ((List T_face_Person) × Int) :=
  bnd (gI (x67_2 + 1)) fun t107 =>
  next2 (t107, l_4)
noncomputable def face_Sort_l2 (a0 : (List T_face_Likeness)) (t62 : ((List T_face_offer))) (next2 : ((Int × (List T_face_Person)) → Option ((List T_face_Person) × Int))) (x67_2 : Int) (l_3 : (List T_face_Person)) : Option ((List T_face_Person) × Int) :=
  cnd (decide (x67_2 < (t62.length : Int))) (bnd (gAt t62 x67_2) fun t69 =>
  bnd (face_personAt l_3 t69.person_) fun t75 =>
  bnd (face_owner l_3 t69.id_) fun t81 =>
  cnd (decide (t81 < 0)) (bnd (gAt l_3 t75.1) fun t87 =>
  bnd (face_hasPhoto a0 t87 t69.id_) fun t91 =>
  cnd (!t91) (bnd (gAt l_3 t75.1) fun t98 =>
  bnd (face_with t98.Likes ([t69.id_] : List Int)) fun t104 =>
  bnd (gAt l_3 t75.1) fun t105 =>
  bnd (gSet l_3 t75.1 (⟨t105.Id, t105.Name, t104, t105.Nots⟩ : T_face_Person)) fun l2 =>
  face_Sort_j3 x67_2 next2 l2) (face_Sort_j3 x67_2 next2 l_3)) (face_Sort_j3 x67_2 next2 l_3)) (some (l_3, 0))
noncomputable def face_Sort_j1 (a0 : (List T_face_Likeness)) (a1 : (List T_face_Person)) (l : (List T_face_offer)) : Option ((List T_face_Person) × Int) :=
  bnd (gSortF l face_Sort_1) fun t62 =>
  bnd (face_copyPeople a1) fun t64 =>
  fix (fun next2 s => face_Sort_l2 a0 t62 next2 s.1 s.2) (0, t64)
noncomputable def face_Sort_j5 (x31_2 : Int) (next4 : ((Int × (List T_face_offer)) → Option ((List T_face_Person) × Int))) (l_7 : (List T_face_offer)) : Option ((List T_face_Person) × Int) :=
  bnd (gI (x31_2 + 1)) fun t60 =>
  next4 (t60, l_7)
noncomputable def face_Sort_j7 (x41_2 : Int) (next6 : ((Int × (List T_face_offer)) → Option ((List T_face_Person) × Int))) (l_10 : (List T_face_offer)) : Option ((List T_face_Person) × Int) :=
  bnd (gI (x41_2 + 1)) fun t59 =>
  next6 (t59, l_10)
noncomputable def face_Sort_l6 (a2 : Int) (x31_2 : Int) (next4 : ((Int × (List T_face_offer)) → Option ((List T_face_Person) × Int))) (t33 : T_face_Likeness) (t39 : ((List T_face_Match))) (next6 : ((Int × (List T_face_offer)) → Option ((List T_face_Person) × Int))) (x41_2 : Int) (l_9 : (List T_face_offer)) : Option ((List T_face_Person) × Int) :=
  cnd (decide (x41_2 < (t39.length : Int))) (bnd (gAt t39 x41_2) fun t43 =>
  cnd (decide (t43.Far ≤ a2)) (bnd (gApp 24 l_9 ([(⟨t33.Id, t43.Person, t43.Far⟩ : T_face_offer)] : List T_face_offer)) fun l58 =>
  face_Sort_j7 x41_2 next6 l58) (face_Sort_j7 x41_2 next6 l_9)) (face_Sort_j5 x31_2 next4 l_9)
noncomputable def face_Sort_l4 (a0 : (List T_face_Likeness)) (a1 : (List T_face_Person)) (a2 : Int) (t29 : ((List T_face_Likeness))) (next4 : ((Int × (List T_face_offer)) → Option ((List T_face_Person) × Int))) (x31_2 : Int) (l_6 : (List T_face_offer)) : Option ((List T_face_Person) × Int) :=
  cnd (decide (x31_2 < (t29.length : Int))) (bnd (gAt t29 x31_2) fun t33 =>
  bnd (face_matches a0 a1 t33.Id) fun t39 =>
  fix (fun next6 s => face_Sort_l6 a2 x31_2 next4 t33 t39 next6 s.1 s.2) (0, l_6)) (face_Sort_j1 a0 a1 l_6)
noncomputable def face_Sort (a0 : (List T_face_Likeness)) (a1 : (List T_face_Person)) (a2 : Int) : Option ((List T_face_Person) × Int) :=
  bnd (face_CheckPeople a0 a1) fun t21 =>
  cnd (decide (t21 ≠ 0)) (some (([] : List T_face_Person), t21)) (bnd (face_outside a2 0 774192) fun t26 =>
  cnd t26 (some (([] : List T_face_Person), 2)) (bnd (face_free a0 a1) fun t29 =>
  fix (fun next4 s => face_Sort_l4 a0 a1 a2 t29 next4 s.1 s.2) (0, ([] : List T_face_offer))))

/-! tintype/face.checkSplit$1 -/
noncomputable def face_checkSplit_1 (q0 : (List T_face_Person)) (q1 : Int) (a0 : Int) : Option (Bool) :=
  bnd (gAt q0 q1) fun t7 =>
  bnd (face_contains t7.Likes a0) fun t11 =>
  some (!t11)

/-! tintype/face.checkSplit -/
noncomputable def face_checkSplit_j1 (a0 : (List T_face_Person)) (a2 : (List Int)) (a3 : (List UInt8)) (t15 : (Int × Bool)) : Option (Int × Int) :=
  cnd (decide ((a2.length : Int) = 0)) (some (0, 1)) (bnd (gAt a0 t15.1) fun t50 =>
  cnd (decide ((a2.length : Int) = (t50.Likes.length : Int))) (some (0, 1)) (bnd (face_isTitle a3) fun t58 =>
  cnd (!t58) (some (0, 3)) (cnd (decide (100 ≤ (a0.length : Int))) (some (0, 12)) (some (t15.1, 0)))))
noncomputable def face_checkSplit_l2 (a0 : (List T_face_Person)) (a2 : (List Int)) (a3 : (List UInt8)) (t15 : (Int × Bool)) (next2 : ((Int) → Option (Int × Int))) (x11_2 : Int) : Option (Int × Int) :=
  cnd (decide (x11_2 < (a2.length : Int))) (bnd (gAt a2 x11_2) fun t33 =>
  bnd (gI (x11_2 - 1)) fun t37 =>
  bnd (gAt a2 t37) fun t38 =>
  cnd (decide (t33 ≤ t38)) (some (0, 5)) (bnd (gI (x11_2 + 1)) fun t30 =>
  next2 t30)) (face_checkSplit_j1 a0 a2 a3 t15)
noncomputable def face_checkSplit (a0 : (List T_face_Person)) (a1 : Int) (a2 : (List Int)) (a3 : (List UInt8)) : Option (Int × Int) :=
  bnd (face_personAt a0 a1) fun t15 =>
  cnd (!t15.2) (some (0, 7)) (bnd (slices_ContainsFunc_int a2 (face_checkSplit_1 a0 t15.1)) fun t23 =>
  cnd t23 (some (0, 7)) (fix (fun next2 s => face_checkSplit_l2 a0 a2 a3 t15 next2 s) 1))

/-! slices.Clone[[]int,int] -/
noncomputable def slices_Clone_int (a0 : (List Int)) : Option ((List Int)) :=
  bnd (gApp 8 ([] : List Int) a0) fun l7 =>
  some l7

/-! slices.DeleteFunc[[]int,int] -/
noncomputable def slices_DeleteFunc_int_j1 (x5 : Int) (l : (List Int)) : Option ((List Int)) :=
  bnd (gCut l x5 l.length) fun t38 =>
  bnd (gCut (clrL l x5 l.length 0) 0 x5) fun t41 =>
  some t41
noncomputable def slices_DeleteFunc_int_j3 (x6_2 : Int) (next2 : ((Int × Int × (List Int)) → Option ((List Int)))) (x5_4 : Int) (l_4 : (List Int)) : Option ((List Int)) :=
  bnd (gI (x6_2 + 1)) fun t21 =>
  next2 (x5_4, t21, l_4)
noncomputable def slices_DeleteFunc_int_l2 (a1 : (Int → Option (Bool))) (next2 : ((Int × Int × (List Int)) → Option ((List Int)))) (x5_3 : Int) (x6_2 : Int) (l_3 : (List Int)) : Option ((List Int)) :=
  cnd (decide (x6_2 < (l_3.length : Int))) (bnd (gAt l_3 x6_2) fun t24 =>
  bnd (a1 t24) fun t28 =>
  cnd (!t28) (bnd (gAt l_3 x5_3) fun t33 =>
  bnd (gSet l_3 x5_3 t24) fun l0 =>
  bnd (gI (x5_3 + 1)) fun t35 =>
  slices_DeleteFunc_int_j3 x6_2 next2 t35 l0) (slices_DeleteFunc_int_j3 x6_2 next2 x5_3 l_3)) (slices_DeleteFunc_int_j1 x5_3 l_3)
noncomputable def slices_DeleteFunc_int (a0 : (List Int)) (a1 : (Int → Option (Bool))) : Option ((List Int)) :=
  bnd (slices_IndexFunc_int a0 a1) fun t10 =>
  cnd (decide (t10 = (-1))) (some a0) (bnd (gI (t10 + 1)) fun t15 =>
  fix (fun next2 s => slices_DeleteFunc_int_l2 a1 next2 s.1 s.2.1 s.2.2) (t10, t15, a0))

/-! tintype/face.without$1 -/
noncomputable def face_without_1 (q0 : (List Int)) (a0 : Int) : Option (Bool) :=
  bnd (slices_Contains_int q0 a0) fun t6 =>
  some t6

/-! tintype/face.without -/
noncomputable def face_without (a0 : (List Int)) (a1 : (List Int)) : Option ((List Int)) :=
  bnd (slices_Clone_int a0) fun t7 =>
  bnd (slices_DeleteFunc_int t7 (face_without_1 a1)) fun t9 =>
  some t9

/-! tintype/face.Split -/
noncomputable def face_Split_j1 (a4 : (List UInt8)) (l2_2 : (List T_face_Person)) (x18 : Int) (m : Int) (l_2 : (List Int)) (l_3 : (List Int)) : Option ((List T_face_Person) × Int) :=
  bnd (gInsN 72 l2_2 x18 (⟨m, a4, l_2, l_3⟩ : T_face_Person)) fun t96 =>
  some (t96, 0)
noncomputable def face_Split_l2 (a4 : (List UInt8)) (t52 : ((List Int))) (t61 : ((List Int))) (l2_2 : (List T_face_Person)) (next2 : ((Int × Int) → Option ((List T_face_Person) × Int))) (x18_3 : Int) (m_3 : Int) : Option ((List T_face_Person) × Int) :=
  cnd (decide (x18_3 < (l2_2.length : Int))) (bnd (gAt l2_2 x18_3) fun t79 =>
  cnd (decide (t79.Id = m_3)) (bnd (gI (m_3 + 1)) fun t88 =>
  bnd (gI (x18_3 + 1)) fun t91 =>
  next2 (t91, t88)) (face_Split_j1 a4 l2_2 x18_3 m_3 t52 t61)) (face_Split_j1 a4 l2_2 x18_3 m_3 t52 t61)
noncomputable def face_Split (a0 : (List T_face_Likeness)) (a1 : (List T_face_Person)) (a2 : Int) (a3 : (List Int)) (a4 : (List UInt8)) : Option ((List T_face_Person) × Int) :=
  bnd (face_CheckPeople a0 a1) fun t21 =>
  cnd (decide (t21 ≠ 0)) (some (([] : List T_face_Person), t21)) (bnd (face_checkSplit a1 a2 a3 a4) fun t30 =>
  cnd (decide (t30.2 ≠ 0)) (some (([] : List T_face_Person), t30.2)) (bnd (face_copyPeople a1) fun t37 =>
  bnd (gAt t37 t30.1) fun t40 =>
  bnd (face_without t40.Likes a3) fun t47 =>
  bnd (gSet t37 t30.1 (⟨t40.Id, t40.Name, t47, t40.Nots⟩ : T_face_Person)) fun l2 =>
  bnd (face_with a3 ([] : (List Int))) fun t52 =>
  bnd (gAt l2 t30.1) fun t2 =>
  bnd (gAt l2 t30.1) fun t2_2 =>
  bnd (face_with t2.Nots t2_2.Likes) fun t61 =>
  bnd (gAt l2 t30.1) fun t2_3 =>
  bnd (face_with t2_3.Nots a3) fun t69 =>
  bnd (gAt l2 t30.1) fun t2_4 =>
  bnd (gSet l2 t30.1 (⟨t2_4.Id, t2_4.Name, t2_4.Likes, t69⟩ : T_face_Person)) fun l2_2 =>
  fix (fun next2 s => face_Split_l2 a4 t52 t61 l2_2 next2 s.1 s.2) (0, 1)))

/-! slices.ContainsFunc[[]tintype/face.Person,tintype/face.Person] -/
noncomputable def slices_ContainsFunc_face_Person (a0 : (List T_face_Person)) (a1 : (T_face_Person → Option (Bool))) : Option (Bool) :=
  bnd (slices_IndexFunc_face_Person a0 a1) fun t7 =>
  some (decide (0 ≤ t7))

/-! tintype/tintkeep2.FaceSplits$1 -/
noncomputable def Keep_FaceSplits_1 (q0 : T_face_Person) (a0 : T_face_Person) : Option (Bool) :=
  some (decide (a0.Id = q0.Id))

/-! tintype/face.Merge$1 -/
noncomputable def face_Merge_1 (q0 : (List T_face_Likeness)) (q1 : T_face_Person) (a0 : Int) : Option (Bool) :=
  bnd (face_hasPhoto q0 q1 a0) fun t8 =>
  some t8

/-! tintype/face.Merge -/
noncomputable def face_Merge (a0 : (List T_face_Likeness)) (a1 : (List T_face_Person)) (a2 : Int) (a3 : Int) : Option ((List T_face_Person) × Int) :=
  bnd (face_CheckPeople a0 a1) fun t20 =>
  cnd (decide (t20 ≠ 0)) (some (([] : List T_face_Person), t20)) (bnd (face_personAt a1 a2) fun t27 =>
  bnd (face_personAt a1 a3) fun t33 =>
  cnd (!t27.2) (some (([] : List T_face_Person), 7)) (cnd (!t33.2) (some (([] : List T_face_Person), 7)) (cnd (decide (a2 = a3)) (some (([] : List T_face_Person), 1)) (bnd (gAt a1 t27.1) fun t49 =>
  bnd (gAt a1 t33.1) fun t53 =>
  bnd (slices_ContainsFunc_int t53.Likes (face_Merge_1 a0 t49)) fun t58 =>
  cnd t58 (some (([] : List T_face_Person), 11)) (bnd (face_copyPeople a1) fun t60 =>
  bnd (face_with t49.Likes t53.Likes) fun t67 =>
  bnd (gAt t60 t27.1) fun t68 =>
  bnd (gSet t60 t27.1 (⟨t68.Id, t68.Name, t67, t68.Nots⟩ : T_face_Person)) fun l5 =>
  bnd (face_with t49.Nots t53.Nots) fun t76 =>
  bnd (gAt l5 t27.1) fun t79 =>
  bnd (face_without t76 t79.Likes) fun t82 =>
  bnd (gAt l5 t27.1) fun t83 =>
  bnd (gSet l5 t27.1 (⟨t83.Id, t83.Name, t83.Likes, t82⟩ : T_face_Person)) fun l5_2 =>
  bnd (gI (t33.1 + 1)) fun t88 =>
  bnd (gDelN l5_2 t33.1 t88) fun t89 =>
  some (t89, 0))))))

/-! slices.Equal[[]int,int] -/
noncomputable def slices_Equal_int_l1 (a0 : (List Int)) (a1 : (List Int)) (next1 : ((Int) → Option (Bool))) (x13_2 : Int) : Option (Bool) :=
  cnd (decide (x13_2 < (a0.length : Int))) (bnd (gAt a0 x13_2) fun t18 =>
  bnd (gAt a1 x13_2) fun t22 =>
  cnd (decide (t18 ≠ t22)) (some false) (bnd (gI (x13_2 + 1)) fun t25 =>
  next1 t25)) (some true)
noncomputable def slices_Equal_int (a0 : (List Int)) (a1 : (List Int)) : Option (Bool) :=
  cnd (decide ((a0.length : Int) ≠ (a1.length : Int))) (some false) (fix (fun next1 s => slices_Equal_int_l1 a0 a1 next1 s) 0)

/-! tintype/tintkeep2.FaceSplits -/
noncomputable def Keep_FaceSplits_l3 (a1 : (List T_face_Person)) (t77 : ((List T_face_Person) × Int)) (next3 : ((Int) → Option (Bool))) (x97_2 : Int) : Option (Bool) :=
  cnd (decide (x97_2 < (t77.1.length : Int))) (bnd (gAt t77.1 x97_2) fun t100 =>
  bnd (gAt a1 x97_2) fun t106 =>
  cnd (decide (t100.Id ≠ t106.Id)) (some false) (bnd (gAt a1 x97_2) fun t115 =>
  bnd (slices_Equal_int t100.Likes t115.Likes) fun t118 =>
  cnd (!t118) (some false) (bnd (gI (x97_2 + 1)) fun t121 =>
  next3 t121))) (some true)
noncomputable def Keep_FaceSplits_j2 (a0 : (List T_face_Likeness)) (a1 : (List T_face_Person)) (a2 : Int) (t42 : ((List T_face_Person) × Int)) (x14 : Int) : Option (Bool) :=
  bnd (face_Merge a0 t42.1 a2 x14) fun t77 =>
  cnd (decide (t77.2 ≠ 0)) (some false) (cnd (decide ((t77.1.length : Int) ≠ (a1.length : Int))) (some false) (bnd (face_CheckPeople a0 t77.1) fun t92 =>
  cnd (decide (t92 ≠ 0)) (some false) (fix (fun next3 s => Keep_FaceSplits_l3 a1 t77 next3 s) 0)))
noncomputable def Keep_FaceSplits_j5 (x61_2 : Int) (next4 : ((Int × Int) → Option (Bool))) (x14_4 : Int) : Option (Bool) :=
  bnd (gI (x61_2 + 1)) fun t71 =>
  next4 (x14_4, t71)
noncomputable def Keep_FaceSplits_l4 (a0 : (List T_face_Likeness)) (a1 : (List T_face_Person)) (a2 : Int) (t42 : ((List T_face_Person) × Int)) (next4 : ((Int × Int) → Option (Bool))) (x14_3 : Int) (x61_2 : Int) : Option (Bool) :=
  cnd (decide (x61_2 < (t42.1.length : Int))) (bnd (gAt t42.1 x61_2) fun t63 =>
  bnd (slices_ContainsFunc_face_Person a1 (Keep_FaceSplits_1 t63)) fun t67 =>
  cnd (!t67) (Keep_FaceSplits_j5 x61_2 next4 t63.Id) (Keep_FaceSplits_j5 x61_2 next4 x14_3)) (Keep_FaceSplits_j2 a0 a1 a2 t42 x14_3)
noncomputable def Keep_FaceSplits_j1 (a0 : (List T_face_Likeness)) (a1 : (List T_face_Person)) (a2 : Int) (a3 : (List Int)) : Option (Bool) :=
  bnd (face_Split a0 a1 a2 a3 [110, 101, 119]) fun t42 =>
  cnd (decide (t42.2 ≠ 0)) (some true) (bnd (face_CheckPeople a0 t42.1) fun t49 =>
  cnd (decide (t49 ≠ 0)) (some false) (bnd (gI ((a1.length : Int) + 1)) fun t56 =>
  cnd (decide ((t42.1.length : Int) ≠ t56)) (some false) (fix (fun next4 s => Keep_FaceSplits_l4 a0 a1 a2 t42 next4 s.1 s.2) (0, 0))))
noncomputable def Keep_FaceSplits (a0 : (List T_face_Likeness)) (a1 : (List T_face_Person)) (a2 : Int) (a3 : (List Int)) (a4 : Int) : Option (Bool) :=
  bnd (Keep_awakeFace) fun t20 =>
  cnd (!t20) (some false) (bnd (face_Sort a0 a1 a4) fun t26 =>
  cnd (decide (t26.2 = 0)) (bnd (face_CheckPeople a0 t26.1) fun t34 =>
  cnd (decide (t34 ≠ 0)) (some false) (Keep_FaceSplits_j1 a0 a1 a2 a3)) (Keep_FaceSplits_j1 a0 a1 a2 a3))

end Go.M
