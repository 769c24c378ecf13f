/- FaceSuggests: the models, printed by our generator from the compiled program. Conditions: none. -/
import Derived.Test.YtdledeeihcilbaaMd7
namespace Go.M
open Go.Md
set_option maxRecDepth 100000
set_option linter.unusedVariables false

structure T_face_Likeness where
  Id : Int
  Photo : Int
  Vec : (Nat → Int)
instance : Inhabited T_face_Likeness := ⟨⟨0, 0, fun _ => 0⟩⟩

structure T_face_Person where
  Id : Int
  Name : (List UInt8)
  Likes : (List Int)
  Nots : (List Int)
instance : Inhabited T_face_Person := ⟨⟨0, [], [], []⟩⟩

structure T_face_Match where
  Person : Int
  Far : Int
instance : Inhabited T_face_Match := ⟨⟨0, 0⟩⟩


/-! tintype/face.outside -/
noncomputable def face_outside (a0 : Int) (a1 : Int) (a2 : Int) : Option (Bool) :=
  cnd (decide (a0 < a1)) (some true) (some (decide (a2 < a0)))

/-! tintype/face.CheckVec -/
noncomputable def face_CheckVec_l1 (a0 : (Nat → Int)) (next1 : ((Int) → Option (Int))) (x6_2 : Int) : Option (Int) :=
  cnd (decide (x6_2 < 12)) (bnd (gIx 12 x6_2) fun k8 =>
  bnd (face_outside (a0 k8) (-127) 127) fun t10 =>
  cnd t10 (some 2) (bnd (gI (x6_2 + 1)) fun t11 =>
  next1 t11)) (some 0)
noncomputable def face_CheckVec (a0 : (Nat → Int)) : Option (Int) :=
  fix (fun next1 s => face_CheckVec_l1 a0 next1 s) 0

/-! tintype/face.checkVecs -/
noncomputable def face_checkVecs_l1 (a0 : (List (Nat → Int))) (next1 : ((Int) → Option (Int))) (x8_2 : Int) : Option (Int) :=
  cnd (decide (x8_2 < (a0.length : Int))) (bnd (gAt a0 x8_2) fun t10 =>
  bnd (face_CheckVec t10) fun t13 =>
  cnd (decide (t13 ≠ 0)) (some t13) (bnd (gI (x8_2 + 1)) fun t17 =>
  next1 t17)) (some 0)
noncomputable def face_checkVecs (a0 : (List (Nat → Int))) : Option (Int) :=
  fix (fun next1 s => face_checkVecs_l1 a0 next1 s) 0

/-! tintype/face.far -/
noncomputable def face_far_l1 (a0 : (Nat → Int)) (a1 : (Nat → Int)) (next1 : ((Int × Int) → Option (Int))) (x5_2 : Int) (x9_2 : Int) : Option (Int) :=
  cnd (decide (x9_2 < 12)) (bnd (gIx 12 x9_2) fun k12 =>
  bnd (gIx 12 x9_2) fun k16 =>
  bnd (gI ((a0 k12) - (a1 k16))) fun t18 =>
  bnd (gIx 12 x9_2) fun k21 =>
  bnd (gI ((a0 k12) - (a1 k21))) fun t23 =>
  bnd (gI (t18 * t23)) fun t24 =>
  bnd (gI (x5_2 + t24)) fun t25 =>
  bnd (gI (x9_2 + 1)) fun t26 =>
  next1 (t25, t26)) (some x5_2)
noncomputable def face_far (a0 : (Nat → Int)) (a1 : (Nat → Int)) : Option (Int) :=
  fix (fun next1 s => face_far_l1 a0 a1 next1 s.1 s.2) (0, 0)

/-! tintype/face.Far -/
noncomputable def face_Far (a0 : (Nat → Int)) (a1 : (Nat → Int)) : Option (Int × Int) :=
  bnd (face_checkVecs ([a0, a1] : List (Nat → Int))) fun t10 =>
  cnd (decide (t10 ≠ 0)) (some (0, t10)) (bnd (face_far a0 a1) fun t16 =>
  some (t16, 0))

/-! tintype/tintkeep2.awakeFace -/
noncomputable def Keep_awakeFace  : Option (Bool) :=
  bnd (face_Far (fun _ => 0) (ofL [3, 0, 0, 0, 0, 0, 0, 0, 0, 0, 0, 0])) fun t6 =>
  cnd (decide (t6.2 = 0)) (some (decide (t6.1 = 9))) (some false)

/-! slices.Concat[[]int,int] -/
noncomputable def slices_Concat_int_l2 (a0 : (List (List Int))) (u24 : Nat) (next2 : ((Int × (List Int)) → Option ((List Int)))) (x27_2 : Int) (l_2 : (List Int)) : Option ((List Int)) :=
  cnd (decide (x27_2 < (a0.length : Int))) (bnd (gAt a0 x27_2) fun t29 =>
  bnd (gApC u24 l_2 t29) fun l33 =>
  bnd (gI (x27_2 + 1)) fun t34 =>
  next2 (t34, l33)) (some l_2)
noncomputable def slices_Concat_int_j1 (a0 : (List (List Int))) (x3 : Int) : Option ((List Int)) :=
  bnd (gGroC 8 x3) fun u24 =>
  fix (fun next2 s => slices_Concat_int_l2 a0 u24 next2 s.1 s.2) (0, ([] : List Int))
noncomputable def slices_Concat_int_l3 (a0 : (List (List Int))) (next3 : ((Int × Int) → Option ((List Int)))) (x3_3 : Int) (x11_2 : Int) : Option ((List Int)) :=
  cnd (decide (x11_2 < (a0.length : Int))) (bnd (gAt a0 x11_2) fun t13 =>
  bnd (gI (x3_3 + (t13.length : Int))) fun t18 =>
  cnd (decide (t18 < 0)) (none) (bnd (gI (x11_2 + 1)) fun t22 =>
  next3 (t18, t22))) (slices_Concat_int_j1 a0 x3_3)
noncomputable def slices_Concat_int (a0 : (List (List Int))) : Option ((List Int)) :=
  fix (fun next3 s => slices_Concat_int_l3 a0 next3 s.1 s.2) (0, 0)

/-! tintype/face.with -/
noncomputable def face_with (a0 : (List Int)) (a1 : (List Int)) : Option ((List Int)) :=
  bnd (slices_Concat_int ([a0, a1] : List (List Int))) fun t9 =>
  bnd (gSortI t9) fun t11 =>
  bnd (gCmpI t11) fun t13 =>
  some t13

/-! tintype/face.Check -/
noncomputable def face_Check_j2 (x11_2 : Int) (next1 : ((Int) → Option (Int))) (t14 : T_face_Likeness) : Option (Int) :=
  bnd (face_CheckVec t14.Vec) fun t39 =>
  cnd (decide (t39 ≠ 0)) (some t39) (bnd (gI (x11_2 + 1)) fun t43 =>
  next1 t43)
noncomputable def face_Check_l1 (a0 : (List T_face_Likeness)) (next1 : ((Int) → Option (Int))) (x11_2 : Int) : Option (Int) :=
  cnd (decide (x11_2 < (a0.length : Int))) (bnd (gAt a0 x11_2) fun t14 =>
  bnd (face_outside t14.Id 1 1000000) fun t18 =>
  cnd t18 (some 2) (bnd (face_outside t14.Photo 1 1000000) fun t22 =>
  cnd t22 (some 2) (cnd (decide (0 < x11_2)) (bnd (gI (x11_2 - 1)) fun t31 =>
  bnd (gAt a0 t31) fun t32 =>
  cnd (decide (t14.Id ≤ t32.Id)) (some 5) (face_Check_j2 x11_2 next1 t14)) (face_Check_j2 x11_2 next1 t14)))) (some 0)
noncomputable def face_Check (a0 : (List T_face_Likeness)) : Option (Int) :=
  cnd (decide (300 < (a0.length : Int))) (some 4) (fix (fun next1 s => face_Check_l1 a0 next1 s) 0)

/-! slices.IndexFunc[[]int,int] -/
noncomputable def slices_IndexFunc_int_l1 (a0 : (List Int)) (a1 : (Int → Option (Bool))) (next1 : ((Int) → Option (Int))) (x8_2 : Int) : Option (Int) :=
  cnd (decide (x8_2 < (a0.length : Int))) (bnd (gAt a0 x8_2) fun t14 =>
  bnd (a1 t14) fun t16 =>
  cnd t16 (some x8_2) (bnd (gI (x8_2 + 1)) fun t18 =>
  next1 t18)) (some (-1))
noncomputable def slices_IndexFunc_int (a0 : (List Int)) (a1 : (Int → Option (Bool))) : Option (Int) :=
  fix (fun next1 s => slices_IndexFunc_int_l1 a0 a1 next1 s) 0

/-! slices.ContainsFunc[[]int,int] -/
noncomputable def slices_ContainsFunc_int (a0 : (List Int)) (a1 : (Int → Option (Bool))) : Option (Bool) :=
  bnd (slices_IndexFunc_int a0 a1) fun t7 =>
  some (decide (0 ≤ t7))

/-! slices.IndexFunc[[]byte,byte] -/
noncomputable def slices_IndexFunc_byte_l1 (a0 : (List Int)) (a1 : (Int → Option (Bool))) (next1 : ((Int) → Option (Int))) (x8_2 : Int) : Option (Int) :=
  cnd (decide (x8_2 < (a0.length : Int))) (bnd (gAt a0 x8_2) fun t14 =>
  bnd (a1 t14) fun t16 =>
  cnd t16 (some x8_2) (bnd (gI (x8_2 + 1)) fun t18 =>
  next1 t18)) (some (-1))
noncomputable def slices_IndexFunc_byte (a0 : (List Int)) (a1 : (Int → Option (Bool))) : Option (Int) :=
  fix (fun next1 s => slices_IndexFunc_byte_l1 a0 a1 next1 s) 0

/-! slices.ContainsFunc[[]byte,byte] -/
noncomputable def slices_ContainsFunc_byte (a0 : (List Int)) (a1 : (Int → Option (Bool))) : Option (Bool) :=
  bnd (slices_IndexFunc_byte a0 a1) fun t7 =>
  some (decide (0 ≤ t7))

/-! tintype/face.isTitle$1 -/
noncomputable def face_isTitle_1 (a0 : Int) : Option (Bool) :=
  some (decide (a0 < 32))

/-! tintype/face.isTitle -/
noncomputable def face_isTitle (a0 : (List UInt8)) : Option (Bool) :=
  bnd (face_outside (a0.length : Int) 1 60) fun t5 =>
  cnd (!t5) (bnd (gByt a0) fun t9 =>
  bnd (slices_ContainsFunc_byte t9 face_isTitle_1) fun t10 =>
  some (!t10)) (some false)

/-! slices.BinarySearchFunc[[]tintype/face.Likeness,tintype/face.Likeness,int] -/
noncomputable def slices_BinarySearchFunc_face_Likeness_int_j1 (a0 : (List T_face_Likeness)) (a1 : Int) (a2 : (T_face_Likeness → Int → Option (Int))) (x9 : Int) : Option (Int × Bool) :=
  cnd (decide (x9 < (a0.length : Int))) (bnd (gAt a0 x9) fun t43 =>
  bnd (a2 t43 a1) fun t46 =>
  some (x9, (decide (t46 = 0)))) (some (x9, false))
noncomputable def slices_BinarySearchFunc_face_Likeness_int_l2 (a0 : (List T_face_Likeness)) (a1 : Int) (a2 : (T_face_Likeness → Int → Option (Int))) (next2 : ((Int × Int) → Option (Int × Bool))) (x9_3 : Int) (x10_2 : Int) : Option (Int × Bool) :=
  cnd (decide (x9_3 < x10_2)) (bnd (gI (x9_3 + x10_2)) fun t20 =>
  bnd (gShr 64 (wU64 t20) 1) fun t22 =>
  bnd (gAt a0 (wI64 t22)) fun t27 =>
  bnd (a2 t27 a1) fun t30 =>
  cnd (decide (t30 < 0)) (bnd (gI ((wI64 t22) + 1)) fun t33 =>
  next2 (t33, x10_2)) (next2 (x9_3, (wI64 t22)))) (slices_BinarySearchFunc_face_Likeness_int_j1 a0 a1 a2 x9_3)
noncomputable def slices_BinarySearchFunc_face_Likeness_int (a0 : (List T_face_Likeness)) (a1 : Int) (a2 : (T_face_Likeness → Int → Option (Int))) : Option (Int × Bool) :=
  fix (fun next2 s => slices_BinarySearchFunc_face_Likeness_int_l2 a0 a1 a2 next2 s.1 s.2) (0, (a0.length : Int))

/-! tintype/face.at$1 -/
noncomputable def face_at_1 (a0 : T_face_Likeness) (a1 : Int) : Option (Int) :=
  cnd (decide (a0.Id < a1)) (some (-1)) (cnd (decide (a1 < a0.Id)) (some 1) (some 0))

/-! tintype/face.at -/
noncomputable def face_at (a0 : (List T_face_Likeness)) (a1 : Int) : Option (Int × Bool) :=
  bnd (slices_BinarySearchFunc_face_Likeness_int a0 a1 face_at_1) fun t8 =>
  some (t8.1, t8.2)

/-! tintype/face.checkIds -/
noncomputable def face_checkIds_j2 (x11_2 : Int) (next1 : ((Int) → Option (Int))) : Option (Int) :=
  bnd (gI (x11_2 + 1)) fun t35 =>
  next1 t35
noncomputable def face_checkIds_l1 (a0 : (List T_face_Likeness)) (a1 : (List Int)) (next1 : ((Int) → Option (Int))) (x11_2 : Int) : Option (Int) :=
  cnd (decide (x11_2 < (a1.length : Int))) (bnd (gAt a1 x11_2) fun t14 =>
  bnd (face_at a0 t14) fun t19 =>
  cnd (!t19.2) (some 7) (cnd (decide (0 < x11_2)) (bnd (gI (x11_2 - 1)) fun t30 =>
  bnd (gAt a1 t30) fun t31 =>
  cnd (decide (t14 ≤ t31)) (some 5) (face_checkIds_j2 x11_2 next1)) (face_checkIds_j2 x11_2 next1))) (some 0)
noncomputable def face_checkIds (a0 : (List T_face_Likeness)) (a1 : (List Int)) : Option (Int) :=
  fix (fun next1 s => face_checkIds_l1 a0 a1 next1 s) 0

/-! cmp.isNaN[int] -/
noncomputable def cmp_isNaN_int (a0 : Int) : Option (Bool) :=
  some (decide (a0 ≠ a0))

/-! cmp.Less[int] -/
noncomputable def cmp_Less_int (a0 : Int) (a1 : Int) : Option (Bool) :=
  bnd (cmp_isNaN_int a0) fun t6 =>
  cnd t6 (bnd (cmp_isNaN_int a1) fun t9 =>
  cnd (!t9) (some true) (some (decide (a0 < a1)))) (some (decide (a0 < a1)))

/-! slices.isNaN[int] -/
noncomputable def slices_isNaN_int (a0 : Int) : Option (Bool) :=
  some (decide (a0 ≠ a0))

/-! slices.BinarySearch[[]int,int] -/
noncomputable def slices_BinarySearch_int_j1 (a0 : (List Int)) (a1 : Int) (x7 : Int) : Option (Int × Bool) :=
  cnd (decide (x7 < (a0.length : Int))) (bnd (gAt a0 x7) fun t38 =>
  cnd (decide (t38 = a1)) (some (x7, true)) (bnd (gAt a0 x7) fun t45 =>
  bnd (slices_isNaN_int t45) fun t47 =>
  cnd t47 (bnd (slices_isNaN_int a1) fun t50 =>
  some (x7, t50)) (some (x7, false)))) (some (x7, false))
noncomputable def slices_BinarySearch_int_l2 (a0 : (List Int)) (a1 : Int) (next2 : ((Int × Int) → Option (Int × Bool))) (x7_3 : Int) (x8_2 : Int) : Option (Int × Bool) :=
  cnd (decide (x7_3 < x8_2)) (bnd (gI (x7_3 + x8_2)) fun t18 =>
  bnd (gShr 64 (wU64 t18) 1) fun t20 =>
  bnd (gAt a0 (wI64 t20)) fun t24 =>
  bnd (cmp_Less_int t24 a1) fun t27 =>
  cnd t27 (bnd (gI ((wI64 t20) + 1)) fun t29 =>
  next2 (t29, x8_2)) (next2 (x7_3, (wI64 t20)))) (slices_BinarySearch_int_j1 a0 a1 x7_3)
noncomputable def slices_BinarySearch_int (a0 : (List Int)) (a1 : Int) : Option (Int × Bool) :=
  fix (fun next2 s => slices_BinarySearch_int_l2 a0 a1 next2 s.1 s.2) (0, (a0.length : Int))

/-! tintype/face.contains -/
noncomputable def face_contains (a0 : (List Int)) (a1 : Int) : Option (Bool) :=
  bnd (slices_BinarySearch_int a0 a1) fun t10 =>
  some t10.2

/-! tintype/face.checkPerson$1 -/
noncomputable def face_checkPerson_1 (q0 : T_face_Person) (a0 : Int) : Option (Bool) :=
  bnd (face_contains q0.Nots a0) fun t7 =>
  some t7

/-! tintype/face.checkPerson -/
noncomputable def face_checkPerson_j1 (a1 : T_face_Person) : Option (Int) :=
  bnd (slices_ContainsFunc_int a1.Likes (face_checkPerson_1 a1)) fun t32 =>
  cnd t32 (some 11) (some 0)
noncomputable def face_checkPerson_l2 (a0 : (List T_face_Likeness)) (a1 : T_face_Person) (next2 : ((Int) → Option (Int))) (x18_2 : Int) : Option (Int) :=
  cnd (decide (x18_2 < 2)) (bnd (gAt ([a1.Likes, a1.Nots] : List (List Int)) x18_2) fun t20 =>
  bnd (face_checkIds a0 t20) fun t24 =>
  cnd (decide (t24 ≠ 0)) (some t24) (bnd (gI (x18_2 + 1)) fun t28 =>
  next2 t28)) (face_checkPerson_j1 a1)
noncomputable def face_checkPerson (a0 : (List T_face_Likeness)) (a1 : T_face_Person) : Option (Int) :=
  bnd (face_isTitle a1.Name) fun t10 =>
  cnd (!t10) (some 3) (fix (fun next2 s => face_checkPerson_l2 a0 a1 next2 s) 0)

/-! tintype/face.photoOf -/
noncomputable def face_photoOf (a0 : (List T_face_Likeness)) (a1 : Int) : Option (Int) :=
  bnd (face_at a0 a1) fun t10 =>
  bnd (gAt a0 t10.1) fun t15 =>
  some t15.Photo

/-! tintype/face.photosOf -/
noncomputable def face_photosOf_l1 (a0 : (List T_face_Likeness)) (a1 : (List Int)) (next1 : ((Int × (List Int)) → Option ((List Int)))) (x10_2 : Int) (l_2 : (List Int)) : Option ((List Int)) :=
  cnd (decide (x10_2 < (a1.length : Int))) (bnd (gAt a1 x10_2) fun t12 =>
  bnd (face_photoOf a0 t12) fun t17 =>
  bnd (gApp 8 l_2 ([t17] : List Int)) fun l19 =>
  bnd (gI (x10_2 + 1)) fun t20 =>
  next1 (t20, l19)) (some l_2)
noncomputable def face_photosOf (a0 : (List T_face_Likeness)) (a1 : (List Int)) : Option ((List Int)) :=
  fix (fun next1 s => face_photosOf_l1 a0 a1 next1 s.1 s.2) (0, ([] : List Int))

/-! tintype/face.CheckPeople$1 -/
noncomputable def face_CheckPeople_1 (q0 : (List (Int × Bool))) (a0 : Int) : Option (Bool) :=
  some ((mGet q0 a0).getD false)

/-! tintype/face.CheckPeople -/
noncomputable def face_CheckPeople_j2 (x24_2 : Int) (next1 : ((Int × (List (Int × Bool))) → Option (Int))) (x62 : Int) (x64 : Int) (x65 : Bool) (l : (List Int)) (l_2 : (List Int)) (mp_3 : (List (Int × Bool))) : Option (Int) :=
  bnd (gI (x24_2 + 1)) fun t77 =>
  next1 (t77, mp_3)
noncomputable def face_CheckPeople_l4 (x24_2 : Int) (next1 : ((Int × (List (Int × Bool))) → Option (Int))) (t27 : T_face_Person) (t54 : ((List Int))) (t61 : ((List Int))) (next4 : ((Int × (List (Int × Bool))) → Option (Int))) (x70_2 : Int) (mp_5 : (List (Int × Bool))) : Option (Int) :=
  cnd (decide (x70_2 < (t27.Likes.length : Int))) (bnd (gAt t27.Likes x70_2) fun t72 =>
  bnd (gI (x70_2 + 1)) fun t76 =>
  next4 (t76, (mSet mp_5 t72 true))) (face_CheckPeople_j2 x24_2 next1 (t61.length : Int) (t54.length : Int) (decide ((t61.length : Int) < (t54.length : Int))) t54 t61 mp_5)
noncomputable def face_CheckPeople_j3 (a0 : (List T_face_Likeness)) (x24_2 : Int) (mp_2 : (List (Int × Bool))) (next1 : ((Int × (List (Int × Bool))) → Option (Int))) (t27 : T_face_Person) : Option (Int) :=
  bnd (face_checkPerson a0 t27) fun t47 =>
  cnd (decide (t47 ≠ 0)) (some t47) (bnd (face_photosOf a0 t27.Likes) fun t54 =>
  bnd (slices_ContainsFunc_int t27.Likes (face_CheckPeople_1 mp_2)) fun t58 =>
  cnd t58 (some 6) (bnd (face_with t54 ([] : (List Int))) fun t61 =>
  cnd (decide ((t61.length : Int) < (t54.length : Int))) (some 6) (fix (fun next4 s => face_CheckPeople_l4 x24_2 next1 t27 t54 t61 next4 s.1 s.2) (0, mp_2))))
noncomputable def face_CheckPeople_l1 (a0 : (List T_face_Likeness)) (a1 : (List T_face_Person)) (next1 : ((Int × (List (Int × Bool))) → Option (Int))) (x24_2 : Int) (mp_2 : (List (Int × Bool))) : Option (Int) :=
  cnd (decide (x24_2 < (a1.length : Int))) (bnd (gAt a1 x24_2) fun t27 =>
  bnd (face_outside t27.Id 1 1000000) fun t31 =>
  cnd t31 (some 2) (cnd (decide (0 < x24_2)) (bnd (gI (x24_2 - 1)) fun t39 =>
  bnd (gAt a1 t39) fun t40 =>
  cnd (decide (t27.Id ≤ t40.Id)) (some 5) (face_CheckPeople_j3 a0 x24_2 mp_2 next1 t27)) (face_CheckPeople_j3 a0 x24_2 mp_2 next1 t27))) (some 0)
noncomputable def face_CheckPeople (a0 : (List T_face_Likeness)) (a1 : (List T_face_Person)) : Option (Int) :=
  bnd (face_Check a0) fun t14 =>
  cnd (decide (t14 ≠ 0)) (some t14) (cnd (decide (100 < (a1.length : Int))) (some 4) (fix (fun next1 s => face_CheckPeople_l1 a0 a1 next1 s.1 s.2) (0, ([] : (List (Int × Bool))))))

/-! slices.IndexFunc[[]tintype/face.Person,tintype/face.Person] -/
noncomputable def slices_IndexFunc_face_Person_l1 (a0 : (List T_face_Person)) (a1 : (T_face_Person → Option (Bool))) (next1 : ((Int) → Option (Int))) (x8_2 : Int) : Option (Int) :=
  cnd (decide (x8_2 < (a0.length : Int))) (bnd (gAt a0 x8_2) fun t14 =>
  bnd (a1 t14) fun t16 =>
  cnd t16 (some x8_2) (bnd (gI (x8_2 + 1)) fun t18 =>
  next1 t18)) (some (-1))
noncomputable def slices_IndexFunc_face_Person (a0 : (List T_face_Person)) (a1 : (T_face_Person → Option (Bool))) : Option (Int) :=
  fix (fun next1 s => slices_IndexFunc_face_Person_l1 a0 a1 next1 s) 0

/-! tintype/face.owner$1 -/
noncomputable def face_owner_1 (q0 : Int) (a0 : T_face_Person) : Option (Bool) :=
  bnd (face_contains a0.Likes q0) fun t7 =>
  some t7

/-! tintype/face.owner -/
noncomputable def face_owner (a0 : (List T_face_Person)) (a1 : Int) : Option (Int) :=
  bnd (slices_IndexFunc_face_Person a0 (face_owner_1 a1)) fun t7 =>
  some t7

/-! slices.Index[[]int,int] -/
noncomputable def slices_Index_int_l1 (a0 : (List Int)) (a1 : Int) (next1 : ((Int) → Option (Int))) (x8_2 : Int) : Option (Int) :=
  cnd (decide (x8_2 < (a0.length : Int))) (bnd (gAt a0 x8_2) fun t14 =>
  cnd (decide (a1 = t14)) (some x8_2) (bnd (gI (x8_2 + 1)) fun t18 =>
  next1 t18)) (some (-1))
noncomputable def slices_Index_int (a0 : (List Int)) (a1 : Int) : Option (Int) :=
  fix (fun next1 s => slices_Index_int_l1 a0 a1 next1 s) 0

/-! slices.Contains[[]int,int] -/
noncomputable def slices_Contains_int (a0 : (List Int)) (a1 : Int) : Option (Bool) :=
  bnd (slices_Index_int a0 a1) fun t7 =>
  some (decide (0 ≤ t7))

/-! tintype/face.hasPhoto -/
noncomputable def face_hasPhoto (a0 : (List T_face_Likeness)) (a1 : T_face_Person) (a2 : Int) : Option (Bool) :=
  bnd (face_photosOf a0 a1.Likes) fun t10 =>
  bnd (face_photoOf a0 a2) fun t13 =>
  bnd (slices_Contains_int t10 t13) fun t14 =>
  some t14

/-! tintype/face.score -/
noncomputable def face_score_j2 (t60 : (List Int)) (x14 : Int) : Option (Int) :=
  bnd (gQuo x14 (t60.length : Int)) fun t77 =>
  some t77
noncomputable def face_score_l3 (t60 : (List Int)) (next3 : ((Int × Int) → Option (Int))) (x14_3 : Int) (x66_2 : Int) : Option (Int) :=
  cnd (decide (x66_2 < (t60.length : Int))) (bnd (gAt t60 x66_2) fun t68 =>
  bnd (gI (x14_3 + t68)) fun t72 =>
  bnd (gI (x66_2 + 1)) fun t73 =>
  next3 (t72, t73)) (face_score_j2 t60 x14_3)
noncomputable def face_score_j1 (l : (List Int)) : Option (Int) :=
  bnd (gSortI l) fun t55 =>
  bnd (gCut t55 0 (min 3 (t55.length : Int))) fun t60 =>
  cnd (decide ((t60.length : Int) = 0)) (some 774192) (fix (fun next3 s => face_score_l3 t60 next3 s.1 s.2) (0, 0))
noncomputable def face_score_j5 (x26_2 : Int) (next4 : ((Int × (List Int)) → Option (Int))) (l_4 : (List Int)) : Option (Int) :=
  bnd (gI (x26_2 + 1)) fun t53 =>
  next4 (t53, l_4)
noncomputable def face_score_l4 (a0 : (List T_face_Likeness)) (a1 : T_face_Person) (a2 : Int) (t20 : (Int × Bool)) (next4 : ((Int × (List Int)) → Option (Int))) (x26_2 : Int) (l_3 : (List Int)) : Option (Int) :=
  cnd (decide (x26_2 < (a1.Likes.length : Int))) (bnd (gAt a1.Likes x26_2) fun t28 =>
  cnd (decide (t28 ≠ a2)) (bnd (face_at a0 t28) fun t36 =>
  bnd (gAt a0 t20.1) fun t42 =>
  bnd (gAt a0 t36.1) fun t47 =>
  bnd (face_far t42.Vec t47.Vec) fun t50 =>
  bnd (gApp 8 l_3 ([t50] : List Int)) fun l52 =>
  face_score_j5 x26_2 next4 l52) (face_score_j5 x26_2 next4 l_3)) (face_score_j1 l_3)
noncomputable def face_score (a0 : (List T_face_Likeness)) (a1 : T_face_Person) (a2 : Int) : Option (Int) :=
  bnd (face_at a0 a2) fun t20 =>
  fix (fun next4 s => face_score_l4 a0 a1 a2 t20 next4 s.1 s.2) (0, ([] : List Int))

/-! cmp.Or[int] -/
noncomputable def cmp_Or_int_l1 (a0 : (List Int)) (next1 : ((Int) → Option (Int))) (x8_2 : Int) : Option (Int) :=
  cnd (decide (x8_2 < (a0.length : Int))) (bnd (gAt a0 x8_2) fun t10 =>
  cnd (decide (t10 ≠ 0)) (some t10) (bnd (gI (x8_2 + 1)) fun t16 =>
  next1 t16)) (some 0)
noncomputable def cmp_Or_int (a0 : (List Int)) : Option (Int) :=
  fix (fun next1 s => cmp_Or_int_l1 a0 next1 s) 0

/-! cmp.Compare[int] -/
noncomputable def cmp_Compare_int (a0 : Int) (a1 : Int) : Option (Int) :=
  bnd (cmp_isNaN_int a0) fun t8 =>
  bnd (cmp_isNaN_int a1) fun t10 =>
  cnd t8 (cnd t10 (some 0) (some (-1))) (cnd t10 (some 1) (cnd (decide (a0 < a1)) (some (-1)) (cnd (decide (a1 < a0)) (some 1) (some 0))))

/-! tintype/face.matches$1 -/
noncomputable def face_matches_1 (a0 : T_face_Match) (a1 : T_face_Match) : Option (Int) :=
  bnd (cmp_Compare_int a0.Far a1.Far) fun t9 =>
  bnd (cmp_Compare_int a0.Person a1.Person) fun t14 =>
  bnd (cmp_Or_int ([t9, t14] : List Int)) fun t16 =>
  some t16

/-! tintype/face.matches -/
noncomputable def face_matches_j1 (l : (List T_face_Match)) : Option ((List T_face_Match)) :=
  bnd (gSortF l face_matches_1) fun t46 =>
  some t46
noncomputable def face_matches_j3 (x12_2 : Int) (next2 : ((Int × (List T_face_Match)) → Option ((List T_face_Match)))) (l_4 : (List T_face_Match)) : Option ((List T_face_Match)) :=
  bnd (gI (x12_2 + 1)) fun t44 =>
  next2 (t44, l_4)
noncomputable def face_matches_l2 (a0 : (List T_face_Likeness)) (a1 : (List T_face_Person)) (a2 : Int) (next2 : ((Int × (List T_face_Match)) → Option ((List T_face_Match)))) (x12_2 : Int) (l_3 : (List T_face_Match)) : Option ((List T_face_Match)) :=
  cnd (decide (x12_2 < (a1.length : Int))) (bnd (gAt a1 x12_2) fun t14 =>
  cnd (decide (0 < (t14.Likes.length : Int))) (bnd (face_contains t14.Nots a2) fun t24 =>
  cnd (!t24) (bnd (face_hasPhoto a0 t14 a2) fun t31 =>
  cnd (!t31) (bnd (face_score a0 t14 a2) fun t40 =>
  bnd (gApp 16 l_3 ([(⟨t14.Id, t40⟩ : T_face_Match)] : List T_face_Match)) fun l43 =>
  face_matches_j3 x12_2 next2 l43) (face_matches_j3 x12_2 next2 l_3)) (face_matches_j3 x12_2 next2 l_3)) (face_matches_j3 x12_2 next2 l_3)) (face_matches_j1 l_3)
noncomputable def face_matches (a0 : (List T_face_Likeness)) (a1 : (List T_face_Person)) (a2 : Int) : Option ((List T_face_Match)) :=
  fix (fun next2 s => face_matches_l2 a0 a1 a2 next2 s.1 s.2) (0, ([] : List T_face_Match))

/-! tintype/face.Suggest -/
noncomputable def face_Suggest (a0 : (List T_face_Likeness)) (a1 : (List T_face_Person)) (a2 : Int) : Option ((List T_face_Match) × Int) :=
  bnd (face_CheckPeople a0 a1) fun t14 =>
  cnd (decide (t14 ≠ 0)) (some (([] : List T_face_Match), t14)) (bnd (face_at a0 a2) fun t21 =>
  cnd (!t21.2) (some (([] : List T_face_Match), 7)) (bnd (face_owner a1 a2) fun t28 =>
  cnd (decide (0 ≤ t28)) (some (([] : List T_face_Match), 11)) (bnd (face_matches a0 a1 a2) fun t33 =>
  bnd (gCut t33 0 (min 5 (t33.length : Int))) fun t38 =>
  some (t38, 0))))

/-! slices.BinarySearchFunc[[]tintype/face.Person,tintype/face.Person,int] -/
noncomputable def slices_BinarySearchFunc_face_Person_int_j1 (a0 : (List T_face_Person)) (a1 : Int) (a2 : (T_face_Person → Int → Option (Int))) (x9 : Int) : Option (Int × Bool) :=
  cnd (decide (x9 < (a0.length : Int))) (bnd (gAt a0 x9) fun t43 =>
  bnd (a2 t43 a1) fun t46 =>
  some (x9, (decide (t46 = 0)))) (some (x9, false))
noncomputable def slices_BinarySearchFunc_face_Person_int_l2 (a0 : (List T_face_Person)) (a1 : Int) (a2 : (T_face_Person → Int → Option (Int))) (next2 : ((Int × Int) → Option (Int × Bool))) (x9_3 : Int) (x10_2 : Int) : Option (Int × Bool) :=
  cnd (decide (x9_3 < x10_2)) (bnd (gI (x9_3 + x10_2)) fun t20 =>
  bnd (gShr 64 (wU64 t20) 1) fun t22 =>
  bnd (gAt a0 (wI64 t22)) fun t27 =>
  bnd (a2 t27 a1) fun t30 =>
  cnd (decide (t30 < 0)) (bnd (gI ((wI64 t22) + 1)) fun t33 =>
  next2 (t33, x10_2)) (next2 (x9_3, (wI64 t22)))) (slices_BinarySearchFunc_face_Person_int_j1 a0 a1 a2 x9_3)
noncomputable def slices_BinarySearchFunc_face_Person_int (a0 : (List T_face_Person)) (a1 : Int) (a2 : (T_face_Person → Int → Option (Int))) : Option (Int × Bool) :=
  fix (fun next2 s => slices_BinarySearchFunc_face_Person_int_l2 a0 a1 a2 next2 s.1 s.2) (0, (a0.length : Int))

/-! tintype/face.personAt$1 -/
noncomputable def face_personAt_1 (a0 : T_face_Person) (a1 : Int) : Option (Int) :=
  bnd (cmp_Compare_int a0.Id a1) fun t8 =>
  some t8

/-! tintype/face.personAt -/
noncomputable def face_personAt (a0 : (List T_face_Person)) (a1 : Int) : Option (Int × Bool) :=
  bnd (slices_BinarySearchFunc_face_Person_int a0 a1 face_personAt_1) fun t8 =>
  some (t8.1, t8.2)

/-! tintype/face.checkBoth -/
noncomputable def face_checkBoth (a0 : (List T_face_Likeness)) (a1 : (List T_face_Person)) (a2 : Int) (a3 : Int) : Option (Int × Int) :=
  bnd (face_CheckPeople a0 a1) fun t16 =>
  cnd (decide (t16 ≠ 0)) (some (0, t16)) (bnd (face_personAt a1 a2) fun t23 =>
  bnd (face_at a0 a3) fun t29 =>
  cnd (!t23.2) (some (0, 7)) (cnd (!t29.2) (some (0, 7)) (some (t23.1, 0))))

/-! tintype/face.copyPeople -/
noncomputable def face_copyPeople_j1 (l : (List T_face_Person)) : Option ((List T_face_Person)) :=
  some l
noncomputable def face_copyPeople_l2 (a0 : (List T_face_Person)) (next2 : ((Int × Int × (List T_face_Person)) → Option ((List T_face_Person)))) (x7_2 : Int) (x8_2 : Int) (l_3 : (List T_face_Person)) : Option ((List T_face_Person)) :=
  cnd (decide (x8_2 < x7_2)) (bnd (gAt a0 x8_2) fun t10 =>
  bnd (face_with t10.Likes ([] : (List Int))) fun t14 =>
  bnd (face_with t10.Nots ([] : (List Int))) fun t17 =>
  bnd (gApp 72 l_3 ([(⟨t10.Id, t10.Name, t14, t17⟩ : T_face_Person)] : List T_face_Person)) fun l23 =>
  bnd (gI (x8_2 + 1)) fun t24 =>
  next2 (x7_2, t24, l23)) (face_copyPeople_j1 l_3)
noncomputable def face_copyPeople (a0 : (List T_face_Person)) : Option ((List T_face_Person)) :=
  fix (fun next2 s => face_copyPeople_l2 a0 next2 s.1 s.2.1 s.2.2) ((a0.length : Int), 0, ([] : List T_face_Person))

/-! slices.DeleteFunc[[]int,int] -/
noncomputable def slices_DeleteFunc_int_j1 (x5 : Int) (l : (List Int)) : Option ((List Int)) :=
  bnd (gCut l x5 l.length) fun t38 =>
  bnd (gCut (clrL l x5 l.length 0) 0 x5) fun t41 =>
  some t41
noncomputable def slices_DeleteFunc_int_j3 (x6_2 : Int) (next2 : ((Int × Int × (List Int)) → Option ((List Int)))) (x5_4 : Int) (l_4 : (List Int)) : Option ((List Int)) :=
  bnd (gI (x6_2 + 1)) fun t21 =>
  next2 (x5_4, t21, l_4)
noncomputable def slices_DeleteFunc_int_l2 (a1 : (Int → Option (Bool))) (next2 : ((Int × Int × (List Int)) → Option ((List Int)))) (x5_3 : Int) (x6_2 : Int) (l_3 : (List Int)) : Option ((List Int)) :=
  cnd (decide (x6_2 < (l_3.length : Int))) (bnd (gAt l_3 x6_2) fun t24 =>
  bnd (a1 t24) fun t28 =>
  cnd (!t28) (bnd (gAt l_3 x5_3) fun t33 =>
  bnd (gSet l_3 x5_3 t24) fun l0 =>
  bnd (gI (x5_3 + 1)) fun t35 =>
  slices_DeleteFunc_int_j3 x6_2 next2 t35 l0) (slices_DeleteFunc_int_j3 x6_2 next2 x5_3 l_3)) (slices_DeleteFunc_int_j1 x5_3 l_3)
noncomputable def slices_DeleteFunc_int (a0 : (List Int)) (a1 : (Int → Option (Bool))) : Option ((List Int)) :=
  bnd (slices_IndexFunc_int a0 a1) fun t10 =>
  cnd (decide (t10 = (-1))) (some a0) (bnd (gI (t10 + 1)) fun t15 =>
  fix (fun next2 s => slices_DeleteFunc_int_l2 a1 next2 s.1 s.2.1 s.2.2) (t10, t15, a0))

/-! slices.Clone[[]int,int] -/
noncomputable def slices_Clone_int (a0 : (List Int)) : Option ((List Int)) :=
  bnd (gApp 8 ([] : List Int) a0) fun l7 =>
  some l7

/-! tintype/face.without$1 -/
noncomputable def face_without_1 (q0 : (List Int)) (a0 : Int) : Option (Bool) :=
  bnd (slices_Contains_int q0 a0) fun t6 =>
  some t6

/-! tintype/face.without -/
noncomputable def face_without (a0 : (List Int)) (a1 : (List Int)) : Option ((List Int)) :=
  bnd (slices_Clone_int a0) fun t7 =>
  bnd (slices_DeleteFunc_int t7 (face_without_1 a1)) fun t9 =>
  some t9

/-! tintype/face.Confirm -/
noncomputable def face_Confirm (a0 : (List T_face_Likeness)) (a1 : (List T_face_Person)) (a2 : Int) (a3 : Int) : Option ((List T_face_Person) × Int) :=
  bnd (face_checkBoth a0 a1 a2 a3) fun t18 =>
  cnd (decide (t18.2 ≠ 0)) (some (([] : List T_face_Person), t18.2)) (bnd (face_owner a1 a3) fun t28 =>
  cnd (decide (0 ≤ t28)) (some (([] : List T_face_Person), 6)) (bnd (gAt a1 t18.1) fun t34 =>
  bnd (face_hasPhoto a0 t34 a3) fun t37 =>
  cnd t37 (some (([] : List T_face_Person), 11)) (bnd (face_copyPeople a1) fun t39 =>
  bnd (gAt t39 t18.1) fun t46 =>
  bnd (face_with t46.Likes ([a3] : List Int)) fun t51 =>
  bnd (gAt t39 t18.1) fun t54 =>
  bnd (face_without t54.Nots ([a3] : List Int)) fun t59 =>
  bnd (gAt t39 t18.1) fun t60 =>
  bnd (gSet t39 t18.1 (⟨t60.Id, t60.Name, t51, t60.Nots⟩ : T_face_Person)) fun l2 =>
  bnd (gAt l2 t18.1) fun t62 =>
  bnd (gSet l2 t18.1 (⟨t62.Id, t62.Name, t62.Likes, t59⟩ : T_face_Person)) fun l2_2 =>
  some (l2_2, 0))))

/-! tintype/face.Deny -/
noncomputable def face_Deny (a0 : (List T_face_Likeness)) (a1 : (List T_face_Person)) (a2 : Int) (a3 : Int) : Option ((List T_face_Person) × Int) :=
  bnd (face_checkBoth a0 a1 a2 a3) fun t18 =>
  cnd (decide (t18.2 ≠ 0)) (some (([] : List T_face_Person), t18.2)) (bnd (gAt a1 t18.1) fun t28 =>
  bnd (face_contains t28.Nots a3) fun t32 =>
  cnd t32 (some (([] : List T_face_Person), 6)) (bnd (face_copyPeople a1) fun t34 =>
  bnd (gAt t34 t18.1) fun t41 =>
  bnd (face_with t41.Nots ([a3] : List Int)) fun t46 =>
  bnd (gAt t34 t18.1) fun t49 =>
  bnd (face_without t49.Likes ([a3] : List Int)) fun t54 =>
  bnd (gAt t34 t18.1) fun t55 =>
  bnd (gSet t34 t18.1 (⟨t55.Id, t55.Name, t55.Likes, t46⟩ : T_face_Person)) fun l2 =>
  bnd (gAt l2 t18.1) fun t57 =>
  bnd (gSet l2 t18.1 (⟨t57.Id, t57.Name, t54, t57.Nots⟩ : T_face_Person)) fun l2_2 =>
  some (l2_2, 0)))

/-! slices.IndexFunc[[]tintype/face.Match,tintype/face.Match] -/
noncomputable def slices_IndexFunc_face_Match_l1 (a0 : (List T_face_Match)) (a1 : (T_face_Match → Option (Bool))) (next1 : ((Int) → Option (Int))) (x8_2 : Int) : Option (Int) :=
  cnd (decide (x8_2 < (a0.length : Int))) (bnd (gAt a0 x8_2) fun t14 =>
  bnd (a1 t14) fun t16 =>
  cnd t16 (some x8_2) (bnd (gI (x8_2 + 1)) fun t18 =>
  next1 t18)) (some (-1))
noncomputable def slices_IndexFunc_face_Match (a0 : (List T_face_Match)) (a1 : (T_face_Match → Option (Bool))) : Option (Int) :=
  fix (fun next1 s => slices_IndexFunc_face_Match_l1 a0 a1 next1 s) 0

/-! slices.ContainsFunc[[]tintype/face.Match,tintype/face.Match] -/
noncomputable def slices_ContainsFunc_face_Match (a0 : (List T_face_Match)) (a1 : (T_face_Match → Option (Bool))) : Option (Bool) :=
  bnd (slices_IndexFunc_face_Match a0 a1) fun t7 =>
  some (decide (0 ≤ t7))

/-! tintype/tintkeep2.FaceSuggests$1 -/
noncomputable def Keep_FaceSuggests_1 (q0 : T_face_Match) (a0 : T_face_Match) : Option (Bool) :=
  some (decide (a0.Person = q0.Person))

/-! tintype/tintkeep2.FaceSuggests -/
noncomputable def Keep_FaceSuggests_j1 (t21 : ((List T_face_Match) × Int)) : Option (Bool) :=
  some (decide ((t21.1.length : Int) ≤ 5))
noncomputable def Keep_FaceSuggests_j3 (a0 : (List T_face_Likeness)) (a1 : (List T_face_Person)) (a2 : Int) (x28_2 : Int) (next2 : ((Int) → Option (Bool))) (t31 : T_face_Match) : Option (Bool) :=
  bnd (face_Confirm a0 a1 t31.Person a2) fun t74 =>
  cnd (decide (t74.2 ≠ 0)) (some false) (bnd (face_CheckPeople a0 t74.1) fun t82 =>
  cnd (decide (t82 ≠ 0)) (some false) (bnd (face_Deny a0 t74.1 t31.Person a2) fun t91 =>
  cnd (decide (t91.2 ≠ 0)) (some false) (bnd (face_CheckPeople a0 t91.1) fun t99 =>
  cnd (decide (t99 ≠ 0)) (some false) (bnd (face_Suggest a0 t91.1 a2) fun t106 =>
  cnd (decide (t106.2 ≠ 0)) (some false) (bnd (slices_ContainsFunc_face_Match t106.1 (Keep_FaceSuggests_1 t31)) fun t114 =>
  cnd t114 (some false) (bnd (gI (x28_2 + 1)) fun t116 =>
  next2 t116))))))
noncomputable def Keep_FaceSuggests_l2 (a0 : (List T_face_Likeness)) (a1 : (List T_face_Person)) (a2 : Int) (t21 : ((List T_face_Match) × Int)) (next2 : ((Int) → Option (Bool))) (x28_2 : Int) : Option (Bool) :=
  cnd (decide (x28_2 < (t21.1.length : Int))) (bnd (gAt t21.1 x28_2) fun t31 =>
  cnd (decide (0 < x28_2)) (bnd (gI (x28_2 - 1)) fun t38 =>
  bnd (gAt t21.1 t38) fun t39 =>
  cnd (decide (t31.Far < t39.Far)) (some false) (bnd (gI (x28_2 - 1)) fun t48 =>
  bnd (gAt t21.1 t48) fun t49 =>
  cnd (decide (t49.Far = t31.Far)) (bnd (gI (x28_2 - 1)) fun t58 =>
  bnd (gAt t21.1 t58) fun t59 =>
  cnd (decide (t31.Person ≤ t59.Person)) (some false) (Keep_FaceSuggests_j3 a0 a1 a2 x28_2 next2 t31)) (Keep_FaceSuggests_j3 a0 a1 a2 x28_2 next2 t31))) (Keep_FaceSuggests_j3 a0 a1 a2 x28_2 next2 t31)) (Keep_FaceSuggests_j1 t21)
noncomputable def Keep_FaceSuggests (a0 : (List T_face_Likeness)) (a1 : (List T_face_Person)) (a2 : Int) : Option (Bool) :=
  bnd (Keep_awakeFace) fun t15 =>
  cnd (!t15) (some false) (bnd (face_Suggest a0 a1 a2) fun t21 =>
  cnd (decide (t21.2 ≠ 0)) (some true) (fix (fun next2 s => Keep_FaceSuggests_l2 a0 a1 a2 t21 next2 s) 0))

end Go.M
