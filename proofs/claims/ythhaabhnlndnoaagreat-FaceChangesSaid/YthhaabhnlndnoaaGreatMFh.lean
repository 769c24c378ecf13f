/- FaceChanges: the models, printed by our generator from the compiled program. Conditions: none. -/
import Derived.Test.YthhaabhnlndnoaaGreatMd
namespace Go.M
open Go.Md
set_option maxRecDepth 100000
set_option linter.unusedVariables false
structure T_face_Likeness where
 Id : Int
 Photo : Int
 Vec : (Nat → Int)
instance : Inhabited T_face_Likeness := ⟨⟨0, 0, fun _ => 0⟩⟩
structure T_face_Person where
 Id : Int
 Name : (List UInt8)
 Likes : (List Int)
 Nots : (List Int)
instance : Inhabited T_face_Person := ⟨⟨0, [], [], []⟩⟩
structure T_face_Match where
 Person : Int
 Far : Int
instance : Inhabited T_face_Match := ⟨⟨0, 0⟩⟩
structure T_face_offer where
 id_ : Int
 person_ : Int
 far_ : Int
instance : Inhabited T_face_offer := ⟨⟨0, 0, 0⟩⟩
structure T_tintref2_pair where
 far_ : Int
 like_ : Int
 person_ : Int
instance : Inhabited T_tintref2_pair := ⟨⟨0, 0, 0⟩⟩
noncomputable def V8 (a0 : Int) (a1 : Int) (a2 : Int) : Option (Bool) :=
 Xg (decide (a0 < a1)) (some true) (some (decide (a2 < a0)))
noncomputable def Xy (a0 : (List (List Int))) (u24 : Nat) (next2 : ((Int × (List Int)) → Option ((List Int)))) (x27_2 : Int) (l_2 : (List Int)) : Option ((List Int)) :=
 Xg (decide (x27_2 < (a0.length : Int))) (J0 (Jk a0 x27_2) fun t29 =>
 J0 (gApC u24 l_2 t29) fun l33 =>
 J0 (gI (x27_2 + 1)) fun t34 =>
 next2 (t34, l33)) (some l_2)
noncomputable def Ja5 (a0 : (List (List Int))) (x3 : Int) : Option ((List Int)) :=
 J0 (gGroC 8 x3) fun u24 =>
 Zx (fun next2 s => Xy a0 u24 next2 s.1 s.2) (0, ([] : List Int))
noncomputable def Xx (a0 : (List (List Int))) (next3 : ((Int × Int) → Option ((List Int)))) (x3_3 : Int) (x11_2 : Int) : Option ((List Int)) :=
 Xg (decide (x11_2 < (a0.length : Int))) (J0 (Jk a0 x11_2) fun t13 =>
 J0 (gI (x3_3 + (t13.length : Int))) fun t18 =>
 Xg (decide (t18 < 0)) (none) (J0 (gI (x11_2 + 1)) fun t22 =>
 next3 (t18, t22))) (Ja5 a0 x3_3)
noncomputable def Jay (a0 : (List (List Int))) : Option ((List Int)) :=
 Zx (fun next3 s => Xx a0 next3 s.1 s.2) (0, 0)
noncomputable def Jh (a0 : (List Int)) (a1 : (List Int)) : Option ((List Int)) :=
 J0 (Jay ([a0, a1] : List (List Int))) fun t9 =>
 J0 (gSortI t9) fun t11 =>
 J0 (gCmpI t11) fun t13 =>
 some t13
noncomputable def Jad (a0 : (Nat → Int)) (next1 : ((Int) → Option (Int))) (x6_2 : Int) : Option (Int) :=
 Xg (decide (x6_2 < 12)) (J0 (gIx 12 x6_2) fun k8 =>
 J0 (V8 (a0 k8) (-127) 127) fun t10 =>
 Xg t10 (some 2) (J0 (gI (x6_2 + 1)) fun t11 =>
 next1 t11)) (some 0)
noncomputable def Jc6 (a0 : (Nat → Int)) : Option (Int) :=
 Zx (fun next1 s => Jad a0 next1 s) 0
noncomputable def Us (x11_2 : Int) (next1 : ((Int) → Option (Int))) (t14 : T_face_Likeness) : Option (Int) :=
 J0 (Jc6 t14.Vec) fun t39 =>
 Xg (decide (t39 ≠ 0)) (some t39) (J0 (gI (x11_2 + 1)) fun t43 =>
 next1 t43)
noncomputable def Jar (a0 : (List T_face_Likeness)) (next1 : ((Int) → Option (Int))) (x11_2 : Int) : Option (Int) :=
 Xg (decide (x11_2 < (a0.length : Int))) (J0 (Jk a0 x11_2) fun t14 =>
 J0 (V8 t14.Id 1 1000000) fun t18 =>
 Xg t18 (some 2) (J0 (V8 t14.Photo 1 1000000) fun t22 =>
 Xg t22 (some 2) (Xg (decide (0 < x11_2)) (J0 (gI (x11_2 - 1)) fun t31 =>
 J0 (Jk a0 t31) fun t32 =>
 Xg (decide (t14.Id ≤ t32.Id)) (some 5) (Us x11_2 next1 t14)) (Us x11_2 next1 t14)))) (some 0)
noncomputable def V3 (a0 : (List T_face_Likeness)) : Option (Int) :=
 Xg (decide (300 < (a0.length : Int))) (some 4) (Zx (fun next1 s => Jar a0 next1 s) 0)
noncomputable def U5 (a0 : (List Int)) (a1 : (Int → Option (Bool))) (next1 : ((Int) → Option (Int))) (x8_2 : Int) : Option (Int) :=
 Xg (decide (x8_2 < (a0.length : Int))) (J0 (Jk a0 x8_2) fun t14 =>
 J0 (a1 t14) fun t16 =>
 Xg t16 (some x8_2) (J0 (gI (x8_2 + 1)) fun t18 =>
 next1 t18)) (some (-1))
noncomputable def Um (a0 : (List Int)) (a1 : (Int → Option (Bool))) : Option (Int) :=
 Zx (fun next1 s => U5 a0 a1 next1 s) 0
noncomputable def X0 (a0 : (List Int)) (a1 : (Int → Option (Bool))) : Option (Bool) :=
 J0 (Um a0 a1) fun t7 =>
 some (decide (0 ≤ t7))
noncomputable def Uq (a0 : (List Int)) (a1 : (Int → Option (Bool))) (next1 : ((Int) → Option (Int))) (x8_2 : Int) : Option (Int) :=
 Xg (decide (x8_2 < (a0.length : Int))) (J0 (Jk a0 x8_2) fun t14 =>
 J0 (a1 t14) fun t16 =>
 Xg t16 (some x8_2) (J0 (gI (x8_2 + 1)) fun t18 =>
 next1 t18)) (some (-1))
noncomputable def Jas (a0 : (List Int)) (a1 : (Int → Option (Bool))) : Option (Int) :=
 Zx (fun next1 s => Uq a0 a1 next1 s) 0
noncomputable def V5 (a0 : (List Int)) (a1 : (Int → Option (Bool))) : Option (Bool) :=
 J0 (Jas a0 a1) fun t7 =>
 some (decide (0 ≤ t7))
noncomputable def face_isTitle_1 (a0 : Int) : Option (Bool) :=
 some (decide (a0 < 32))
noncomputable def Jco (a0 : (List UInt8)) : Option (Bool) :=
 J0 (V8 (a0.length : Int) 1 60) fun t5 =>
 Xg (!t5) (J0 (gByt a0) fun t9 =>
 J0 (V5 t9 face_isTitle_1) fun t10 =>
 some (!t10)) (some false)
noncomputable def Xh (a0 : (List T_face_Likeness)) (a1 : Int) (a2 : (T_face_Likeness → Int → Option (Int))) (x9 : Int) : Option (Int × Bool) :=
 Xg (decide (x9 < (a0.length : Int))) (J0 (Jk a0 x9) fun t43 =>
 J0 (a2 t43 a1) fun t46 =>
 some (x9, (decide (t46 = 0)))) (some (x9, false))
noncomputable def Q2 (a0 : (List T_face_Likeness)) (a1 : Int) (a2 : (T_face_Likeness → Int → Option (Int))) (next2 : ((Int × Int) → Option (Int × Bool))) (x9_3 : Int) (x10_2 : Int) : Option (Int × Bool) :=
 Xg (decide (x9_3 < x10_2)) (J0 (gI (x9_3 + x10_2)) fun t20 =>
 J0 (gShr 64 (wU64 t20) 1) fun t22 =>
 J0 (Jk a0 (Xm t22)) fun t27 =>
 J0 (a2 t27 a1) fun t30 =>
 Xg (decide (t30 < 0)) (J0 (gI ((Xm t22) + 1)) fun t33 =>
 next2 (t33, x10_2)) (next2 (x9_3, (Xm t22)))) (Xh a0 a1 a2 x9_3)
noncomputable def Zd (a0 : (List T_face_Likeness)) (a1 : Int) (a2 : (T_face_Likeness → Int → Option (Int))) : Option (Int × Bool) :=
 Zx (fun next2 s => Q2 a0 a1 a2 next2 s.1 s.2) (0, (a0.length : Int))
noncomputable def face_at_1 (a0 : T_face_Likeness) (a1 : Int) : Option (Int) :=
 Xg (decide (a0.Id < a1)) (some (-1)) (Xg (decide (a1 < a0.Id)) (some 1) (some 0))
noncomputable def Jbh (a0 : (List T_face_Likeness)) (a1 : Int) : Option (Int × Bool) :=
 J0 (Zd a0 a1 face_at_1) fun t8 =>
 some (t8.1, t8.2)
noncomputable def Jbu (x11_2 : Int) (next1 : ((Int) → Option (Int))) : Option (Int) :=
 J0 (gI (x11_2 + 1)) fun t35 =>
 next1 t35
noncomputable def U0 (a0 : (List T_face_Likeness)) (a1 : (List Int)) (next1 : ((Int) → Option (Int))) (x11_2 : Int) : Option (Int) :=
 Xg (decide (x11_2 < (a1.length : Int))) (J0 (Jk a1 x11_2) fun t14 =>
 J0 (Jbh a0 t14) fun t19 =>
 Xg (!t19.2) (some 7) (Xg (decide (0 < x11_2)) (J0 (gI (x11_2 - 1)) fun t30 =>
 J0 (Jk a1 t30) fun t31 =>
 Xg (decide (t14 ≤ t31)) (some 5) (Jbu x11_2 next1)) (Jbu x11_2 next1))) (some 0)
noncomputable def Jc5 (a0 : (List T_face_Likeness)) (a1 : (List Int)) : Option (Int) :=
 Zx (fun next1 s => U0 a0 a1 next1 s) 0
noncomputable def Wv (a0 : Int) : Option (Bool) :=
 some (decide (a0 ≠ a0))
noncomputable def cmp_Less_int (a0 : Int) (a1 : Int) : Option (Bool) :=
 J0 (Wv a0) fun t6 =>
 Xg t6 (J0 (Wv a1) fun t9 =>
 Xg (!t9) (some true) (some (decide (a0 < a1)))) (some (decide (a0 < a1)))
noncomputable def Jbc (a0 : Int) : Option (Bool) :=
 some (decide (a0 ≠ a0))
noncomputable def Vq (a0 : (List Int)) (a1 : Int) (x7 : Int) : Option (Int × Bool) :=
 Xg (decide (x7 < (a0.length : Int))) (J0 (Jk a0 x7) fun t38 =>
 Xg (decide (t38 = a1)) (some (x7, true)) (J0 (Jk a0 x7) fun t45 =>
 J0 (Jbc t45) fun t47 =>
 Xg t47 (J0 (Jbc a1) fun t50 =>
 some (x7, t50)) (some (x7, false)))) (some (x7, false))
noncomputable def Yw (a0 : (List Int)) (a1 : Int) (next2 : ((Int × Int) → Option (Int × Bool))) (x7_3 : Int) (x8_2 : Int) : Option (Int × Bool) :=
 Xg (decide (x7_3 < x8_2)) (J0 (gI (x7_3 + x8_2)) fun t18 =>
 J0 (gShr 64 (wU64 t18) 1) fun t20 =>
 J0 (Jk a0 (Xm t20)) fun t24 =>
 J0 (cmp_Less_int t24 a1) fun t27 =>
 Xg t27 (J0 (gI ((Xm t20) + 1)) fun t29 =>
 next2 (t29, x8_2)) (next2 (x7_3, (Xm t20)))) (Vq a0 a1 x7_3)
noncomputable def Jaa (a0 : (List Int)) (a1 : Int) : Option (Int × Bool) :=
 Zx (fun next2 s => Yw a0 a1 next2 s.1 s.2) (0, (a0.length : Int))
noncomputable def Wr (a0 : (List Int)) (a1 : Int) : Option (Bool) :=
 J0 (Jaa a0 a1) fun t10 =>
 some t10.2
noncomputable def Jah (q0 : T_face_Person) (a0 : Int) : Option (Bool) :=
 J0 (Wr q0.Nots a0) fun t7 =>
 some t7
noncomputable def Jby (a1 : T_face_Person) : Option (Int) :=
 J0 (X0 a1.Likes (Jah a1)) fun t32 =>
 Xg t32 (some 11) (some 0)
noncomputable def Zh (a0 : (List T_face_Likeness)) (a1 : T_face_Person) (next2 : ((Int) → Option (Int))) (x18_2 : Int) : Option (Int) :=
 Xg (decide (x18_2 < 2)) (J0 (Jk ([a1.Likes, a1.Nots] : List (List Int)) x18_2) fun t20 =>
 J0 (Jc5 a0 t20) fun t24 =>
 Xg (decide (t24 ≠ 0)) (some t24) (J0 (gI (x18_2 + 1)) fun t28 =>
 next2 t28)) (Jby a1)
noncomputable def Jbs (a0 : (List T_face_Likeness)) (a1 : T_face_Person) : Option (Int) :=
 J0 (Jco a1.Name) fun t10 =>
 Xg (!t10) (some 3) (Zx (fun next2 s => Zh a0 a1 next2 s) 0)
noncomputable def Jcu (a0 : (List T_face_Likeness)) (a1 : Int) : Option (Int) :=
 J0 (Jbh a0 a1) fun t10 =>
 J0 (Jk a0 t10.1) fun t15 =>
 some t15.Photo
noncomputable def W0 (a0 : (List T_face_Likeness)) (a1 : (List Int)) (next1 : ((Int × (List Int)) → Option ((List Int)))) (x10_2 : Int) (l_2 : (List Int)) : Option ((List Int)) :=
 Xg (decide (x10_2 < (a1.length : Int))) (J0 (Jk a1 x10_2) fun t12 =>
 J0 (Jcu a0 t12) fun t17 =>
 J0 (gApp 8 l_2 ([t17] : List Int)) fun l19 =>
 J0 (gI (x10_2 + 1)) fun t20 =>
 next1 (t20, l19)) (some l_2)
noncomputable def Jbz (a0 : (List T_face_Likeness)) (a1 : (List Int)) : Option ((List Int)) :=
 Zx (fun next1 s => W0 a0 a1 next1 s.1 s.2) (0, ([] : List Int))
noncomputable def Jcc (q0 : (List (Int × Bool))) (a0 : Int) : Option (Bool) :=
 some ((mGet q0 a0).getD false)
noncomputable def face_CheckPeople_j2 (x24_2 : Int) (next1 : ((Int × (List (Int × Bool))) → Option (Int))) (x62 : Int) (x64 : Int) (x65 : Bool) (l : (List Int)) (l_2 : (List Int)) (mp_3 : (List (Int × Bool))) : Option (Int) :=
 J0 (gI (x24_2 + 1)) fun t77 =>
 next1 (t77, mp_3)
noncomputable def Vs (x24_2 : Int) (next1 : ((Int × (List (Int × Bool))) → Option (Int))) (t27 : T_face_Person) (t54 : ((List Int))) (t61 : ((List Int))) (next4 : ((Int × (List (Int × Bool))) → Option (Int))) (x70_2 : Int) (mp_5 : (List (Int × Bool))) : Option (Int) :=
 Xg (decide (x70_2 < (t27.Likes.length : Int))) (J0 (Jk t27.Likes x70_2) fun t72 =>
 J0 (gI (x70_2 + 1)) fun t76 =>
 next4 (t76, (mSet mp_5 t72 true))) (face_CheckPeople_j2 x24_2 next1 (t61.length : Int) (t54.length : Int) (decide ((t61.length : Int) < (t54.length : Int))) t54 t61 mp_5)
noncomputable def X7 (a0 : (List T_face_Likeness)) (x24_2 : Int) (mp_2 : (List (Int × Bool))) (next1 : ((Int × (List (Int × Bool))) → Option (Int))) (t27 : T_face_Person) : Option (Int) :=
 J0 (Jbs a0 t27) fun t47 =>
 Xg (decide (t47 ≠ 0)) (some t47) (J0 (Jbz a0 t27.Likes) fun t54 =>
 J0 (X0 t27.Likes (Jcc mp_2)) fun t58 =>
 Xg t58 (some 6) (J0 (Jh t54 ([] : (List Int))) fun t61 =>
 Xg (decide ((t61.length : Int) < (t54.length : Int))) (some 6) (Zx (fun next4 s => Vs x24_2 next1 t27 t54 t61 next4 s.1 s.2) (0, mp_2))))
noncomputable def Xe (a0 : (List T_face_Likeness)) (a1 : (List T_face_Person)) (next1 : ((Int × (List (Int × Bool))) → Option (Int))) (x24_2 : Int) (mp_2 : (List (Int × Bool))) : Option (Int) :=
 Xg (decide (x24_2 < (a1.length : Int))) (J0 (Jk a1 x24_2) fun t27 =>
 J0 (V8 t27.Id 1 1000000) fun t31 =>
 Xg t31 (some 2) (Xg (decide (0 < x24_2)) (J0 (gI (x24_2 - 1)) fun t39 =>
 J0 (Jk a1 t39) fun t40 =>
 Xg (decide (t27.Id ≤ t40.Id)) (some 5) (X7 a0 x24_2 mp_2 next1 t27)) (X7 a0 x24_2 mp_2 next1 t27))) (some 0)
noncomputable def Yn (a0 : (List T_face_Likeness)) (a1 : (List T_face_Person)) : Option (Int) :=
 J0 (V3 a0) fun t14 =>
 Xg (decide (t14 ≠ 0)) (some t14) (Xg (decide (100 < (a1.length : Int))) (some 4) (Zx (fun next1 s => Xe a0 a1 next1 s.1 s.2) (0, ([] : (List (Int × Bool))))))
noncomputable def Vm (a0 : (List T_face_Likeness)) (a1 : (T_face_Likeness → Option (Bool))) (next1 : ((Int) → Option (Int))) (x8_2 : Int) : Option (Int) :=
 Xg (decide (x8_2 < (a0.length : Int))) (J0 (Jk a0 x8_2) fun t14 =>
 J0 (a1 t14) fun t16 =>
 Xg t16 (some x8_2) (J0 (gI (x8_2 + 1)) fun t18 =>
 next1 t18)) (some (-1))
noncomputable def Yy (a0 : (List T_face_Likeness)) (a1 : (T_face_Likeness → Option (Bool))) : Option (Int) :=
 Zx (fun next1 s => Vm a0 a1 next1 s) 0
noncomputable def Vd (x5 : Int) (l : (List T_face_Likeness)) : Option ((List T_face_Likeness)) :=
 J0 (Ux l x5 l.length) fun t38 =>
 J0 (Ux (clrL l x5 l.length (⟨0, 0, (fun _ => 0)⟩ : T_face_Likeness)) 0 x5) fun t41 =>
 some t41
noncomputable def Y9 (x6_2 : Int) (next2 : ((Int × Int × (List T_face_Likeness)) → Option ((List T_face_Likeness)))) (x5_4 : Int) (l_4 : (List T_face_Likeness)) : Option ((List T_face_Likeness)) :=
 J0 (gI (x6_2 + 1)) fun t21 =>
 next2 (x5_4, t21, l_4)
noncomputable def Yg (a1 : (T_face_Likeness → Option (Bool))) (next2 : ((Int × Int × (List T_face_Likeness)) → Option ((List T_face_Likeness)))) (x5_3 : Int) (x6_2 : Int) (l_3 : (List T_face_Likeness)) : Option ((List T_face_Likeness)) :=
 Xg (decide (x6_2 < (l_3.length : Int))) (J0 (Jk l_3 x6_2) fun t24 =>
 J0 (a1 t24) fun t28 =>
 Xg (!t28) (J0 (Jk l_3 x5_3) fun t33 =>
 J0 (Q6 l_3 x5_3 t24) fun l0 =>
 J0 (gI (x5_3 + 1)) fun t35 =>
 Y9 x6_2 next2 t35 l0) (Y9 x6_2 next2 x5_3 l_3)) (Vd x5_3 l_3)
noncomputable def Zo (a0 : (List T_face_Likeness)) (a1 : (T_face_Likeness → Option (Bool))) : Option ((List T_face_Likeness)) :=
 J0 (Yy a0 a1) fun t10 =>
 Xg (decide (t10 = (-1))) (some a0) (J0 (gI (t10 + 1)) fun t15 =>
 Zx (fun next2 s => Yg a1 next2 s.1 s.2.1 s.2.2) (t10, t15, a0))
noncomputable def W3 (a0 : (List T_face_Likeness)) : Option ((List T_face_Likeness)) :=
 J0 (gApp 112 ([] : List T_face_Likeness) a0) fun l7 =>
 some l7
noncomputable def Vw (a0 : (List T_face_Person)) (a1 : (T_face_Person → Option (Bool))) (next1 : ((Int) → Option (Int))) (x8_2 : Int) : Option (Int) :=
 Xg (decide (x8_2 < (a0.length : Int))) (J0 (Jk a0 x8_2) fun t14 =>
 J0 (a1 t14) fun t16 =>
 Xg t16 (some x8_2) (J0 (gI (x8_2 + 1)) fun t18 =>
 next1 t18)) (some (-1))
noncomputable def Ze (a0 : (List T_face_Person)) (a1 : (T_face_Person → Option (Bool))) : Option (Int) :=
 Zx (fun next1 s => Vw a0 a1 next1 s) 0
noncomputable def Jbt (q0 : Int) (a0 : T_face_Person) : Option (Bool) :=
 J0 (Wr a0.Likes q0) fun t7 =>
 some t7
noncomputable def Ut (a0 : (List T_face_Person)) (a1 : Int) : Option (Int) :=
 J0 (Ze a0 (Jbt a1)) fun t7 =>
 some t7
noncomputable def face_free_1 (q0 : (List T_face_Person)) (a0 : T_face_Likeness) : Option (Bool) :=
 J0 (Ut q0 a0.Id) fun t7 =>
 some (decide (0 ≤ t7))
noncomputable def face_free (a0 : (List T_face_Likeness)) (a1 : (List T_face_Person)) : Option ((List T_face_Likeness)) :=
 J0 (W3 a0) fun t6 =>
 J0 (Zo t6 (face_free_1 a1)) fun t8 =>
 some t8
noncomputable def Jbw (a0 : (List Int)) (a1 : Int) (next1 : ((Int) → Option (Int))) (x8_2 : Int) : Option (Int) :=
 Xg (decide (x8_2 < (a0.length : Int))) (J0 (Jk a0 x8_2) fun t14 =>
 Xg (decide (a1 = t14)) (some x8_2) (J0 (gI (x8_2 + 1)) fun t18 =>
 next1 t18)) (some (-1))
noncomputable def Jc3 (a0 : (List Int)) (a1 : Int) : Option (Int) :=
 Zx (fun next1 s => Jbw a0 a1 next1 s) 0
noncomputable def Xs (a0 : (List Int)) (a1 : Int) : Option (Bool) :=
 J0 (Jc3 a0 a1) fun t7 =>
 some (decide (0 ≤ t7))
noncomputable def V6 (a0 : (List T_face_Likeness)) (a1 : T_face_Person) (a2 : Int) : Option (Bool) :=
 J0 (Jbz a0 a1.Likes) fun t10 =>
 J0 (Jcu a0 a2) fun t13 =>
 J0 (Xs t10 t13) fun t14 =>
 some t14
noncomputable def face_far_l1 (a0 : (Nat → Int)) (a1 : (Nat → Int)) (next1 : ((Int × Int) → Option (Int))) (x5_2 : Int) (x9_2 : Int) : Option (Int) :=
 Xg (decide (x9_2 < 12)) (J0 (gIx 12 x9_2) fun k12 =>
 J0 (gIx 12 x9_2) fun k16 =>
 J0 (gI ((a0 k12) - (a1 k16))) fun t18 =>
 J0 (gIx 12 x9_2) fun k21 =>
 J0 (gI ((a0 k12) - (a1 k21))) fun t23 =>
 J0 (gI (t18 * t23)) fun t24 =>
 J0 (gI (x5_2 + t24)) fun t25 =>
 J0 (gI (x9_2 + 1)) fun t26 =>
 next1 (t25, t26)) (some x5_2)
noncomputable def Jan (a0 : (Nat → Int)) (a1 : (Nat → Int)) : Option (Int) :=
 Zx (fun next1 s => face_far_l1 a0 a1 next1 s.1 s.2) (0, 0)
noncomputable def face_score_j2 (t60 : (List Int)) (x14 : Int) : Option (Int) :=
 J0 (gQuo x14 (t60.length : Int)) fun t77 =>
 some t77
noncomputable def Jaq (t60 : (List Int)) (next3 : ((Int × Int) → Option (Int))) (x14_3 : Int) (x66_2 : Int) : Option (Int) :=
 Xg (decide (x66_2 < (t60.length : Int))) (J0 (Jk t60 x66_2) fun t68 =>
 J0 (gI (x14_3 + t68)) fun t72 =>
 J0 (gI (x66_2 + 1)) fun t73 =>
 next3 (t72, t73)) (face_score_j2 t60 x14_3)
noncomputable def Ww (l : (List Int)) : Option (Int) :=
 J0 (gSortI l) fun t55 =>
 J0 (Ux t55 0 (min 3 (t55.length : Int))) fun t60 =>
 Xg (decide ((t60.length : Int) = 0)) (some 774192) (Zx (fun next3 s => Jaq t60 next3 s.1 s.2) (0, 0))
noncomputable def Jb2 (x26_2 : Int) (next4 : ((Int × (List Int)) → Option (Int))) (l_4 : (List Int)) : Option (Int) :=
 J0 (gI (x26_2 + 1)) fun t53 =>
 next4 (t53, l_4)
noncomputable def Jap (a0 : (List T_face_Likeness)) (a1 : T_face_Person) (a2 : Int) (t20 : (Int × Bool)) (next4 : ((Int × (List Int)) → Option (Int))) (x26_2 : Int) (l_3 : (List Int)) : Option (Int) :=
 Xg (decide (x26_2 < (a1.Likes.length : Int))) (J0 (Jk a1.Likes x26_2) fun t28 =>
 Xg (decide (t28 ≠ a2)) (J0 (Jbh a0 t28) fun t36 =>
 J0 (Jk a0 t20.1) fun t42 =>
 J0 (Jk a0 t36.1) fun t47 =>
 J0 (Jan t42.Vec t47.Vec) fun t50 =>
 J0 (gApp 8 l_3 ([t50] : List Int)) fun l52 =>
 Jb2 x26_2 next4 l52) (Jb2 x26_2 next4 l_3)) (Ww l_3)
noncomputable def Z1 (a0 : (List T_face_Likeness)) (a1 : T_face_Person) (a2 : Int) : Option (Int) :=
 J0 (Jbh a0 a2) fun t20 =>
 Zx (fun next4 s => Jap a0 a1 a2 t20 next4 s.1 s.2) (0, ([] : List Int))
noncomputable def Q4 (a0 : (List Int)) (next1 : ((Int) → Option (Int))) (x8_2 : Int) : Option (Int) :=
 Xg (decide (x8_2 < (a0.length : Int))) (J0 (Jk a0 x8_2) fun t10 =>
 Xg (decide (t10 ≠ 0)) (some t10) (J0 (gI (x8_2 + 1)) fun t16 =>
 next1 t16)) (some 0)
noncomputable def W2 (a0 : (List Int)) : Option (Int) :=
 Zx (fun next1 s => Q4 a0 next1 s) 0
noncomputable def cmp_Compare_int (a0 : Int) (a1 : Int) : Option (Int) :=
 J0 (Wv a0) fun t8 =>
 J0 (Wv a1) fun t10 =>
 Xg t8 (Xg t10 (some 0) (some (-1))) (Xg t10 (some 1) (Xg (decide (a0 < a1)) (some (-1)) (Xg (decide (a1 < a0)) (some 1) (some 0))))
noncomputable def Z8 (a0 : T_face_Match) (a1 : T_face_Match) : Option (Int) :=
 J0 (cmp_Compare_int a0.Far a1.Far) fun t9 =>
 J0 (cmp_Compare_int a0.Person a1.Person) fun t14 =>
 J0 (W2 ([t9, t14] : List Int)) fun t16 =>
 some t16
noncomputable def Ud (l : (List T_face_Match)) : Option ((List T_face_Match)) :=
 J0 (gSortF l Z8) fun t46 =>
 some t46
noncomputable def Wj (x12_2 : Int) (next2 : ((Int × (List T_face_Match)) → Option ((List T_face_Match)))) (l_4 : (List T_face_Match)) : Option ((List T_face_Match)) :=
 J0 (gI (x12_2 + 1)) fun t44 =>
 next2 (t44, l_4)
noncomputable def Va (a0 : (List T_face_Likeness)) (a1 : (List T_face_Person)) (a2 : Int) (next2 : ((Int × (List T_face_Match)) → Option ((List T_face_Match)))) (x12_2 : Int) (l_3 : (List T_face_Match)) : Option ((List T_face_Match)) :=
 Xg (decide (x12_2 < (a1.length : Int))) (J0 (Jk a1 x12_2) fun t14 =>
 Xg (decide (0 < (t14.Likes.length : Int))) (J0 (Wr t14.Nots a2) fun t24 =>
 Xg (!t24) (J0 (V6 a0 t14 a2) fun t31 =>
 Xg (!t31) (J0 (Z1 a0 t14 a2) fun t40 =>
 J0 (gApp 16 l_3 ([(⟨t14.Id, t40⟩ : T_face_Match)] : List T_face_Match)) fun l43 =>
 Wj x12_2 next2 l43) (Wj x12_2 next2 l_3)) (Wj x12_2 next2 l_3)) (Wj x12_2 next2 l_3)) (Ud l_3)
noncomputable def Jba (a0 : (List T_face_Likeness)) (a1 : (List T_face_Person)) (a2 : Int) : Option ((List T_face_Match)) :=
 Zx (fun next2 s => Va a0 a1 a2 next2 s.1 s.2) (0, ([] : List T_face_Match))
noncomputable def Wu (a0 : T_face_offer) (a1 : T_face_offer) : Option (Int) :=
 J0 (cmp_Compare_int a0.far_ a1.far_) fun t9 =>
 J0 (cmp_Compare_int a0.id_ a1.id_) fun t14 =>
 J0 (cmp_Compare_int a0.person_ a1.person_) fun t19 =>
 J0 (W2 ([t9, t14, t19] : List Int)) fun t21 =>
 some t21
noncomputable def Jce (l : (List T_face_Person)) : Option ((List T_face_Person)) :=
 some l
noncomputable def W5 (a0 : (List T_face_Person)) (next2 : ((Int × Int × (List T_face_Person)) → Option ((List T_face_Person)))) (x7_2 : Int) (x8_2 : Int) (l_3 : (List T_face_Person)) : Option ((List T_face_Person)) :=
 Xg (decide (x8_2 < x7_2)) (J0 (Jk a0 x8_2) fun t10 =>
 J0 (Jh t10.Likes ([] : (List Int))) fun t14 =>
 J0 (Jh t10.Nots ([] : (List Int))) fun t17 =>
 J0 (gApp 72 l_3 ([(⟨t10.Id, t10.Name, t14, t17⟩ : T_face_Person)] : List T_face_Person)) fun l23 =>
 J0 (gI (x8_2 + 1)) fun t24 =>
 next2 (x7_2, t24, l23)) (Jce l_3)
noncomputable def Vt (a0 : (List T_face_Person)) : Option ((List T_face_Person)) :=
 Zx (fun next2 s => W5 a0 next2 s.1 s.2.1 s.2.2) ((a0.length : Int), 0, ([] : List T_face_Person))
noncomputable def Q7 (a0 : (List T_face_Person)) (a1 : Int) (a2 : (T_face_Person → Int → Option (Int))) (x9 : Int) : Option (Int × Bool) :=
 Xg (decide (x9 < (a0.length : Int))) (J0 (Jk a0 x9) fun t43 =>
 J0 (a2 t43 a1) fun t46 =>
 some (x9, (decide (t46 = 0)))) (some (x9, false))
noncomputable def Qk (a0 : (List T_face_Person)) (a1 : Int) (a2 : (T_face_Person → Int → Option (Int))) (next2 : ((Int × Int) → Option (Int × Bool))) (x9_3 : Int) (x10_2 : Int) : Option (Int × Bool) :=
 Xg (decide (x9_3 < x10_2)) (J0 (gI (x9_3 + x10_2)) fun t20 =>
 J0 (gShr 64 (wU64 t20) 1) fun t22 =>
 J0 (Jk a0 (Xm t22)) fun t27 =>
 J0 (a2 t27 a1) fun t30 =>
 Xg (decide (t30 < 0)) (J0 (gI ((Xm t22) + 1)) fun t33 =>
 next2 (t33, x10_2)) (next2 (x9_3, (Xm t22)))) (Q7 a0 a1 a2 x9_3)
noncomputable def Yj (a0 : (List T_face_Person)) (a1 : Int) (a2 : (T_face_Person → Int → Option (Int))) : Option (Int × Bool) :=
 Zx (fun next2 s => Qk a0 a1 a2 next2 s.1 s.2) (0, (a0.length : Int))
noncomputable def Zw (a0 : T_face_Person) (a1 : Int) : Option (Int) :=
 J0 (cmp_Compare_int a0.Id a1) fun t8 =>
 some t8
noncomputable def Zv (a0 : (List T_face_Person)) (a1 : Int) : Option (Int × Bool) :=
 J0 (Yj a0 a1 Zw) fun t8 =>
 some (t8.1, t8.2)
noncomputable def Jc0 (x67_2 : Int) (next2 : ((Int × (List T_face_Person)) → Option ((List T_face_Person) × Int))) (l_4 : (List T_face_Person)) : Option ((List T_face_Person) × Int) :=
 J0 (gI (x67_2 + 1)) fun t107 =>
 next2 (t107, l_4)
noncomputable def Jbf (a0 : (List T_face_Likeness)) (t62 : ((List T_face_offer))) (next2 : ((Int × (List T_face_Person)) → Option ((List T_face_Person) × Int))) (x67_2 : Int) (l_3 : (List T_face_Person)) : Option ((List T_face_Person) × Int) :=
 Xg (decide (x67_2 < (t62.length : Int))) (J0 (Jk t62 x67_2) fun t69 =>
 J0 (Zv l_3 t69.person_) fun t75 =>
 J0 (Ut l_3 t69.id_) fun t81 =>
 Xg (decide (t81 < 0)) (J0 (Jk l_3 t75.1) fun t87 =>
 J0 (V6 a0 t87 t69.id_) fun t91 =>
 Xg (!t91) (J0 (Jk l_3 t75.1) fun t98 =>
 J0 (Jh t98.Likes ([t69.id_] : List Int)) fun t104 =>
 J0 (Jk l_3 t75.1) fun t105 =>
 J0 (Q6 l_3 t75.1 (⟨t105.Id, t105.Name, t104, t105.Nots⟩ : T_face_Person)) fun l2 =>
 Jc0 x67_2 next2 l2) (Jc0 x67_2 next2 l_3)) (Jc0 x67_2 next2 l_3)) (some (l_3, 0))
noncomputable def face_Sort_j1 (a0 : (List T_face_Likeness)) (a1 : (List T_face_Person)) (l : (List T_face_offer)) : Option ((List T_face_Person) × Int) :=
 J0 (gSortF l Wu) fun t62 =>
 J0 (Vt a1) fun t64 =>
 Zx (fun next2 s => Jbf a0 t62 next2 s.1 s.2) (0, t64)
noncomputable def Jc1 (x31_2 : Int) (next4 : ((Int × (List T_face_offer)) → Option ((List T_face_Person) × Int))) (l_7 : (List T_face_offer)) : Option ((List T_face_Person) × Int) :=
 J0 (gI (x31_2 + 1)) fun t60 =>
 next4 (t60, l_7)
noncomputable def face_Sort_j7 (x41_2 : Int) (next6 : ((Int × (List T_face_offer)) → Option ((List T_face_Person) × Int))) (l_10 : (List T_face_offer)) : Option ((List T_face_Person) × Int) :=
 J0 (gI (x41_2 + 1)) fun t59 =>
 next6 (t59, l_10)
noncomputable def Jag (a2 : Int) (x31_2 : Int) (next4 : ((Int × (List T_face_offer)) → Option ((List T_face_Person) × Int))) (t33 : T_face_Likeness) (t39 : ((List T_face_Match))) (next6 : ((Int × (List T_face_offer)) → Option ((List T_face_Person) × Int))) (x41_2 : Int) (l_9 : (List T_face_offer)) : Option ((List T_face_Person) × Int) :=
 Xg (decide (x41_2 < (t39.length : Int))) (J0 (Jk t39 x41_2) fun t43 =>
 Xg (decide (t43.Far ≤ a2)) (J0 (gApp 24 l_9 ([(⟨t33.Id, t43.Person, t43.Far⟩ : T_face_offer)] : List T_face_offer)) fun l58 =>
 face_Sort_j7 x41_2 next6 l58) (face_Sort_j7 x41_2 next6 l_9)) (Jc1 x31_2 next4 l_9)
noncomputable def Jbq (a0 : (List T_face_Likeness)) (a1 : (List T_face_Person)) (a2 : Int) (t29 : ((List T_face_Likeness))) (next4 : ((Int × (List T_face_offer)) → Option ((List T_face_Person) × Int))) (x31_2 : Int) (l_6 : (List T_face_offer)) : Option ((List T_face_Person) × Int) :=
 Xg (decide (x31_2 < (t29.length : Int))) (J0 (Jk t29 x31_2) fun t33 =>
 J0 (Jba a0 a1 t33.Id) fun t39 =>
 Zx (fun next6 s => Jag a2 x31_2 next4 t33 t39 next6 s.1 s.2) (0, l_6)) (face_Sort_j1 a0 a1 l_6)
noncomputable def face_Sort (a0 : (List T_face_Likeness)) (a1 : (List T_face_Person)) (a2 : Int) : Option ((List T_face_Person) × Int) :=
 J0 (Yn a0 a1) fun t21 =>
 Xg (decide (t21 ≠ 0)) (some (([] : List T_face_Person), t21)) (J0 (V8 a2 0 774192) fun t26 =>
 Xg t26 (some (([] : List T_face_Person), 2)) (J0 (face_free a0 a1) fun t29 =>
 Zx (fun next4 s => Jbq a0 a1 a2 t29 next4 s.1 s.2) (0, ([] : List T_face_offer))))
noncomputable def Jav (q0 : (List T_face_Person)) (q1 : Int) (a0 : Int) : Option (Bool) :=
 J0 (Jk q0 q1) fun t7 =>
 J0 (Wr t7.Likes a0) fun t11 =>
 some (!t11)
noncomputable def Jaf (a0 : (List T_face_Person)) (a2 : (List Int)) (a3 : (List UInt8)) (t15 : (Int × Bool)) : Option (Int × Int) :=
 Xg (decide ((a2.length : Int) = 0)) (some (0, 1)) (J0 (Jk a0 t15.1) fun t50 =>
 Xg (decide ((a2.length : Int) = (t50.Likes.length : Int))) (some (0, 1)) (J0 (Jco a3) fun t58 =>
 Xg (!t58) (some (0, 3)) (Xg (decide (100 ≤ (a0.length : Int))) (some (0, 12)) (some (t15.1, 0)))))
noncomputable def Vh (a0 : (List T_face_Person)) (a2 : (List Int)) (a3 : (List UInt8)) (t15 : (Int × Bool)) (next2 : ((Int) → Option (Int × Int))) (x11_2 : Int) : Option (Int × Int) :=
 Xg (decide (x11_2 < (a2.length : Int))) (J0 (Jk a2 x11_2) fun t33 =>
 J0 (gI (x11_2 - 1)) fun t37 =>
 J0 (Jk a2 t37) fun t38 =>
 Xg (decide (t33 ≤ t38)) (some (0, 5)) (J0 (gI (x11_2 + 1)) fun t30 =>
 next2 t30)) (Jaf a0 a2 a3 t15)
noncomputable def Ue (a0 : (List T_face_Person)) (a1 : Int) (a2 : (List Int)) (a3 : (List UInt8)) : Option (Int × Int) :=
 J0 (Zv a0 a1) fun t15 =>
 Xg (!t15.2) (some (0, 7)) (J0 (X0 a2 (Jav a0 t15.1)) fun t23 =>
 Xg t23 (some (0, 7)) (Zx (fun next2 s => Vh a0 a2 a3 t15 next2 s) 1))
noncomputable def Jg (a0 : (List Int)) : Option ((List Int)) :=
 J0 (gApp 8 ([] : List Int) a0) fun l7 =>
 some l7
noncomputable def Uu (x5 : Int) (l : (List Int)) : Option ((List Int)) :=
 J0 (Ux l x5 l.length) fun t38 =>
 J0 (Ux (clrL l x5 l.length 0) 0 x5) fun t41 =>
 some t41
noncomputable def V9 (x6_2 : Int) (next2 : ((Int × Int × (List Int)) → Option ((List Int)))) (x5_4 : Int) (l_4 : (List Int)) : Option ((List Int)) :=
 J0 (gI (x6_2 + 1)) fun t21 =>
 next2 (x5_4, t21, l_4)
noncomputable def Z6 (a1 : (Int → Option (Bool))) (next2 : ((Int × Int × (List Int)) → Option ((List Int)))) (x5_3 : Int) (x6_2 : Int) (l_3 : (List Int)) : Option ((List Int)) :=
 Xg (decide (x6_2 < (l_3.length : Int))) (J0 (Jk l_3 x6_2) fun t24 =>
 J0 (a1 t24) fun t28 =>
 Xg (!t28) (J0 (Jk l_3 x5_3) fun t33 =>
 J0 (Q6 l_3 x5_3 t24) fun l0 =>
 J0 (gI (x5_3 + 1)) fun t35 =>
 V9 x6_2 next2 t35 l0) (V9 x6_2 next2 x5_3 l_3)) (Uu x5_3 l_3)
noncomputable def Vy (a0 : (List Int)) (a1 : (Int → Option (Bool))) : Option ((List Int)) :=
 J0 (Um a0 a1) fun t10 =>
 Xg (decide (t10 = (-1))) (some a0) (J0 (gI (t10 + 1)) fun t15 =>
 Zx (fun next2 s => Z6 a1 next2 s.1 s.2.1 s.2.2) (t10, t15, a0))
noncomputable def Jcq (q0 : (List Int)) (a0 : Int) : Option (Bool) :=
 J0 (Xs q0 a0) fun t6 =>
 some t6
noncomputable def Jz (a0 : (List Int)) (a1 : (List Int)) : Option ((List Int)) :=
 J0 (Jg a0) fun t7 =>
 J0 (Vy t7 (Jcq a1)) fun t9 =>
 some t9
noncomputable def Jb1 (a4 : (List UInt8)) (l2_2 : (List T_face_Person)) (x18 : Int) (m : Int) (l_2 : (List Int)) (l_3 : (List Int)) : Option ((List T_face_Person) × Int) :=
 J0 (gInsN 72 l2_2 x18 (⟨m, a4, l_2, l_3⟩ : T_face_Person)) fun t96 =>
 some (t96, 0)
noncomputable def Up (a4 : (List UInt8)) (t52 : ((List Int))) (t61 : ((List Int))) (l2_2 : (List T_face_Person)) (next2 : ((Int × Int) → Option ((List T_face_Person) × Int))) (x18_3 : Int) (m_3 : Int) : Option ((List T_face_Person) × Int) :=
 Xg (decide (x18_3 < (l2_2.length : Int))) (J0 (Jk l2_2 x18_3) fun t79 =>
 Xg (decide (t79.Id = m_3)) (J0 (gI (m_3 + 1)) fun t88 =>
 J0 (gI (x18_3 + 1)) fun t91 =>
 next2 (t91, t88)) (Jb1 a4 l2_2 x18_3 m_3 t52 t61)) (Jb1 a4 l2_2 x18_3 m_3 t52 t61)
noncomputable def Ja3 (a0 : (List T_face_Likeness)) (a1 : (List T_face_Person)) (a2 : Int) (a3 : (List Int)) (a4 : (List UInt8)) : Option ((List T_face_Person) × Int) :=
 J0 (Yn a0 a1) fun t21 =>
 Xg (decide (t21 ≠ 0)) (some (([] : List T_face_Person), t21)) (J0 (Ue a1 a2 a3 a4) fun t30 =>
 Xg (decide (t30.2 ≠ 0)) (some (([] : List T_face_Person), t30.2)) (J0 (Vt a1) fun t37 =>
 J0 (Jk t37 t30.1) fun t40 =>
 J0 (Jz t40.Likes a3) fun t47 =>
 J0 (Q6 t37 t30.1 (⟨t40.Id, t40.Name, t47, t40.Nots⟩ : T_face_Person)) fun l2 =>
 J0 (Jh a3 ([] : (List Int))) fun t52 =>
 J0 (Jk l2 t30.1) fun t2 =>
 J0 (Jk l2 t30.1) fun t2_2 =>
 J0 (Jh t2.Nots t2_2.Likes) fun t61 =>
 J0 (Jk l2 t30.1) fun t2_3 =>
 J0 (Jh t2_3.Nots a3) fun t69 =>
 J0 (Jk l2 t30.1) fun t2_4 =>
 J0 (Q6 l2 t30.1 (⟨t2_4.Id, t2_4.Name, t2_4.Likes, t69⟩ : T_face_Person)) fun l2_2 =>
 Zx (fun next2 s => Up a4 t52 t61 l2_2 next2 s.1 s.2) (0, 1)))
noncomputable def Jcl (q0 : (List T_face_Likeness)) (q1 : T_face_Person) (a0 : Int) : Option (Bool) :=
 J0 (V6 q0 q1 a0) fun t8 =>
 some t8
noncomputable def face_Merge (a0 : (List T_face_Likeness)) (a1 : (List T_face_Person)) (a2 : Int) (a3 : Int) : Option ((List T_face_Person) × Int) :=
 J0 (Yn a0 a1) fun t20 =>
 Xg (decide (t20 ≠ 0)) (some (([] : List T_face_Person), t20)) (J0 (Zv a1 a2) fun t27 =>
 J0 (Zv a1 a3) fun t33 =>
 Xg (!t27.2) (some (([] : List T_face_Person), 7)) (Xg (!t33.2) (some (([] : List T_face_Person), 7)) (Xg (decide (a2 = a3)) (some (([] : List T_face_Person), 1)) (J0 (Jk a1 t27.1) fun t49 =>
 J0 (Jk a1 t33.1) fun t53 =>
 J0 (X0 t53.Likes (Jcl a0 t49)) fun t58 =>
 Xg t58 (some (([] : List T_face_Person), 11)) (J0 (Vt a1) fun t60 =>
 J0 (Jh t49.Likes t53.Likes) fun t67 =>
 J0 (Jk t60 t27.1) fun t68 =>
 J0 (Q6 t60 t27.1 (⟨t68.Id, t68.Name, t67, t68.Nots⟩ : T_face_Person)) fun l5 =>
 J0 (Jh t49.Nots t53.Nots) fun t76 =>
 J0 (Jk l5 t27.1) fun t79 =>
 J0 (Jz t76 t79.Likes) fun t82 =>
 J0 (Jk l5 t27.1) fun t83 =>
 J0 (Q6 l5 t27.1 (⟨t83.Id, t83.Name, t83.Likes, t82⟩ : T_face_Person)) fun l5_2 =>
 J0 (gI (t33.1 + 1)) fun t88 =>
 J0 (gDelN l5_2 t33.1 t88) fun t89 =>
 some (t89, 0))))))
noncomputable def R_idOk (a0 : Int) : Option (Bool) :=
 Xg (decide (1 ≤ a0)) (some (decide (a0 ≤ 1000000))) (some false)
noncomputable def Jb0 (a0 : (Nat → Int)) (next1 : ((Int) → Option (Int))) (x6_2 : Int) : Option (Int) :=
 Xg (decide (x6_2 < 12)) (J0 (gIx 12 x6_2) fun k8 =>
 Xg (decide ((a0 k8) < (-127))) (some 2) (Xg (decide (127 < (a0 k8))) (some 2) (J0 (gI (x6_2 + 1)) fun t15 =>
 next1 t15))) (some 0)
noncomputable def R_VecFault (a0 : (Nat → Int)) : Option (Int) :=
 Zx (fun next1 s => Jb0 a0 next1 s) 0
noncomputable def Jam (x11_2 : Int) (next1 : ((Int) → Option (Int))) (t14 : T_face_Likeness) (x24 : Bool) (x25 : Bool) : Option (Int) :=
 J0 (R_VecFault t14.Vec) fun t43 =>
 Xg (decide (t43 ≠ 0)) (some t43) (J0 (gI (x11_2 + 1)) fun t47 =>
 next1 t47)
noncomputable def Jb7 (a0 : (List T_face_Likeness)) (next1 : ((Int) → Option (Int))) (x11_2 : Int) : Option (Int) :=
 Xg (decide (x11_2 < (a0.length : Int))) (J0 (Jk a0 x11_2) fun t14 =>
 J0 (R_idOk t14.Id) fun t19 =>
 Xg (!t19) (some 2) (J0 (R_idOk t14.Photo) fun t24 =>
 Xg (!t24) (some 2) (Xg (decide (0 < x11_2)) (J0 (gI (x11_2 - 1)) fun t35 =>
 J0 (Jk a0 t35) fun t36 =>
 Xg (decide (t14.Id ≤ t36.Id)) (some 5) (Jam x11_2 next1 t14 t24 (!t24))) (Jam x11_2 next1 t14 t24 (!t24))))) (some 0)
noncomputable def R_LikesFault (a0 : (List T_face_Likeness)) : Option (Int) :=
 Xg (decide (300 < (a0.length : Int))) (some 4) (Zx (fun next1 s => Jb7 a0 next1 s) 0)
noncomputable def Jc2 (a0 : (List UInt8)) (next1 : ((Int) → Option (Bool))) (x14_2 : Int) : Option (Bool) :=
 Xg (decide (x14_2 < (a0.length : Int))) (J0 (gOct a0 x14_2) fun t19 =>
 Xg (decide (t19 < 32)) (some false) (J0 (gI (x14_2 + 1)) fun t21 =>
 next1 t21)) (some true)
noncomputable def R_TitleOk (a0 : (List UInt8)) : Option (Bool) :=
 Xg (decide ((a0.length : Int) < 1)) (some false) (Xg (decide (60 < (a0.length : Int))) (some false) (Zx (fun next1 s => Jc2 a0 next1 s) 0))
noncomputable def R_LikeAt_1 (q0 : Int) (a0 : T_face_Likeness) : Option (Bool) :=
 some (decide (a0.Id = q0))
noncomputable def Qb (a0 : (List T_face_Likeness)) (a1 : Int) : Option (Int) :=
 J0 (Yy a0 (R_LikeAt_1 a1)) fun t7 =>
 some t7
noncomputable def U2 (x24_2 : Int) (next1 : ((Int × (List (Int × Bool))) → Option (Int))) (mp_3 : (List (Int × Bool))) : Option (Int) :=
 J0 (gI (x24_2 + 1)) fun t127 =>
 next1 (t127, mp_3)
noncomputable def Vj (a0 : (List T_face_Likeness)) (x24_2 : Int) (next1 : ((Int × (List (Int × Bool))) → Option (Int))) (t27 : T_face_Person) (next6 : ((Int × (List (Int × Bool)) × (List (Int × Bool))) → Option (Int))) (x103_2 : Int) (mp_6 : (List (Int × Bool))) (mp_7 : (List (Int × Bool))) : Option (Int) :=
 Xg (decide (x103_2 < (t27.Likes.length : Int))) (J0 (Jk t27.Likes x103_2) fun t105 =>
 J0 (Qb a0 t105) fun t110 =>
 J0 (Jk a0 t110) fun t111 =>
 Xg ((mGet mp_6 t105).getD false) (some 6) (Xg ((mGet mp_7 t111.Photo).getD false) (some 6) (J0 (gI (x103_2 + 1)) fun t126 =>
 next6 (t126, (mSet mp_6 t105 true), (mSet mp_7 t111.Photo true))))) (U2 x24_2 next1 mp_6)
noncomputable def Vi (a0 : (List T_face_Likeness)) (x24_2 : Int) (mp_2 : (List (Int × Bool))) (next1 : ((Int × (List (Int × Bool))) → Option (Int))) (t27 : T_face_Person) : Option (Int) :=
 Zx (fun next6 s => Vj a0 x24_2 next1 t27 next6 s.1 s.2.1 s.2.2) (0, mp_2, ([] : (List (Int × Bool))))
noncomputable def U9 (a0 : (List T_face_Likeness)) (x24_2 : Int) (mp_2 : (List (Int × Bool))) (next1 : ((Int × (List (Int × Bool))) → Option (Int))) (t27 : T_face_Person) (next7 : ((Int) → Option (Int))) (x91_2 : Int) : Option (Int) :=
 Xg (decide (x91_2 < (t27.Likes.length : Int))) (J0 (Jk t27.Likes x91_2) fun t93 =>
 J0 (Xs t27.Nots t93) fun t98 =>
 Xg t98 (some 11) (J0 (gI (x91_2 + 1)) fun t99 =>
 next7 t99)) (Vi a0 x24_2 mp_2 next1 t27)
noncomputable def Jc4 (a0 : (List T_face_Likeness)) (x24_2 : Int) (mp_2 : (List (Int × Bool))) (next1 : ((Int × (List (Int × Bool))) → Option (Int))) (t27 : T_face_Person) : Option (Int) :=
 Zx (fun next7 s => U9 a0 x24_2 mp_2 next1 t27 next7 s) 0
noncomputable def U4 (x59_2 : Int) (next8 : ((Int) → Option (Int))) : Option (Int) :=
 J0 (gI (x59_2 + 1)) fun t86 =>
 next8 t86
noncomputable def Jax (x65_2 : Int) (next10 : ((Int) → Option (Int))) : Option (Int) :=
 J0 (gI (x65_2 + 1)) fun t85 =>
 next10 t85
noncomputable def Wc (a0 : (List T_face_Likeness)) (x59_2 : Int) (next8 : ((Int) → Option (Int))) (t61 : (List Int)) (next10 : ((Int) → Option (Int))) (x65_2 : Int) : Option (Int) :=
 Xg (decide (x65_2 < (t61.length : Int))) (J0 (Jk t61 x65_2) fun t68 =>
 J0 (Qb a0 t68) fun t72 =>
 Xg (decide (t72 < 0)) (some 7) (Xg (decide (0 < x65_2)) (J0 (gI (x65_2 - 1)) fun t80 =>
 J0 (Jk t61 t80) fun t81 =>
 Xg (decide (t68 ≤ t81)) (some 5) (Jax x65_2 next10)) (Jax x65_2 next10))) (U4 x59_2 next8)
noncomputable def Vk (a0 : (List T_face_Likeness)) (x24_2 : Int) (mp_2 : (List (Int × Bool))) (next1 : ((Int × (List (Int × Bool))) → Option (Int))) (t27 : T_face_Person) (next8 : ((Int) → Option (Int))) (x59_2 : Int) : Option (Int) :=
 Xg (decide (x59_2 < 2)) (J0 (Jk ([t27.Likes, t27.Nots] : List (List Int)) x59_2) fun t61 =>
 Zx (fun next10 s => Wc a0 x59_2 next8 t61 next10 s) 0) (Jc4 a0 x24_2 mp_2 next1 t27)
noncomputable def Wx (a0 : (List T_face_Likeness)) (x24_2 : Int) (mp_2 : (List (Int × Bool))) (next1 : ((Int × (List (Int × Bool))) → Option (Int))) (t27 : T_face_Person) : Option (Int) :=
 Zx (fun next8 s => Vk a0 x24_2 mp_2 next1 t27 next8 s) 0
noncomputable def Ya (a0 : (List T_face_Likeness)) (a1 : (List T_face_Person)) (next1 : ((Int × (List (Int × Bool))) → Option (Int))) (x24_2 : Int) (mp_2 : (List (Int × Bool))) : Option (Int) :=
 Xg (decide (x24_2 < (a1.length : Int))) (J0 (Jk a1 x24_2) fun t27 =>
 J0 (R_idOk t27.Id) fun t32 =>
 Xg (!t32) (some 2) (Xg (decide (0 < x24_2)) (J0 (gI (x24_2 - 1)) fun t42 =>
 J0 (Jk a1 t42) fun t43 =>
 Xg (decide (t27.Id ≤ t43.Id)) (some 5) (J0 (R_TitleOk t27.Name) fun t51 =>
 Xg (!t51) (some 3) (Wx a0 x24_2 mp_2 next1 t27))) (J0 (R_TitleOk t27.Name) fun t51_2 =>
 Xg (!t51_2) (some 3) (Wx a0 x24_2 mp_2 next1 t27)))) (some 0)
noncomputable def Jc7 (a0 : (List T_face_Likeness)) (a1 : (List T_face_Person)) : Option (Int) :=
 Xg (decide (100 < (a1.length : Int))) (some 4) (Zx (fun next1 s => Ya a0 a1 next1 s.1 s.2) (0, ([] : (List (Int × Bool)))))
noncomputable def Wa (a0 : (List T_face_Likeness)) (a1 : (List T_face_Person)) (a2 : Int) (a3 : Int) : Option (Int × Int) :=
 J0 (Yn a0 a1) fun t16 =>
 Xg (decide (t16 ≠ 0)) (some (0, t16)) (J0 (Zv a1 a2) fun t23 =>
 J0 (Jbh a0 a3) fun t29 =>
 Xg (!t23.2) (some (0, 7)) (Xg (!t29.2) (some (0, 7)) (some (t23.1, 0))))
noncomputable def Jbj (a0 : (List T_face_Likeness)) (a1 : (List T_face_Person)) (a2 : Int) (a3 : Int) : Option ((List T_face_Person) × Int) :=
 J0 (Wa a0 a1 a2 a3) fun t18 =>
 Xg (decide (t18.2 ≠ 0)) (some (([] : List T_face_Person), t18.2)) (J0 (Ut a1 a3) fun t28 =>
 Xg (decide (0 ≤ t28)) (some (([] : List T_face_Person), 6)) (J0 (Jk a1 t18.1) fun t34 =>
 J0 (V6 a0 t34 a3) fun t37 =>
 Xg t37 (some (([] : List T_face_Person), 11)) (J0 (Vt a1) fun t39 =>
 J0 (Jk t39 t18.1) fun t46 =>
 J0 (Jh t46.Likes ([a3] : List Int)) fun t51 =>
 J0 (Jk t39 t18.1) fun t54 =>
 J0 (Jz t54.Nots ([a3] : List Int)) fun t59 =>
 J0 (Jk t39 t18.1) fun t60 =>
 J0 (Q6 t39 t18.1 (⟨t60.Id, t60.Name, t51, t60.Nots⟩ : T_face_Person)) fun l2 =>
 J0 (Jk l2 t18.1) fun t62 =>
 J0 (Q6 l2 t18.1 (⟨t62.Id, t62.Name, t62.Likes, t59⟩ : T_face_Person)) fun l2_2 =>
 some (l2_2, 0))))
noncomputable def face_Deny (a0 : (List T_face_Likeness)) (a1 : (List T_face_Person)) (a2 : Int) (a3 : Int) : Option ((List T_face_Person) × Int) :=
 J0 (Wa a0 a1 a2 a3) fun t18 =>
 Xg (decide (t18.2 ≠ 0)) (some (([] : List T_face_Person), t18.2)) (J0 (Jk a1 t18.1) fun t28 =>
 J0 (Wr t28.Nots a3) fun t32 =>
 Xg t32 (some (([] : List T_face_Person), 6)) (J0 (Vt a1) fun t34 =>
 J0 (Jk t34 t18.1) fun t41 =>
 J0 (Jh t41.Nots ([a3] : List Int)) fun t46 =>
 J0 (Jk t34 t18.1) fun t49 =>
 J0 (Jz t49.Likes ([a3] : List Int)) fun t54 =>
 J0 (Jk t34 t18.1) fun t55 =>
 J0 (Q6 t34 t18.1 (⟨t55.Id, t55.Name, t55.Likes, t46⟩ : T_face_Person)) fun l2 =>
 J0 (Jk l2 t18.1) fun t57 =>
 J0 (Q6 l2 t18.1 (⟨t57.Id, t57.Name, t54, t57.Nots⟩ : T_face_Person)) fun l2_2 =>
 some (l2_2, 0)))
noncomputable def Qx (a0 : (List T_face_Person)) (a1 : (List T_face_Person)) (a2 : (T_face_Person → T_face_Person → Option (Bool))) (next1 : ((Int) → Option (Bool))) (x17_2 : Int) : Option (Bool) :=
 Xg (decide (x17_2 < (a0.length : Int))) (J0 (Jk a0 x17_2) fun t20 =>
 J0 (Jk a1 x17_2) fun t24 =>
 J0 (a2 t20 t24) fun t29 =>
 Xg (!t29) (some false) (J0 (gI (x17_2 + 1)) fun t31 =>
 next1 t31)) (some true)
noncomputable def X9 (a0 : (List T_face_Person)) (a1 : (List T_face_Person)) (a2 : (T_face_Person → T_face_Person → Option (Bool))) : Option (Bool) :=
 Xg (decide ((a0.length : Int) ≠ (a1.length : Int))) (some false) (Zx (fun next1 s => Qx a0 a1 a2 next1 s) 0)
noncomputable def Wn (a0 : (List Int)) (a1 : (List Int)) (next1 : ((Int) → Option (Bool))) (x13_2 : Int) : Option (Bool) :=
 Xg (decide (x13_2 < (a0.length : Int))) (J0 (Jk a0 x13_2) fun t18 =>
 J0 (Jk a1 x13_2) fun t22 =>
 Xg (decide (t18 ≠ t22)) (some false) (J0 (gI (x13_2 + 1)) fun t25 =>
 next1 t25)) (some true)
noncomputable def Jab (a0 : (List Int)) (a1 : (List Int)) : Option (Bool) :=
 Xg (decide ((a0.length : Int) ≠ (a1.length : Int))) (some false) (Zx (fun next1 s => Wn a0 a1 next1 s) 0)
noncomputable def R_SameFolk_1 (a0 : T_face_Person) (a1 : T_face_Person) : Option (Bool) :=
 Xg (decide (a0.Id = a1.Id)) (Xg (decide (a0.Name = a1.Name)) (J0 (Jab a0.Likes a1.Likes) fun t22 =>
 Xg t22 (J0 (Jab a0.Nots a1.Nots) fun t29 =>
 some t29) (some false)) (some false)) (some false)
noncomputable def R_SameFolk (a0 : (List T_face_Person)) (a1 : (List T_face_Person)) : Option (Bool) :=
 J0 (X9 a0 a1 R_SameFolk_1) fun t7 =>
 some t7
noncomputable def Law_folk_j1 (a0 : (List T_face_Person)) (a1 : Int) (a3 : Int) (x2 : (List T_face_Person)) : Option (Bool) :=
 J0 (R_SameFolk a0 x2) fun t13 =>
 Xg t13 (some (decide (a1 = a3))) (some false)
noncomputable def Uf (a0 : (List T_face_Person)) (a1 : Int) (a2 : (List T_face_Person)) (a3 : Int) : Option (Bool) :=
 Xg (decide (a3 ≠ 0)) (Law_folk_j1 a0 a1 a3 ([] : (List T_face_Person))) (Law_folk_j1 a0 a1 a3 a2)
noncomputable def R_PersonAt_1 (q0 : Int) (a0 : T_face_Person) : Option (Bool) :=
 some (decide (a0.Id = q0))
noncomputable def Zt (a0 : (List T_face_Person)) (a1 : Int) : Option (Int) :=
 J0 (Ze a0 (R_PersonAt_1 a1)) fun t7 =>
 some t7
noncomputable def R_OwnerOf_1 (q0 : Int) (a0 : T_face_Person) : Option (Bool) :=
 J0 (Xs a0.Likes q0) fun t7 =>
 some t7
noncomputable def Jbm (a0 : (List T_face_Person)) (a1 : Int) : Option (Int) :=
 J0 (Ze a0 (R_OwnerOf_1 a1)) fun t7 =>
 some t7
noncomputable def R_InPhoto_1 (q0 : (List T_face_Likeness)) (q1 : Int) (a0 : Int) : Option (Bool) :=
 J0 (Qb q0 a0) fun t8 =>
 J0 (Jk q0 t8) fun t9 =>
 some (decide (t9.Photo = q1))
noncomputable def Wg (a0 : (List T_face_Likeness)) (a1 : T_face_Person) (a2 : Int) : Option (Bool) :=
 J0 (X0 a1.Likes (R_InPhoto_1 a0 a2)) fun t10 =>
 some t10
noncomputable def R_Folk_l1 (a0 : (List T_face_Person)) (next1 : ((Int × Int × (List T_face_Person)) → Option ((List T_face_Person)))) (x7_2 : Int) (x8_2 : Int) (l_2 : (List T_face_Person)) : Option ((List T_face_Person)) :=
 Xg (decide (x8_2 < x7_2)) (J0 (Jk a0 x8_2) fun t10 =>
 J0 (Jg t10.Likes) fun t14 =>
 J0 (Jg t10.Nots) fun t17 =>
 J0 (gApp 72 l_2 ([(⟨t10.Id, t10.Name, t14, t17⟩ : T_face_Person)] : List T_face_Person)) fun l23 =>
 J0 (gI (x8_2 + 1)) fun t24 =>
 next1 (x7_2, t24, l23)) (some l_2)
noncomputable def R_Folk (a0 : (List T_face_Person)) : Option ((List T_face_Person)) :=
 Zx (fun next1 s => R_Folk_l1 a0 next1 s.1 s.2.1 s.2.2) ((a0.length : Int), 0, ([] : List T_face_Person))
noncomputable def Qv (a0 : (List Int)) (a1 : Int) : Option ((List Int)) :=
 J0 (Xs a0 a1) fun t7 =>
 Xg t7 (some a0) (J0 (Jg a0) fun t10 =>
 J0 (gApp 8 t10 ([a1] : List Int)) fun l13 =>
 J0 (gSortI l13) fun t15 =>
 some t15)
noncomputable def R_without_1 (q0 : Int) (a0 : Int) : Option (Bool) :=
 some (decide (a0 = q0))
noncomputable def J4 (a0 : (List Int)) (a1 : Int) : Option ((List Int)) :=
 J0 (Jg a0) fun t6 =>
 J0 (Vy t6 (R_without_1 a1)) fun t8 =>
 some t8
noncomputable def R_ConfirmOf (a0 : (List T_face_Likeness)) (a1 : (List T_face_Person)) (a2 : Int) (a3 : Int) : Option ((List T_face_Person) × Int) :=
 J0 (Zt a1 a2) fun t14 =>
 Xg (decide (t14 < 0)) (some (([] : List T_face_Person), 7)) (J0 (Qb a0 a3) fun t21 =>
 Xg (decide (t21 < 0)) (some (([] : List T_face_Person), 7)) (J0 (Jbm a1 a3) fun t27 =>
 Xg (decide (0 ≤ t27)) (some (([] : List T_face_Person), 6)) (J0 (Jk a1 t14) fun t33 =>
 J0 (Qb a0 a3) fun t38 =>
 J0 (Jk a0 t38) fun t39 =>
 J0 (Wg a0 t33 t39.Photo) fun t42 =>
 Xg t42 (some (([] : List T_face_Person), 11)) (J0 (R_Folk a1) fun t44 =>
 J0 (Jk t44 t14) fun t51 =>
 J0 (Qv t51.Likes a3) fun t55 =>
 J0 (Jk t44 t14) fun t58 =>
 J0 (J4 t58.Nots a3) fun t62 =>
 J0 (Jk t44 t14) fun t63 =>
 J0 (Q6 t44 t14 (⟨t63.Id, t63.Name, t55, t63.Nots⟩ : T_face_Person)) fun l2 =>
 J0 (Jk l2 t14) fun t65 =>
 J0 (Q6 l2 t14 (⟨t65.Id, t65.Name, t65.Likes, t62⟩ : T_face_Person)) fun l2_2 =>
 some (l2_2, 0)))))
noncomputable def R_DenyOf (a0 : (List T_face_Likeness)) (a1 : (List T_face_Person)) (a2 : Int) (a3 : Int) : Option ((List T_face_Person) × Int) :=
 J0 (Zt a1 a2) fun t14 =>
 Xg (decide (t14 < 0)) (some (([] : List T_face_Person), 7)) (J0 (Qb a0 a3) fun t21 =>
 Xg (decide (t21 < 0)) (some (([] : List T_face_Person), 7)) (J0 (Jk a1 t14) fun t27 =>
 J0 (Xs t27.Nots a3) fun t31 =>
 Xg t31 (some (([] : List T_face_Person), 6)) (J0 (R_Folk a1) fun t33 =>
 J0 (Jk t33 t14) fun t40 =>
 J0 (J4 t40.Likes a3) fun t44 =>
 J0 (Jk t33 t14) fun t47 =>
 J0 (Qv t47.Nots a3) fun t51 =>
 J0 (Jk t33 t14) fun t52 =>
 J0 (Q6 t33 t14 (⟨t52.Id, t52.Name, t44, t52.Nots⟩ : T_face_Person)) fun l2 =>
 J0 (Jk l2 t14) fun t54 =>
 J0 (Q6 l2 t14 (⟨t54.Id, t54.Name, t54.Likes, t51⟩ : T_face_Person)) fun l2_2 =>
 some (l2_2, 0))))
noncomputable def Law_unless (a0 : Bool) (a1 : Int) : Option (Int) :=
 Xg a0 (some 0) (some a1)
noncomputable def Ja9 (a0 : Int) : Option (Int) :=
 Xg (decide (0 ≤ a0)) (J0 (Law_unless (decide (a0 ≤ 774192)) 2) fun t9 =>
 some t9) (J0 (Law_unless false 2) fun t9_2 =>
 some t9_2)
noncomputable def R_FarOf_l1 (a0 : (Nat → Int)) (a1 : (Nat → Int)) (next1 : ((Int × Int) → Option (Int))) (x5_2 : Int) (x9_2 : Int) : Option (Int) :=
 Xg (decide (x9_2 < 12)) (J0 (gIx 12 x9_2) fun k12 =>
 J0 (gIx 12 x9_2) fun k16 =>
 J0 (gI ((a0 k12) - (a1 k16))) fun t18 =>
 J0 (gIx 12 x9_2) fun k21 =>
 J0 (gI ((a0 k12) - (a1 k21))) fun t23 =>
 J0 (gI (t18 * t23)) fun t24 =>
 J0 (gI (x5_2 + t24)) fun t25 =>
 J0 (gI (x9_2 + 1)) fun t26 =>
 next1 (t25, t26)) (some x5_2)
noncomputable def R_FarOf (a0 : (Nat → Int)) (a1 : (Nat → Int)) : Option (Int) :=
 Zx (fun next1 s => R_FarOf_l1 a0 a1 next1 s.1 s.2) (0, 0)
noncomputable def R_ScoreOf_j2 (t51 : (List Int)) (x10 : Int) : Option (Int) :=
 J0 (gQuo x10 (t51.length : Int)) fun t65 =>
 some t65
noncomputable def R_ScoreOf_l3 (t51 : (List Int)) (next3 : ((Int × Int) → Option (Int))) (x10_3 : Int) (x54_2 : Int) : Option (Int) :=
 Xg (decide (x54_2 < (t51.length : Int))) (J0 (Jk t51 x54_2) fun t56 =>
 J0 (gI (x10_3 + t56)) fun t60 =>
 J0 (gI (x54_2 + 1)) fun t61 =>
 next3 (t60, t61)) (R_ScoreOf_j2 t51 x10_3)
noncomputable def Jbk (l : (List Int)) : Option (Int) :=
 Xg (decide ((l.length : Int) = 0)) (some 774192) (J0 (gSortI l) fun t46 =>
 J0 (Ux t46 0 (min (t46.length : Int) 3)) fun t51 =>
 Zx (fun next3 s => R_ScoreOf_l3 t51 next3 s.1 s.2) (0, 0))
noncomputable def Jcx (x16_2 : Int) (next4 : ((Int × (List Int)) → Option (Int))) (l_4 : (List Int)) : Option (Int) :=
 J0 (gI (x16_2 + 1)) fun t41 =>
 next4 (t41, l_4)
noncomputable def Jbn (a0 : (List T_face_Likeness)) (a1 : T_face_Person) (a2 : Int) (next4 : ((Int × (List Int)) → Option (Int))) (x16_2 : Int) (l_3 : (List Int)) : Option (Int) :=
 Xg (decide (x16_2 < (a1.Likes.length : Int))) (J0 (Jk a1.Likes x16_2) fun t18 =>
 Xg (decide (t18 ≠ a2)) (J0 (Qb a0 t18) fun t27 =>
 J0 (Jk a0 t27) fun t28 =>
 J0 (Qb a0 a2) fun t34 =>
 J0 (Jk a0 t34) fun t35 =>
 J0 (R_FarOf t28.Vec t35.Vec) fun t38 =>
 J0 (gApp 8 l_3 ([t38] : List Int)) fun l40 =>
 Jcx x16_2 next4 l40) (Jcx x16_2 next4 l_3)) (Jbk l_3)
noncomputable def Wf (a0 : (List T_face_Likeness)) (a1 : T_face_Person) (a2 : Int) : Option (Int) :=
 Zx (fun next4 s => Jbn a0 a1 a2 next4 s.1 s.2) (0, ([] : List Int))
noncomputable def Xa (x8_2 : Int) (next1 : ((Int × (List T_face_Match)) → Option ((List T_face_Match)))) (l_3 : (List T_face_Match)) : Option ((List T_face_Match)) :=
 J0 (gI (x8_2 + 1)) fun t16 =>
 next1 (t16, l_3)
noncomputable def Xb (a1 : Int) (a3 : (T_face_Match → T_face_Match → Option (Int))) (x8_2 : Int) (next1 : ((Int × (List T_face_Match)) → Option ((List T_face_Match)))) (next3 : ((Int × (List T_face_Match)) → Option ((List T_face_Match)))) (x9_2 : Int) (l_5 : (List T_face_Match)) : Option ((List T_face_Match)) :=
 Xg (decide (a1 < x9_2)) (J0 (Jk l_5 x9_2) fun t25 =>
 J0 (gI (x9_2 - 1)) fun t29 =>
 J0 (Jk l_5 t29) fun t30 =>
 J0 (a3 t25 t30) fun t32 =>
 Xg (decide (t32 < 0)) (J0 (gI (x9_2 - 1)) fun t41 =>
 J0 (gI (x9_2 - 1)) fun t44 =>
 J0 (Jk l_5 t44) fun t45 =>
 J0 (Jk l_5 x9_2) fun t49 =>
 J0 (Jk l_5 x9_2) fun t51 =>
 J0 (Q6 l_5 x9_2 t45) fun l0 =>
 J0 (Jk l0 t41) fun t52 =>
 J0 (Q6 l0 t41 t49) fun l0_2 =>
 J0 (gI (x9_2 - 1)) fun t36 =>
 next3 (t36, l0_2)) (Xa x8_2 next1 l_5)) (Xa x8_2 next1 l_5)
noncomputable def Xd (a1 : Int) (a2 : Int) (a3 : (T_face_Match → T_face_Match → Option (Int))) (next1 : ((Int × (List T_face_Match)) → Option ((List T_face_Match)))) (x8_2 : Int) (l_2 : (List T_face_Match)) : Option ((List T_face_Match)) :=
 Xg (decide (x8_2 < a2)) (Zx (fun next3 s => Xb a1 a3 x8_2 next1 next3 s.1 s.2) (x8_2, l_2)) (some l_2)
noncomputable def Xz (a0 : (List T_face_Match)) (a1 : Int) (a2 : Int) (a3 : (T_face_Match → T_face_Match → Option (Int))) : Option ((List T_face_Match)) :=
 J0 (gI (a1 + 1)) fun t11 =>
 Zx (fun next1 s => Xd a1 a2 a3 next1 s.1 s.2) (t11, a0)
noncomputable def X3 (a1 : Int) (a2 : Int) (a3 : Int) (next1 : ((Int × (List T_face_Match)) → Option ((List T_face_Match)))) (x10_2 : Int) (l_2 : (List T_face_Match)) : Option ((List T_face_Match)) :=
 Xg (decide (x10_2 < a3)) (J0 (gI (a1 + x10_2)) fun t19 =>
 J0 (gI (a2 + x10_2)) fun t23 =>
 J0 (gI (a2 + x10_2)) fun t27 =>
 J0 (Jk l_2 t27) fun t28 =>
 J0 (gI (a1 + x10_2)) fun t33 =>
 J0 (Jk l_2 t33) fun t34 =>
 J0 (Jk l_2 t19) fun t36 =>
 J0 (Q6 l_2 t19 t28) fun l0 =>
 J0 (Jk l0 t23) fun t37 =>
 J0 (Q6 l0 t23 t34) fun l0_2 =>
 J0 (gI (x10_2 + 1)) fun t15 =>
 next1 (t15, l0_2)) (some l_2)
noncomputable def Yd (a0 : (List T_face_Match)) (a1 : Int) (a2 : Int) (a3 : Int) (a4 : (T_face_Match → T_face_Match → Option (Int))) : Option ((List T_face_Match)) :=
 Zx (fun next1 s => X3 a1 a2 a3 next1 s.1 s.2) (0, a0)
noncomputable def Ve (a2 : Int) (a4 : (T_face_Match → T_face_Match → Option (Int))) (x10 : Int) (l : (List T_face_Match)) : Option ((List T_face_Match)) :=
 J0 (gI (a2 - x10)) fun t53 =>
 J0 (Yd l t53 a2 x10 a4) fun t57 =>
 some t57
noncomputable def Yh (a2 : Int) (a4 : (T_face_Match → T_face_Match → Option (Int))) (next2 : ((Int × Int × (List T_face_Match)) → Option ((List T_face_Match)))) (x10_3 : Int) (x11_2 : Int) (l_3 : (List T_face_Match)) : Option ((List T_face_Match)) :=
 Xg (decide (x10_3 ≠ x11_2)) (Xg (decide (x11_2 < x10_3)) (J0 (gI (a2 - x10_3)) fun t27 =>
 J0 (Yd l_3 t27 a2 x11_2 a4) fun t31 =>
 J0 (gI (x10_3 - x11_2)) fun t34 =>
 next2 (t34, x11_2, t31)) (J0 (gI (a2 - x10_3)) fun t38 =>
 J0 (gI (a2 + x11_2)) fun t41 =>
 J0 (gI (t41 - x10_3)) fun t43 =>
 J0 (Yd l_3 t38 t43 x10_3 a4) fun t46 =>
 J0 (gI (x11_2 - x10_3)) fun t49 =>
 next2 (x10_3, t49, t46))) (Ve a2 a4 x10_3 l_3)
noncomputable def Zp (a0 : (List T_face_Match)) (a1 : Int) (a2 : Int) (a3 : Int) (a4 : (T_face_Match → T_face_Match → Option (Int))) : Option ((List T_face_Match)) :=
 J0 (gI (a2 - a1)) fun t14 =>
 J0 (gI (a3 - a2)) fun t17 =>
 Zx (fun next2 s => Yh a2 a4 next2 s.1 s.2.1 s.2.2) (t14, t17, a0)
noncomputable def Xr (a3 : Int) (a4 : (T_face_Match → T_face_Match → Option (Int))) (self : ((List T_face_Match) × Int × Int × Int × (T_face_Match → T_face_Match → Option (Int))) → Option ((List T_face_Match))) (t133 : Int) (t177 : Int) (l_2 : (List T_face_Match)) : Option ((List T_face_Match)) :=
 Xg (decide ((Xm t133) < t177)) (Xg (decide (t177 < a3)) (J0 (self (l_2, (Xm t133), t177, a3, a4)) fun t219 =>
 some t219) (some l_2)) (some l_2)
noncomputable def Xp (a1 : Int) (a3 : Int) (a4 : (T_face_Match → T_face_Match → Option (Int))) (self : ((List T_face_Match) × Int × Int × Int × (T_face_Match → T_face_Match → Option (Int))) → Option ((List T_face_Match))) (t133 : Int) (x20_2 : Int) (t177 : Int) (l : (List T_face_Match)) : Option ((List T_face_Match)) :=
 Xg (decide (a1 < x20_2)) (Xg (decide (x20_2 < (Xm t133))) (J0 (self (l, a1, x20_2, (Xm t133), a4)) fun t205 =>
 Xr a3 a4 self t133 t177 t205) (Xr a3 a4 self t133 t177 l)) (Xr a3 a4 self t133 t177 l)
noncomputable def Xo (a0 : (List T_face_Match)) (a1 : Int) (a2 : Int) (a3 : Int) (a4 : (T_face_Match → T_face_Match → Option (Int))) (self : ((List T_face_Match) × Int × Int × Int × (T_face_Match → T_face_Match → Option (Int))) → Option ((List T_face_Match))) (t133 : Int) (t137 : Int) (x20_2 : Int) : Option ((List T_face_Match)) :=
 J0 (gI (t137 - x20_2)) fun t177 =>
 Xg (decide (x20_2 < a2)) (Xg (decide (a2 < t177)) (J0 (Zp a0 x20_2 a2 t177 a4) fun t191 =>
 Xp a1 a3 a4 self t133 x20_2 t177 t191) (Xp a1 a3 a4 self t133 x20_2 t177 a0)) (Xp a1 a3 a4 self t133 x20_2 t177 a0)
noncomputable def Xq (a0 : (List T_face_Match)) (a1 : Int) (a2 : Int) (a3 : Int) (a4 : (T_face_Match → T_face_Match → Option (Int))) (self : ((List T_face_Match) × Int × Int × Int × (T_face_Match → T_face_Match → Option (Int))) → Option ((List T_face_Match))) (t133 : Int) (t137 : Int) (t148 : Int) (next7 : ((Int × Int) → Option ((List T_face_Match)))) (x20_4 : Int) (x21_3 : Int) : Option ((List T_face_Match)) :=
 Xg (decide (x20_4 < x21_3)) (J0 (gI (x20_4 + x21_3)) fun t154 =>
 J0 (gShr 64 (wU64 t154) 1) fun t156 =>
 J0 (gI (t148 - (Xm t156))) fun t162 =>
 J0 (Jk a0 t162) fun t163 =>
 J0 (Jk a0 (Xm t156)) fun t167 =>
 J0 (a4 t163 t167) fun t169 =>
 Xg (!(decide (t169 < 0))) (J0 (gI ((Xm t156) + 1)) fun t173 =>
 next7 (t173, x21_3)) (next7 (x20_4, (Xm t156)))) (Xo a0 a1 a2 a3 a4 self t133 t137 x20_4)
noncomputable def Yt (a0 : (List T_face_Match)) (a1 : Int) (a2 : Int) (a3 : Int) (a4 : (T_face_Match → T_face_Match → Option (Int))) (self : ((List T_face_Match) × Int × Int × Int × (T_face_Match → T_face_Match → Option (Int))) → Option ((List T_face_Match))) (t133 : Int) (t137 : Int) (x20 : Int) (x21 : Int) : Option ((List T_face_Match)) :=
 J0 (gI (t137 - 1)) fun t148 =>
 Zx (fun next7 s => Xq a0 a1 a2 a3 a4 self t133 t137 t148 next7 s.1 s.2) (x20, x21)
noncomputable def Z4 (a0 : (List T_face_Match)) (a1 : Int) (a2 : Int) (a3 : Int) (a4 : (T_face_Match → T_face_Match → Option (Int))) (self : ((List T_face_Match) × Int × Int × Int × (T_face_Match → T_face_Match → Option (Int))) → Option ((List T_face_Match))) : Option ((List T_face_Match)) :=
 J0 (gI (a1 + a3)) fun t131 =>
 J0 (gShr 64 (wU64 t131) 1) fun t133 =>
 J0 (gI ((Xm t133) + a2)) fun t137 =>
 Xg (decide ((Xm t133) < a2)) (J0 (gI (t137 - a3)) fun t143 =>
 Yt a0 a1 a2 a3 a4 self t133 t137 t143 (Xm t133)) (Yt a0 a1 a2 a3 a4 self t133 t137 a1 a2)
noncomputable def X8 (x14 : Int) (next9 : ((Int × (List T_face_Match)) → Option ((List T_face_Match)))) (x17_2 : Int) (l_4 : (List T_face_Match)) : Option ((List T_face_Match)) :=
 Xg (decide (x14 < x17_2)) (J0 (gI (x17_2 - 1)) fun t117 =>
 J0 (gI (x17_2 - 1)) fun t120 =>
 J0 (Jk l_4 t120) fun t121 =>
 J0 (Jk l_4 x17_2) fun t125 =>
 J0 (Jk l_4 x17_2) fun t127 =>
 J0 (Q6 l_4 x17_2 t121) fun l0 =>
 J0 (Jk l0 t117) fun t128 =>
 J0 (Q6 l0 t117 t125) fun l0_2 =>
 J0 (gI (x17_2 - 1)) fun t112 =>
 next9 (t112, l0_2)) (some l_4)
noncomputable def Z2 (a0 : (List T_face_Match)) (a2 : Int) (x14 : Int) : Option ((List T_face_Match)) :=
 Zx (fun next9 s => X8 x14 next9 s.1 s.2) (a2, a0)
noncomputable def Xl (a0 : (List T_face_Match)) (a2 : Int) (a4 : (T_face_Match → T_face_Match → Option (Int))) (next10 : ((Int × Int) → Option ((List T_face_Match)))) (x14_3 : Int) (x15_2 : Int) : Option ((List T_face_Match)) :=
 Xg (decide (x14_3 < x15_2)) (J0 (gI (x14_3 + x15_2)) fun t88 =>
 J0 (gShr 64 (wU64 t88) 1) fun t90 =>
 J0 (Jk a0 a2) fun t95 =>
 J0 (Jk a0 (Xm t90)) fun t99 =>
 J0 (a4 t95 t99) fun t101 =>
 Xg (!(decide (t101 < 0))) (J0 (gI ((Xm t90) + 1)) fun t105 =>
 next10 (t105, x15_2)) (next10 (x14_3, (Xm t90)))) (Z2 a0 a2 x14_3)
noncomputable def Yu (a0 : (List T_face_Match)) (a1 : Int) (a2 : Int) (a3 : Int) (a4 : (T_face_Match → T_face_Match → Option (Int))) (self : ((List T_face_Match) × Int × Int × Int × (T_face_Match → T_face_Match → Option (Int))) → Option ((List T_face_Match))) : Option ((List T_face_Match)) :=
 J0 (gI (a3 - a2)) fun t79 =>
 Xg (decide (t79 = 1)) (Zx (fun next10 s => Xl a0 a2 a4 next10 s.1 s.2) (a1, a2)) (Z4 a0 a1 a2 a3 a4 self)
noncomputable def X4 (x10 : Int) (next12 : ((Int × (List T_face_Match)) → Option ((List T_face_Match)))) (x13_2 : Int) (l_6 : (List T_face_Match)) : Option ((List T_face_Match)) :=
 J0 (gI (x10 - 1)) fun t57 =>
 Xg (decide (x13_2 < t57)) (J0 (gI (x13_2 + 1)) fun t65 =>
 J0 (gI (x13_2 + 1)) fun t68 =>
 J0 (Jk l_6 t68) fun t69 =>
 J0 (Jk l_6 x13_2) fun t73 =>
 J0 (Jk l_6 x13_2) fun t75 =>
 J0 (Q6 l_6 x13_2 t69) fun l0_3 =>
 J0 (Jk l0_3 t65) fun t76 =>
 J0 (Q6 l0_3 t65 t73) fun l0_4 =>
 J0 (gI (x13_2 + 1)) fun t60 =>
 next12 (t60, l0_4)) (some l_6)
noncomputable def Zz (a0 : (List T_face_Match)) (a1 : Int) (x10 : Int) : Option ((List T_face_Match)) :=
 Zx (fun next12 s => X4 x10 next12 s.1 s.2) (a1, a0)
noncomputable def Xk (a0 : (List T_face_Match)) (a1 : Int) (a4 : (T_face_Match → T_face_Match → Option (Int))) (next13 : ((Int × Int) → Option ((List T_face_Match)))) (x10_3 : Int) (x11_2 : Int) : Option ((List T_face_Match)) :=
 Xg (decide (x10_3 < x11_2)) (J0 (gI (x10_3 + x11_2)) fun t36 =>
 J0 (gShr 64 (wU64 t36) 1) fun t38 =>
 J0 (Jk a0 (Xm t38)) fun t43 =>
 J0 (Jk a0 a1) fun t47 =>
 J0 (a4 t43 t47) fun t49 =>
 Xg (decide (t49 < 0)) (J0 (gI ((Xm t38) + 1)) fun t52 =>
 next13 (t52, x11_2)) (next13 (x10_3, (Xm t38)))) (Zz a0 a1 x10_3)
noncomputable def Ql (self : ((List T_face_Match) × Int × Int × Int × (T_face_Match → T_face_Match → Option (Int))) → Option ((List T_face_Match))) (a0 : (List T_face_Match)) (a1 : Int) (a2 : Int) (a3 : Int) (a4 : (T_face_Match → T_face_Match → Option (Int))) : Option ((List T_face_Match)) :=
 J0 (gI (a2 - a1)) fun t27 =>
 Xg (decide (t27 = 1)) (Zx (fun next13 s => Xk a0 a1 a4 next13 s.1 s.2) (a2, a3)) (Yu a0 a1 a2 a3 a4 self)
noncomputable def Zf (a0 : (List T_face_Match)) (a1 : Int) (a2 : Int) (a3 : Int) (a4 : (T_face_Match → T_face_Match → Option (Int))) : Option ((List T_face_Match)) :=
 Zx (fun (self : ((List T_face_Match) × Int × Int × Int × (T_face_Match → T_face_Match → Option (Int))) → Option ((List T_face_Match))) (s : (List T_face_Match) × Int × Int × Int × (T_face_Match → T_face_Match → Option (Int))) => Ql self s.1 s.2.1 s.2.2.1 s.2.2.2.1 s.2.2.2.2) (a0, a1, a2, a3, a4)
noncomputable def Yc (x6_2 : Int) (next2 : ((Int × (List T_face_Match)) → Option ((List T_face_Match)))) (l_5 : (List T_face_Match)) : Option ((List T_face_Match)) :=
 J0 (gI (x6_2 * 2)) fun t62 =>
 next2 (t62, l_5)
noncomputable def Y6 (a1 : Int) (a2 : (T_face_Match → T_face_Match → Option (Int))) (x6_2 : Int) (next2 : ((Int × (List T_face_Match)) → Option ((List T_face_Match)))) (x7_2 : Int) (l_4 : (List T_face_Match)) : Option ((List T_face_Match)) :=
 J0 (gI (x7_2 + x6_2)) fun t51 =>
 Xg (decide (t51 < a1)) (J0 (Zf l_4 x7_2 t51 a1 a2) fun t60 =>
 Yc x6_2 next2 t60) (Yc x6_2 next2 l_4)
noncomputable def Yf (a1 : Int) (a2 : (T_face_Match → T_face_Match → Option (Int))) (x6_2 : Int) (next2 : ((Int × (List T_face_Match)) → Option ((List T_face_Match)))) (next5 : ((Int × Int × (List T_face_Match)) → Option ((List T_face_Match)))) (x7_4 : Int) (x8_2 : Int) (l_7 : (List T_face_Match)) : Option ((List T_face_Match)) :=
 Xg (decide (x8_2 ≤ a1)) (J0 (gI (x7_4 + x6_2)) fun t40 =>
 J0 (Zf l_7 x7_4 t40 x8_2 a2) fun t43 =>
 J0 (gI (2 * x6_2)) fun t47 =>
 J0 (gI (x8_2 + t47)) fun t48 =>
 next5 (x8_2, t48, t43)) (Y6 a1 a2 x6_2 next2 x7_4 l_7)
noncomputable def Xu (a1 : Int) (a2 : (T_face_Match → T_face_Match → Option (Int))) (next2 : ((Int × (List T_face_Match)) → Option ((List T_face_Match)))) (x6_2 : Int) (l_3 : (List T_face_Match)) : Option ((List T_face_Match)) :=
 Xg (decide (x6_2 < a1)) (J0 (gI (2 * x6_2)) fun t32 =>
 Zx (fun next5 s => Yf a1 a2 x6_2 next2 next5 s.1 s.2.1 s.2.2) (0, t32, l_3)) (some l_3)
noncomputable def Vf (a1 : Int) (a2 : (T_face_Match → T_face_Match → Option (Int))) (x7 : Int) (l : (List T_face_Match)) : Option ((List T_face_Match)) :=
 J0 (Xz l x7 a1 a2) fun t27 =>
 Zx (fun next2 s => Xu a1 a2 next2 s.1 s.2) (20, t27)
noncomputable def Yi (a1 : Int) (a2 : (T_face_Match → T_face_Match → Option (Int))) (next6 : ((Int × Int × (List T_face_Match)) → Option ((List T_face_Match)))) (x7_6 : Int) (x8_4 : Int) (l_9 : (List T_face_Match)) : Option ((List T_face_Match)) :=
 Xg (decide (x8_4 ≤ a1)) (J0 (Xz l_9 x7_6 x8_4 a2) fun t18 =>
 J0 (gI (x8_4 + 20)) fun t22 =>
 next6 (x8_4, t22, t18)) (Vf a1 a2 x7_6 l_9)
noncomputable def Vv (a0 : (List T_face_Match)) (a1 : Int) (a2 : (T_face_Match → T_face_Match → Option (Int))) : Option ((List T_face_Match)) :=
 Zx (fun next6 s => Yi a1 a2 next6 s.1 s.2.1 s.2.2) (0, 20, a0)
noncomputable def Ys (a0 : (List T_face_Match)) (a1 : (T_face_Match → T_face_Match → Option (Int))) : Option ((List T_face_Match)) :=
 J0 (Vv a0 (a0.length : Int) a1) fun t8 =>
 some t8
noncomputable def R_matches_1 (a0 : T_face_Match) (a1 : T_face_Match) : Option (Int) :=
 J0 (cmp_Compare_int a0.Far a1.Far) fun t9 =>
 some t9
noncomputable def R_matches_j1 (l : (List T_face_Match)) : Option ((List T_face_Match)) :=
 J0 (Ys l R_matches_1) fun t52 =>
 some t52
noncomputable def Jbp (x12_2 : Int) (next2 : ((Int × (List T_face_Match)) → Option ((List T_face_Match)))) (l_4 : (List T_face_Match)) : Option ((List T_face_Match)) :=
 J0 (gI (x12_2 + 1)) fun t50 =>
 next2 (t50, l_4)
noncomputable def Jbo (a0 : (List T_face_Likeness)) (a1 : (List T_face_Person)) (a2 : Int) (next2 : ((Int × (List T_face_Match)) → Option ((List T_face_Match)))) (x12_2 : Int) (l_3 : (List T_face_Match)) : Option ((List T_face_Match)) :=
 Xg (decide (x12_2 < (a1.length : Int))) (J0 (Jk a1 x12_2) fun t14 =>
 Xg (decide (0 < (t14.Likes.length : Int))) (J0 (Xs t14.Nots a2) fun t24 =>
 Xg (!t24) (J0 (Qb a0 a2) fun t33 =>
 J0 (Jk a0 t33) fun t34 =>
 J0 (Wg a0 t14 t34.Photo) fun t37 =>
 Xg (!t37) (J0 (Wf a0 t14 a2) fun t46 =>
 J0 (gApp 16 l_3 ([(⟨t14.Id, t46⟩ : T_face_Match)] : List T_face_Match)) fun l49 =>
 Jbp x12_2 next2 l49) (Jbp x12_2 next2 l_3)) (Jbp x12_2 next2 l_3)) (Jbp x12_2 next2 l_3)) (R_matches_j1 l_3)
noncomputable def R_matches (a0 : (List T_face_Likeness)) (a1 : (List T_face_Person)) (a2 : Int) : Option ((List T_face_Match)) :=
 Zx (fun next2 s => Jbo a0 a1 a2 next2 s.1 s.2) (0, ([] : List T_face_Match))
noncomputable def Jb8 (a0 : T_tintref2_pair) (a1 : T_tintref2_pair) : Option (Int) :=
 J0 (cmp_Compare_int a0.far_ a1.far_) fun t9 =>
 J0 (cmp_Compare_int a0.like_ a1.like_) fun t14 =>
 J0 (cmp_Compare_int a0.person_ a1.person_) fun t19 =>
 J0 (W2 ([t9, t14, t19] : List Int)) fun t21 =>
 some t21
noncomputable def R_SortOf_j3 (x59_2 : Int) (next2 : ((Int × (List T_face_Person)) → Option ((List T_face_Person)))) (l_4 : (List T_face_Person)) : Option ((List T_face_Person)) :=
 J0 (gI (x59_2 + 1)) fun t101 =>
 next2 (t101, l_4)
noncomputable def Jcg (a0 : (List T_face_Likeness)) (t54 : ((List T_tintref2_pair))) (next2 : ((Int × (List T_face_Person)) → Option ((List T_face_Person)))) (x59_2 : Int) (l_3 : (List T_face_Person)) : Option ((List T_face_Person)) :=
 Xg (decide (x59_2 < (t54.length : Int))) (J0 (Jk t54 x59_2) fun t61 =>
 J0 (Zt l_3 t61.person_) fun t66 =>
 J0 (Jbm l_3 t61.like_) fun t70 =>
 Xg (decide (t70 < 0)) (J0 (Jk l_3 t66) fun t76 =>
 J0 (Qb a0 t61.like_) fun t82 =>
 J0 (Jk a0 t82) fun t83 =>
 J0 (Wg a0 t76 t83.Photo) fun t86 =>
 Xg (!t86) (J0 (Jk l_3 t66) fun t93 =>
 J0 (Qv t93.Likes t61.like_) fun t98 =>
 J0 (Jk l_3 t66) fun t99 =>
 J0 (Q6 l_3 t66 (⟨t99.Id, t99.Name, t98, t99.Nots⟩ : T_face_Person)) fun l2 =>
 R_SortOf_j3 x59_2 next2 l2) (R_SortOf_j3 x59_2 next2 l_3)) (R_SortOf_j3 x59_2 next2 l_3)) (some l_3)
noncomputable def R_SortOf_j1 (a0 : (List T_face_Likeness)) (a1 : (List T_face_Person)) (l : (List T_tintref2_pair)) : Option ((List T_face_Person)) :=
 J0 (gSortF l Jb8) fun t54 =>
 J0 (R_Folk a1) fun t56 =>
 Zx (fun next2 s => Jcg a0 t54 next2 s.1 s.2) (0, t56)
noncomputable def Ja2 (x18_2 : Int) (next4 : ((Int × (List T_tintref2_pair)) → Option ((List T_face_Person)))) (l_7 : (List T_tintref2_pair)) : Option ((List T_face_Person)) :=
 J0 (gI (x18_2 + 1)) fun t52 =>
 next4 (t52, l_7)
noncomputable def R_SortOf_j7 (x33_2 : Int) (next6 : ((Int × (List T_tintref2_pair)) → Option ((List T_face_Person)))) (l_10 : (List T_tintref2_pair)) : Option ((List T_face_Person)) :=
 J0 (gI (x33_2 + 1)) fun t51 =>
 next6 (t51, l_10)
noncomputable def Ja1 (a2 : Int) (x18_2 : Int) (next4 : ((Int × (List T_tintref2_pair)) → Option ((List T_face_Person)))) (t20 : T_face_Likeness) (t31 : ((List T_face_Match))) (next6 : ((Int × (List T_tintref2_pair)) → Option ((List T_face_Person)))) (x33_2 : Int) (l_9 : (List T_tintref2_pair)) : Option ((List T_face_Person)) :=
 Xg (decide (x33_2 < (t31.length : Int))) (J0 (Jk t31 x33_2) fun t35 =>
 Xg (decide (t35.Far ≤ a2)) (J0 (gApp 24 l_9 ([(⟨t35.Far, t20.Id, t35.Person⟩ : T_tintref2_pair)] : List T_tintref2_pair)) fun l50 =>
 R_SortOf_j7 x33_2 next6 l50) (R_SortOf_j7 x33_2 next6 l_9)) (Ja2 x18_2 next4 l_9)
noncomputable def Jci (a0 : (List T_face_Likeness)) (a1 : (List T_face_Person)) (a2 : Int) (next4 : ((Int × (List T_tintref2_pair)) → Option ((List T_face_Person)))) (x18_2 : Int) (l_6 : (List T_tintref2_pair)) : Option ((List T_face_Person)) :=
 Xg (decide (x18_2 < (a0.length : Int))) (J0 (Jk a0 x18_2) fun t20 =>
 J0 (Jbm a1 t20.Id) fun t25 =>
 Xg (decide (0 ≤ t25)) (Ja2 x18_2 next4 l_6) (J0 (R_matches a0 a1 t20.Id) fun t31 =>
 Zx (fun next6 s => Ja1 a2 x18_2 next4 t20 t31 next6 s.1 s.2) (0, l_6))) (R_SortOf_j1 a0 a1 l_6)
noncomputable def R_SortOf (a0 : (List T_face_Likeness)) (a1 : (List T_face_Person)) (a2 : Int) : Option ((List T_face_Person)) :=
 Zx (fun next4 s => Jci a0 a1 a2 next4 s.1 s.2) (0, ([] : List T_tintref2_pair))
noncomputable def Jck (t26 : (Int)) (l_3 : (List T_face_Person)) : Option ((List T_face_Person) × Int) :=
 J0 (gI (t26 + 1)) fun t133 =>
 J0 (gDelN l_3 t26 t133) fun t134 =>
 some (t134, 0)
noncomputable def U8 (t23 : (Int)) (t26 : (Int)) (t110 : T_face_Person) (next5 : (((List Int) × Int × (List T_face_Person)) → Option ((List T_face_Person) × Int))) (x112_2 : (List Int)) (x114_2 : Int) (l_5 : (List T_face_Person)) : Option ((List T_face_Person) × Int) :=
 Xg (decide (x114_2 < (t110.Likes.length : Int))) (J0 (Jk x112_2 x114_2) fun t116 =>
 J0 (Jk l_5 t23) fun t122 =>
 J0 (J4 t122.Nots t116) fun t126 =>
 J0 (Jk l_5 t23) fun t127 =>
 J0 (Q6 l_5 t23 (⟨t127.Id, t127.Name, t127.Likes, t126⟩ : T_face_Person)) fun l1 =>
 J0 (gI (x114_2 + 1)) fun t129 =>
 next5 (x112_2, t129, l1)) (Jck t26 l_5)
noncomputable def Jcw (t23 : (Int)) (t26 : (Int)) (l_2 : (List T_face_Person)) : Option ((List T_face_Person) × Int) :=
 J0 (Jk l_2 t23) fun t110 =>
 Zx (fun next5 s => U8 t23 t26 t110 next5 s.1 s.2.1 s.2.2) (t110.Likes, 0, l_2)
noncomputable def U3 (t23 : (Int)) (t26 : (Int)) (t88 : T_face_Person) (next6 : ((Int × (List T_face_Person)) → Option ((List T_face_Person) × Int))) (x92_2 : Int) (l_7 : (List T_face_Person)) : Option ((List T_face_Person) × Int) :=
 Xg (decide (x92_2 < (t88.Nots.length : Int))) (J0 (Jk t88.Nots x92_2) fun t94 =>
 J0 (Jk l_7 t23) fun t100 =>
 J0 (Qv t100.Nots t94) fun t104 =>
 J0 (Jk l_7 t23) fun t105 =>
 J0 (Q6 l_7 t23 (⟨t105.Id, t105.Name, t105.Likes, t104⟩ : T_face_Person)) fun l1_2 =>
 J0 (gI (x92_2 + 1)) fun t107 =>
 next6 (t107, l1_2)) (Jcw t23 t26 l_7)
noncomputable def Jcy (a1 : (List T_face_Person)) (t23 : (Int)) (t26 : (Int)) (l : (List T_face_Person)) : Option ((List T_face_Person) × Int) :=
 J0 (Jk a1 t26) fun t88 =>
 Zx (fun next6 s => U3 t23 t26 t88 next6 s.1 s.2) (0, l)
noncomputable def U1 (a1 : (List T_face_Person)) (t23 : (Int)) (t26 : (Int)) (t66 : T_face_Person) (next7 : ((Int × (List T_face_Person)) → Option ((List T_face_Person) × Int))) (x70_2 : Int) (l_9 : (List T_face_Person)) : Option ((List T_face_Person) × Int) :=
 Xg (decide (x70_2 < (t66.Likes.length : Int))) (J0 (Jk t66.Likes x70_2) fun t72 =>
 J0 (Jk l_9 t23) fun t78 =>
 J0 (Qv t78.Likes t72) fun t82 =>
 J0 (Jk l_9 t23) fun t83 =>
 J0 (Q6 l_9 t23 (⟨t83.Id, t83.Name, t82, t83.Nots⟩ : T_face_Person)) fun l1_3 =>
 J0 (gI (x70_2 + 1)) fun t85 =>
 next7 (t85, l1_3)) (Jcy a1 t23 t26 l_9)
noncomputable def Jcr (a1 : (List T_face_Person)) (t23 : (Int)) (t26 : (Int)) : Option ((List T_face_Person) × Int) :=
 J0 (R_Folk a1) fun t63 =>
 J0 (Jk a1 t26) fun t66 =>
 Zx (fun next7 s => U1 a1 t23 t26 t66 next7 s.1 s.2) (0, t63)
noncomputable def W8 (a0 : (List T_face_Likeness)) (a1 : (List T_face_Person)) (t23 : (Int)) (t26 : (Int)) (t40 : T_face_Person) (next8 : ((Int) → Option ((List T_face_Person) × Int))) (x44_2 : Int) : Option ((List T_face_Person) × Int) :=
 Xg (decide (x44_2 < (t40.Likes.length : Int))) (J0 (Jk t40.Likes x44_2) fun t46 =>
 J0 (Jk a1 t23) fun t51 =>
 J0 (Qb a0 t46) fun t56 =>
 J0 (Jk a0 t56) fun t57 =>
 J0 (Wg a0 t51 t57.Photo) fun t60 =>
 Xg t60 (some (([] : List T_face_Person), 11)) (J0 (gI (x44_2 + 1)) fun t61 =>
 next8 t61)) (Jcr a1 t23 t26)
noncomputable def R_MergeFolk (a0 : (List T_face_Likeness)) (a1 : (List T_face_Person)) (a2 : Int) (a3 : Int) : Option ((List T_face_Person) × Int) :=
 J0 (Zt a1 a2) fun t23 =>
 J0 (Zt a1 a3) fun t26 =>
 Xg (decide (t23 < 0)) (some (([] : List T_face_Person), 7)) (Xg (decide (t26 < 0)) (some (([] : List T_face_Person), 7)) (Xg (decide (t23 = t26)) (some (([] : List T_face_Person), 1)) (J0 (Jk a1 t26) fun t40 =>
 Zx (fun next8 s => W8 a0 a1 t23 t26 t40 next8 s) 0)))
noncomputable def Jcp (a3 : (List UInt8)) (m : Int) (l_2 : (List Int)) (l_4 : (List T_face_Person)) (m_2 : (List Int)) : Option ((List T_face_Person) × Int) :=
 J0 (gApp 72 l_4 ([(⟨m, a3, l_2, m_2⟩ : T_face_Person)] : List T_face_Person)) fun l144 =>
 J0 (gSortP l144 (fun x_ => x_.Id)) fun t146 =>
 some (t146, 0)
noncomputable def Jac (a3 : (List UInt8)) (m : Int) (l_2 : (List Int)) (l_4 : (List T_face_Person)) (t127 : T_face_Person) (next6 : (((List Int) × Int × (List Int)) → Option ((List T_face_Person) × Int))) (x129_2 : (List Int)) (x131_2 : Int) (m_4 : (List Int)) : Option ((List T_face_Person) × Int) :=
 Xg (decide (x131_2 < (t127.Likes.length : Int))) (J0 (Jk x129_2 x131_2) fun t133 =>
 J0 (Qv m_4 t133) fun t138 =>
 J0 (gI (x131_2 + 1)) fun t140 =>
 next6 (x129_2, t140, t138)) (Jcp a3 m l_2 l_4 m_4)
noncomputable def Jcs (a3 : (List UInt8)) (t23 : (Int)) (m : Int) (l_2 : (List Int)) (l_3 : (List Int)) (l_4 : (List T_face_Person)) : Option ((List T_face_Person) × Int) :=
 J0 (Jk l_4 t23) fun t127 =>
 Zx (fun next6 s => Jac a3 m l_2 l_4 t127 next6 s.1 s.2.1 s.2.2) (t127.Likes, 0, l_3)
noncomputable def U6 (a2 : (List Int)) (a3 : (List UInt8)) (t23 : (Int)) (m : Int) (l_2 : (List Int)) (l_3 : (List Int)) (next7 : ((Int × (List T_face_Person)) → Option ((List T_face_Person) × Int))) (x98_2 : Int) (l_8 : (List T_face_Person)) : Option ((List T_face_Person) × Int) :=
 Xg (decide (x98_2 < (a2.length : Int))) (J0 (Jk a2 x98_2) fun t100 =>
 J0 (Jk l_8 t23) fun t108 =>
 J0 (J4 t108.Likes t100) fun t112 =>
 J0 (Jk l_8 t23) fun t115 =>
 J0 (Qv t115.Nots t100) fun t119 =>
 J0 (Jk l_8 t23) fun t120 =>
 J0 (Q6 l_8 t23 (⟨t120.Id, t120.Name, t112, t120.Nots⟩ : T_face_Person)) fun l1 =>
 J0 (Jk l1 t23) fun t122 =>
 J0 (Q6 l1 t23 (⟨t122.Id, t122.Name, t122.Likes, t119⟩ : T_face_Person)) fun l1_2 =>
 J0 (gI (x98_2 + 1)) fun t124 =>
 next7 (t124, l1_2)) (Jcs a3 t23 m l_2 l_3 l_8)
noncomputable def Jcn (a2 : (List Int)) (a3 : (List UInt8)) (t23 : (Int)) (t79 : ((List T_face_Person))) (m : Int) (l_2 : (List Int)) (l_3 : (List Int)) : Option ((List T_face_Person) × Int) :=
 Zx (fun next7 s => U6 a2 a3 t23 m l_2 l_3 next7 s.1 s.2) (0, t79)
noncomputable def W7 (a0 : (List T_face_Person)) (a2 : (List Int)) (a3 : (List UInt8)) (t23 : (Int)) (t79 : ((List T_face_Person))) (t82 : ((List Int))) (t85 : ((List Int))) (next8 : ((Int) → Option ((List T_face_Person) × Int))) (m_6 : Int) : Option ((List T_face_Person) × Int) :=
 J0 (Zt a0 m_6) fun t90 =>
 Xg (decide (0 ≤ t90)) (J0 (gI (m_6 + 1)) fun t94 =>
 next8 t94) (Jcn a2 a3 t23 t79 m_6 t82 t85)
noncomputable def Jcz (a0 : (List T_face_Person)) (a2 : (List Int)) (a3 : (List UInt8)) (t23 : (Int)) (t28 : T_face_Person) : Option ((List T_face_Person) × Int) :=
 Xg (decide ((a2.length : Int) = 0)) (some (([] : List T_face_Person), 1)) (Xg (decide ((a2.length : Int) = (t28.Likes.length : Int))) (some (([] : List T_face_Person), 1)) (J0 (R_TitleOk a3) fun t72 =>
 Xg (!t72) (some (([] : List T_face_Person), 3)) (Xg (decide (100 ≤ (a0.length : Int))) (some (([] : List T_face_Person), 12)) (J0 (R_Folk a0) fun t79 =>
 J0 (Jg a2) fun t82 =>
 J0 (Jg t28.Nots) fun t85 =>
 Zx (fun next8 s => W7 a0 a2 a3 t23 t79 t82 t85 next8 s) 1))))
noncomputable def W6 (a0 : (List T_face_Person)) (a2 : (List Int)) (a3 : (List UInt8)) (t23 : (Int)) (t28 : T_face_Person) (next9 : ((Int) → Option ((List T_face_Person) × Int))) (x14_2 : Int) : Option ((List T_face_Person) × Int) :=
 Xg (decide (x14_2 < (a2.length : Int))) (J0 (Jk a2 x14_2) fun t50 =>
 J0 (gI (x14_2 - 1)) fun t54 =>
 J0 (Jk a2 t54) fun t55 =>
 Xg (decide (t50 ≤ t55)) (some (([] : List T_face_Person), 5)) (J0 (gI (x14_2 + 1)) fun t47 =>
 next9 t47)) (Jcz a0 a2 a3 t23 t28)
noncomputable def R_SplitFolk_j1 (a0 : (List T_face_Person)) (a2 : (List Int)) (a3 : (List UInt8)) (t23 : (Int)) (t28 : T_face_Person) : Option ((List T_face_Person) × Int) :=
 Zx (fun next9 s => W6 a0 a2 a3 t23 t28 next9 s) 1
noncomputable def Wk (a0 : (List T_face_Person)) (a2 : (List Int)) (a3 : (List UInt8)) (t23 : (Int)) (t28 : T_face_Person) (next10 : ((Int) → Option ((List T_face_Person) × Int))) (x32_2 : Int) : Option ((List T_face_Person) × Int) :=
 Xg (decide (x32_2 < (a2.length : Int))) (J0 (Jk a2 x32_2) fun t34 =>
 J0 (Xs t28.Likes t34) fun t39 =>
 Xg (!t39) (some (([] : List T_face_Person), 7)) (J0 (gI (x32_2 + 1)) fun t41 =>
 next10 t41)) (R_SplitFolk_j1 a0 a2 a3 t23 t28)
noncomputable def Jcj (a0 : (List T_face_Person)) (a1 : Int) (a2 : (List Int)) (a3 : (List UInt8)) : Option ((List T_face_Person) × Int) :=
 J0 (Zt a0 a1) fun t23 =>
 Xg (decide (t23 < 0)) (some (([] : List T_face_Person), 7)) (J0 (Jk a0 t23) fun t28 =>
 Zx (fun next10 s => Wk a0 a2 a3 t23 t28 next10 s) 0)
noncomputable def W1 (a0 : (List T_face_Likeness)) (a1 : (List T_face_Person)) (a2 : Int) (a3 : Int) (a6 : (List Int)) (a7 : (List UInt8)) (t50 : ((List T_face_Person) × Int)) (t58 : ((List T_face_Person) × Int)) (t65 : ((List T_face_Person) × Int)) (t73 : ((List T_face_Person) × Int)) (t82 : ((List T_face_Person) × Int)) (t120 : ((List T_face_Person) × Int)) (t128 : ((List T_face_Person) × Int)) (t132 : (Int)) (l_8 : (List T_face_Person)) : Option (Bool) :=
 J0 (R_MergeFolk a0 a1 a2 a3) fun t144 =>
 J0 (Jcj a1 a2 a6 a7) fun t152 =>
 J0 (Uf t50.1 t50.2 t120.1 t120.2) fun t159 =>
 Xg t159 (J0 (Uf t58.1 t58.2 t128.1 t128.2) fun t165 =>
 Xg t165 (J0 (Uf t65.1 t65.2 l_8 t132) fun t172 =>
 Xg t172 (J0 (Uf t73.1 t73.2 t144.1 t144.2) fun t179 =>
 Xg t179 (J0 (Uf t82.1 t82.2 t152.1 t152.2) fun t186 =>
 some t186) (some false)) (some false)) (some false)) (some false)
noncomputable def Vb (a0 : (List T_face_Likeness)) (a1 : (List T_face_Person)) (a2 : Int) (a3 : Int) (a4 : Int) (a5 : Int) (a6 : (List Int)) (a7 : (List UInt8)) (x17 : Int) : Option (Bool) :=
 J0 (Jbj a0 a1 a2 a4) fun t50 =>
 J0 (face_Deny a0 a1 a2 a4) fun t58 =>
 J0 (face_Sort a0 a1 a5) fun t65 =>
 J0 (face_Merge a0 a1 a2 a3) fun t73 =>
 J0 (Ja3 a0 a1 a2 a6 a7) fun t82 =>
 Xg (decide (x17 ≠ 0)) (J0 (Uf t50.1 t50.2 ([] : (List T_face_Person)) x17) fun t90 =>
 Xg t90 (J0 (Uf t58.1 t58.2 ([] : (List T_face_Person)) x17) fun t95 =>
 Xg t95 (J0 (Uf t65.1 t65.2 ([] : (List T_face_Person)) x17) fun t101 =>
 Xg t101 (J0 (Uf t73.1 t73.2 ([] : (List T_face_Person)) x17) fun t107 =>
 Xg t107 (J0 (Uf t82.1 t82.2 ([] : (List T_face_Person)) x17) fun t113 =>
 some t113) (some false)) (some false)) (some false)) (some false)) (J0 (R_ConfirmOf a0 a1 a2 a4) fun t120 =>
 J0 (R_DenyOf a0 a1 a2 a4) fun t128 =>
 J0 (Ja9 a5) fun t132 =>
 Xg (decide (t132 = 0)) (J0 (R_SortOf a0 a1 a5) fun t138 =>
 W1 a0 a1 a2 a3 a6 a7 t50 t58 t65 t73 t82 t120 t128 t132 t138) (W1 a0 a1 a2 a3 a6 a7 t50 t58 t65 t73 t82 t120 t128 t132 ([] : List T_face_Person)))
noncomputable def Jb6 (a0 : (List T_face_Likeness)) (a1 : (List T_face_Person)) (a2 : Int) (a3 : Int) (a4 : Int) (a5 : Int) (a6 : (List Int)) (a7 : (List UInt8)) : Option (Bool) :=
 J0 (R_LikesFault a0) fun t39 =>
 Xg (decide (t39 = 0)) (J0 (Jc7 a0 a1) fun t44 =>
 Vb a0 a1 a2 a3 a4 a5 a6 a7 t44) (Vb a0 a1 a2 a3 a4 a5 a6 a7 t39)
end Go.M
