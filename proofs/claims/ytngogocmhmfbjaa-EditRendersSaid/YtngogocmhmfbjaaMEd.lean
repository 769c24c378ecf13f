/- Recipes: the models, printed by our generator from the compiled program. Conditions: none. -/
import Derived.Test.YtngogocmhmfbjaaMd3
namespace Go.M
open Go.Md
set_option maxRecDepth 100000
set_option linter.unusedVariables false

structure T_edit_Step where
  Kind : Int
  A : Int
  B : Int
  C : Int
  D : Int
instance : Inhabited T_edit_Step := ⟨⟨0, 0, 0, 0, 0⟩⟩

structure T_api_Image where
  W : Int
  H : Int
  Pixels : (List Int)
instance : Inhabited T_api_Image := ⟨⟨0, 0, []⟩⟩

structure T_pix_share where
  at_ : Int
  parts_ : Int
instance : Inhabited T_pix_share := ⟨⟨0, 0⟩⟩


/-! tintype/tintlaw2.first -/
noncomputable def Law_first_l1 (a0 : (List Int)) (next1 : ((Int) → Option (Int))) (x7_2 : Int) : Option (Int) :=
  cnd (decide (x7_2 < (a0.length : Int))) (bnd (gAt a0 x7_2) fun t9 =>
  cnd (decide (t9 ≠ 0)) (some t9) (bnd (gI (x7_2 + 1)) fun t14 =>
  next1 t14)) (some 0)
noncomputable def Law_first (a0 : (List Int)) : Option (Int) :=
  fix (fun next1 s => Law_first_l1 a0 next1 s) 0

/-! tintype/tintref2.numbersUsed -/
noncomputable def R_numbersUsed (a0 : Int) : Option (Int) :=
  bnd (gAt ([0, 1, 4, 2, 1, 1, 2, 1, 1, 0] : List Int) a0) fun t5 =>
  some t5

/-! tintype/tintref2.StepFault$1 -/
noncomputable def R_StepFault_1 (a0 : Int) (a1 : Int) (a2 : Int) : Option (Bool) :=
  cnd (decide (a0 < a1)) (some true) (some (decide (a2 < a0)))

/-! tintype/tintref2.StepFault -/
noncomputable def R_StepFault_j2 (a0 : T_edit_Step) (x6 : Bool) : Option (Int) :=
  cnd x6 (some 2) (cnd (decide (a0.Kind = 6)) (cnd (decide (a0.B ≤ a0.A)) (some 5) (some 0)) (some 0))
noncomputable def R_StepFault_j1 (a0 : T_edit_Step) : Option (Int) :=
  cnd (decide (a0.Kind = 1)) (bnd (R_StepFault_1 a0.A 1 8) fun t47 =>
  R_StepFault_j2 a0 t47) (cnd (decide (a0.Kind = 2)) (bnd (R_StepFault_1 a0.A 0 63) fun t53 =>
  cnd t53 (R_StepFault_j2 a0 true) (bnd (R_StepFault_1 a0.B 0 63) fun t58 =>
  cnd t58 (R_StepFault_j2 a0 true) (bnd (R_StepFault_1 a0.C 1 64) fun t64 =>
  cnd t64 (R_StepFault_j2 a0 true) (bnd (R_StepFault_1 a0.D 1 64) fun t70 =>
  R_StepFault_j2 a0 t70)))) (cnd (decide (a0.Kind = 3)) (bnd (R_StepFault_1 a0.A 1 64) fun t77 =>
  cnd t77 (R_StepFault_j2 a0 true) (bnd (R_StepFault_1 a0.B 1 64) fun t82 =>
  R_StepFault_j2 a0 t82)) (cnd (decide (a0.Kind = 4)) (bnd (R_StepFault_1 a0.A (-255) 255) fun t89 =>
  R_StepFault_j2 a0 t89) (cnd (decide (a0.Kind = 5)) (bnd (R_StepFault_1 a0.A 0 400) fun t95 =>
  R_StepFault_j2 a0 t95) (cnd (decide (a0.Kind = 6)) (bnd (R_StepFault_1 a0.A 0 255) fun t101 =>
  cnd t101 (R_StepFault_j2 a0 true) (bnd (R_StepFault_1 a0.B 0 255) fun t106 =>
  R_StepFault_j2 a0 t106)) (cnd (decide (a0.Kind = 7)) (bnd (R_StepFault_1 a0.A (-100) 100) fun t113 =>
  R_StepFault_j2 a0 t113) (cnd (decide (a0.Kind = 8)) (bnd (R_StepFault_1 a0.A 0 100) fun t119 =>
  R_StepFault_j2 a0 t119) (R_StepFault_j2 a0 false))))))))
noncomputable def R_StepFault_j4 (x25_2 : Int) (next3 : ((Int) → Option (Int))) : Option (Int) :=
  bnd (gI (x25_2 + 1)) fun t39 =>
  next3 t39
noncomputable def R_StepFault_l3 (a0 : T_edit_Step) (next3 : ((Int) → Option (Int))) (x25_2 : Int) : Option (Int) :=
  cnd (decide (x25_2 < 4)) (bnd (gAt ([a0.A, a0.B, a0.C, a0.D] : List Int) x25_2) fun t28 =>
  bnd (R_numbersUsed a0.Kind) fun t33 =>
  cnd (decide (t33 ≤ x25_2)) (cnd (decide (t28 ≠ 0)) (some 1) (R_StepFault_j4 x25_2 next3)) (R_StepFault_j4 x25_2 next3)) (R_StepFault_j1 a0)
noncomputable def R_StepFault (a0 : T_edit_Step) : Option (Int) :=
  cnd (decide (a0.Kind < 1)) (some 10) (cnd (decide (9 < a0.Kind)) (some 10) (fix (fun next3 s => R_StepFault_l3 a0 next3 s) 0))

/-! tintype/tintref2.StepsFault -/
noncomputable def R_StepsFault_l1 (a0 : (List T_edit_Step)) (next1 : ((Int) → Option (Int))) (x11_2 : Int) : Option (Int) :=
  cnd (decide (x11_2 < (a0.length : Int))) (bnd (gAt a0 x11_2) fun t13 =>
  bnd (R_StepFault t13) fun t16 =>
  cnd (decide (t16 ≠ 0)) (some t16) (bnd (gI (x11_2 + 1)) fun t20 =>
  next1 t20)) (some 0)
noncomputable def R_StepsFault (a0 : (List T_edit_Step)) : Option (Int) :=
  cnd (decide (50 < (a0.length : Int))) (some 4) (fix (fun next1 s => R_StepsFault_l1 a0 next1 s) 0)

/-! tintype/edit.outside -/
noncomputable def edit_outside (a0 : Int) (a1 : Int) (a2 : Int) : Option (Bool) :=
  cnd (decide (a0 < a1)) (some true) (some (decide (a2 < a0)))

/-! tintype/edit.word -/
noncomputable def edit_word (a0 : Int) : Option ((List UInt8) × Int) :=
  cnd (decide (a0 = 1)) (some ([116, 117, 114, 110], 1)) (cnd (decide (a0 = 2)) (some ([99, 114, 111, 112], 4)) (cnd (decide (a0 = 3)) (some ([115, 99, 97, 108, 101], 2)) (cnd (decide (a0 = 4)) (some ([108, 105, 103, 104, 116], 1)) (cnd (decide (a0 = 5)) (some ([115, 112, 114, 101, 97, 100], 1)) (cnd (decide (a0 = 6)) (some ([108, 101, 118, 101, 108, 115], 2)) (cnd (decide (a0 = 7)) (some ([119, 97, 114, 109], 1)) (cnd (decide (a0 = 8)) (some ([109, 117, 116, 101], 1)) (some ([105, 110, 118, 101, 114, 116], 0)))))))))

/-! (tintype/edit.Step).numbers -/
noncomputable def edit_Step_numbers (a0 : T_edit_Step) : Option ((List Int)) :=
  some ([a0.A, a0.B, a0.C, a0.D] : List Int)

/-! tintype/edit.bounds -/
noncomputable def edit_bounds (a0 : Int) : Option ((Nat → (Nat → Int))) :=
  cnd (decide (a0 = 1)) (some (ofL [(ofL [1, 8]), (fun _ => 0), (fun _ => 0), (fun _ => 0)])) (cnd (decide (a0 = 2)) (some (ofL [(ofL [0, 63]), (ofL [0, 63]), (ofL [1, 64]), (ofL [1, 64])])) (cnd (decide (a0 = 3)) (some (ofL [(ofL [1, 64]), (ofL [1, 64]), (fun _ => 0), (fun _ => 0)])) (cnd (decide (a0 = 4)) (some (ofL [(ofL [(-255), 255]), (fun _ => 0), (fun _ => 0), (fun _ => 0)])) (cnd (decide (a0 = 5)) (some (ofL [(ofL [0, 400]), (fun _ => 0), (fun _ => 0), (fun _ => 0)])) (cnd (decide (a0 = 6)) (some (ofL [(ofL [0, 255]), (ofL [0, 255]), (fun _ => 0), (fun _ => 0)])) (cnd (decide (a0 = 7)) (some (ofL [(ofL [(-100), 100]), (fun _ => 0), (fun _ => 0), (fun _ => 0)])) (cnd (decide (a0 = 8)) (some (ofL [(ofL [0, 100]), (fun _ => 0), (fun _ => 0), (fun _ => 0)])) (some (fun _ => (fun _ => 0))))))))))

/-! tintype/edit.CheckStep -/
noncomputable def edit_CheckStep_j2 (a0 : T_edit_Step) : Option (Int) :=
  cnd (decide (a0.Kind = 6)) (cnd (decide (a0.B ≤ a0.A)) (some 5) (some 0)) (some 0)
noncomputable def edit_CheckStep_l3 (a0 : T_edit_Step) (t35 : ((Nat → (Nat → Int)))) (t38 : (List Int)) (next3 : ((Int) → Option (Int))) (x40_2 : Int) : Option (Int) :=
  cnd (decide (x40_2 < (t38.length : Int))) (bnd (gAt t38 x40_2) fun t43 =>
  bnd (gIx 4 x40_2) fun k47 =>
  bnd (gIx 4 x40_2) fun k51 =>
  bnd (edit_outside t43 ((t35 k47) 0) ((t35 k51) 1)) fun t54 =>
  cnd t54 (some 2) (bnd (gI (x40_2 + 1)) fun t55 =>
  next3 t55)) (edit_CheckStep_j2 a0)
noncomputable def edit_CheckStep_j1 (a0 : T_edit_Step) (t17 : ((List UInt8) × Int)) (t21 : ((List Int))) : Option (Int) :=
  bnd (edit_bounds a0.Kind) fun t35 =>
  bnd (gCut t21 0 t17.2) fun t38 =>
  fix (fun next3 s => edit_CheckStep_l3 a0 t35 t38 next3 s) 0
noncomputable def edit_CheckStep_l4 (a0 : T_edit_Step) (t17 : ((List UInt8) × Int)) (t21 : ((List Int))) (t24 : (List Int)) (next4 : ((Int) → Option (Int))) (x26_2 : Int) : Option (Int) :=
  cnd (decide (x26_2 < (t24.length : Int))) (bnd (gAt t24 x26_2) fun t28 =>
  cnd (decide (t28 ≠ 0)) (some 1) (bnd (gI (x26_2 + 1)) fun t32 =>
  next4 t32)) (edit_CheckStep_j1 a0 t17 t21)
noncomputable def edit_CheckStep (a0 : T_edit_Step) : Option (Int) :=
  bnd (edit_outside a0.Kind 1 9) fun t13 =>
  cnd t13 (some 10) (bnd (edit_word a0.Kind) fun t17 =>
  bnd (edit_Step_numbers a0) fun t21 =>
  bnd (gCut t21 t17.2 t21.length) fun t24 =>
  fix (fun next4 s => edit_CheckStep_l4 a0 t17 t21 t24 next4 s) 0)

/-! tintype/edit.Check -/
noncomputable def edit_Check_l1 (a0 : (List T_edit_Step)) (next1 : ((Int) → Option (Int))) (x11_2 : Int) : Option (Int) :=
  cnd (decide (x11_2 < (a0.length : Int))) (bnd (gAt a0 x11_2) fun t13 =>
  bnd (edit_CheckStep t13) fun t16 =>
  cnd (decide (t16 ≠ 0)) (some t16) (bnd (gI (x11_2 + 1)) fun t20 =>
  next1 t20)) (some 0)
noncomputable def edit_Check (a0 : (List T_edit_Step)) : Option (Int) :=
  cnd (decide (50 < (a0.length : Int))) (some 4) (fix (fun next1 s => edit_Check_l1 a0 next1 s) 0)

/-! (tintype/edit.Step).size -/
noncomputable def edit_Step_size_j1 (a1 : Int) (a2 : Int) : Option (Int × Int × Bool) :=
  some (a1, a2, true)
noncomputable def edit_Step_size (a0 : T_edit_Step) (a1 : Int) (a2 : Int) : Option (Int × Int × Bool) :=
  cnd (decide (a0.Kind = 1)) (cnd (decide (5 ≤ a0.A)) (some (a2, a1, true)) (edit_Step_size_j1 a1 a2)) (cnd (decide (a0.Kind = 2)) (bnd (gI (a0.A + a0.C)) fun t28 =>
  cnd (decide (t28 ≤ a1)) (bnd (gI (a0.B + a0.D)) fun t36 =>
  some (a0.C, a0.D, (decide (t36 ≤ a2)))) (some (a0.C, a0.D, false))) (cnd (decide (a0.Kind = 3)) (some (a0.A, a0.B, true)) (edit_Step_size_j1 a1 a2)))

/-! tintype/edit.size -/
noncomputable def edit_size_j1 (x1 : Int) (x2 : Int) : Option (Int × Int × Int) :=
  some (x1, x2, 0)
noncomputable def edit_size_l2 (a0 : (List T_edit_Step)) (next2 : ((Int × Int × Int) → Option (Int × Int × Int))) (x1_3 : Int) (x2_3 : Int) (x20_2 : Int) : Option (Int × Int × Int) :=
  cnd (decide (x20_2 < (a0.length : Int))) (bnd (gAt a0 x20_2) fun t22 =>
  bnd (edit_Step_size t22 x1_3 x2_3) fun t28 =>
  cnd (!t28.2.2) (some (0, 0, 7)) (bnd (gI (x20_2 + 1)) fun t34 =>
  next2 (t28.1, t28.2.1, t34))) (edit_size_j1 x1_3 x2_3)
noncomputable def edit_size (a0 : (List T_edit_Step)) (a1 : Int) (a2 : Int) : Option (Int × Int × Int) :=
  bnd (edit_outside a1 1 64) fun t13 =>
  cnd t13 (some (0, 0, 2)) (bnd (edit_outside a2 1 64) fun t16 =>
  cnd t16 (some (0, 0, 2)) (fix (fun next2 s => edit_size_l2 a0 next2 s.1 s.2.1 s.2.2) (a1, a2, 0)))

/-! tintype/edit.Size -/
noncomputable def edit_Size (a0 : (List T_edit_Step)) (a1 : Int) (a2 : Int) : Option (Int × Int × Int) :=
  bnd (edit_Check a0) fun t11 =>
  cnd (decide (t11 ≠ 0)) (some (0, 0, t11)) (bnd (edit_size a0 a1 a2) fun t18 =>
  some (t18.1, t18.2.1, t18.2.2))

/-! tintype/tintref2.SizeOf -/
noncomputable def R_SizeOf_j1 (x1 : Int) (x2 : Int) : Option (Int × Int × Int) :=
  some (x1, x2, 0)
noncomputable def R_SizeOf_j3 (x27_2 : Int) (next2 : ((Int × Int × Int) → Option (Int × Int × Int))) (x1_4 : Int) (x2_4 : Int) : Option (Int × Int × Int) :=
  bnd (gI (x27_2 + 1)) fun t68 =>
  next2 (x1_4, x2_4, t68)
noncomputable def R_SizeOf_l2 (a0 : (List T_edit_Step)) (next2 : ((Int × Int × Int) → Option (Int × Int × Int))) (x1_3 : Int) (x2_3 : Int) (x27_2 : Int) : Option (Int × Int × Int) :=
  cnd (decide (x27_2 < (a0.length : Int))) (bnd (gAt a0 x27_2) fun t29 =>
  cnd (decide (t29.Kind = 1)) (cnd (decide (5 ≤ t29.A)) (R_SizeOf_j3 x27_2 next2 x2_3 x1_3) (R_SizeOf_j3 x27_2 next2 x1_3 x2_3)) (cnd (decide (t29.Kind = 2)) (bnd (gI (t29.A + t29.C)) fun t46 =>
  cnd (decide (x1_3 < t46)) (some (0, 0, 7)) (bnd (gI (t29.B + t29.D)) fun t54 =>
  cnd (decide (x2_3 < t54)) (some (0, 0, 7)) (R_SizeOf_j3 x27_2 next2 t29.C t29.D))) (cnd (decide (t29.Kind = 3)) (R_SizeOf_j3 x27_2 next2 t29.A t29.B) (R_SizeOf_j3 x27_2 next2 x1_3 x2_3)))) (R_SizeOf_j1 x1_3 x2_3)
noncomputable def R_SizeOf (a0 : (List T_edit_Step)) (a1 : Int) (a2 : Int) : Option (Int × Int × Int) :=
  cnd (decide (a1 < 1)) (some (0, 0, 2)) (cnd (decide (64 < a1)) (some (0, 0, 2)) (cnd (decide (a2 < 1)) (some (0, 0, 2)) (cnd (decide (64 < a2)) (some (0, 0, 2)) (fix (fun next2 s => R_SizeOf_l2 a0 next2 s.1 s.2.1 s.2.2) (a1, a2, 0)))))

/-! tintype/pix.outside -/
noncomputable def pix_outside (a0 : Int) (a1 : Int) (a2 : Int) : Option (Bool) :=
  cnd (decide (a0 < a1)) (some true) (some (decide (a2 < a0)))

/-! tintype/pix.Check -/
noncomputable def pix_Check (a0 : T_api_Image) : Option (Int) :=
  bnd (pix_outside a0.W 1 64) fun t5 =>
  cnd t5 (some 2) (bnd (pix_outside a0.H 1 64) fun t9 =>
  cnd t9 (some 2) (bnd (gI (3 * a0.W)) fun t16 =>
  bnd (gI (t16 * a0.H)) fun t19 =>
  cnd (decide ((a0.Pixels.length : Int) ≠ t19)) (some 1) (some 0)))

/-! tintype/pix.turnings$1 -/
noncomputable def pix_turnings_1 (a0 : Int) (a1 : Int) (a2 : Int) (a3 : Int) : Option (Int × Int) :=
  some (a2, a3)

/-! tintype/pix.turnings$2 -/
noncomputable def pix_turnings_2 (a0 : Int) (a1 : Int) (a2 : Int) (a3 : Int) : Option (Int × Int) :=
  bnd (gI (a0 - 1)) fun t11 =>
  bnd (gI (t11 - a2)) fun t13 =>
  some (t13, a3)

/-! tintype/pix.turnings$3 -/
noncomputable def pix_turnings_3 (a0 : Int) (a1 : Int) (a2 : Int) (a3 : Int) : Option (Int × Int) :=
  bnd (gI (a0 - 1)) fun t11 =>
  bnd (gI (t11 - a2)) fun t13 =>
  bnd (gI (a1 - 1)) fun t15 =>
  bnd (gI (t15 - a3)) fun t17 =>
  some (t13, t17)

/-! tintype/pix.turnings$4 -/
noncomputable def pix_turnings_4 (a0 : Int) (a1 : Int) (a2 : Int) (a3 : Int) : Option (Int × Int) :=
  bnd (gI (a1 - 1)) fun t12 =>
  bnd (gI (t12 - a3)) fun t14 =>
  some (a2, t14)

/-! tintype/pix.turnings$5 -/
noncomputable def pix_turnings_5 (a0 : Int) (a1 : Int) (a2 : Int) (a3 : Int) : Option (Int × Int) :=
  some (a3, a2)

/-! tintype/pix.turnings$6 -/
noncomputable def pix_turnings_6 (a0 : Int) (a1 : Int) (a2 : Int) (a3 : Int) : Option (Int × Int) :=
  bnd (gI (a1 - 1)) fun t12 =>
  bnd (gI (t12 - a2)) fun t14 =>
  some (a3, t14)

/-! tintype/pix.turnings$7 -/
noncomputable def pix_turnings_7 (a0 : Int) (a1 : Int) (a2 : Int) (a3 : Int) : Option (Int × Int) :=
  bnd (gI (a0 - 1)) fun t11 =>
  bnd (gI (t11 - a3)) fun t13 =>
  bnd (gI (a1 - 1)) fun t15 =>
  bnd (gI (t15 - a2)) fun t17 =>
  some (t13, t17)

/-! tintype/pix.turnings$8 -/
noncomputable def pix_turnings_8 (a0 : Int) (a1 : Int) (a2 : Int) (a3 : Int) : Option (Int × Int) :=
  bnd (gI (a0 - 1)) fun t11 =>
  bnd (gI (t11 - a3)) fun t13 =>
  some (t13, a2)

/-! tintype/pix.turnings -/
noncomputable def pix_turnings  : Option (Unit) :=
  some ()
noncomputable def pix_turnings_tab0 : Nat → (Option (Int → Int → Int → Int → Option (Int × Int))) := ofL [none, (some pix_turnings_1), (some pix_turnings_2), (some pix_turnings_3), (some pix_turnings_4), (some pix_turnings_5), (some pix_turnings_6), (some pix_turnings_7), (some pix_turnings_8)]
noncomputable def pix_turnings_tab1 : Nat → Bool := ofL [false, false, false, false, false, true, true, true, true]

/-! tintype/pix.blank -/
noncomputable def pix_blank (a0 : Int) (a1 : Int) : Option (T_api_Image) :=
  bnd (gI (3 * a0)) fun t8 =>
  bnd (gI (t8 * a1)) fun t10 =>
  bnd (gMake 1 t10 0) fun t11 =>
  some (⟨a0, a1, t11⟩ : T_api_Image)

/-! tintype/pix.set -/
noncomputable def pix_set (a0 : T_api_Image) (a1 : Int) (a2 : Int) (a3 : (Nat → Int)) : Option ((List Int)) :=
  bnd (gI (a2 * a0.W)) fun t13 =>
  bnd (gI (t13 + a1)) fun t15 =>
  bnd (gI (3 * t15)) fun t16 =>
  bnd (gCut a0.Pixels t16 a0.Pixels.length) fun t17 =>
  some (cpyL a0.Pixels t16 t17.length ((List.range 3).map a3))

/-! tintype/pix.at -/
noncomputable def pix_at (a0 : T_api_Image) (a1 : Int) (a2 : Int) : Option ((Nat → Int)) :=
  bnd (gI (a2 * a0.W)) fun t12 =>
  bnd (gI (t12 + a1)) fun t14 =>
  bnd (gI (3 * t14)) fun t15 =>
  bnd (gCut a0.Pixels t15 a0.Pixels.length) fun t16 =>
  bnd (gIf (3 ≤ t16.length)) fun u17 =>
  some (ofL t16)

/-! tintype/pix.Sides -/
noncomputable def pix_Sides (a0 : Int) (a1 : Int) (a2 : Int) : Option (Int × Int) :=
  bnd (pix_turnings) fun t8 =>
  bnd (gIx 9 a0) fun k10 =>
  cnd (pix_turnings_tab1 k10) (some (a2, a1)) (some (a1, a2))

/-! tintype/pix.turned -/
noncomputable def pix_turned_j1 (t19 : (T_api_Image)) (l : (List Int)) : Option (T_api_Image) :=
  some (⟨t19.W, t19.H, l⟩ : T_api_Image)
noncomputable def pix_turned_j3 (x26_2 : Int) (m_2 : (List Int)) (next2 : ((Int × (List Int) × (List Int)) → Option (T_api_Image))) (l_4 : (List Int)) : Option (T_api_Image) :=
  bnd (gI (x26_2 + 1)) fun t54 =>
  next2 (t54, m_2, l_4)
noncomputable def pix_turned_l4 (a0 : T_api_Image) (t19 : (T_api_Image)) (k22 : Nat) (x26_2 : Int) (m_2 : (List Int)) (next2 : ((Int × (List Int) × (List Int)) → Option (T_api_Image))) (next4 : ((Int × (List Int)) → Option (T_api_Image))) (x31_2 : Int) (l_6 : (List Int)) : Option (T_api_Image) :=
  cnd (decide (x31_2 < t19.W)) (bnd (gFn (pix_turnings_tab0 k22)) fun g42 =>
  bnd (g42 a0.W a0.H x31_2 x26_2) fun t42 =>
  bnd (pix_at (⟨a0.W, a0.H, m_2⟩ : T_api_Image) t42.1 t42.2) fun t51 =>
  bnd (pix_set (⟨t19.W, t19.H, l_6⟩ : T_api_Image) x31_2 x26_2 t51) fun t52 =>
  bnd (gI (x31_2 + 1)) fun t53 =>
  next4 (t53, t52)) (pix_turned_j3 x26_2 m_2 next2 l_6)
noncomputable def pix_turned_l2 (a0 : T_api_Image) (t19 : (T_api_Image)) (k22 : Nat) (next2 : ((Int × (List Int) × (List Int)) → Option (T_api_Image))) (x26_2 : Int) (m_2 : (List Int)) (l_3 : (List Int)) : Option (T_api_Image) :=
  cnd (decide (x26_2 < t19.H)) (fix (fun next4 s => pix_turned_l4 a0 t19 k22 x26_2 m_2 next2 next4 s.1 s.2) (0, l_3)) (pix_turned_j1 t19 l_3)
noncomputable def pix_turned (a0 : T_api_Image) (a1 : Int) : Option (T_api_Image) :=
  bnd (pix_Sides a1 a0.W a0.H) fun t16 =>
  bnd (pix_blank t16.1 t16.2) fun t19 =>
  bnd (pix_turnings) fun t20 =>
  bnd (gIx 9 a1) fun k22 =>
  fix (fun next2 s => pix_turned_l2 a0 t19 k22 next2 s.1 s.2.1 s.2.2) (0, a0.Pixels, t19.Pixels)

/-! tintype/pix.Turn -/
noncomputable def pix_Turn (a0 : T_api_Image) (a1 : Int) : Option (T_api_Image × Int) :=
  bnd (pix_Check a0) fun t8 =>
  cnd (decide (t8 ≠ 0)) (some ((⟨0, 0, ([] : List Int)⟩ : T_api_Image), t8)) (bnd (pix_outside a1 1 8) fun t14 =>
  cnd t14 (some ((⟨0, 0, ([] : List Int)⟩ : T_api_Image), 2)) (bnd (pix_turned a0 a1) fun t18 =>
  some (t18, 0)))

/-! tintype/pix.Crop -/
noncomputable def pix_Crop_j1 (t59 : (T_api_Image)) (l : (List Int)) : Option (T_api_Image × Int) :=
  some ((⟨t59.W, t59.H, l⟩ : T_api_Image), 0)
noncomputable def pix_Crop_j3 (x61_2 : Int) (m_2 : (List Int)) (next2 : ((Int × (List Int) × (List Int)) → Option (T_api_Image × Int))) (l_4 : (List Int)) : Option (T_api_Image × Int) :=
  bnd (gI (x61_2 + 1)) fun t81 =>
  next2 (t81, m_2, l_4)
noncomputable def pix_Crop_l4 (a0 : T_api_Image) (a1 : Int) (a2 : Int) (a3 : Int) (t59 : (T_api_Image)) (x61_2 : Int) (m_2 : (List Int)) (next2 : ((Int × (List Int) × (List Int)) → Option (T_api_Image × Int))) (next4 : ((Int × (List Int)) → Option (T_api_Image × Int))) (x65_2 : Int) (l_6 : (List Int)) : Option (T_api_Image × Int) :=
  cnd (decide (x65_2 < a3)) (bnd (gI (a1 + x65_2)) fun t74 =>
  bnd (gI (a2 + x61_2)) fun t77 =>
  bnd (pix_at (⟨a0.W, a0.H, m_2⟩ : T_api_Image) t74 t77) fun t78 =>
  bnd (pix_set (⟨t59.W, t59.H, l_6⟩ : T_api_Image) x65_2 x61_2 t78) fun t79 =>
  bnd (gI (x65_2 + 1)) fun t80 =>
  next4 (t80, t79)) (pix_Crop_j3 x61_2 m_2 next2 l_6)
noncomputable def pix_Crop_l2 (a0 : T_api_Image) (a1 : Int) (a2 : Int) (a3 : Int) (a4 : Int) (t59 : (T_api_Image)) (next2 : ((Int × (List Int) × (List Int)) → Option (T_api_Image × Int))) (x61_2 : Int) (m_2 : (List Int)) (l_3 : (List Int)) : Option (T_api_Image × Int) :=
  cnd (decide (x61_2 < a4)) (fix (fun next4 s => pix_Crop_l4 a0 a1 a2 a3 t59 x61_2 m_2 next2 next4 s.1 s.2) (0, l_3)) (pix_Crop_j1 t59 l_3)
noncomputable def pix_Crop (a0 : T_api_Image) (a1 : Int) (a2 : Int) (a3 : Int) (a4 : Int) : Option (T_api_Image × Int) :=
  bnd (pix_Check a0) fun t17 =>
  cnd (decide (t17 ≠ 0)) (some ((⟨0, 0, ([] : List Int)⟩ : T_api_Image), t17)) (cnd (decide (a1 < 0)) (some ((⟨0, 0, ([] : List Int)⟩ : T_api_Image), 2)) (cnd (decide (a2 < 0)) (some ((⟨0, 0, ([] : List Int)⟩ : T_api_Image), 2)) (bnd (pix_outside a3 1 a0.W) fun t32 =>
  cnd t32 (some ((⟨0, 0, ([] : List Int)⟩ : T_api_Image), 2)) (bnd (pix_outside a4 1 a0.H) fun t38 =>
  cnd t38 (some ((⟨0, 0, ([] : List Int)⟩ : T_api_Image), 2)) (bnd (gI (a0.W - a3)) fun t45 =>
  cnd (decide (t45 < a1)) (some ((⟨0, 0, ([] : List Int)⟩ : T_api_Image), 2)) (bnd (gI (a0.H - a4)) fun t53 =>
  cnd (decide (t53 < a2)) (some ((⟨0, 0, ([] : List Int)⟩ : T_api_Image), 2)) (bnd (pix_blank a3 a4) fun t59 =>
  fix (fun next2 s => pix_Crop_l2 a0 a1 a2 a3 a4 t59 next2 s.1 s.2.1 s.2.2) (0, a0.Pixels, t59.Pixels))))))))

/-! tintype/pix.shares -/
noncomputable def pix_shares_l1 (a0 : Int) (a1 : Int) (a2 : Int) (next1 : ((Int × (List T_pix_share)) → Option ((List T_pix_share)))) (x8_2 : Int) (l_2 : (List T_pix_share)) : Option ((List T_pix_share)) :=
  bnd (gI (a2 + 1)) fun t17 =>
  bnd (gI (a0 * t17)) fun t18 =>
  cnd (decide (x8_2 < t18)) (bnd (gQuo x8_2 a1) fun t22 =>
  bnd (gI (t22 + 1)) fun t24 =>
  bnd (gI (t24 * a1)) fun t26 =>
  bnd (gI (a2 + 1)) fun t29 =>
  bnd (gI (a0 * t29)) fun t30 =>
  bnd (gI ((min t26 t30) - x8_2)) fun t36 =>
  bnd (gApp 16 l_2 ([(⟨t22, t36⟩ : T_pix_share)] : List T_pix_share)) fun l39 =>
  next1 ((min t26 t30), l39)) (some l_2)
noncomputable def pix_shares (a0 : Int) (a1 : Int) (a2 : Int) : Option ((List T_pix_share)) :=
  bnd (gI (a0 * a2)) fun t13 =>
  fix (fun next1 s => pix_shares_l1 a0 a1 a2 next1 s.1 s.2) (t13, ([] : List T_pix_share))

/-! tintype/pix.scaled -/
noncomputable def pix_scaled_j1 (t25 : (T_api_Image)) (l : (List Int)) : Option (T_api_Image) :=
  some (⟨t25.W, t25.H, l⟩ : T_api_Image)
noncomputable def pix_scaled_j3 (x32_2 : Int) (m_2 : (List Int)) (next2 : ((Int × (List Int) × (List Int)) → Option (T_api_Image))) (l_4 : (List Int)) : Option (T_api_Image) :=
  bnd (gI (x32_2 + 1)) fun t109 =>
  next2 (t109, m_2, l_4)
noncomputable def pix_scaled_j5 (x41_2 : Int) (next4 : ((Int × (List Int)) → Option (T_api_Image))) (l_7 : (List Int)) : Option (T_api_Image) :=
  bnd (gI (x41_2 + 1)) fun t108 =>
  next4 (t108, l_7)
noncomputable def pix_scaled_j7 (t25 : (T_api_Image)) (x32_2 : Int) (x41_2 : Int) (l_6 : (List Int)) (next4 : ((Int × (List Int)) → Option (T_api_Image))) (m_4 : (Nat → Int)) : Option (T_api_Image) :=
  bnd (pix_set (⟨t25.W, t25.H, l_6⟩ : T_api_Image) x41_2 x32_2 m_4) fun t107 =>
  pix_scaled_j5 x41_2 next4 t107
noncomputable def pix_scaled_l8 (t25 : (T_api_Image)) (t30 : Int) (x32_2 : Int) (x41_2 : Int) (l_6 : (List Int)) (next4 : ((Int × (List Int)) → Option (T_api_Image))) (m_3 : (Nat → Int)) (next8 : ((Int × (Nat → Int)) → Option (T_api_Image))) (x88_2 : Int) (m_6 : (Nat → Int)) : Option (T_api_Image) :=
  cnd (decide (x88_2 < 3)) (bnd (gIx 3 x88_2) fun k91 =>
  bnd (gI (2 * (m_3 k91))) fun t94 =>
  bnd (gI (t94 + t30)) fun t96 =>
  bnd (gI (2 * t30)) fun t98 =>
  bnd (gQuo t96 t98) fun t99 =>
  bnd (gIx 3 x88_2) fun k101 =>
  bnd (gI (x88_2 + 1)) fun t102 =>
  next8 (t102, (setA m_6 k101 (wU8 t99)))) (pix_scaled_j7 t25 x32_2 x41_2 l_6 next4 m_6)
noncomputable def pix_scaled_j6 (t25 : (T_api_Image)) (t30 : Int) (x32_2 : Int) (x41_2 : Int) (l_6 : (List Int)) (next4 : ((Int × (List Int)) → Option (T_api_Image))) (m_3 : (Nat → Int)) : Option (T_api_Image) :=
  fix (fun next8 s => pix_scaled_l8 t25 t30 x32_2 x41_2 l_6 next4 m_3 next8 s.1 s.2) (0, (fun _ => 0))
noncomputable def pix_scaled_j10 (x51_2 : Int) (next9 : ((Int × (Nat → Int)) → Option (T_api_Image))) (m_9 : (Nat → Int)) : Option (T_api_Image) :=
  bnd (gI (x51_2 + 1)) fun t86 =>
  next9 (t86, m_9)
noncomputable def pix_scaled_j12 (x57_2 : Int) (next11 : ((Int × (Nat → Int)) → Option (T_api_Image))) (m_12 : (Nat → Int)) : Option (T_api_Image) :=
  bnd (gI (x57_2 + 1)) fun t85 =>
  next11 (t85, m_12)
noncomputable def pix_scaled_l13 (t53 : T_pix_share) (x57_2 : Int) (next11 : ((Int × (Nat → Int)) → Option (T_api_Image))) (t59 : T_pix_share) (t66 : ((Nat → Int))) (next13 : ((Int × (Nat → Int)) → Option (T_api_Image))) (x67_2 : Int) (m_14 : (Nat → Int)) : Option (T_api_Image) :=
  cnd (decide (x67_2 < 3)) (bnd (gIx 3 x67_2) fun k70 =>
  bnd (gIx 3 x67_2) fun k72 =>
  bnd (gK (-9223372036854775808) 9223372036854775807 (t66 k70)) fun t75 =>
  bnd (gI (t75 * t53.parts_)) fun t78 =>
  bnd (gI (t78 * t59.parts_)) fun t81 =>
  bnd (gI ((m_14 k72) + t81)) fun t82 =>
  bnd (gIx 3 x67_2) fun k83 =>
  bnd (gI (x67_2 + 1)) fun t84 =>
  next13 (t84, (setA m_14 k83 t82))) (pix_scaled_j12 x57_2 next11 m_14)
noncomputable def pix_scaled_l11 (a0 : T_api_Image) (m_2 : (List Int)) (t48 : ((List T_pix_share))) (x51_2 : Int) (next9 : ((Int × (Nat → Int)) → Option (T_api_Image))) (t53 : T_pix_share) (next11 : ((Int × (Nat → Int)) → Option (T_api_Image))) (x57_2 : Int) (m_11 : (Nat → Int)) : Option (T_api_Image) :=
  cnd (decide (x57_2 < (t48.length : Int))) (bnd (gAt t48 x57_2) fun t59 =>
  bnd (pix_at (⟨a0.W, a0.H, m_2⟩ : T_api_Image) t59.at_ t53.at_) fun t66 =>
  fix (fun next13 s => pix_scaled_l13 t53 x57_2 next11 t59 t66 next13 s.1 s.2) (0, m_11)) (pix_scaled_j10 x51_2 next9 m_11)
noncomputable def pix_scaled_l9 (a0 : T_api_Image) (t25 : (T_api_Image)) (t30 : Int) (x32_2 : Int) (m_2 : (List Int)) (t39 : ((List T_pix_share))) (x41_2 : Int) (l_6 : (List Int)) (next4 : ((Int × (List Int)) → Option (T_api_Image))) (t48 : ((List T_pix_share))) (next9 : ((Int × (Nat → Int)) → Option (T_api_Image))) (x51_2 : Int) (m_8 : (Nat → Int)) : Option (T_api_Image) :=
  cnd (decide (x51_2 < (t39.length : Int))) (bnd (gAt t39 x51_2) fun t53 =>
  fix (fun next11 s => pix_scaled_l11 a0 m_2 t48 x51_2 next9 t53 next11 s.1 s.2) (0, m_8)) (pix_scaled_j6 t25 t30 x32_2 x41_2 l_6 next4 m_8)
noncomputable def pix_scaled_l4 (a0 : T_api_Image) (a1 : Int) (t25 : (T_api_Image)) (t30 : Int) (x32_2 : Int) (m_2 : (List Int)) (next2 : ((Int × (List Int) × (List Int)) → Option (T_api_Image))) (t39 : ((List T_pix_share))) (next4 : ((Int × (List Int)) → Option (T_api_Image))) (x41_2 : Int) (l_6 : (List Int)) : Option (T_api_Image) :=
  cnd (decide (x41_2 < a1)) (bnd (pix_shares a0.W a1 x41_2) fun t48 =>
  fix (fun next9 s => pix_scaled_l9 a0 t25 t30 x32_2 m_2 t39 x41_2 l_6 next4 t48 next9 s.1 s.2) (0, (fun _ => 0))) (pix_scaled_j3 x32_2 m_2 next2 l_6)
noncomputable def pix_scaled_l2 (a0 : T_api_Image) (a1 : Int) (a2 : Int) (t25 : (T_api_Image)) (t30 : Int) (next2 : ((Int × (List Int) × (List Int)) → Option (T_api_Image))) (x32_2 : Int) (m_2 : (List Int)) (l_3 : (List Int)) : Option (T_api_Image) :=
  cnd (decide (x32_2 < a2)) (bnd (pix_shares a0.H a2 x32_2) fun t39 =>
  fix (fun next4 s => pix_scaled_l4 a0 a1 t25 t30 x32_2 m_2 next2 t39 next4 s.1 s.2) (0, l_3)) (pix_scaled_j1 t25 l_3)
noncomputable def pix_scaled (a0 : T_api_Image) (a1 : Int) (a2 : Int) : Option (T_api_Image) :=
  bnd (pix_blank a1 a2) fun t25 =>
  bnd (gI (a0.W * a0.H)) fun t30 =>
  fix (fun next2 s => pix_scaled_l2 a0 a1 a2 t25 t30 next2 s.1 s.2.1 s.2.2) (0, a0.Pixels, t25.Pixels)

/-! tintype/pix.Scale -/
noncomputable def pix_Scale (a0 : T_api_Image) (a1 : Int) (a2 : Int) : Option (T_api_Image × Int) :=
  bnd (pix_Check a0) fun t10 =>
  cnd (decide (t10 ≠ 0)) (some ((⟨0, 0, ([] : List Int)⟩ : T_api_Image), t10)) (bnd (pix_outside a1 1 64) fun t16 =>
  cnd t16 (some ((⟨0, 0, ([] : List Int)⟩ : T_api_Image), 2)) (bnd (pix_outside a2 1 64) fun t19 =>
  cnd t19 (some ((⟨0, 0, ([] : List Int)⟩ : T_api_Image), 2)) (bnd (pix_scaled a0 a1 a2) fun t25 =>
  some (t25, 0))))

/-! tintype/edit.clamp -/
noncomputable def edit_clamp (a0 : Int) : Option (Int) :=
  some (wU8 (min (max a0 0) 255))

/-! (tintype/edit.Step).warm -/
noncomputable def edit_Step_warm (a0 : T_edit_Step) (a1 : (Nat → Int)) : Option ((Nat → Int)) :=
  bnd (gK (-9223372036854775808) 9223372036854775807 (a1 0)) fun t7 =>
  bnd (gI (t7 + a0.A)) fun t10 =>
  bnd (edit_clamp t10) fun t11 =>
  bnd (gK (-9223372036854775808) 9223372036854775807 (a1 2)) fun t16 =>
  bnd (gI (t16 - a0.A)) fun t19 =>
  bnd (edit_clamp t19) fun t20 =>
  some (ofL [t11, (a1 1), t20])

/-! tintype/edit.floor -/
noncomputable def edit_floor (a0 : Int) (a1 : Int) : Option (Int) :=
  bnd (gQuo a0 a1) fun t8 =>
  bnd (gRem a0 a1) fun t11 =>
  cnd (decide (t11 < 0)) (bnd (gI (t8 - 1)) fun t14 =>
  some t14) (some t8)

/-! (tintype/edit.Step).mute -/
noncomputable def edit_Step_mute_j1 (m : (Nat → Int)) : Option ((Nat → Int)) :=
  some m
noncomputable def edit_Step_mute_l2 (a0 : T_edit_Step) (a1 : (Nat → Int)) (t22 : Int) (next2 : ((Int × (Nat → Int)) → Option ((Nat → Int)))) (x24_2 : Int) (m_3 : (Nat → Int)) : Option ((Nat → Int)) :=
  cnd (decide (x24_2 < 3)) (bnd (gIx 3 x24_2) fun k27 =>
  bnd (gK (-9223372036854775808) 9223372036854775807 (a1 k27)) fun t30 =>
  bnd (gK (-9223372036854775808) 9223372036854775807 (a1 k27)) fun t33 =>
  bnd (gI (t22 - t33)) fun t34 =>
  bnd (gI (t34 * a0.A)) fun t37 =>
  bnd (edit_floor t37 100) fun t38 =>
  bnd (gI (t30 + t38)) fun t39 =>
  bnd (edit_clamp t39) fun t40 =>
  bnd (gIx 3 x24_2) fun k41 =>
  bnd (gI (x24_2 + 1)) fun t42 =>
  next2 (t42, (setA m_3 k41 t40))) (edit_Step_mute_j1 m_3)
noncomputable def edit_Step_mute (a0 : T_edit_Step) (a1 : (Nat → Int)) : Option ((Nat → Int)) :=
  bnd (gK (-9223372036854775808) 9223372036854775807 (a1 0)) fun t10 =>
  bnd (gI (77 * t10)) fun t11 =>
  bnd (gK (-9223372036854775808) 9223372036854775807 (a1 1)) fun t14 =>
  bnd (gI (150 * t14)) fun t15 =>
  bnd (gI (t11 + t15)) fun t16 =>
  bnd (gK (-9223372036854775808) 9223372036854775807 (a1 2)) fun t19 =>
  bnd (gI (29 * t19)) fun t20 =>
  bnd (gI (t16 + t20)) fun t21 =>
  bnd (gQuo t21 256) fun t22 =>
  fix (fun next2 s => edit_Step_mute_l2 a0 a1 t22 next2 s.1 s.2) (0, a1)

/-! (tintype/edit.Step).light -/
noncomputable def edit_Step_light (a0 : T_edit_Step) (a1 : Int) : Option (Int) :=
  bnd (gK (-9223372036854775808) 9223372036854775807 a1) fun t6 =>
  bnd (gI (t6 + a0.A)) fun t9 =>
  bnd (edit_clamp t9) fun t10 =>
  some t10

/-! (tintype/edit.Step).spread -/
noncomputable def edit_Step_spread (a0 : T_edit_Step) (a1 : Int) : Option (Int) :=
  bnd (gK (-9223372036854775808) 9223372036854775807 a1) fun t6 =>
  bnd (gI (t6 - 128)) fun t7 =>
  bnd (gI (t7 * a0.A)) fun t10 =>
  bnd (edit_floor t10 100) fun t11 =>
  bnd (gI (128 + t11)) fun t12 =>
  bnd (edit_clamp t12) fun t13 =>
  some t13

/-! (tintype/edit.Step).levels -/
noncomputable def edit_Step_levels (a0 : T_edit_Step) (a1 : Int) : Option (Int) :=
  bnd (gK (-9223372036854775808) 9223372036854775807 a1) fun t6 =>
  bnd (gI (t6 - a0.A)) fun t9 =>
  bnd (gI (t9 * 255)) fun t10 =>
  bnd (gI (a0.B - a0.A)) fun t15 =>
  bnd (edit_floor t10 t15) fun t16 =>
  bnd (edit_clamp t16) fun t17 =>
  some t17

/-! (tintype/edit.Step).invert -/
noncomputable def edit_Step_invert (a0 : T_edit_Step) (a1 : Int) : Option (Int) :=
  some (wU8 (255 - a1))

/-! (tintype/edit.Step).byByte -/
noncomputable def edit_Step_byByte (a0 : T_edit_Step) : Option ((Option (Int → Option (Int)))) :=
  cnd (decide (a0.Kind = 4)) (some (some (edit_Step_light a0))) (cnd (decide (a0.Kind = 5)) (some (some (edit_Step_spread a0))) (cnd (decide (a0.Kind = 6)) (some (some (edit_Step_levels a0))) (cnd (decide (a0.Kind = 9)) (some (some (edit_Step_invert a0))) (some none))))

/-! (tintype/edit.Step).eachByte -/
noncomputable def edit_Step_eachByte_j1 (m : (Nat → Int)) : Option ((Nat → Int)) :=
  some m
noncomputable def edit_Step_eachByte_l2 (a1 : (Nat → Int)) (t9 : ((Option (Int → Option (Int))))) (next2 : ((Int × (Nat → Int)) → Option ((Nat → Int)))) (x11_2 : Int) (m_3 : (Nat → Int)) : Option ((Nat → Int)) :=
  cnd (decide (x11_2 < 3)) (bnd (gIx 3 x11_2) fun k14 =>
  bnd (gFn t9) fun g18 =>
  bnd (g18 (a1 k14)) fun t18 =>
  bnd (gIx 3 x11_2) fun k19 =>
  bnd (gI (x11_2 + 1)) fun t20 =>
  next2 (t20, (setA m_3 k19 t18))) (edit_Step_eachByte_j1 m_3)
noncomputable def edit_Step_eachByte (a0 : T_edit_Step) (a1 : (Nat → Int)) : Option ((Nat → Int)) :=
  bnd (edit_Step_byByte a0) fun t9 =>
  fix (fun next2 s => edit_Step_eachByte_l2 a1 t9 next2 s.1 s.2) (0, a1)

/-! (tintype/edit.Step).byPixel -/
noncomputable def edit_Step_byPixel (a0 : T_edit_Step) : Option ((Option ((Nat → Int) → Option ((Nat → Int))))) :=
  cnd (decide (a0.Kind = 7)) (some (some (edit_Step_warm a0))) (cnd (decide (a0.Kind = 8)) (some (some (edit_Step_mute a0))) (some (some (edit_Step_eachByte a0))))

/-! (tintype/edit.Step).tone -/
noncomputable def edit_Step_tone_l1 (t8 : ((Option ((Nat → Int) → Option ((Nat → Int)))))) (next1 : ((Int × (List Int)) → Option ((List Int)))) (x5_2 : Int) (l_2 : (List Int)) : Option ((List Int)) :=
  cnd (decide (x5_2 < (l_2.length : Int))) (bnd (gI (x5_2 + 3)) fun t21 =>
  bnd (gCut l_2 x5_2 t21) fun t22 =>
  bnd (gIf (3 ≤ t22.length)) fun u23 =>
  bnd (gFn t8) fun g25 =>
  bnd (g25 (ofL t22)) fun t25 =>
  bnd (gCut l_2 x5_2 l_2.length) fun t29 =>
  bnd (gI (x5_2 + 3)) fun t15 =>
  next1 (t15, (cpyL l_2 x5_2 t29.length ((List.range 3).map t25)))) (some l_2)
noncomputable def edit_Step_tone (a0 : T_edit_Step) (a1 : T_api_Image) : Option ((List Int)) :=
  bnd (edit_Step_byPixel a0) fun t8 =>
  fix (fun next1 s => edit_Step_tone_l1 t8 next1 s.1 s.2) (0, a1.Pixels)

/-! tintype/edit.Render -/
noncomputable def edit_Render_j1 (m : Int) (m_2 : Int) (l : (List Int)) : Option (T_api_Image × Int) :=
  some ((⟨m, m_2, l⟩ : T_api_Image), 0)
noncomputable def edit_Render_j3 (x46_2 : Int) (next2 : ((Int × Int × Int × (List Int)) → Option (T_api_Image × Int))) (m_7 : Int) (m_8 : Int) (l_4 : (List Int)) : Option (T_api_Image × Int) :=
  bnd (gI (x46_2 + 1)) fun t90 =>
  next2 (t90, m_7, m_8, l_4)
noncomputable def edit_Render_l2 (a1 : (List T_edit_Step)) (next2 : ((Int × Int × Int × (List Int)) → Option (T_api_Image × Int))) (x46_2 : Int) (m_5 : Int) (m_6 : Int) (l_3 : (List Int)) : Option (T_api_Image × Int) :=
  cnd (decide (x46_2 < (a1.length : Int))) (bnd (gAt a1 x46_2) fun t48 =>
  cnd (decide (t48.Kind = 1)) (bnd (pix_Turn (⟨m_5, m_6, l_3⟩ : T_api_Image) t48.A) fun t61 =>
  edit_Render_j3 x46_2 next2 t61.1.W t61.1.H t61.1.Pixels) (cnd (decide (t48.Kind = 2)) (bnd (pix_Crop (⟨m_5, m_6, l_3⟩ : T_api_Image) t48.A t48.B t48.C t48.D) fun t76 =>
  edit_Render_j3 x46_2 next2 t76.1.W t76.1.H t76.1.Pixels) (cnd (decide (t48.Kind = 3)) (bnd (pix_Scale (⟨m_5, m_6, l_3⟩ : T_api_Image) t48.A t48.B) fun t87 =>
  edit_Render_j3 x46_2 next2 t87.1.W t87.1.H t87.1.Pixels) (bnd (edit_Step_tone t48 (⟨m_5, m_6, l_3⟩ : T_api_Image)) fun t54 =>
  edit_Render_j3 x46_2 next2 m_5 m_6 t54)))) (edit_Render_j1 m_5 m_6 l_3)
noncomputable def edit_Render (a0 : T_api_Image) (a1 : (List T_edit_Step)) : Option (T_api_Image × Int) :=
  bnd (edit_Check a1) fun t14 =>
  cnd (decide (t14 ≠ 0)) (some ((⟨0, 0, ([] : List Int)⟩ : T_api_Image), t14)) (bnd (pix_Check a0) fun t20 =>
  cnd (decide (t20 ≠ 0)) (some ((⟨0, 0, ([] : List Int)⟩ : T_api_Image), t20)) (bnd (edit_size a1 a0.W a0.H) fun t31 =>
  cnd (decide (t31.2.2 ≠ 0)) (some ((⟨0, 0, ([] : List Int)⟩ : T_api_Image), t31.2.2)) (bnd (pix_Turn a0 1) fun t41 =>
  fix (fun next2 s => edit_Render_l2 a1 next2 s.1 s.2.1 s.2.2.1 s.2.2.2) (0, t41.1.W, t41.1.H, t41.1.Pixels))))

/-! tintype/tintref1.ImageError -/
noncomputable def R1_ImageError (a0 : T_api_Image) : Option (Int) :=
  cnd (decide (a0.W < 1)) (some 2) (cnd (decide (64 < a0.W)) (some 2) (cnd (decide (a0.H < 1)) (some 2) (cnd (decide (64 < a0.H)) (some 2) (bnd (gI (3 * a0.W)) fun t26 =>
  bnd (gI (t26 * a0.H)) fun t29 =>
  cnd (decide ((a0.Pixels.length : Int) ≠ t29)) (some 1) (some 0)))))

/-! tintype/tintref2.down -/
noncomputable def R_down (a0 : Int) (a1 : Int) : Option (Int) :=
  bnd (gQuo a0 a1) fun t8 =>
  bnd (gRem a0 a1) fun t11 =>
  cnd (decide (t11 ≠ 0)) (cnd (decide ((decide (a0 < 0)) ≠ (decide (a1 < 0)))) (bnd (gI (t8 - 1)) fun t21 =>
  some t21) (some t8)) (some t8)

/-! tintype/tintref2.byteOf -/
noncomputable def R_byteOf (a0 : Int) : Option (Int) :=
  some (min (max a0 0) 255)

/-! tintype/tintref2.Dot -/
noncomputable def R_Dot_j1 (m : (Nat → Int)) : Option ((Nat → Int)) :=
  some m
noncomputable def R_Dot_j3 (x21_2 : Int) (m_3 : (Nat → Int)) (next2 : ((Int × (Nat → Int)) → Option ((Nat → Int)))) (x7 : Int) : Option ((Nat → Int)) :=
  bnd (R_byteOf x7) fun t85 =>
  bnd (gIx 3 x21_2) fun k86 =>
  bnd (gI (x21_2 + 1)) fun t87 =>
  next2 (t87, (setA m_3 k86 t85))
noncomputable def R_Dot_l2 (a0 : T_edit_Step) (a1 : (Nat → Int)) (t19 : (Int)) (next2 : ((Int × (Nat → Int)) → Option ((Nat → Int)))) (x21_2 : Int) (m_3 : (Nat → Int)) : Option ((Nat → Int)) :=
  cnd (decide (x21_2 < 3)) (bnd (gIx 3 x21_2) fun k24 =>
  cnd (decide (a0.Kind = 4)) (bnd (gI ((a1 k24) + a0.A)) fun t32 =>
  R_Dot_j3 x21_2 m_3 next2 t32) (cnd (decide (a0.Kind = 5)) (bnd (gI ((a1 k24) - 128)) fun t36 =>
  bnd (gI (t36 * a0.A)) fun t39 =>
  bnd (R_down t39 100) fun t40 =>
  bnd (gI (128 + t40)) fun t41 =>
  R_Dot_j3 x21_2 m_3 next2 t41) (cnd (decide (a0.Kind = 6)) (bnd (gI ((a1 k24) - a0.A)) fun t47 =>
  bnd (gI (t47 * 255)) fun t48 =>
  bnd (gI (a0.B - a0.A)) fun t53 =>
  bnd (R_down t48 t53) fun t54 =>
  R_Dot_j3 x21_2 m_3 next2 t54) (cnd (decide (a0.Kind = 7)) (bnd (gI (-a0.A)) fun t62 =>
  bnd (gAt ([a0.A, 0, t62] : List Int) x21_2) fun t65 =>
  bnd (gI ((a1 k24) + t65)) fun t67 =>
  R_Dot_j3 x21_2 m_3 next2 t67) (cnd (decide (a0.Kind = 8)) (bnd (gI (t19 - (a1 k24))) fun t73 =>
  bnd (gI (t73 * a0.A)) fun t76 =>
  bnd (R_down t76 100) fun t77 =>
  bnd (gI ((a1 k24) + t77)) fun t78 =>
  R_Dot_j3 x21_2 m_3 next2 t78) (cnd (decide (a0.Kind = 9)) (bnd (gI (255 - (a1 k24))) fun t82 =>
  R_Dot_j3 x21_2 m_3 next2 t82) (R_Dot_j3 x21_2 m_3 next2 (a1 k24)))))))) (R_Dot_j1 m_3)
noncomputable def R_Dot (a0 : T_edit_Step) (a1 : (Nat → Int)) : Option ((Nat → Int)) :=
  bnd (gI (77 * (a1 0))) fun t10 =>
  bnd (gI (150 * (a1 1))) fun t13 =>
  bnd (gI (t10 + t13)) fun t14 =>
  bnd (gI (29 * (a1 2))) fun t17 =>
  bnd (gI (t14 + t17)) fun t18 =>
  bnd (R_down t18 256) fun t19 =>
  fix (fun next2 s => R_Dot_l2 a0 a1 t19 next2 s.1 s.2) (0, a1)

/-! tintype/tintref1.from -/
noncomputable def R1_from (a0 : Int) (a1 : Int) (a2 : Int) (a3 : Int) (a4 : Int) : Option (Int × Int) :=
  cnd (decide (a0 = 2)) (bnd (gI (a1 - 1)) fun t16 =>
  bnd (gI (t16 - a3)) fun t18 =>
  some (t18, a4)) (cnd (decide (a0 = 3)) (bnd (gI (a1 - 1)) fun t23 =>
  bnd (gI (t23 - a3)) fun t25 =>
  bnd (gI (a2 - 1)) fun t27 =>
  bnd (gI (t27 - a4)) fun t29 =>
  some (t25, t29)) (cnd (decide (a0 = 4)) (bnd (gI (a2 - 1)) fun t34 =>
  bnd (gI (t34 - a4)) fun t36 =>
  some (a3, t36)) (cnd (decide (a0 = 5)) (some (a4, a3)) (cnd (decide (a0 = 6)) (bnd (gI (a2 - 1)) fun t45 =>
  bnd (gI (t45 - a3)) fun t47 =>
  some (a4, t47)) (cnd (decide (a0 = 7)) (bnd (gI (a1 - 1)) fun t51 =>
  bnd (gI (t51 - a4)) fun t53 =>
  bnd (gI (a2 - 1)) fun t55 =>
  bnd (gI (t55 - a3)) fun t57 =>
  some (t53, t57)) (cnd (decide (a0 = 8)) (bnd (gI (a1 - 1)) fun t61 =>
  bnd (gI (t61 - a4)) fun t63 =>
  some (t63, a3)) (some (a3, a4))))))))

/-! tintype/tintref1.pixel -/
noncomputable def R1_pixel (a0 : T_api_Image) (a1 : Int) (a2 : Int) : Option ((List Int)) :=
  bnd (gI (a2 * a0.W)) fun t12 =>
  bnd (gI (t12 + a1)) fun t14 =>
  bnd (gI (3 * t14)) fun t15 =>
  bnd (gI (a2 * a0.W)) fun t19 =>
  bnd (gI (t19 + a1)) fun t21 =>
  bnd (gI (3 * t21)) fun t22 =>
  bnd (gI (t22 + 3)) fun t23 =>
  bnd (gCut a0.Pixels t15 t23) fun t24 =>
  some t24

/-! tintype/tintref1.Turned -/
noncomputable def R1_Turned_j2 (m : Int) (m_2 : Int) (l : (List Int)) : Option (T_api_Image) :=
  some (⟨m, m_2, l⟩ : T_api_Image)
noncomputable def R1_Turned_j4 (x25_2 : Int) (next3 : ((Int × (List Int)) → Option (T_api_Image))) (l_4 : (List Int)) : Option (T_api_Image) :=
  bnd (gI (x25_2 + 1)) fun t53 =>
  next3 (t53, l_4)
noncomputable def R1_Turned_l5 (a0 : T_api_Image) (a1 : Int) (m : Int) (x25_2 : Int) (next3 : ((Int × (List Int)) → Option (T_api_Image))) (next5 : ((Int × (List Int)) → Option (T_api_Image))) (x30_2 : Int) (l_6 : (List Int)) : Option (T_api_Image) :=
  cnd (decide (x30_2 < m)) (bnd (R1_from a1 a0.W a0.H x30_2 x25_2) fun t41 =>
  bnd (R1_pixel a0 t41.1 t41.2) fun t49 =>
  bnd (gApp 1 l_6 t49) fun l50 =>
  bnd (gI (x30_2 + 1)) fun t52 =>
  next5 (t52, l50)) (R1_Turned_j4 x25_2 next3 l_6)
noncomputable def R1_Turned_l3 (a0 : T_api_Image) (a1 : Int) (m : Int) (m_2 : Int) (next3 : ((Int × (List Int)) → Option (T_api_Image))) (x25_2 : Int) (l_3 : (List Int)) : Option (T_api_Image) :=
  cnd (decide (x25_2 < m_2)) (fix (fun next5 s => R1_Turned_l5 a0 a1 m x25_2 next3 next5 s.1 s.2) (0, l_3)) (R1_Turned_j2 m m_2 l_3)
noncomputable def R1_Turned_j1 (a0 : T_api_Image) (a1 : Int) (m : Int) (m_2 : Int) : Option (T_api_Image) :=
  fix (fun next3 s => R1_Turned_l3 a0 a1 m m_2 next3 s.1 s.2) (0, ([] : List Int))
noncomputable def R1_Turned (a0 : T_api_Image) (a1 : Int) : Option (T_api_Image) :=
  cnd (decide (5 ≤ a1)) (R1_Turned_j1 a0 a1 a0.H a0.W) (R1_Turned_j1 a0 a1 a0.W a0.H)

/-! tintype/tintref1.Cropped -/
noncomputable def R1_Cropped_j1 (a3 : Int) (a4 : Int) (l : (List Int)) : Option (T_api_Image) :=
  some (⟨a3, a4, l⟩ : T_api_Image)
noncomputable def R1_Cropped_j3 (x18_2 : Int) (next2 : ((Int × (List Int)) → Option (T_api_Image))) (l_4 : (List Int)) : Option (T_api_Image) :=
  bnd (gI (x18_2 + 1)) fun t38 =>
  next2 (t38, l_4)
noncomputable def R1_Cropped_l4 (a0 : T_api_Image) (a1 : Int) (a2 : Int) (a3 : Int) (x18_2 : Int) (next2 : ((Int × (List Int)) → Option (T_api_Image))) (next4 : ((Int × (List Int)) → Option (T_api_Image))) (x22_2 : Int) (l_6 : (List Int)) : Option (T_api_Image) :=
  cnd (decide (x22_2 < a3)) (bnd (gI (a1 + x22_2)) fun t30 =>
  bnd (gI (a2 + x18_2)) fun t33 =>
  bnd (R1_pixel a0 t30 t33) fun t34 =>
  bnd (gApp 1 l_6 t34) fun l35 =>
  bnd (gI (x22_2 + 1)) fun t37 =>
  next4 (t37, l35)) (R1_Cropped_j3 x18_2 next2 l_6)
noncomputable def R1_Cropped_l2 (a0 : T_api_Image) (a1 : Int) (a2 : Int) (a3 : Int) (a4 : Int) (next2 : ((Int × (List Int)) → Option (T_api_Image))) (x18_2 : Int) (l_3 : (List Int)) : Option (T_api_Image) :=
  cnd (decide (x18_2 < a4)) (fix (fun next4 s => R1_Cropped_l4 a0 a1 a2 a3 x18_2 next2 next4 s.1 s.2) (0, l_3)) (R1_Cropped_j1 a3 a4 l_3)
noncomputable def R1_Cropped (a0 : T_api_Image) (a1 : Int) (a2 : Int) (a3 : Int) (a4 : Int) : Option (T_api_Image) :=
  fix (fun next2 s => R1_Cropped_l2 a0 a1 a2 a3 a4 next2 s.1 s.2) (0, ([] : List Int))

/-! tintype/tintref1.Scaled -/
noncomputable def R1_Scaled_j1 (a1 : Int) (a2 : Int) (l : (List Int)) : Option (T_api_Image) :=
  some (⟨a1, a2, l⟩ : T_api_Image)
noncomputable def R1_Scaled_j3 (x18_2 : Int) (next2 : ((Int × (List Int)) → Option (T_api_Image))) (l_4 : (List Int)) : Option (T_api_Image) :=
  bnd (gI (x18_2 + 1)) fun t91 =>
  next2 (t91, l_4)
noncomputable def R1_Scaled_j5 (x22_2 : Int) (next4 : ((Int × (List Int)) → Option (T_api_Image))) (l_7 : (List Int)) : Option (T_api_Image) :=
  bnd (gI (x22_2 + 1)) fun t90 =>
  next4 (t90, l_7)
noncomputable def R1_Scaled_j7 (x25_2 : Int) (next6 : ((Int × (List Int)) → Option (T_api_Image))) (l_10 : (List Int)) : Option (T_api_Image) :=
  bnd (gI (x25_2 + 1)) fun t89 =>
  next6 (t89, l_10)
noncomputable def R1_Scaled_j8 (a0 : T_api_Image) (x25_2 : Int) (l_9 : (List Int)) (next6 : ((Int × (List Int)) → Option (T_api_Image))) (x11 : Int) : Option (T_api_Image) :=
  bnd (gI (2 * x11)) fun t71 =>
  bnd (gI (a0.W * a0.H)) fun t76 =>
  bnd (gI (t71 + t76)) fun t77 =>
  bnd (gI (2 * a0.W)) fun t80 =>
  bnd (gI (t80 * a0.H)) fun t83 =>
  bnd (gQuo t77 t83) fun t84 =>
  bnd (gApp 1 l_9 ([(wU8 t84)] : List Int)) fun l87 =>
  R1_Scaled_j7 x25_2 next6 l87
noncomputable def R1_Scaled_j10 (x12_2 : Int) (next9 : ((Int × Int) → Option (T_api_Image))) (x11_4 : Int) : Option (T_api_Image) :=
  bnd (gI (x12_2 + 1)) fun t40 =>
  next9 (x11_4, t40)
noncomputable def R1_Scaled_l11 (a0 : T_api_Image) (a1 : Int) (a2 : Int) (x22_2 : Int) (x25_2 : Int) (x12_2 : Int) (next9 : ((Int × Int) → Option (T_api_Image))) (next11 : ((Int × Int) → Option (T_api_Image))) (x11_6 : Int) (x13_2 : Int) : Option (T_api_Image) :=
  bnd (gI (x22_2 + 1)) fun t49 =>
  bnd (gI (a0.W * t49)) fun t50 =>
  cnd (decide (x13_2 < t50)) (bnd (gQuo x13_2 a1) fun t58 =>
  bnd (gQuo x12_2 a2) fun t61 =>
  bnd (R1_pixel a0 t58 t61) fun t62 =>
  bnd (gAt t62 x25_2) fun t64 =>
  bnd (gK (-9223372036854775808) 9223372036854775807 t64) fun t66 =>
  bnd (gI (x11_6 + t66)) fun t67 =>
  bnd (gI (x13_2 + 1)) fun t53 =>
  next11 (t67, t53)) (R1_Scaled_j10 x12_2 next9 x11_6)
noncomputable def R1_Scaled_l9 (a0 : T_api_Image) (a1 : Int) (a2 : Int) (x18_2 : Int) (x22_2 : Int) (x25_2 : Int) (l_9 : (List Int)) (next6 : ((Int × (List Int)) → Option (T_api_Image))) (next9 : ((Int × Int) → Option (T_api_Image))) (x11_3 : Int) (x12_2 : Int) : Option (T_api_Image) :=
  bnd (gI (x18_2 + 1)) fun t36 =>
  bnd (gI (a0.H * t36)) fun t37 =>
  cnd (decide (x12_2 < t37)) (bnd (gI (a0.W * x22_2)) fun t44 =>
  fix (fun next11 s => R1_Scaled_l11 a0 a1 a2 x22_2 x25_2 x12_2 next9 next11 s.1 s.2) (x11_3, t44)) (R1_Scaled_j8 a0 x25_2 l_9 next6 x11_3)
noncomputable def R1_Scaled_l6 (a0 : T_api_Image) (a1 : Int) (a2 : Int) (x18_2 : Int) (x22_2 : Int) (next4 : ((Int × (List Int)) → Option (T_api_Image))) (next6 : ((Int × (List Int)) → Option (T_api_Image))) (x25_2 : Int) (l_9 : (List Int)) : Option (T_api_Image) :=
  cnd (decide (x25_2 < 3)) (bnd (gI (a0.H * x18_2)) fun t31 =>
  fix (fun next9 s => R1_Scaled_l9 a0 a1 a2 x18_2 x22_2 x25_2 l_9 next6 next9 s.1 s.2) (0, t31)) (R1_Scaled_j5 x22_2 next4 l_9)
noncomputable def R1_Scaled_l4 (a0 : T_api_Image) (a1 : Int) (a2 : Int) (x18_2 : Int) (next2 : ((Int × (List Int)) → Option (T_api_Image))) (next4 : ((Int × (List Int)) → Option (T_api_Image))) (x22_2 : Int) (l_6 : (List Int)) : Option (T_api_Image) :=
  cnd (decide (x22_2 < a1)) (fix (fun next6 s => R1_Scaled_l6 a0 a1 a2 x18_2 x22_2 next4 next6 s.1 s.2) (0, l_6)) (R1_Scaled_j3 x18_2 next2 l_6)
noncomputable def R1_Scaled_l2 (a0 : T_api_Image) (a1 : Int) (a2 : Int) (next2 : ((Int × (List Int)) → Option (T_api_Image))) (x18_2 : Int) (l_3 : (List Int)) : Option (T_api_Image) :=
  cnd (decide (x18_2 < a2)) (fix (fun next4 s => R1_Scaled_l4 a0 a1 a2 x18_2 next2 next4 s.1 s.2) (0, l_3)) (R1_Scaled_j1 a1 a2 l_3)
noncomputable def R1_Scaled (a0 : T_api_Image) (a1 : Int) (a2 : Int) : Option (T_api_Image) :=
  fix (fun next2 s => R1_Scaled_l2 a0 a1 a2 next2 s.1 s.2) (0, ([] : List Int))

/-! slices.Clone[[]byte,byte] -/
noncomputable def slices_Clone_byte (a0 : (List Int)) : Option ((List Int)) :=
  bnd (gApp 1 ([] : List Int) a0) fun l7 =>
  some l7

/-! tintype/tintref2.Rendered -/
noncomputable def R_Rendered_j1 (m : Int) (m_2 : Int) (l : (List Int)) : Option (T_api_Image) :=
  some (⟨m, m_2, l⟩ : T_api_Image)
noncomputable def R_Rendered_j3 (x13_2 : Int) (next2 : ((Int × Int × Int × (List Int)) → Option (T_api_Image))) (m_7 : Int) (m_8 : Int) (l_4 : (List Int)) : Option (T_api_Image) :=
  bnd (gI (x13_2 + 1)) fun t93 =>
  next2 (t93, m_7, m_8, l_4)
noncomputable def R_Rendered_j5 (x7_2 : Int) (next4 : ((Int × (List Int)) → Option (T_api_Image))) (l_7 : (List Int)) : Option (T_api_Image) :=
  bnd (gI (x7_2 + 3)) fun t29 =>
  next4 (t29, l_7)
noncomputable def R_Rendered_l6 (x7_2 : Int) (next4 : ((Int × (List Int)) → Option (T_api_Image))) (t52 : ((Nat → Int))) (next6 : ((Int × (List Int)) → Option (T_api_Image))) (x54_2 : Int) (l_9 : (List Int)) : Option (T_api_Image) :=
  cnd (decide (x54_2 < 3)) (bnd (gIx 3 x54_2) fun k57 =>
  bnd (gI (x7_2 + x54_2)) fun t62 =>
  bnd (gAt l_9 t62) fun t65 =>
  bnd (gSet l_9 t62 (wU8 (t52 k57))) fun l3 =>
  bnd (gI (x54_2 + 1)) fun t66 =>
  next6 (t66, l3)) (R_Rendered_j5 x7_2 next4 l_9)
noncomputable def R_Rendered_l4 (x13_2 : Int) (m_5 : Int) (m_6 : Int) (next2 : ((Int × Int × Int × (List Int)) → Option (T_api_Image))) (t15 : T_edit_Step) (next4 : ((Int × (List Int)) → Option (T_api_Image))) (x7_2 : Int) (l_6 : (List Int)) : Option (T_api_Image) :=
  cnd (decide (x7_2 < (l_6.length : Int))) (bnd (gAt l_6 x7_2) fun t34 =>
  bnd (gK (-9223372036854775808) 9223372036854775807 t34) fun t36 =>
  bnd (gI (x7_2 + 1)) fun t40 =>
  bnd (gAt l_6 t40) fun t41 =>
  bnd (gK (-9223372036854775808) 9223372036854775807 t41) fun t43 =>
  bnd (gI (x7_2 + 2)) fun t47 =>
  bnd (gAt l_6 t47) fun t48 =>
  bnd (gK (-9223372036854775808) 9223372036854775807 t48) fun t50 =>
  bnd (R_Dot t15 (ofL [t36, t43, t50])) fun t52 =>
  fix (fun next6 s => R_Rendered_l6 x7_2 next4 t52 next6 s.1 s.2) (0, l_6)) (R_Rendered_j3 x13_2 next2 m_5 m_6 l_6)
noncomputable def R_Rendered_l2 (a1 : (List T_edit_Step)) (next2 : ((Int × Int × Int × (List Int)) → Option (T_api_Image))) (x13_2 : Int) (m_5 : Int) (m_6 : Int) (l_3 : (List Int)) : Option (T_api_Image) :=
  cnd (decide (x13_2 < (a1.length : Int))) (bnd (gAt a1 x13_2) fun t15 =>
  cnd (decide (t15.Kind = 1)) (bnd (R1_Turned (⟨m_5, m_6, l_3⟩ : T_api_Image) t15.A) fun t72 =>
  R_Rendered_j3 x13_2 next2 t72.W t72.H t72.Pixels) (cnd (decide (t15.Kind = 2)) (bnd (R1_Cropped (⟨m_5, m_6, l_3⟩ : T_api_Image) t15.A t15.B t15.C t15.D) fun t84 =>
  R_Rendered_j3 x13_2 next2 t84.W t84.H t84.Pixels) (cnd (decide (t15.Kind = 3)) (bnd (R1_Scaled (⟨m_5, m_6, l_3⟩ : T_api_Image) t15.A t15.B) fun t92 =>
  R_Rendered_j3 x13_2 next2 t92.W t92.H t92.Pixels) (bnd (slices_Clone_byte l_3) fun t21 =>
  fix (fun next4 s => R_Rendered_l4 x13_2 m_5 m_6 next2 t15 next4 s.1 s.2) (0, t21))))) (R_Rendered_j1 m_5 m_6 l_3)
noncomputable def R_Rendered (a0 : T_api_Image) (a1 : (List T_edit_Step)) : Option (T_api_Image) :=
  fix (fun next2 s => R_Rendered_l2 a1 next2 s.1 s.2.1 s.2.2.1 s.2.2.2) (0, a0.W, a0.H, a0.Pixels)

/-! slices.Equal[[]byte,byte] -/
noncomputable def slices_Equal_byte_l1 (a0 : (List Int)) (a1 : (List Int)) (next1 : ((Int) → Option (Bool))) (x13_2 : Int) : Option (Bool) :=
  cnd (decide (x13_2 < (a0.length : Int))) (bnd (gAt a0 x13_2) fun t18 =>
  bnd (gAt a1 x13_2) fun t22 =>
  cnd (decide (t18 ≠ t22)) (some false) (bnd (gI (x13_2 + 1)) fun t25 =>
  next1 t25)) (some true)
noncomputable def slices_Equal_byte (a0 : (List Int)) (a1 : (List Int)) : Option (Bool) :=
  cnd (decide ((a0.length : Int) ≠ (a1.length : Int))) (some false) (fix (fun next1 s => slices_Equal_byte_l1 a0 a1 next1 s) 0)

/-! tintype/tintref1.SameImage -/
noncomputable def R1_SameImage (a0 : T_api_Image) (a1 : T_api_Image) : Option (Bool) :=
  cnd (decide (a0.W = a1.W)) (cnd (decide (a0.H = a1.H)) (bnd (slices_Equal_byte a0.Pixels a1.Pixels) fun t22 =>
  some t22) (some false)) (some false)

/-! tintype/tintlaw2.EditRenders -/
noncomputable def Law_EditRenders_j3 (t53 : (T_api_Image × Int)) (x12_2 : Int) (m : Int) (m_2 : Int) (l : (List Int)) : Option (Bool) :=
  cnd (decide (t53.2 = x12_2)) (bnd (R1_SameImage t53.1 (⟨m, m_2, l⟩ : T_api_Image)) fun t85 =>
  some t85) (some false)
noncomputable def Law_EditRenders_j2 (a0 : T_api_Image) (a1 : (List T_edit_Step)) (t53 : (T_api_Image × Int)) (x12_2 : Int) : Option (Bool) :=
  cnd (decide (x12_2 = 0)) (bnd (R_Rendered a0 a1) fun t78 =>
  Law_EditRenders_j3 t53 x12_2 t78.W t78.H t78.Pixels) (Law_EditRenders_j3 t53 x12_2 0 0 ([] : List Int))
noncomputable def Law_EditRenders_j1 (a0 : T_api_Image) (a1 : (List T_edit_Step)) (t21 : (Int × Int × Int)) (x12 : Int) (x13 : Int) (x14 : Int) : Option (Bool) :=
  cnd (decide (t21.1 ≠ x13)) (some false) (cnd (decide (t21.2.1 ≠ x14)) (some false) (cnd (decide (t21.2.2 ≠ x12)) (some false) (bnd (edit_Render a0 a1) fun t53 =>
  bnd (R_StepsFault a1) fun t57 =>
  bnd (R1_ImageError a0) fun t59 =>
  bnd (Law_first ([t57, t59] : List Int)) fun t61 =>
  cnd (decide (t61 = 0)) (bnd (R_SizeOf a1 a0.W a0.H) fun t70 =>
  Law_EditRenders_j2 a0 a1 t53 t70.2.2) (Law_EditRenders_j2 a0 a1 t53 t61))))
noncomputable def Law_EditRenders (a0 : T_api_Image) (a1 : (List T_edit_Step)) (a2 : Int) (a3 : Int) : Option (Bool) :=
  bnd (edit_Size a1 a2 a3) fun t21 =>
  bnd (R_StepsFault a1) fun t26 =>
  cnd (decide (t26 = 0)) (bnd (R_SizeOf a1 a2 a3) fun t33 =>
  Law_EditRenders_j1 a0 a1 t21 t33.2.2 t33.1 t33.2.1) (Law_EditRenders_j1 a0 a1 t21 t26 0 0)

end Go.M
