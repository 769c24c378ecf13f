/- EditTidies: the models, printed by our generator from the compiled program. Conditions: none. -/
import Derived.Test.YtllnhnnpmmnomaaMd6
namespace Go.M
open Go.Md
set_option maxRecDepth 100000
set_option linter.unusedVariables false

structure T_edit_Step where
  Kind : Int
  A : Int
  B : Int
  C : Int
  D : Int
instance : Inhabited T_edit_Step := ⟨⟨0, 0, 0, 0, 0⟩⟩

structure T_api_Image where
  W : Int
  H : Int
  Pixels : (List Int)
instance : Inhabited T_api_Image := ⟨⟨0, 0, []⟩⟩

def eq_edit_Step (x y : T_edit_Step) : Bool := decide (x.Kind = y.Kind ∧ x.A = y.A ∧ x.B = y.B ∧ x.C = y.C ∧ x.D = y.D)
def eq_edit_curve (x y : (Nat → Int)) : Bool := decide ((List.range 256).map x = (List.range 256).map y)

/-! tintype/tintref2.numbersUsed -/
noncomputable def R_numbersUsed (a0 : Int) : Option (Int) :=
  bnd (gAt ([0, 1, 4, 2, 1, 1, 2, 1, 1, 0] : List Int) a0) fun t5 =>
  some t5

/-! tintype/tintref2.StepFault$1 -/
noncomputable def R_StepFault_1 (a0 : Int) (a1 : Int) (a2 : Int) : Option (Bool) :=
  cnd (decide (a0 < a1)) (some true) (some (decide (a2 < a0)))

/-! tintype/tintref2.StepFault -/
noncomputable def R_StepFault_j2 (a0 : T_edit_Step) (x6 : Bool) : Option (Int) :=
  cnd x6 (some 2) (cnd (decide (a0.Kind = 6)) (cnd (decide (a0.B ≤ a0.A)) (some 5) (some 0)) (some 0))
noncomputable def R_StepFault_j1 (a0 : T_edit_Step) : Option (Int) :=
  cnd (decide (a0.Kind = 1)) (bnd (R_StepFault_1 a0.A 1 8) fun t47 =>
  R_StepFault_j2 a0 t47) (cnd (decide (a0.Kind = 2)) (bnd (R_StepFault_1 a0.A 0 63) fun t53 =>
  cnd t53 (R_StepFault_j2 a0 true) (bnd (R_StepFault_1 a0.B 0 63) fun t58 =>
  cnd t58 (R_StepFault_j2 a0 true) (bnd (R_StepFault_1 a0.C 1 64) fun t64 =>
  cnd t64 (R_StepFault_j2 a0 true) (bnd (R_StepFault_1 a0.D 1 64) fun t70 =>
  R_StepFault_j2 a0 t70)))) (cnd (decide (a0.Kind = 3)) (bnd (R_StepFault_1 a0.A 1 64) fun t77 =>
  cnd t77 (R_StepFault_j2 a0 true) (bnd (R_StepFault_1 a0.B 1 64) fun t82 =>
  R_StepFault_j2 a0 t82)) (cnd (decide (a0.Kind = 4)) (bnd (R_StepFault_1 a0.A (-255) 255) fun t89 =>
  R_StepFault_j2 a0 t89) (cnd (decide (a0.Kind = 5)) (bnd (R_StepFault_1 a0.A 0 400) fun t95 =>
  R_StepFault_j2 a0 t95) (cnd (decide (a0.Kind = 6)) (bnd (R_StepFault_1 a0.A 0 255) fun t101 =>
  cnd t101 (R_StepFault_j2 a0 true) (bnd (R_StepFault_1 a0.B 0 255) fun t106 =>
  R_StepFault_j2 a0 t106)) (cnd (decide (a0.Kind = 7)) (bnd (R_StepFault_1 a0.A (-100) 100) fun t113 =>
  R_StepFault_j2 a0 t113) (cnd (decide (a0.Kind = 8)) (bnd (R_StepFault_1 a0.A 0 100) fun t119 =>
  R_StepFault_j2 a0 t119) (R_StepFault_j2 a0 false))))))))
noncomputable def R_StepFault_j4 (x25_2 : Int) (next3 : ((Int) → Option (Int))) : Option (Int) :=
  bnd (gI (x25_2 + 1)) fun t39 =>
  next3 t39
noncomputable def R_StepFault_l3 (a0 : T_edit_Step) (next3 : ((Int) → Option (Int))) (x25_2 : Int) : Option (Int) :=
  cnd (decide (x25_2 < 4)) (bnd (gAt ([a0.A, a0.B, a0.C, a0.D] : List Int) x25_2) fun t28 =>
  bnd (R_numbersUsed a0.Kind) fun t33 =>
  cnd (decide (t33 ≤ x25_2)) (cnd (decide (t28 ≠ 0)) (some 1) (R_StepFault_j4 x25_2 next3)) (R_StepFault_j4 x25_2 next3)) (R_StepFault_j1 a0)
noncomputable def R_StepFault (a0 : T_edit_Step) : Option (Int) :=
  cnd (decide (a0.Kind < 1)) (some 10) (cnd (decide (9 < a0.Kind)) (some 10) (fix (fun next3 s => R_StepFault_l3 a0 next3 s) 0))

/-! tintype/tintref2.StepsFault -/
noncomputable def R_StepsFault_l1 (a0 : (List T_edit_Step)) (next1 : ((Int) → Option (Int))) (x11_2 : Int) : Option (Int) :=
  cnd (decide (x11_2 < (a0.length : Int))) (bnd (gAt a0 x11_2) fun t13 =>
  bnd (R_StepFault t13) fun t16 =>
  cnd (decide (t16 ≠ 0)) (some t16) (bnd (gI (x11_2 + 1)) fun t20 =>
  next1 t20)) (some 0)
noncomputable def R_StepsFault (a0 : (List T_edit_Step)) : Option (Int) :=
  cnd (decide (50 < (a0.length : Int))) (some 4) (fix (fun next1 s => R_StepsFault_l1 a0 next1 s) 0)

/-! tintype/edit.outside -/
noncomputable def edit_outside (a0 : Int) (a1 : Int) (a2 : Int) : Option (Bool) :=
  cnd (decide (a0 < a1)) (some true) (some (decide (a2 < a0)))

/-! tintype/edit.word -/
noncomputable def edit_word (a0 : Int) : Option ((List UInt8) × Int) :=
  cnd (decide (a0 = 1)) (some ([116, 117, 114, 110], 1)) (cnd (decide (a0 = 2)) (some ([99, 114, 111, 112], 4)) (cnd (decide (a0 = 3)) (some ([115, 99, 97, 108, 101], 2)) (cnd (decide (a0 = 4)) (some ([108, 105, 103, 104, 116], 1)) (cnd (decide (a0 = 5)) (some ([115, 112, 114, 101, 97, 100], 1)) (cnd (decide (a0 = 6)) (some ([108, 101, 118, 101, 108, 115], 2)) (cnd (decide (a0 = 7)) (some ([119, 97, 114, 109], 1)) (cnd (decide (a0 = 8)) (some ([109, 117, 116, 101], 1)) (some ([105, 110, 118, 101, 114, 116], 0)))))))))

/-! (tintype/edit.Step).numbers -/
noncomputable def edit_Step_numbers (a0 : T_edit_Step) : Option ((List Int)) :=
  some ([a0.A, a0.B, a0.C, a0.D] : List Int)

/-! tintype/edit.bounds -/
noncomputable def edit_bounds (a0 : Int) : Option ((Nat → (Nat → Int))) :=
  cnd (decide (a0 = 1)) (some (ofL [(ofL [1, 8]), (fun _ => 0), (fun _ => 0), (fun _ => 0)])) (cnd (decide (a0 = 2)) (some (ofL [(ofL [0, 63]), (ofL [0, 63]), (ofL [1, 64]), (ofL [1, 64])])) (cnd (decide (a0 = 3)) (some (ofL [(ofL [1, 64]), (ofL [1, 64]), (fun _ => 0), (fun _ => 0)])) (cnd (decide (a0 = 4)) (some (ofL [(ofL [(-255), 255]), (fun _ => 0), (fun _ => 0), (fun _ => 0)])) (cnd (decide (a0 = 5)) (some (ofL [(ofL [0, 400]), (fun _ => 0), (fun _ => 0), (fun _ => 0)])) (cnd (decide (a0 = 6)) (some (ofL [(ofL [0, 255]), (ofL [0, 255]), (fun _ => 0), (fun _ => 0)])) (cnd (decide (a0 = 7)) (some (ofL [(ofL [(-100), 100]), (fun _ => 0), (fun _ => 0), (fun _ => 0)])) (cnd (decide (a0 = 8)) (some (ofL [(ofL [0, 100]), (fun _ => 0), (fun _ => 0), (fun _ => 0)])) (some (fun _ => (fun _ => 0))))))))))

/-! tintype/edit.CheckStep -/
noncomputable def edit_CheckStep_j2 (a0 : T_edit_Step) : Option (Int) :=
  cnd (decide (a0.Kind = 6)) (cnd (decide (a0.B ≤ a0.A)) (some 5) (some 0)) (some 0)
noncomputable def edit_CheckStep_l3 (a0 : T_edit_Step) (t35 : ((Nat → (Nat → Int)))) (t38 : (List Int)) (next3 : ((Int) → Option (Int))) (x40_2 : Int) : Option (Int) :=
  cnd (decide (x40_2 < (t38.length : Int))) (bnd (gAt t38 x40_2) fun t43 =>
  bnd (gIx 4 x40_2) fun k47 =>
  bnd (gIx 4 x40_2) fun k51 =>
  bnd (edit_outside t43 ((t35 k47) 0) ((t35 k51) 1)) fun t54 =>
  cnd t54 (some 2) (bnd (gI (x40_2 + 1)) fun t55 =>
  next3 t55)) (edit_CheckStep_j2 a0)
noncomputable def edit_CheckStep_j1 (a0 : T_edit_Step) (t17 : ((List UInt8) × Int)) (t21 : ((List Int))) : Option (Int) :=
  bnd (edit_bounds a0.Kind) fun t35 =>
  bnd (gCut t21 0 t17.2) fun t38 =>
  fix (fun next3 s => edit_CheckStep_l3 a0 t35 t38 next3 s) 0
noncomputable def edit_CheckStep_l4 (a0 : T_edit_Step) (t17 : ((List UInt8) × Int)) (t21 : ((List Int))) (t24 : (List Int)) (next4 : ((Int) → Option (Int))) (x26_2 : Int) : Option (Int) :=
  cnd (decide (x26_2 < (t24.length : Int))) (bnd (gAt t24 x26_2) fun t28 =>
  cnd (decide (t28 ≠ 0)) (some 1) (bnd (gI (x26_2 + 1)) fun t32 =>
  next4 t32)) (edit_CheckStep_j1 a0 t17 t21)
noncomputable def edit_CheckStep (a0 : T_edit_Step) : Option (Int) :=
  bnd (edit_outside a0.Kind 1 9) fun t13 =>
  cnd t13 (some 10) (bnd (edit_word a0.Kind) fun t17 =>
  bnd (edit_Step_numbers a0) fun t21 =>
  bnd (gCut t21 t17.2 t21.length) fun t24 =>
  fix (fun next4 s => edit_CheckStep_l4 a0 t17 t21 t24 next4 s) 0)

/-! (tintype/edit.Step).size -/
noncomputable def edit_Step_size_j1 (a1 : Int) (a2 : Int) : Option (Int × Int × Bool) :=
  some (a1, a2, true)
noncomputable def edit_Step_size (a0 : T_edit_Step) (a1 : Int) (a2 : Int) : Option (Int × Int × Bool) :=
  cnd (decide (a0.Kind = 1)) (cnd (decide (5 ≤ a0.A)) (some (a2, a1, true)) (edit_Step_size_j1 a1 a2)) (cnd (decide (a0.Kind = 2)) (bnd (gI (a0.A + a0.C)) fun t28 =>
  cnd (decide (t28 ≤ a1)) (bnd (gI (a0.B + a0.D)) fun t36 =>
  some (a0.C, a0.D, (decide (t36 ≤ a2)))) (some (a0.C, a0.D, false))) (cnd (decide (a0.Kind = 3)) (some (a0.A, a0.B, true)) (edit_Step_size_j1 a1 a2)))

/-! tintype/edit.size -/
noncomputable def edit_size_j1 (x1 : Int) (x2 : Int) : Option (Int × Int × Int) :=
  some (x1, x2, 0)
noncomputable def edit_size_l2 (a0 : (List T_edit_Step)) (next2 : ((Int × Int × Int) → Option (Int × Int × Int))) (x1_3 : Int) (x2_3 : Int) (x20_2 : Int) : Option (Int × Int × Int) :=
  cnd (decide (x20_2 < (a0.length : Int))) (bnd (gAt a0 x20_2) fun t22 =>
  bnd (edit_Step_size t22 x1_3 x2_3) fun t28 =>
  cnd (!t28.2.2) (some (0, 0, 7)) (bnd (gI (x20_2 + 1)) fun t34 =>
  next2 (t28.1, t28.2.1, t34))) (edit_size_j1 x1_3 x2_3)
noncomputable def edit_size (a0 : (List T_edit_Step)) (a1 : Int) (a2 : Int) : Option (Int × Int × Int) :=
  bnd (edit_outside a1 1 64) fun t13 =>
  cnd t13 (some (0, 0, 2)) (bnd (edit_outside a2 1 64) fun t16 =>
  cnd t16 (some (0, 0, 2)) (fix (fun next2 s => edit_size_l2 a0 next2 s.1 s.2.1 s.2.2) (a1, a2, 0)))

/-! tintype/edit.straight -/
noncomputable def edit_straight_j1 (m : (Nat → Int)) : Option ((Nat → Int)) :=
  some m
noncomputable def edit_straight_l2 (next2 : ((Int × (Nat → Int)) → Option ((Nat → Int)))) (x3_2 : Int) (m_3 : (Nat → Int)) : Option ((Nat → Int)) :=
  cnd (decide (x3_2 < 256)) (bnd (gIx 256 x3_2) fun k9 =>
  bnd (gI (x3_2 + 1)) fun t10 =>
  next2 (t10, (setA m_3 k9 (wU8 x3_2)))) (edit_straight_j1 m_3)
noncomputable def edit_straight  : Option ((Nat → Int)) :=
  fix (fun next2 s => edit_straight_l2 next2 s.1 s.2) (0, (fun _ => 0))

/-! tintype/edit.clamp -/
noncomputable def edit_clamp (a0 : Int) : Option (Int) :=
  some (wU8 (min (max a0 0) 255))

/-! (tintype/edit.Step).light -/
noncomputable def edit_Step_light (a0 : T_edit_Step) (a1 : Int) : Option (Int) :=
  bnd (gK (-9223372036854775808) 9223372036854775807 a1) fun t6 =>
  bnd (gI (t6 + a0.A)) fun t9 =>
  bnd (edit_clamp t9) fun t10 =>
  some t10

/-! tintype/edit.floor -/
noncomputable def edit_floor (a0 : Int) (a1 : Int) : Option (Int) :=
  bnd (gQuo a0 a1) fun t8 =>
  bnd (gRem a0 a1) fun t11 =>
  cnd (decide (t11 < 0)) (bnd (gI (t8 - 1)) fun t14 =>
  some t14) (some t8)

/-! (tintype/edit.Step).spread -/
noncomputable def edit_Step_spread (a0 : T_edit_Step) (a1 : Int) : Option (Int) :=
  bnd (gK (-9223372036854775808) 9223372036854775807 a1) fun t6 =>
  bnd (gI (t6 - 128)) fun t7 =>
  bnd (gI (t7 * a0.A)) fun t10 =>
  bnd (edit_floor t10 100) fun t11 =>
  bnd (gI (128 + t11)) fun t12 =>
  bnd (edit_clamp t12) fun t13 =>
  some t13

/-! (tintype/edit.Step).levels -/
noncomputable def edit_Step_levels (a0 : T_edit_Step) (a1 : Int) : Option (Int) :=
  bnd (gK (-9223372036854775808) 9223372036854775807 a1) fun t6 =>
  bnd (gI (t6 - a0.A)) fun t9 =>
  bnd (gI (t9 * 255)) fun t10 =>
  bnd (gI (a0.B - a0.A)) fun t15 =>
  bnd (edit_floor t10 t15) fun t16 =>
  bnd (edit_clamp t16) fun t17 =>
  some t17

/-! (tintype/edit.Step).invert -/
noncomputable def edit_Step_invert (a0 : T_edit_Step) (a1 : Int) : Option (Int) :=
  some (wU8 (255 - a1))

/-! (tintype/edit.Step).byByte -/
noncomputable def edit_Step_byByte (a0 : T_edit_Step) : Option ((Option (Int → Option (Int)))) :=
  cnd (decide (a0.Kind = 4)) (some (some (edit_Step_light a0))) (cnd (decide (a0.Kind = 5)) (some (some (edit_Step_spread a0))) (cnd (decide (a0.Kind = 6)) (some (some (edit_Step_levels a0))) (cnd (decide (a0.Kind = 9)) (some (some (edit_Step_invert a0))) (some none))))

/-! (tintype/edit.curve).after -/
noncomputable def edit_curve_after_j1 (m : (Nat → Int)) : Option ((Nat → Int) × Bool) :=
  some (m, true)
noncomputable def edit_curve_after_l2 (a0 : (Nat → Int)) (t10 : ((Option (Int → Option (Int))))) (next2 : ((Int × (Nat → Int)) → Option ((Nat → Int) × Bool))) (x15_2 : Int) (m_3 : (Nat → Int)) : Option ((Nat → Int) × Bool) :=
  cnd (decide (x15_2 < 256)) (bnd (gIx 256 x15_2) fun k18 =>
  bnd (gFn t10) fun g22 =>
  bnd (g22 (a0 k18)) fun t22 =>
  bnd (gIx 256 x15_2) fun k23 =>
  bnd (gI (x15_2 + 1)) fun t24 =>
  next2 (t24, (setA m_3 k23 t22))) (edit_curve_after_j1 m_3)
noncomputable def edit_curve_after (a0 : (Nat → Int)) (a1 : T_edit_Step) : Option ((Nat → Int) × Bool) :=
  bnd (edit_Step_byByte a1) fun t10 =>
  cnd (Option.isNone t10) (some (a0, false)) (fix (fun next2 s => edit_curve_after_l2 a0 t10 next2 s.1 s.2) (0, a0))

/-! (tintype/edit.Step).neutral -/
noncomputable def edit_Step_neutral_j1 (a0 : T_edit_Step) : Option (Bool) :=
  bnd (edit_straight) fun t42 =>
  bnd (edit_curve_after t42 a0) fun t44 =>
  bnd (edit_straight) fun t48 =>
  some (eq_edit_curve t44.1 t48)
noncomputable def edit_Step_neutral (a0 : T_edit_Step) (a1 : Int) (a2 : Int) : Option (Bool) :=
  cnd (decide (a0.Kind = 1)) (some (decide (a0.A = 1))) (cnd (decide (a0.Kind = 2)) (some (eq_edit_Step a0 (⟨2, 0, 0, a1, a2⟩ : T_edit_Step))) (cnd (decide (a0.Kind = 3)) (cnd (decide (a0.A = a1)) (some (decide (a0.B = a2))) (some false)) (cnd (decide (a0.Kind = 7)) (cnd (decide (a0.Kind = 7)) (some (decide (a0.A = 0))) (edit_Step_neutral_j1 a0)) (cnd (decide (a0.Kind = 8)) (some (decide (a0.A = 0))) (edit_Step_neutral_j1 a0)))))

/-! tintype/edit.Neutral -/
noncomputable def edit_Neutral (a0 : T_edit_Step) (a1 : Int) (a2 : Int) : Option (Bool × Int) :=
  bnd (edit_CheckStep a0) fun t13 =>
  cnd (decide (t13 ≠ 0)) (some (false, t13)) (bnd (edit_size ([a0] : List T_edit_Step) a1 a2) fun t22 =>
  cnd (decide (t22.2.2 ≠ 0)) (some (false, t22.2.2)) (bnd (edit_Step_neutral a0 a1 a2) fun t32 =>
  some (t32, 0)))

/-! tintype/tintref2.SizeOf -/
noncomputable def R_SizeOf_j1 (x1 : Int) (x2 : Int) : Option (Int × Int × Int) :=
  some (x1, x2, 0)
noncomputable def R_SizeOf_j3 (x27_2 : Int) (next2 : ((Int × Int × Int) → Option (Int × Int × Int))) (x1_4 : Int) (x2_4 : Int) : Option (Int × Int × Int) :=
  bnd (gI (x27_2 + 1)) fun t68 =>
  next2 (x1_4, x2_4, t68)
noncomputable def R_SizeOf_l2 (a0 : (List T_edit_Step)) (next2 : ((Int × Int × Int) → Option (Int × Int × Int))) (x1_3 : Int) (x2_3 : Int) (x27_2 : Int) : Option (Int × Int × Int) :=
  cnd (decide (x27_2 < (a0.length : Int))) (bnd (gAt a0 x27_2) fun t29 =>
  cnd (decide (t29.Kind = 1)) (cnd (decide (5 ≤ t29.A)) (R_SizeOf_j3 x27_2 next2 x2_3 x1_3) (R_SizeOf_j3 x27_2 next2 x1_3 x2_3)) (cnd (decide (t29.Kind = 2)) (bnd (gI (t29.A + t29.C)) fun t46 =>
  cnd (decide (x1_3 < t46)) (some (0, 0, 7)) (bnd (gI (t29.B + t29.D)) fun t54 =>
  cnd (decide (x2_3 < t54)) (some (0, 0, 7)) (R_SizeOf_j3 x27_2 next2 t29.C t29.D))) (cnd (decide (t29.Kind = 3)) (R_SizeOf_j3 x27_2 next2 t29.A t29.B) (R_SizeOf_j3 x27_2 next2 x1_3 x2_3)))) (R_SizeOf_j1 x1_3 x2_3)
noncomputable def R_SizeOf (a0 : (List T_edit_Step)) (a1 : Int) (a2 : Int) : Option (Int × Int × Int) :=
  cnd (decide (a1 < 1)) (some (0, 0, 2)) (cnd (decide (64 < a1)) (some (0, 0, 2)) (cnd (decide (a2 < 1)) (some (0, 0, 2)) (cnd (decide (64 < a2)) (some (0, 0, 2)) (fix (fun next2 s => R_SizeOf_l2 a0 next2 s.1 s.2.1 s.2.2) (a1, a2, 0)))))

/-! tintype/tintlaw2.told[bool] -/
noncomputable def Law_told_bool_j1 (a0 : Bool) (a1 : Int) (a3 : Int) (x2 : Bool) : Option (Bool) :=
  cnd (decide (a0 = x2)) (some (decide (a1 = a3))) (some false)
noncomputable def Law_told_bool (a0 : Bool) (a1 : Int) (a2 : Bool) (a3 : Int) : Option (Bool) :=
  cnd (decide (a3 ≠ 0)) (Law_told_bool_j1 a0 a1 a3 false) (Law_told_bool_j1 a0 a1 a3 a2)

/-! tintype/tintref2.Idle -/
noncomputable def R_Idle_j1 (a0 : T_edit_Step) (x33 : Bool) : Option (Bool) :=
  cnd x33 (some (decide (a0.A = 0))) (cnd (decide (a0.Kind = 5)) (some (decide (a0.A = 100))) (cnd (decide (a0.Kind = 6)) (cnd (decide (a0.A = 0)) (some (decide (a0.B = 255))) (some false)) (some false)))
noncomputable def R_Idle (a0 : T_edit_Step) (a1 : Int) (a2 : Int) : Option (Bool) :=
  cnd (decide (a0.Kind = 1)) (some (decide (a0.A = 1))) (cnd (decide (a0.Kind = 2)) (some (eq_edit_Step a0 (⟨2, 0, 0, a1, a2⟩ : T_edit_Step))) (cnd (decide (a0.Kind = 3)) (cnd (decide (a0.A = a1)) (some (decide (a0.B = a2))) (some false)) (cnd (decide (a0.Kind = 4)) (R_Idle_j1 a0 (decide (a0.Kind = 4))) (cnd (decide (a0.Kind = 7)) (R_Idle_j1 a0 (decide (a0.Kind = 7))) (R_Idle_j1 a0 (decide (a0.Kind = 8)))))))

/-! tintype/edit.Check -/
noncomputable def edit_Check_l1 (a0 : (List T_edit_Step)) (next1 : ((Int) → Option (Int))) (x11_2 : Int) : Option (Int) :=
  cnd (decide (x11_2 < (a0.length : Int))) (bnd (gAt a0 x11_2) fun t13 =>
  bnd (edit_CheckStep t13) fun t16 =>
  cnd (decide (t16 ≠ 0)) (some t16) (bnd (gI (x11_2 + 1)) fun t20 =>
  next1 t20)) (some 0)
noncomputable def edit_Check (a0 : (List T_edit_Step)) : Option (Int) :=
  cnd (decide (50 < (a0.length : Int))) (some 4) (fix (fun next1 s => edit_Check_l1 a0 next1 s) 0)

/-! tintype/edit.Shape -/
noncomputable def edit_Shape (a0 : T_edit_Step) : Option (Bool) :=
  bnd (edit_outside a0.Kind 1 3) fun t5 =>
  some (!t5)

/-! tintype/edit.apart -/
noncomputable def edit_apart_j1 (l : (List T_edit_Step)) (l_2 : (List T_edit_Step)) : Option ((List T_edit_Step) × (List T_edit_Step)) :=
  some (l, l_2)
noncomputable def edit_apart_j3 (x8_2 : Int) (next2 : ((Int × (List T_edit_Step) × (List T_edit_Step)) → Option ((List T_edit_Step) × (List T_edit_Step)))) (l_7 : (List T_edit_Step)) (l_8 : (List T_edit_Step)) : Option ((List T_edit_Step) × (List T_edit_Step)) :=
  bnd (gI (x8_2 + 1)) fun t22 =>
  next2 (t22, l_7, l_8)
noncomputable def edit_apart_l2 (a0 : (List T_edit_Step)) (next2 : ((Int × (List T_edit_Step) × (List T_edit_Step)) → Option ((List T_edit_Step) × (List T_edit_Step)))) (x8_2 : Int) (l_5 : (List T_edit_Step)) (l_6 : (List T_edit_Step)) : Option ((List T_edit_Step) × (List T_edit_Step)) :=
  cnd (decide (x8_2 < (a0.length : Int))) (bnd (gAt a0 x8_2) fun t10 =>
  bnd (edit_Shape t10) fun t13 =>
  cnd t13 (bnd (gApp 40 l_5 ([t10] : List T_edit_Step)) fun l17 =>
  edit_apart_j3 x8_2 next2 l17 l_6) (bnd (gApp 40 l_6 ([t10] : List T_edit_Step)) fun l21 =>
  edit_apart_j3 x8_2 next2 l_5 l21)) (edit_apart_j1 l_5 l_6)
noncomputable def edit_apart (a0 : (List T_edit_Step)) : Option ((List T_edit_Step) × (List T_edit_Step)) :=
  fix (fun next2 s => edit_apart_l2 a0 next2 s.1 s.2.1 s.2.2) (0, ([] : List T_edit_Step), ([] : List T_edit_Step))

/-! tintype/edit.Apart -/
noncomputable def edit_Apart (a0 : (List T_edit_Step)) : Option ((List T_edit_Step) × (List T_edit_Step) × Int) :=
  bnd (edit_Check a0) fun t7 =>
  cnd (decide (t7 ≠ 0)) (some (([] : List T_edit_Step), ([] : List T_edit_Step), t7)) (bnd (edit_apart a0) fun t13 =>
  some (t13.1, t13.2, 0))

/-! tintype/tintref2.Shaped -/
noncomputable def R_Shaped (a0 : T_edit_Step) : Option (Bool) :=
  cnd (decide (1 ≤ a0.Kind)) (some (decide (a0.Kind ≤ 3))) (some false)

/-! tintype/tintref2.Parted -/
noncomputable def R_Parted_j1 (l : (List T_edit_Step)) (l_2 : (List T_edit_Step)) : Option ((List T_edit_Step) × (List T_edit_Step)) :=
  some (l, l_2)
noncomputable def R_Parted_j3 (x8_2 : Int) (next2 : ((Int × (List T_edit_Step) × (List T_edit_Step)) → Option ((List T_edit_Step) × (List T_edit_Step)))) (l_7 : (List T_edit_Step)) (l_8 : (List T_edit_Step)) : Option ((List T_edit_Step) × (List T_edit_Step)) :=
  bnd (gI (x8_2 + 1)) fun t22 =>
  next2 (t22, l_7, l_8)
noncomputable def R_Parted_l2 (a0 : (List T_edit_Step)) (next2 : ((Int × (List T_edit_Step) × (List T_edit_Step)) → Option ((List T_edit_Step) × (List T_edit_Step)))) (x8_2 : Int) (l_5 : (List T_edit_Step)) (l_6 : (List T_edit_Step)) : Option ((List T_edit_Step) × (List T_edit_Step)) :=
  cnd (decide (x8_2 < (a0.length : Int))) (bnd (gAt a0 x8_2) fun t10 =>
  bnd (R_Shaped t10) fun t13 =>
  cnd t13 (bnd (gApp 40 l_5 ([t10] : List T_edit_Step)) fun l17 =>
  R_Parted_j3 x8_2 next2 l17 l_6) (bnd (gApp 40 l_6 ([t10] : List T_edit_Step)) fun l21 =>
  R_Parted_j3 x8_2 next2 l_5 l21)) (R_Parted_j1 l_5 l_6)
noncomputable def R_Parted (a0 : (List T_edit_Step)) : Option ((List T_edit_Step) × (List T_edit_Step)) :=
  fix (fun next2 s => R_Parted_l2 a0 next2 s.1 s.2.1 s.2.2) (0, ([] : List T_edit_Step), ([] : List T_edit_Step))

/-! slices.Equal[[]tintype/edit.Step,tintype/edit.Step] -/
noncomputable def slices_Equal_edit_Step_l1 (a0 : (List T_edit_Step)) (a1 : (List T_edit_Step)) (next1 : ((Int) → Option (Bool))) (x13_2 : Int) : Option (Bool) :=
  cnd (decide (x13_2 < (a0.length : Int))) (bnd (gAt a0 x13_2) fun t18 =>
  bnd (gAt a1 x13_2) fun t22 =>
  cnd (!(eq_edit_Step t18 t22)) (some false) (bnd (gI (x13_2 + 1)) fun t25 =>
  next1 t25)) (some true)
noncomputable def slices_Equal_edit_Step (a0 : (List T_edit_Step)) (a1 : (List T_edit_Step)) : Option (Bool) :=
  cnd (decide ((a0.length : Int) ≠ (a1.length : Int))) (some false) (fix (fun next1 s => slices_Equal_edit_Step_l1 a0 a1 next1 s) 0)

/-! tintype/tintlaw2.listed[tintype/edit.Step] -/
noncomputable def Law_listed_edit_Step_j1 (a0 : (List T_edit_Step)) (a1 : Int) (a3 : Int) (x2 : (List T_edit_Step)) : Option (Bool) :=
  bnd (slices_Equal_edit_Step a0 x2) fun t13 =>
  cnd t13 (some (decide (a1 = a3))) (some false)
noncomputable def Law_listed_edit_Step (a0 : (List T_edit_Step)) (a1 : Int) (a2 : (List T_edit_Step)) (a3 : Int) : Option (Bool) :=
  cnd (decide (a3 ≠ 0)) (Law_listed_edit_Step_j1 a0 a1 a3 ([] : (List T_edit_Step))) (Law_listed_edit_Step_j1 a0 a1 a3 a2)

/-! slices.Clone[[]tintype/edit.Step,tintype/edit.Step] -/
noncomputable def slices_Clone_edit_Step (a0 : (List T_edit_Step)) : Option ((List T_edit_Step)) :=
  bnd (gApp 40 ([] : List T_edit_Step) a0) fun l7 =>
  some l7

/-! slices.Delete[[]tintype/edit.Step,tintype/edit.Step] -/
noncomputable def slices_Delete_edit_Step (a0 : (List T_edit_Step)) (a1 : Int) (a2 : Int) : Option ((List T_edit_Step)) :=
  bnd (gCut a0 a1 a2) fun t13 =>
  cnd (decide (a1 = a2)) (some a0) (bnd (gCut a0 0 a1) fun t22 =>
  bnd (gCut a0 a2 a0.length) fun t25 =>
  bnd (gApR a0 t22 t25) fun l26 =>
  bnd (gIf ((l26.length : Int) ≤ (a0.length : Int) ∧ (a0.length : Int) ≤ (a0.length : Nat))) fun u31 =>
  some l26)

/-! tintype/tintref1.from -/
noncomputable def R1_from (a0 : Int) (a1 : Int) (a2 : Int) (a3 : Int) (a4 : Int) : Option (Int × Int) :=
  cnd (decide (a0 = 2)) (bnd (gI (a1 - 1)) fun t16 =>
  bnd (gI (t16 - a3)) fun t18 =>
  some (t18, a4)) (cnd (decide (a0 = 3)) (bnd (gI (a1 - 1)) fun t23 =>
  bnd (gI (t23 - a3)) fun t25 =>
  bnd (gI (a2 - 1)) fun t27 =>
  bnd (gI (t27 - a4)) fun t29 =>
  some (t25, t29)) (cnd (decide (a0 = 4)) (bnd (gI (a2 - 1)) fun t34 =>
  bnd (gI (t34 - a4)) fun t36 =>
  some (a3, t36)) (cnd (decide (a0 = 5)) (some (a4, a3)) (cnd (decide (a0 = 6)) (bnd (gI (a2 - 1)) fun t45 =>
  bnd (gI (t45 - a3)) fun t47 =>
  some (a4, t47)) (cnd (decide (a0 = 7)) (bnd (gI (a1 - 1)) fun t51 =>
  bnd (gI (t51 - a4)) fun t53 =>
  bnd (gI (a2 - 1)) fun t55 =>
  bnd (gI (t55 - a3)) fun t57 =>
  some (t53, t57)) (cnd (decide (a0 = 8)) (bnd (gI (a1 - 1)) fun t61 =>
  bnd (gI (t61 - a4)) fun t63 =>
  some (t63, a3)) (some (a3, a4))))))))

/-! tintype/tintref1.pixel -/
noncomputable def R1_pixel (a0 : T_api_Image) (a1 : Int) (a2 : Int) : Option ((List Int)) :=
  bnd (gI (a2 * a0.W)) fun t12 =>
  bnd (gI (t12 + a1)) fun t14 =>
  bnd (gI (3 * t14)) fun t15 =>
  bnd (gI (a2 * a0.W)) fun t19 =>
  bnd (gI (t19 + a1)) fun t21 =>
  bnd (gI (3 * t21)) fun t22 =>
  bnd (gI (t22 + 3)) fun t23 =>
  bnd (gCut a0.Pixels t15 t23) fun t24 =>
  some t24

/-! tintype/tintref1.Turned -/
noncomputable def R1_Turned_j2 (m : Int) (m_2 : Int) (l : (List Int)) : Option (T_api_Image) :=
  some (⟨m, m_2, l⟩ : T_api_Image)
noncomputable def R1_Turned_j4 (x25_2 : Int) (next3 : ((Int × (List Int)) → Option (T_api_Image))) (l_4 : (List Int)) : Option (T_api_Image) :=
  bnd (gI (x25_2 + 1)) fun t53 =>
  next3 (t53, l_4)
noncomputable def R1_Turned_l5 (a0 : T_api_Image) (a1 : Int) (m : Int) (x25_2 : Int) (next3 : ((Int × (List Int)) → Option (T_api_Image))) (next5 : ((Int × (List Int)) → Option (T_api_Image))) (x30_2 : Int) (l_6 : (List Int)) : Option (T_api_Image) :=
  cnd (decide (x30_2 < m)) (bnd (R1_from a1 a0.W a0.H x30_2 x25_2) fun t41 =>
  bnd (R1_pixel a0 t41.1 t41.2) fun t49 =>
  bnd (gApp 1 l_6 t49) fun l50 =>
  bnd (gI (x30_2 + 1)) fun t52 =>
  next5 (t52, l50)) (R1_Turned_j4 x25_2 next3 l_6)
noncomputable def R1_Turned_l3 (a0 : T_api_Image) (a1 : Int) (m : Int) (m_2 : Int) (next3 : ((Int × (List Int)) → Option (T_api_Image))) (x25_2 : Int) (l_3 : (List Int)) : Option (T_api_Image) :=
  cnd (decide (x25_2 < m_2)) (fix (fun next5 s => R1_Turned_l5 a0 a1 m x25_2 next3 next5 s.1 s.2) (0, l_3)) (R1_Turned_j2 m m_2 l_3)
noncomputable def R1_Turned_j1 (a0 : T_api_Image) (a1 : Int) (m : Int) (m_2 : Int) : Option (T_api_Image) :=
  fix (fun next3 s => R1_Turned_l3 a0 a1 m m_2 next3 s.1 s.2) (0, ([] : List Int))
noncomputable def R1_Turned (a0 : T_api_Image) (a1 : Int) : Option (T_api_Image) :=
  cnd (decide (5 ≤ a1)) (R1_Turned_j1 a0 a1 a0.H a0.W) (R1_Turned_j1 a0 a1 a0.W a0.H)

/-! tintype/tintref1.sample -/
noncomputable def R1_sample_j1 (l : (List Int)) : Option (T_api_Image) :=
  some (⟨3, 2, l⟩ : T_api_Image)
noncomputable def R1_sample_l2 (next2 : ((Int × (List Int)) → Option (T_api_Image))) (x4_2 : Int) (l_3 : (List Int)) : Option (T_api_Image) :=
  cnd (decide (x4_2 < 6)) (bnd (gApp 1 l_3 ([(wU8 x4_2), (wU8 x4_2), (wU8 x4_2)] : List Int)) fun l16 =>
  bnd (gI (x4_2 + 1)) fun t18 =>
  next2 (t18, l16)) (R1_sample_j1 l_3)
noncomputable def R1_sample  : Option (T_api_Image) :=
  fix (fun next2 s => R1_sample_l2 next2 s.1 s.2) (0, ([] : List Int))

/-! slices.Equal[[]byte,byte] -/
noncomputable def slices_Equal_byte_l1 (a0 : (List Int)) (a1 : (List Int)) (next1 : ((Int) → Option (Bool))) (x13_2 : Int) : Option (Bool) :=
  cnd (decide (x13_2 < (a0.length : Int))) (bnd (gAt a0 x13_2) fun t18 =>
  bnd (gAt a1 x13_2) fun t22 =>
  cnd (decide (t18 ≠ t22)) (some false) (bnd (gI (x13_2 + 1)) fun t25 =>
  next1 t25)) (some true)
noncomputable def slices_Equal_byte (a0 : (List Int)) (a1 : (List Int)) : Option (Bool) :=
  cnd (decide ((a0.length : Int) ≠ (a1.length : Int))) (some false) (fix (fun next1 s => slices_Equal_byte_l1 a0 a1 next1 s) 0)

/-! tintype/tintref1.SameImage -/
noncomputable def R1_SameImage (a0 : T_api_Image) (a1 : T_api_Image) : Option (Bool) :=
  cnd (decide (a0.W = a1.W)) (cnd (decide (a0.H = a1.H)) (bnd (slices_Equal_byte a0.Pixels a1.Pixels) fun t22 =>
  some t22) (some false)) (some false)

/-! tintype/tintref1.Both -/
noncomputable def R1_Both_l1 (t11 : (T_api_Image)) (next1 : ((Int) → Option (Int))) (x6_2 : Int) : Option (Int) :=
  cnd (decide (x6_2 ≤ 8)) (bnd (R1_sample) fun t16 =>
  bnd (R1_Turned t16 x6_2) fun t18 =>
  bnd (R1_SameImage t18 t11) fun t20 =>
  cnd t20 (some x6_2) (bnd (gI (x6_2 + 1)) fun t15 =>
  next1 t15)) (some 0)
noncomputable def R1_Both (a0 : Int) (a1 : Int) : Option (Int) :=
  bnd (R1_sample) fun t7 =>
  bnd (R1_Turned t7 a0) fun t9 =>
  bnd (R1_Turned t9 a1) fun t11 =>
  fix (fun next1 s => R1_Both_l1 t11 next1 s) 1

/-! tintype/tintref2.source -/
noncomputable def R_source (a0 : Int) (a1 : Int) (a2 : Int) (a3 : Int) (a4 : Int) : Option (Int × Int) :=
  cnd (decide (a0 = 2)) (bnd (gI (a1 - 1)) fun t16 =>
  bnd (gI (t16 - a3)) fun t18 =>
  some (t18, a4)) (cnd (decide (a0 = 3)) (bnd (gI (a1 - 1)) fun t23 =>
  bnd (gI (t23 - a3)) fun t25 =>
  bnd (gI (a2 - 1)) fun t27 =>
  bnd (gI (t27 - a4)) fun t29 =>
  some (t25, t29)) (cnd (decide (a0 = 4)) (bnd (gI (a2 - 1)) fun t34 =>
  bnd (gI (t34 - a4)) fun t36 =>
  some (a3, t36)) (cnd (decide (a0 = 5)) (some (a4, a3)) (cnd (decide (a0 = 6)) (bnd (gI (a2 - 1)) fun t45 =>
  bnd (gI (t45 - a3)) fun t47 =>
  some (a4, t47)) (cnd (decide (a0 = 7)) (bnd (gI (a1 - 1)) fun t51 =>
  bnd (gI (t51 - a4)) fun t53 =>
  bnd (gI (a2 - 1)) fun t55 =>
  bnd (gI (t55 - a3)) fun t57 =>
  some (t53, t57)) (cnd (decide (a0 = 8)) (bnd (gI (a1 - 1)) fun t61 =>
  bnd (gI (t61 - a4)) fun t63 =>
  some (t63, a3)) (some (a3, a4))))))))

/-! slices.Min[[]int,int] -/
noncomputable def slices_Min_int_l1 (a0 : (List Int)) (next1 : ((Int × Int) → Option (Int))) (x3_2 : Int) (x4_2 : Int) : Option (Int) :=
  cnd (decide (x4_2 < (a0.length : Int))) (bnd (gAt a0 x4_2) fun t21 =>
  bnd (gI (x4_2 + 1)) fun t17 =>
  next1 ((min x3_2 t21), t17)) (some x3_2)
noncomputable def slices_Min_int (a0 : (List Int)) : Option (Int) :=
  cnd (decide ((a0.length : Int) < 1)) (none) (bnd (gAt a0 0) fun t10 =>
  fix (fun next1 s => slices_Min_int_l1 a0 next1 s.1 s.2) (t10, 1))

/-! slices.Max[[]int,int] -/
noncomputable def slices_Max_int_l1 (a0 : (List Int)) (next1 : ((Int × Int) → Option (Int))) (x3_2 : Int) (x4_2 : Int) : Option (Int) :=
  cnd (decide (x4_2 < (a0.length : Int))) (bnd (gAt a0 x4_2) fun t21 =>
  bnd (gI (x4_2 + 1)) fun t17 =>
  next1 ((max x3_2 t21), t17)) (some x3_2)
noncomputable def slices_Max_int (a0 : (List Int)) : Option (Int) :=
  cnd (decide ((a0.length : Int) < 1)) (none) (bnd (gAt a0 0) fun t10 =>
  fix (fun next1 s => slices_Max_int_l1 a0 next1 s.1 s.2) (t10, 1))

/-! tintype/tintref2.cropTurned -/
noncomputable def R_cropTurned_j2 (l : (List Int)) (l_2 : (List Int)) : Option (T_edit_Step) :=
  bnd (slices_Min_int l) fun t81 =>
  bnd (slices_Min_int l_2) fun t83 =>
  bnd (slices_Max_int l) fun t87 =>
  bnd (gI (t87 - t81)) fun t89 =>
  bnd (gI (t89 + 1)) fun t90 =>
  bnd (slices_Max_int l_2) fun t92 =>
  bnd (gI (t92 - t83)) fun t94 =>
  bnd (gI (t94 + 1)) fun t95 =>
  some (⟨2, t81, t83, t90, t95⟩ : T_edit_Step)
noncomputable def R_cropTurned_j4 (x26_2 : Int) (next3 : ((Int × (List Int) × (List Int)) → Option (T_edit_Step))) (l_7 : (List Int)) (l_8 : (List Int)) : Option (T_edit_Step) :=
  bnd (gI (x26_2 + 1)) fun t79 =>
  next3 (t79, l_7, l_8)
noncomputable def R_cropTurned_j6 (x30_2 : Int) (next5 : ((Int × (List Int) × (List Int)) → Option (T_edit_Step))) (l_13 : (List Int)) (l_14 : (List Int)) : Option (T_edit_Step) :=
  bnd (gI (x30_2 + 1)) fun t78 =>
  next5 (t78, l_13, l_14)
noncomputable def R_cropTurned_l5 (a0 : T_edit_Step) (a1 : Int) (a2 : Int) (a3 : Int) (x11 : Int) (x26_2 : Int) (next3 : ((Int × (List Int) × (List Int)) → Option (T_edit_Step))) (next5 : ((Int × (List Int) × (List Int)) → Option (T_edit_Step))) (x30_2 : Int) (l_11 : (List Int)) (l_12 : (List Int)) : Option (T_edit_Step) :=
  cnd (decide (x30_2 < x11)) (bnd (R_source a1 a2 a3 x30_2 x26_2) fun t39 =>
  cnd (decide (a0.A ≤ t39.1)) (bnd (gI (a0.A + a0.C)) fun t52 =>
  cnd (decide (t39.1 < t52)) (cnd (decide (a0.B ≤ t39.2)) (bnd (gI (a0.B + a0.D)) fun t67 =>
  cnd (decide (t39.2 < t67)) (bnd (gApp 8 l_11 ([x30_2] : List Int)) fun l73 =>
  bnd (gApp 8 l_12 ([x26_2] : List Int)) fun l77 =>
  R_cropTurned_j6 x30_2 next5 l73 l77) (R_cropTurned_j6 x30_2 next5 l_11 l_12)) (R_cropTurned_j6 x30_2 next5 l_11 l_12)) (R_cropTurned_j6 x30_2 next5 l_11 l_12)) (R_cropTurned_j6 x30_2 next5 l_11 l_12)) (R_cropTurned_j4 x26_2 next3 l_11 l_12)
noncomputable def R_cropTurned_l3 (a0 : T_edit_Step) (a1 : Int) (a2 : Int) (a3 : Int) (x11 : Int) (x12 : Int) (next3 : ((Int × (List Int) × (List Int)) → Option (T_edit_Step))) (x26_2 : Int) (l_5 : (List Int)) (l_6 : (List Int)) : Option (T_edit_Step) :=
  cnd (decide (x26_2 < x12)) (fix (fun next5 s => R_cropTurned_l5 a0 a1 a2 a3 x11 x26_2 next3 next5 s.1 s.2.1 s.2.2) (0, l_5, l_6)) (R_cropTurned_j2 l_5 l_6)
noncomputable def R_cropTurned_j1 (a0 : T_edit_Step) (a1 : Int) (a2 : Int) (a3 : Int) (x11 : Int) (x12 : Int) : Option (T_edit_Step) :=
  fix (fun next3 s => R_cropTurned_l3 a0 a1 a2 a3 x11 x12 next3 s.1 s.2.1 s.2.2) (0, ([] : List Int), ([] : List Int))
noncomputable def R_cropTurned (a0 : T_edit_Step) (a1 : Int) (a2 : Int) (a3 : Int) : Option (T_edit_Step) :=
  cnd (decide (5 ≤ a1)) (R_cropTurned_j1 a0 a1 a2 a3 a3 a2) (R_cropTurned_j1 a0 a1 a2 a3 a2 a3)

/-! tintype/tintref2.ruled -/
noncomputable def R_ruled_j2 (x18_2 : Int) (next1 : ((Int) → Option ((List T_edit_Step) × Bool))) : Option ((List T_edit_Step) × Bool) :=
  bnd (gI (x18_2 + 1)) fun t193 =>
  next1 t193
noncomputable def R_ruled_j7 (a0 : (List T_edit_Step)) (x18_2 : Int) (next1 : ((Int) → Option ((List T_edit_Step) × Bool))) (t21 : T_edit_Step) (t52 : T_edit_Step) (x165 : Bool) : Option ((List T_edit_Step) × Bool) :=
  cnd x165 (bnd (gI (x18_2 + 1)) fun t187 =>
  bnd (gAt a0 x18_2) fun t190 =>
  bnd (gSet a0 x18_2 t52) fun l0_5 =>
  bnd (gAt l0_5 t187) fun t191 =>
  bnd (gSet l0_5 t187 t21) fun l0_6 =>
  some (l0_6, true)) (R_ruled_j2 x18_2 next1)
noncomputable def R_ruled_j6 (a0 : (List T_edit_Step)) (a1 : Int) (x18_2 : Int) (next1 : ((Int) → Option ((List T_edit_Step) × Bool))) (t21 : T_edit_Step) (t52 : T_edit_Step) (x147 : Bool) : Option ((List T_edit_Step) × Bool) :=
  cnd x147 (bnd (gI (x18_2 + 2)) fun t163 =>
  bnd (slices_Delete_edit_Step a0 x18_2 t163) fun t164 =>
  some (t164, true)) (cnd (decide (a1 = 6)) (bnd (R_Shaped t21) fun t170 =>
  cnd (!t170) (cnd (decide (t52.Kind = 1)) (R_ruled_j7 a0 x18_2 next1 t21 t52 true) (R_ruled_j7 a0 x18_2 next1 t21 t52 (decide (t52.Kind = 2)))) (R_ruled_j7 a0 x18_2 next1 t21 t52 false)) (R_ruled_j7 a0 x18_2 next1 t21 t52 false))
noncomputable def R_ruled_j5 (a0 : (List T_edit_Step)) (a1 : Int) (x18_2 : Int) (next1 : ((Int) → Option ((List T_edit_Step) × Bool))) (t21 : T_edit_Step) (t29 : (Int × Int × Int)) (t52 : T_edit_Step) (x119 : Bool) : Option ((List T_edit_Step) × Bool) :=
  cnd x119 (bnd (gI (x18_2 + 1)) fun t136 =>
  bnd (R_cropTurned t21 t52.A t29.1 t29.2.1) fun t143 =>
  bnd (gAt a0 x18_2) fun t144 =>
  bnd (gSet a0 x18_2 t52) fun l0_3 =>
  bnd (gAt l0_3 t136) fun t145 =>
  bnd (gSet l0_3 t136 t143) fun l0_4 =>
  some (l0_4, true)) (cnd (decide (a1 = 5)) (cnd (decide (t21.Kind = 9)) (R_ruled_j6 a0 a1 x18_2 next1 t21 t52 (decide (t52.Kind = 9))) (R_ruled_j6 a0 a1 x18_2 next1 t21 t52 false)) (R_ruled_j6 a0 a1 x18_2 next1 t21 t52 false))
noncomputable def R_ruled_j4 (a0 : (List T_edit_Step)) (a1 : Int) (x18_2 : Int) (next1 : ((Int) → Option ((List T_edit_Step) × Bool))) (t21 : T_edit_Step) (t29 : (Int × Int × Int)) (t52 : T_edit_Step) (x82 : Bool) : Option ((List T_edit_Step) × Bool) :=
  cnd x82 (bnd (gI (t21.A + t52.A)) fun t101 =>
  bnd (gI (t21.B + t52.B)) fun t106 =>
  bnd (gAt a0 x18_2) fun t112 =>
  bnd (gSet a0 x18_2 (⟨2, t101, t106, t52.C, t52.D⟩ : T_edit_Step)) fun l0_2 =>
  bnd (gI (x18_2 + 1)) fun t115 =>
  bnd (gI (x18_2 + 2)) fun t117 =>
  bnd (slices_Delete_edit_Step l0_2 t115 t117) fun t118 =>
  some (t118, true)) (cnd (decide (a1 = 4)) (cnd (decide (t21.Kind = 2)) (R_ruled_j5 a0 a1 x18_2 next1 t21 t29 t52 (decide (t52.Kind = 1))) (R_ruled_j5 a0 a1 x18_2 next1 t21 t29 t52 false)) (R_ruled_j5 a0 a1 x18_2 next1 t21 t29 t52 false))
noncomputable def R_ruled_j3 (a0 : (List T_edit_Step)) (a1 : Int) (x18_2 : Int) (next1 : ((Int) → Option ((List T_edit_Step) × Bool))) (t21 : T_edit_Step) (t29 : (Int × Int × Int)) (t52 : T_edit_Step) (x54 : Bool) : Option ((List T_edit_Step) × Bool) :=
  cnd x54 (bnd (R1_Both t21.A t52.A) fun t73 =>
  bnd (gAt a0 x18_2) fun t74 =>
  bnd (gSet a0 x18_2 (⟨t74.Kind, t73, t74.B, t74.C, t74.D⟩ : T_edit_Step)) fun l0 =>
  bnd (gI (x18_2 + 1)) fun t78 =>
  bnd (gI (x18_2 + 2)) fun t80 =>
  bnd (slices_Delete_edit_Step l0 t78 t80) fun t81 =>
  some (t81, true)) (cnd (decide (a1 = 3)) (cnd (decide (t21.Kind = 2)) (R_ruled_j4 a0 a1 x18_2 next1 t21 t29 t52 (decide (t52.Kind = 2))) (R_ruled_j4 a0 a1 x18_2 next1 t21 t29 t52 false)) (R_ruled_j4 a0 a1 x18_2 next1 t21 t29 t52 false))
noncomputable def R_ruled_l1 (a0 : (List T_edit_Step)) (a1 : Int) (a2 : Int) (a3 : Int) (next1 : ((Int) → Option ((List T_edit_Step) × Bool))) (x18_2 : Int) : Option ((List T_edit_Step) × Bool) :=
  cnd (decide (x18_2 < (a0.length : Int))) (bnd (gAt a0 x18_2) fun t21 =>
  bnd (gCut a0 0 x18_2) fun t26 =>
  bnd (R_SizeOf t26 a2 a3) fun t29 =>
  cnd (decide (a1 = 1)) (bnd (R_Idle t21 t29.1 t29.2.1) fun t38 =>
  cnd t38 (bnd (gI (x18_2 + 1)) fun t42 =>
  bnd (slices_Delete_edit_Step a0 x18_2 t42) fun t43 =>
  some (t43, true)) (R_ruled_j2 x18_2 next1)) (bnd (gI (x18_2 + 1)) fun t45 =>
  cnd (decide (t45 = (a0.length : Int))) (R_ruled_j2 x18_2 next1) (bnd (gI (x18_2 + 1)) fun t51 =>
  bnd (gAt a0 t51) fun t52 =>
  cnd (decide (a1 = 2)) (cnd (decide (t21.Kind = 1)) (R_ruled_j3 a0 a1 x18_2 next1 t21 t29 t52 (decide (t52.Kind = 1))) (R_ruled_j3 a0 a1 x18_2 next1 t21 t29 t52 false)) (R_ruled_j3 a0 a1 x18_2 next1 t21 t29 t52 false)))) (some (a0, false))
noncomputable def R_ruled (a0 : (List T_edit_Step)) (a1 : Int) (a2 : Int) (a3 : Int) : Option ((List T_edit_Step) × Bool) :=
  fix (fun next1 s => R_ruled_l1 a0 a1 a2 a3 next1 s) 0

/-! tintype/tintref2.Tidied -/
noncomputable def R_Tidied_l2 (a1 : Int) (a2 : Int) (next1 : ((Bool × (List T_edit_Step)) → Option ((List T_edit_Step)))) (next2 : ((Bool × Int × (List T_edit_Step)) → Option ((List T_edit_Step)))) (x7_4 : Bool) (x8_2 : Int) (l_4 : (List T_edit_Step)) : Option ((List T_edit_Step)) :=
  cnd (decide (x8_2 ≤ 6)) (cnd (!x7_4) (bnd (R_ruled l_4 x8_2 a1 a2) fun t25 =>
  bnd (gI (x8_2 + 1)) fun t19 =>
  next2 (t25.2, t19, t25.1)) (next1 (x7_4, l_4))) (next1 (x7_4, l_4))
noncomputable def R_Tidied_l1 (a1 : Int) (a2 : Int) (next1 : ((Bool × (List T_edit_Step)) → Option ((List T_edit_Step)))) (x7_2 : Bool) (l_2 : (List T_edit_Step)) : Option ((List T_edit_Step)) :=
  cnd x7_2 (fix (fun next2 s => R_Tidied_l2 a1 a2 next1 next2 s.1 s.2.1 s.2.2) (false, 1, l_2)) (some l_2)
noncomputable def R_Tidied (a0 : (List T_edit_Step)) (a1 : Int) (a2 : Int) : Option ((List T_edit_Step)) :=
  bnd (slices_Clone_edit_Step a0) fun t10 =>
  fix (fun next1 s => R_Tidied_l1 a1 a2 next1 s.1 s.2) (true, t10)

/-! slices.Concat[[]tintype/edit.Step,tintype/edit.Step] -/
noncomputable def slices_Concat_edit_Step_l2 (a0 : (List (List T_edit_Step))) (u24 : Nat) (next2 : ((Int × (List T_edit_Step)) → Option ((List T_edit_Step)))) (x27_2 : Int) (l_2 : (List T_edit_Step)) : Option ((List T_edit_Step)) :=
  cnd (decide (x27_2 < (a0.length : Int))) (bnd (gAt a0 x27_2) fun t29 =>
  bnd (gApC u24 l_2 t29) fun l33 =>
  bnd (gI (x27_2 + 1)) fun t34 =>
  next2 (t34, l33)) (some l_2)
noncomputable def slices_Concat_edit_Step_j1 (a0 : (List (List T_edit_Step))) (x3 : Int) : Option ((List T_edit_Step)) :=
  bnd (gGroC 40 x3) fun u24 =>
  fix (fun next2 s => slices_Concat_edit_Step_l2 a0 u24 next2 s.1 s.2) (0, ([] : List T_edit_Step))
noncomputable def slices_Concat_edit_Step_l3 (a0 : (List (List T_edit_Step))) (next3 : ((Int × Int) → Option ((List T_edit_Step)))) (x3_3 : Int) (x11_2 : Int) : Option ((List T_edit_Step)) :=
  cnd (decide (x11_2 < (a0.length : Int))) (bnd (gAt a0 x11_2) fun t13 =>
  bnd (gI (x3_3 + (t13.length : Int))) fun t18 =>
  cnd (decide (t18 < 0)) (none) (bnd (gI (x11_2 + 1)) fun t22 =>
  next3 (t18, t22))) (slices_Concat_edit_Step_j1 a0 x3_3)
noncomputable def slices_Concat_edit_Step (a0 : (List (List T_edit_Step))) : Option ((List T_edit_Step)) :=
  fix (fun next3 s => slices_Concat_edit_Step_l3 a0 next3 s.1 s.2) (0, 0)

/-! tintype/edit.with -/
noncomputable def edit_with (a0 : (List T_edit_Step)) (a1 : Int) (a2 : Int) (a3 : (List T_edit_Step)) : Option ((List T_edit_Step)) :=
  bnd (gCut a0 0 a1) fun t11 =>
  bnd (gI (a1 + a2)) fun t16 =>
  bnd (gCut a0 t16 a0.length) fun t17 =>
  bnd (slices_Concat_edit_Step ([t11, a3, t17] : List (List T_edit_Step))) fun t19 =>
  some t19

/-! tintype/edit.leaveNeutral -/
noncomputable def edit_leaveNeutral (a0 : (List T_edit_Step)) (a1 : Int) (a2 : Int) (a3 : Int) : Option ((List T_edit_Step) × Bool) :=
  bnd (gAt a0 a1) fun t12 =>
  bnd (edit_Step_neutral t12 a2 a3) fun t16 =>
  cnd (!t16) (some (([] : List T_edit_Step), false)) (bnd (edit_with a0 a1 1 ([] : (List T_edit_Step))) fun t20 =>
  some (t20, true))

/-! tintype/edit.pair -/
noncomputable def edit_pair (a0 : (List T_edit_Step)) (a1 : Int) (a2 : Int) (a3 : Int) : Option (Bool) :=
  bnd (gI (a1 + 1)) fun t10 =>
  cnd (decide (t10 < (a0.length : Int))) (bnd (gAt a0 a1) fun t17 =>
  cnd (decide (t17.Kind = a2)) (bnd (gI (a1 + 1)) fun t26 =>
  bnd (gAt a0 t26) fun t27 =>
  some (decide (t27.Kind = a3))) (some false)) (some false)

/-! tintype/pix.outside -/
noncomputable def pix_outside (a0 : Int) (a1 : Int) (a2 : Int) : Option (Bool) :=
  cnd (decide (a0 < a1)) (some true) (some (decide (a2 < a0)))

/-! tintype/pix.turnings$1 -/
noncomputable def pix_turnings_1 (a0 : Int) (a1 : Int) (a2 : Int) (a3 : Int) : Option (Int × Int) :=
  some (a2, a3)

/-! tintype/pix.turnings$2 -/
noncomputable def pix_turnings_2 (a0 : Int) (a1 : Int) (a2 : Int) (a3 : Int) : Option (Int × Int) :=
  bnd (gI (a0 - 1)) fun t11 =>
  bnd (gI (t11 - a2)) fun t13 =>
  some (t13, a3)

/-! tintype/pix.turnings$3 -/
noncomputable def pix_turnings_3 (a0 : Int) (a1 : Int) (a2 : Int) (a3 : Int) : Option (Int × Int) :=
  bnd (gI (a0 - 1)) fun t11 =>
  bnd (gI (t11 - a2)) fun t13 =>
  bnd (gI (a1 - 1)) fun t15 =>
  bnd (gI (t15 - a3)) fun t17 =>
  some (t13, t17)

/-! tintype/pix.turnings$4 -/
noncomputable def pix_turnings_4 (a0 : Int) (a1 : Int) (a2 : Int) (a3 : Int) : Option (Int × Int) :=
  bnd (gI (a1 - 1)) fun t12 =>
  bnd (gI (t12 - a3)) fun t14 =>
  some (a2, t14)

/-! tintype/pix.turnings$5 -/
noncomputable def pix_turnings_5 (a0 : Int) (a1 : Int) (a2 : Int) (a3 : Int) : Option (Int × Int) :=
  some (a3, a2)

/-! tintype/pix.turnings$6 -/
noncomputable def pix_turnings_6 (a0 : Int) (a1 : Int) (a2 : Int) (a3 : Int) : Option (Int × Int) :=
  bnd (gI (a1 - 1)) fun t12 =>
  bnd (gI (t12 - a2)) fun t14 =>
  some (a3, t14)

/-! tintype/pix.turnings$7 -/
noncomputable def pix_turnings_7 (a0 : Int) (a1 : Int) (a2 : Int) (a3 : Int) : Option (Int × Int) :=
  bnd (gI (a0 - 1)) fun t11 =>
  bnd (gI (t11 - a3)) fun t13 =>
  bnd (gI (a1 - 1)) fun t15 =>
  bnd (gI (t15 - a2)) fun t17 =>
  some (t13, t17)

/-! tintype/pix.turnings$8 -/
noncomputable def pix_turnings_8 (a0 : Int) (a1 : Int) (a2 : Int) (a3 : Int) : Option (Int × Int) :=
  bnd (gI (a0 - 1)) fun t11 =>
  bnd (gI (t11 - a3)) fun t13 =>
  some (t13, a2)

/-! tintype/pix.turnings -/
noncomputable def pix_turnings  : Option (Unit) :=
  some ()
noncomputable def pix_turnings_tab0 : Nat → (Option (Int → Int → Int → Int → Option (Int × Int))) := ofL [none, (some pix_turnings_1), (some pix_turnings_2), (some pix_turnings_3), (some pix_turnings_4), (some pix_turnings_5), (some pix_turnings_6), (some pix_turnings_7), (some pix_turnings_8)]
noncomputable def pix_turnings_tab1 : Nat → Bool := ofL [false, false, false, false, false, true, true, true, true]

/-! tintype/pix.Sides -/
noncomputable def pix_Sides (a0 : Int) (a1 : Int) (a2 : Int) : Option (Int × Int) :=
  bnd (pix_turnings) fun t8 =>
  bnd (gIx 9 a0) fun k10 =>
  cnd (pix_turnings_tab1 k10) (some (a2, a1)) (some (a1, a2))

/-! tintype/pix.blank -/
noncomputable def pix_blank (a0 : Int) (a1 : Int) : Option (T_api_Image) :=
  bnd (gI (3 * a0)) fun t8 =>
  bnd (gI (t8 * a1)) fun t10 =>
  bnd (gMake 1 t10 0) fun t11 =>
  some (⟨a0, a1, t11⟩ : T_api_Image)

/-! tintype/pix.set -/
noncomputable def pix_set (a0 : T_api_Image) (a1 : Int) (a2 : Int) (a3 : (Nat → Int)) : Option ((List Int)) :=
  bnd (gI (a2 * a0.W)) fun t13 =>
  bnd (gI (t13 + a1)) fun t15 =>
  bnd (gI (3 * t15)) fun t16 =>
  bnd (gCut a0.Pixels t16 a0.Pixels.length) fun t17 =>
  some (cpyL a0.Pixels t16 t17.length ((List.range 3).map a3))

/-! tintype/pix.at -/
noncomputable def pix_at (a0 : T_api_Image) (a1 : Int) (a2 : Int) : Option ((Nat → Int)) :=
  bnd (gI (a2 * a0.W)) fun t12 =>
  bnd (gI (t12 + a1)) fun t14 =>
  bnd (gI (3 * t14)) fun t15 =>
  bnd (gCut a0.Pixels t15 a0.Pixels.length) fun t16 =>
  bnd (gIf (3 ≤ t16.length)) fun u17 =>
  some (ofL t16)

/-! tintype/pix.turned -/
noncomputable def pix_turned_j1 (t19 : (T_api_Image)) (l : (List Int)) : Option (T_api_Image) :=
  some (⟨t19.W, t19.H, l⟩ : T_api_Image)
noncomputable def pix_turned_j3 (x26_2 : Int) (m_2 : (List Int)) (next2 : ((Int × (List Int) × (List Int)) → Option (T_api_Image))) (l_4 : (List Int)) : Option (T_api_Image) :=
  bnd (gI (x26_2 + 1)) fun t54 =>
  next2 (t54, m_2, l_4)
noncomputable def pix_turned_l4 (a0 : T_api_Image) (t19 : (T_api_Image)) (k22 : Nat) (x26_2 : Int) (m_2 : (List Int)) (next2 : ((Int × (List Int) × (List Int)) → Option (T_api_Image))) (next4 : ((Int × (List Int)) → Option (T_api_Image))) (x31_2 : Int) (l_6 : (List Int)) : Option (T_api_Image) :=
  cnd (decide (x31_2 < t19.W)) (bnd (gFn (pix_turnings_tab0 k22)) fun g42 =>
  bnd (g42 a0.W a0.H x31_2 x26_2) fun t42 =>
  bnd (pix_at (⟨a0.W, a0.H, m_2⟩ : T_api_Image) t42.1 t42.2) fun t51 =>
  bnd (pix_set (⟨t19.W, t19.H, l_6⟩ : T_api_Image) x31_2 x26_2 t51) fun t52 =>
  bnd (gI (x31_2 + 1)) fun t53 =>
  next4 (t53, t52)) (pix_turned_j3 x26_2 m_2 next2 l_6)
noncomputable def pix_turned_l2 (a0 : T_api_Image) (t19 : (T_api_Image)) (k22 : Nat) (next2 : ((Int × (List Int) × (List Int)) → Option (T_api_Image))) (x26_2 : Int) (m_2 : (List Int)) (l_3 : (List Int)) : Option (T_api_Image) :=
  cnd (decide (x26_2 < t19.H)) (fix (fun next4 s => pix_turned_l4 a0 t19 k22 x26_2 m_2 next2 next4 s.1 s.2) (0, l_3)) (pix_turned_j1 t19 l_3)
noncomputable def pix_turned (a0 : T_api_Image) (a1 : Int) : Option (T_api_Image) :=
  bnd (pix_Sides a1 a0.W a0.H) fun t16 =>
  bnd (pix_blank t16.1 t16.2) fun t19 =>
  bnd (pix_turnings) fun t20 =>
  bnd (gIx 9 a1) fun k22 =>
  fix (fun next2 s => pix_turned_l2 a0 t19 k22 next2 s.1 s.2.1 s.2.2) (0, a0.Pixels, t19.Pixels)

/-! tintype/pix.sample -/
noncomputable def pix_sample_j1 (t3 : (T_api_Image)) (l : (List Int)) : Option (T_api_Image) :=
  some (⟨t3.W, t3.H, l⟩ : T_api_Image)
noncomputable def pix_sample_l2 (t3 : (T_api_Image)) (next2 : ((Int × Int × (List Int)) → Option (T_api_Image))) (x6_2 : Int) (x7_2 : Int) (l_3 : (List Int)) : Option (T_api_Image) :=
  cnd (decide (x7_2 < x6_2)) (bnd (gAt l_3 x7_2) fun t15 =>
  bnd (gSet l_3 x7_2 (wU8 x7_2)) fun l1 =>
  bnd (gI (x7_2 + 1)) fun t16 =>
  next2 (x6_2, t16, l1)) (pix_sample_j1 t3 l_3)
noncomputable def pix_sample  : Option (T_api_Image) :=
  bnd (pix_blank 2 3) fun t3 =>
  fix (fun next2 s => pix_sample_l2 t3 next2 s.1 s.2.1 s.2.2) ((t3.Pixels.length : Int), 0, t3.Pixels)

/-! tintype/pix.Same -/
noncomputable def pix_Same (a0 : T_api_Image) (a1 : T_api_Image) : Option (Bool) :=
  cnd (decide (a0.W = a1.W)) (cnd (decide (a0.H = a1.H)) (bnd (slices_Equal_byte a0.Pixels a1.Pixels) fun t22 =>
  some t22) (some false)) (some false)

/-! tintype/pix.Then -/
noncomputable def pix_Then_l1 (t18 : (T_api_Image)) (next1 : ((Int) → Option (Int × Int))) (x7_2 : Int) : Option (Int × Int) :=
  cnd (decide (x7_2 ≤ 8)) (bnd (pix_sample) fun t23 =>
  bnd (pix_turned t23 x7_2) fun t25 =>
  bnd (pix_Same t25 t18) fun t27 =>
  cnd t27 (some (x7_2, 0)) (bnd (gI (x7_2 + 1)) fun t22 =>
  next1 t22)) (some (0, 2))
noncomputable def pix_Then (a0 : Int) (a1 : Int) : Option (Int × Int) :=
  bnd (pix_outside a0 1 8) fun t9 =>
  cnd t9 (some (0, 2)) (bnd (pix_outside a1 1 8) fun t12 =>
  cnd t12 (some (0, 2)) (bnd (pix_sample) fun t14 =>
  bnd (pix_turned t14 a0) fun t16 =>
  bnd (pix_turned t16 a1) fun t18 =>
  fix (fun next1 s => pix_Then_l1 t18 next1 s) 1))

/-! tintype/edit.joinTurns -/
noncomputable def edit_joinTurns (a0 : (List T_edit_Step)) (a1 : Int) (a2 : Int) (a3 : Int) : Option ((List T_edit_Step) × Bool) :=
  bnd (edit_pair a0 a1 1 1) fun t14 =>
  cnd (!t14) (some (([] : List T_edit_Step), false)) (bnd (gAt a0 a1) fun t19 =>
  bnd (gI (a1 + 1)) fun t24 =>
  bnd (gAt a0 t24) fun t25 =>
  bnd (pix_Then t19.A t25.A) fun t28 =>
  bnd (edit_with a0 a1 2 ([(⟨1, t28.1, 0, 0, 0⟩ : T_edit_Step)] : List T_edit_Step)) fun t36 =>
  some (t36, true))

/-! tintype/edit.joinCrops -/
noncomputable def edit_joinCrops (a0 : (List T_edit_Step)) (a1 : Int) (a2 : Int) (a3 : Int) : Option ((List T_edit_Step) × Bool) :=
  bnd (edit_pair a0 a1 2 2) fun t14 =>
  cnd (!t14) (some (([] : List T_edit_Step), false)) (bnd (gAt a0 a1) fun t18 =>
  bnd (gI (a1 + 1)) fun t22 =>
  bnd (gAt a0 t22) fun t23 =>
  bnd (gI (t18.A + t23.A)) fun t31 =>
  bnd (gI (t18.B + t23.B)) fun t36 =>
  bnd (edit_with a0 a1 2 ([(⟨2, t31, t36, t23.C, t23.D⟩ : T_edit_Step)] : List T_edit_Step)) fun t43 =>
  some (t43, true))

/-! tintype/pix.From -/
noncomputable def pix_From (a0 : Int) (a1 : Int) (a2 : Int) (a3 : Int) (a4 : Int) : Option (Int × Int) :=
  bnd (pix_turnings) fun t12 =>
  bnd (gIx 9 a0) fun k14 =>
  bnd (gFn (pix_turnings_tab0 k14)) fun g20 =>
  bnd (g20 a1 a2 a3 a4) fun t20 =>
  some (t20.1, t20.2)

/-! tintype/edit.turnedCrop -/
noncomputable def edit_turnedCrop_j1 (a0 : T_edit_Step) (a1 : Int) (x11 : Int) (x12 : Int) : Option (T_edit_Step) :=
  bnd (pix_Sides a1 a0.C a0.D) fun t81 =>
  some (⟨a0.Kind, x11, x12, t81.1, t81.2⟩ : T_edit_Step)
noncomputable def edit_turnedCrop_j3 (x27_2 : Int) (next2 : ((Int × Int × Int) → Option (T_edit_Step))) (x11_4 : Int) (x12_4 : Int) : Option (T_edit_Step) :=
  bnd (gI (x27_2 + 1)) fun t74 =>
  next2 (x11_4, x12_4, t74)
noncomputable def edit_turnedCrop_j5 (x31_2 : Int) (next4 : ((Int × Int × Int) → Option (T_edit_Step))) (x11_7 : Int) (x12_7 : Int) : Option (T_edit_Step) :=
  bnd (gI (x31_2 + 1)) fun t73 =>
  next4 (x11_7, x12_7, t73)
noncomputable def edit_turnedCrop_l4 (a0 : T_edit_Step) (a1 : Int) (a2 : Int) (a3 : Int) (t21 : (Int × Int)) (x27_2 : Int) (next2 : ((Int × Int × Int) → Option (T_edit_Step))) (next4 : ((Int × Int × Int) → Option (T_edit_Step))) (x11_6 : Int) (x12_6 : Int) (x31_2 : Int) : Option (T_edit_Step) :=
  cnd (decide (x31_2 < t21.1)) (bnd (pix_From a1 a2 a3 x31_2 x27_2) fun t40 =>
  bnd (gI (a0.A + a0.C)) fun t50 =>
  bnd (gI (t50 - 1)) fun t51 =>
  bnd (edit_outside t40.1 a0.A t51) fun t52 =>
  cnd (!t52) (bnd (gI (a0.B + a0.D)) fun t62 =>
  bnd (gI (t62 - 1)) fun t63 =>
  bnd (edit_outside t40.2 a0.B t63) fun t64 =>
  cnd (!t64) (edit_turnedCrop_j5 x31_2 next4 (min x11_6 x31_2) (min x12_6 x27_2)) (edit_turnedCrop_j5 x31_2 next4 x11_6 x12_6)) (edit_turnedCrop_j5 x31_2 next4 x11_6 x12_6)) (edit_turnedCrop_j3 x27_2 next2 x11_6 x12_6)
noncomputable def edit_turnedCrop_l2 (a0 : T_edit_Step) (a1 : Int) (a2 : Int) (a3 : Int) (t21 : (Int × Int)) (next2 : ((Int × Int × Int) → Option (T_edit_Step))) (x11_3 : Int) (x12_3 : Int) (x27_2 : Int) : Option (T_edit_Step) :=
  cnd (decide (x27_2 < t21.2)) (fix (fun next4 s => edit_turnedCrop_l4 a0 a1 a2 a3 t21 x27_2 next2 next4 s.1 s.2.1 s.2.2) (x11_3, x12_3, 0)) (edit_turnedCrop_j1 a0 a1 x11_3 x12_3)
noncomputable def edit_turnedCrop (a0 : T_edit_Step) (a1 : Int) (a2 : Int) (a3 : Int) : Option (T_edit_Step) :=
  bnd (pix_Sides a1 a2 a3) fun t21 =>
  fix (fun next2 s => edit_turnedCrop_l2 a0 a1 a2 a3 t21 next2 s.1 s.2.1 s.2.2) (t21.1, t21.2, 0)

/-! tintype/edit.turnFirst -/
noncomputable def edit_turnFirst (a0 : (List T_edit_Step)) (a1 : Int) (a2 : Int) (a3 : Int) : Option ((List T_edit_Step) × Bool) :=
  bnd (edit_pair a0 a1 2 1) fun t12 =>
  cnd (!t12) (some (([] : List T_edit_Step), false)) (bnd (gI (a1 + 1)) fun t18 =>
  bnd (gAt a0 t18) fun t19 =>
  bnd (gAt a0 a1) fun t23 =>
  bnd (gI (a1 + 1)) fun t27 =>
  bnd (gAt a0 t27) fun t28 =>
  bnd (edit_turnedCrop t23 t28.A a2 a3) fun t33 =>
  bnd (edit_with a0 a1 2 ([t19, t33] : List T_edit_Step)) fun t35 =>
  some (t35, true))

/-! tintype/edit.leaveInverts -/
noncomputable def edit_leaveInverts (a0 : (List T_edit_Step)) (a1 : Int) (a2 : Int) (a3 : Int) : Option ((List T_edit_Step) × Bool) :=
  bnd (edit_pair a0 a1 9 9) fun t12 =>
  cnd (!t12) (some (([] : List T_edit_Step), false)) (bnd (edit_with a0 a1 2 ([] : (List T_edit_Step))) fun t16 =>
  some (t16, true))

/-! tintype/edit.shapeFirst -/
noncomputable def edit_shapeFirst (a0 : (List T_edit_Step)) (a1 : Int) (a2 : Int) (a3 : Int) : Option ((List T_edit_Step) × Bool) :=
  bnd (gI (a1 + 1)) fun t11 =>
  cnd (decide (t11 = (a0.length : Int))) (some (([] : List T_edit_Step), false)) (bnd (gAt a0 a1) fun t18 =>
  bnd (edit_Shape t18) fun t20 =>
  cnd t20 (some (([] : List T_edit_Step), false)) (bnd (gI (a1 + 1)) fun t25 =>
  bnd (gAt a0 t25) fun t26 =>
  bnd (edit_Shape t26) fun t28 =>
  cnd (!t28) (some (([] : List T_edit_Step), false)) (bnd (gI (a1 + 1)) fun t34 =>
  bnd (gAt a0 t34) fun t35 =>
  cnd (decide (t35.Kind = 3)) (some (([] : List T_edit_Step), false)) (bnd (gI (a1 + 1)) fun t44 =>
  bnd (gAt a0 t44) fun t45 =>
  bnd (gAt a0 a1) fun t49 =>
  bnd (edit_with a0 a1 2 ([t45, t49] : List T_edit_Step)) fun t52 =>
  some (t52, true)))))

/-! tintype/edit.shorter -/
noncomputable def mft175 : Nat → (Option ((List T_edit_Step) → Int → Int → Int → Option ((List T_edit_Step) × Bool)))
  | 0 => some edit_leaveNeutral
  | 1 => some edit_joinTurns
  | 2 => some edit_joinCrops
  | 3 => some edit_turnFirst
  | 4 => some edit_leaveInverts
  | 5 => some edit_shapeFirst
  | _ => none
noncomputable def edit_shorter_j2 (x18_2 : Int) (next1 : ((Int) → Option ((List T_edit_Step) × Bool))) : Option ((List T_edit_Step) × Bool) :=
  bnd (gI (x18_2 + 1)) fun t49 =>
  next1 t49
noncomputable def edit_shorter_l3 (a0 : (List T_edit_Step)) (a1 : Int) (a2 : Int) (x18_2 : Int) (next1 : ((Int) → Option ((List T_edit_Step) × Bool))) (t20 : Nat) (next3 : ((Int) → Option ((List T_edit_Step) × Bool))) (x24_2 : Int) : Option ((List T_edit_Step) × Bool) :=
  cnd (decide (x24_2 < (a0.length : Int))) (bnd (gCut a0 0 x24_2) fun t30 =>
  bnd (edit_size t30 a1 a2) fun t33 =>
  bnd (gFn (mft175 t20)) fun g43 =>
  bnd (g43 a0 x24_2 t33.1 t33.2.1) fun t43 =>
  cnd t43.2 (some (t43.1, true)) (bnd (gI (x24_2 + 1)) fun t48 =>
  next3 t48)) (edit_shorter_j2 x18_2 next1)
noncomputable def edit_shorter_l1 (a0 : (List T_edit_Step)) (a1 : Int) (a2 : Int) (next1 : ((Int) → Option ((List T_edit_Step) × Bool))) (x18_2 : Int) : Option ((List T_edit_Step) × Bool) :=
  cnd (decide (x18_2 < 6)) (bnd (gAt ([0, 1, 2, 3, 4, 5] : List Nat) x18_2) fun t20 =>
  fix (fun next3 s => edit_shorter_l3 a0 a1 a2 x18_2 next1 t20 next3 s) 0) (some (a0, false))
noncomputable def edit_shorter (a0 : (List T_edit_Step)) (a1 : Int) (a2 : Int) : Option ((List T_edit_Step) × Bool) :=
  fix (fun next1 s => edit_shorter_l1 a0 a1 a2 next1 s) 0

/-! tintype/edit.Tidy -/
noncomputable def edit_Tidy_j1 (l : (List T_edit_Step)) : Option ((List T_edit_Step) × Int) :=
  some (l, 0)
noncomputable def edit_Tidy_l2 (a1 : Int) (a2 : Int) (next2 : ((Bool × (List T_edit_Step)) → Option ((List T_edit_Step) × Int))) (x12_2 : Bool) (l_3 : (List T_edit_Step)) : Option ((List T_edit_Step) × Int) :=
  cnd x12_2 (bnd (edit_shorter l_3 a1 a2) fun t36 =>
  next2 (t36.2, t36.1)) (edit_Tidy_j1 l_3)
noncomputable def edit_Tidy (a0 : (List T_edit_Step)) (a1 : Int) (a2 : Int) : Option ((List T_edit_Step) × Int) :=
  bnd (edit_Check a0) fun t14 =>
  cnd (decide (t14 ≠ 0)) (some (([] : List T_edit_Step), t14)) (bnd (edit_size a0 a1 a2) fun t22 =>
  cnd (decide (t22.2.2 ≠ 0)) (some (([] : List T_edit_Step), t22.2.2)) (bnd (slices_Clone_edit_Step a0) fun t30 =>
  fix (fun next2 s => edit_Tidy_l2 a1 a2 next2 s.1 s.2) (true, t30)))

/-! tintype/tintlaw2.EditTidies -/
noncomputable def Law_EditTidies_j3 (a0 : (List T_edit_Step)) (a1 : Int) (a2 : Int) (x12 : Int) (l : (List T_edit_Step)) : Option (Bool) :=
  bnd (edit_Tidy a0 a1 a2) fun t107 =>
  bnd (Law_listed_edit_Step t107.1 t107.2 l x12) fun t114 =>
  some t114
noncomputable def Law_EditTidies_j2 (a0 : (List T_edit_Step)) (a1 : Int) (a2 : Int) (x12 : Int) : Option (Bool) :=
  cnd (decide (x12 = 0)) (bnd (R_Tidied a0 a1 a2) fun t102 =>
  Law_EditTidies_j3 a0 a1 a2 x12 t102) (Law_EditTidies_j3 a0 a1 a2 x12 ([] : List T_edit_Step))
noncomputable def Law_EditTidies_j1 (a0 : (List T_edit_Step)) (a1 : Int) (a2 : Int) : Option (Bool) :=
  bnd (R_StepsFault a0) fun t61 =>
  bnd (edit_Apart a0) fun t64 =>
  bnd (R_Parted a0) fun t70 =>
  bnd (Law_listed_edit_Step t64.1 t64.2.2 t70.1 t61) fun t77 =>
  cnd (!t77) (some false) (bnd (Law_listed_edit_Step t64.2.1 t64.2.2 t70.2 t61) fun t84 =>
  cnd (!t84) (some false) (cnd (decide (t61 = 0)) (bnd (R_SizeOf a0 a1 a2) fun t93 =>
  Law_EditTidies_j2 a0 a1 a2 t93.2.2) (Law_EditTidies_j2 a0 a1 a2 t61)))
noncomputable def Law_EditTidies_j5 (x22_2 : Int) (next4 : ((Int) → Option (Bool))) : Option (Bool) :=
  bnd (gI (x22_2 + 1)) fun t59 =>
  next4 t59
noncomputable def Law_EditTidies_j6 (a1 : Int) (a2 : Int) (x22_2 : Int) (next4 : ((Int) → Option (Bool))) (t24 : T_edit_Step) (t30 : (Bool × Int)) (x11 : Int) : Option (Bool) :=
  cnd (decide (x11 = 0)) (bnd (R_Idle t24 a1 a2) fun t54 =>
  bnd (Law_told_bool t30.1 t30.2 t54 x11) fun t57 =>
  cnd (!t57) (some false) (Law_EditTidies_j5 x22_2 next4)) (bnd (Law_told_bool t30.1 t30.2 false x11) fun t57_2 =>
  cnd (!t57_2) (some false) (Law_EditTidies_j5 x22_2 next4))
noncomputable def Law_EditTidies_l4 (a0 : (List T_edit_Step)) (a1 : Int) (a2 : Int) (next4 : ((Int) → Option (Bool))) (x22_2 : Int) : Option (Bool) :=
  cnd (decide (x22_2 < (a0.length : Int))) (bnd (gAt a0 x22_2) fun t24 =>
  bnd (edit_Neutral t24 a1 a2) fun t30 =>
  bnd (R_StepFault t24) fun t34 =>
  cnd (decide (t34 = 0)) (bnd (R_SizeOf ([t24] : List T_edit_Step) a1 a2) fun t42 =>
  Law_EditTidies_j6 a1 a2 x22_2 next4 t24 t30 t42.2.2) (Law_EditTidies_j6 a1 a2 x22_2 next4 t24 t30 t34)) (Law_EditTidies_j1 a0 a1 a2)
noncomputable def Law_EditTidies (a0 : (List T_edit_Step)) (a1 : Int) (a2 : Int) : Option (Bool) :=
  fix (fun next4 s => Law_EditTidies_l4 a0 a1 a2 next4 s) 0

end Go.M
