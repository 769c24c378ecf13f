/- EditOthers: the models, printed by our generator from the compiled program. Conditions: none. -/
import Derived.Test.YtilhbkglchppjaaDoorMd5
namespace Go.M
open Go.Md
set_option maxRecDepth 100000
set_option linter.unusedVariables false

structure T_edit_Step where
  Kind : Int
  A : Int
  B : Int
  C : Int
  D : Int
instance : Inhabited T_edit_Step := ⟨⟨0, 0, 0, 0, 0⟩⟩

def eq_edit_Step (x y : T_edit_Step) : Bool := decide (x.Kind = y.Kind ∧ x.A = y.A ∧ x.B = y.B ∧ x.C = y.C ∧ x.D = y.D)

/-! tintype/tintlaw2.first -/
noncomputable def Law_first_l1 (a0 : (List Int)) (next1 : ((Int) → Option (Int))) (x7_2 : Int) : Option (Int) :=
  cnd (decide (x7_2 < (a0.length : Int))) (bnd (gAt a0 x7_2) fun t9 =>
  cnd (decide (t9 ≠ 0)) (some t9) (bnd (gI (x7_2 + 1)) fun t14 =>
  next1 t14)) (some 0)
noncomputable def Law_first (a0 : (List Int)) : Option (Int) :=
  fix (fun next1 s => Law_first_l1 a0 next1 s) 0

/-! tintype/tintref2.numbersUsed -/
noncomputable def R_numbersUsed (a0 : Int) : Option (Int) :=
  bnd (gAt ([0, 1, 4, 2, 1, 1, 2, 1, 1, 0] : List Int) a0) fun t5 =>
  some t5

/-! tintype/tintref2.StepFault$1 -/
noncomputable def R_StepFault_1 (a0 : Int) (a1 : Int) (a2 : Int) : Option (Bool) :=
  cnd (decide (a0 < a1)) (some true) (some (decide (a2 < a0)))

/-! tintype/tintref2.StepFault -/
noncomputable def R_StepFault_j2 (a0 : T_edit_Step) (x6 : Bool) : Option (Int) :=
  cnd x6 (some 2) (cnd (decide (a0.Kind = 6)) (cnd (decide (a0.B ≤ a0.A)) (some 5) (some 0)) (some 0))
noncomputable def R_StepFault_j1 (a0 : T_edit_Step) : Option (Int) :=
  cnd (decide (a0.Kind = 1)) (bnd (R_StepFault_1 a0.A 1 8) fun t47 =>
  R_StepFault_j2 a0 t47) (cnd (decide (a0.Kind = 2)) (bnd (R_StepFault_1 a0.A 0 63) fun t53 =>
  cnd t53 (R_StepFault_j2 a0 true) (bnd (R_StepFault_1 a0.B 0 63) fun t58 =>
  cnd t58 (R_StepFault_j2 a0 true) (bnd (R_StepFault_1 a0.C 1 64) fun t64 =>
  cnd t64 (R_StepFault_j2 a0 true) (bnd (R_StepFault_1 a0.D 1 64) fun t70 =>
  R_StepFault_j2 a0 t70)))) (cnd (decide (a0.Kind = 3)) (bnd (R_StepFault_1 a0.A 1 64) fun t77 =>
  cnd t77 (R_StepFault_j2 a0 true) (bnd (R_StepFault_1 a0.B 1 64) fun t82 =>
  R_StepFault_j2 a0 t82)) (cnd (decide (a0.Kind = 4)) (bnd (R_StepFault_1 a0.A (-255) 255) fun t89 =>
  R_StepFault_j2 a0 t89) (cnd (decide (a0.Kind = 5)) (bnd (R_StepFault_1 a0.A 0 400) fun t95 =>
  R_StepFault_j2 a0 t95) (cnd (decide (a0.Kind = 6)) (bnd (R_StepFault_1 a0.A 0 255) fun t101 =>
  cnd t101 (R_StepFault_j2 a0 true) (bnd (R_StepFault_1 a0.B 0 255) fun t106 =>
  R_StepFault_j2 a0 t106)) (cnd (decide (a0.Kind = 7)) (bnd (R_StepFault_1 a0.A (-100) 100) fun t113 =>
  R_StepFault_j2 a0 t113) (cnd (decide (a0.Kind = 8)) (bnd (R_StepFault_1 a0.A 0 100) fun t119 =>
  R_StepFault_j2 a0 t119) (R_StepFault_j2 a0 false))))))))
noncomputable def R_StepFault_j4 (x25_2 : Int) (next3 : ((Int) → Option (Int))) : Option (Int) :=
  bnd (gI (x25_2 + 1)) fun t39 =>
  next3 t39
noncomputable def R_StepFault_l3 (a0 : T_edit_Step) (next3 : ((Int) → Option (Int))) (x25_2 : Int) : Option (Int) :=
  cnd (decide (x25_2 < 4)) (bnd (gAt ([a0.A, a0.B, a0.C, a0.D] : List Int) x25_2) fun t28 =>
  bnd (R_numbersUsed a0.Kind) fun t33 =>
  cnd (decide (t33 ≤ x25_2)) (cnd (decide (t28 ≠ 0)) (some 1) (R_StepFault_j4 x25_2 next3)) (R_StepFault_j4 x25_2 next3)) (R_StepFault_j1 a0)
noncomputable def R_StepFault (a0 : T_edit_Step) : Option (Int) :=
  cnd (decide (a0.Kind < 1)) (some 10) (cnd (decide (9 < a0.Kind)) (some 10) (fix (fun next3 s => R_StepFault_l3 a0 next3 s) 0))

/-! tintype/tintref2.StepsFault -/
noncomputable def R_StepsFault_l1 (a0 : (List T_edit_Step)) (next1 : ((Int) → Option (Int))) (x11_2 : Int) : Option (Int) :=
  cnd (decide (x11_2 < (a0.length : Int))) (bnd (gAt a0 x11_2) fun t13 =>
  bnd (R_StepFault t13) fun t16 =>
  cnd (decide (t16 ≠ 0)) (some t16) (bnd (gI (x11_2 + 1)) fun t20 =>
  next1 t20)) (some 0)
noncomputable def R_StepsFault (a0 : (List T_edit_Step)) : Option (Int) :=
  cnd (decide (50 < (a0.length : Int))) (some 4) (fix (fun next1 s => R_StepsFault_l1 a0 next1 s) 0)

/-! slices.Concat[[]tintype/edit.Step,tintype/edit.Step] -/
noncomputable def slices_Concat_edit_Step_l2 (a0 : (List (List T_edit_Step))) (u24 : Nat) (next2 : ((Int × (List T_edit_Step)) → Option ((List T_edit_Step)))) (x27_2 : Int) (l_2 : (List T_edit_Step)) : Option ((List T_edit_Step)) :=
  cnd (decide (x27_2 < (a0.length : Int))) (bnd (gAt a0 x27_2) fun t29 =>
  bnd (gApC u24 l_2 t29) fun l33 =>
  bnd (gI (x27_2 + 1)) fun t34 =>
  next2 (t34, l33)) (some l_2)
noncomputable def slices_Concat_edit_Step_j1 (a0 : (List (List T_edit_Step))) (x3 : Int) : Option ((List T_edit_Step)) :=
  bnd (gGroC 40 x3) fun u24 =>
  fix (fun next2 s => slices_Concat_edit_Step_l2 a0 u24 next2 s.1 s.2) (0, ([] : List T_edit_Step))
noncomputable def slices_Concat_edit_Step_l3 (a0 : (List (List T_edit_Step))) (next3 : ((Int × Int) → Option ((List T_edit_Step)))) (x3_3 : Int) (x11_2 : Int) : Option ((List T_edit_Step)) :=
  cnd (decide (x11_2 < (a0.length : Int))) (bnd (gAt a0 x11_2) fun t13 =>
  bnd (gI (x3_3 + (t13.length : Int))) fun t18 =>
  cnd (decide (t18 < 0)) (none) (bnd (gI (x11_2 + 1)) fun t22 =>
  next3 (t18, t22))) (slices_Concat_edit_Step_j1 a0 x3_3)
noncomputable def slices_Concat_edit_Step (a0 : (List (List T_edit_Step))) : Option ((List T_edit_Step)) :=
  fix (fun next3 s => slices_Concat_edit_Step_l3 a0 next3 s.1 s.2) (0, 0)

/-! tintype/edit.word -/
noncomputable def edit_word (a0 : Int) : Option ((List UInt8) × Int) :=
  cnd (decide (a0 = 1)) (some ([116, 117, 114, 110], 1)) (cnd (decide (a0 = 2)) (some ([99, 114, 111, 112], 4)) (cnd (decide (a0 = 3)) (some ([115, 99, 97, 108, 101], 2)) (cnd (decide (a0 = 4)) (some ([108, 105, 103, 104, 116], 1)) (cnd (decide (a0 = 5)) (some ([115, 112, 114, 101, 97, 100], 1)) (cnd (decide (a0 = 6)) (some ([108, 101, 118, 101, 108, 115], 2)) (cnd (decide (a0 = 7)) (some ([119, 97, 114, 109], 1)) (cnd (decide (a0 = 8)) (some ([109, 117, 116, 101], 1)) (some ([105, 110, 118, 101, 114, 116], 0)))))))))

/-! (tintype/edit.Step).numbers -/
noncomputable def edit_Step_numbers (a0 : T_edit_Step) : Option ((List Int)) :=
  some ([a0.A, a0.B, a0.C, a0.D] : List Int)

/-! tintype/edit.outside -/
noncomputable def edit_outside (a0 : Int) (a1 : Int) (a2 : Int) : Option (Bool) :=
  cnd (decide (a0 < a1)) (some true) (some (decide (a2 < a0)))

/-! tintype/edit.bounds -/
noncomputable def edit_bounds (a0 : Int) : Option ((Nat → (Nat → Int))) :=
  cnd (decide (a0 = 1)) (some (ofL [(ofL [1, 8]), (fun _ => 0), (fun _ => 0), (fun _ => 0)])) (cnd (decide (a0 = 2)) (some (ofL [(ofL [0, 63]), (ofL [0, 63]), (ofL [1, 64]), (ofL [1, 64])])) (cnd (decide (a0 = 3)) (some (ofL [(ofL [1, 64]), (ofL [1, 64]), (fun _ => 0), (fun _ => 0)])) (cnd (decide (a0 = 4)) (some (ofL [(ofL [(-255), 255]), (fun _ => 0), (fun _ => 0), (fun _ => 0)])) (cnd (decide (a0 = 5)) (some (ofL [(ofL [0, 400]), (fun _ => 0), (fun _ => 0), (fun _ => 0)])) (cnd (decide (a0 = 6)) (some (ofL [(ofL [0, 255]), (ofL [0, 255]), (fun _ => 0), (fun _ => 0)])) (cnd (decide (a0 = 7)) (some (ofL [(ofL [(-100), 100]), (fun _ => 0), (fun _ => 0), (fun _ => 0)])) (cnd (decide (a0 = 8)) (some (ofL [(ofL [0, 100]), (fun _ => 0), (fun _ => 0), (fun _ => 0)])) (some (fun _ => (fun _ => 0))))))))))

/-! tintype/edit.CheckStep -/
noncomputable def edit_CheckStep_j2 (a0 : T_edit_Step) : Option (Int) :=
  cnd (decide (a0.Kind = 6)) (cnd (decide (a0.B ≤ a0.A)) (some 5) (some 0)) (some 0)
noncomputable def edit_CheckStep_l3 (a0 : T_edit_Step) (t35 : ((Nat → (Nat → Int)))) (t38 : (List Int)) (next3 : ((Int) → Option (Int))) (x40_2 : Int) : Option (Int) :=
  cnd (decide (x40_2 < (t38.length : Int))) (bnd (gAt t38 x40_2) fun t43 =>
  bnd (gIx 4 x40_2) fun k47 =>
  bnd (gIx 4 x40_2) fun k51 =>
  bnd (edit_outside t43 ((t35 k47) 0) ((t35 k51) 1)) fun t54 =>
  cnd t54 (some 2) (bnd (gI (x40_2 + 1)) fun t55 =>
  next3 t55)) (edit_CheckStep_j2 a0)
noncomputable def edit_CheckStep_j1 (a0 : T_edit_Step) (t17 : ((List UInt8) × Int)) (t21 : ((List Int))) : Option (Int) :=
  bnd (edit_bounds a0.Kind) fun t35 =>
  bnd (gCut t21 0 t17.2) fun t38 =>
  fix (fun next3 s => edit_CheckStep_l3 a0 t35 t38 next3 s) 0
noncomputable def edit_CheckStep_l4 (a0 : T_edit_Step) (t17 : ((List UInt8) × Int)) (t21 : ((List Int))) (t24 : (List Int)) (next4 : ((Int) → Option (Int))) (x26_2 : Int) : Option (Int) :=
  cnd (decide (x26_2 < (t24.length : Int))) (bnd (gAt t24 x26_2) fun t28 =>
  cnd (decide (t28 ≠ 0)) (some 1) (bnd (gI (x26_2 + 1)) fun t32 =>
  next4 t32)) (edit_CheckStep_j1 a0 t17 t21)
noncomputable def edit_CheckStep (a0 : T_edit_Step) : Option (Int) :=
  bnd (edit_outside a0.Kind 1 9) fun t13 =>
  cnd t13 (some 10) (bnd (edit_word a0.Kind) fun t17 =>
  bnd (edit_Step_numbers a0) fun t21 =>
  bnd (gCut t21 t17.2 t21.length) fun t24 =>
  fix (fun next4 s => edit_CheckStep_l4 a0 t17 t21 t24 next4 s) 0)

/-! tintype/edit.Check -/
noncomputable def edit_Check_l1 (a0 : (List T_edit_Step)) (next1 : ((Int) → Option (Int))) (x11_2 : Int) : Option (Int) :=
  cnd (decide (x11_2 < (a0.length : Int))) (bnd (gAt a0 x11_2) fun t13 =>
  bnd (edit_CheckStep t13) fun t16 =>
  cnd (decide (t16 ≠ 0)) (some t16) (bnd (gI (x11_2 + 1)) fun t20 =>
  next1 t20)) (some 0)
noncomputable def edit_Check (a0 : (List T_edit_Step)) : Option (Int) :=
  cnd (decide (50 < (a0.length : Int))) (some 4) (fix (fun next1 s => edit_Check_l1 a0 next1 s) 0)

/-! tintype/edit.checkAll -/
noncomputable def edit_checkAll_l1 (a0 : (List (List T_edit_Step))) (next1 : ((Int) → Option (Int))) (x8_2 : Int) : Option (Int) :=
  cnd (decide (x8_2 < (a0.length : Int))) (bnd (gAt a0 x8_2) fun t10 =>
  bnd (edit_Check t10) fun t13 =>
  cnd (decide (t13 ≠ 0)) (some t13) (bnd (gI (x8_2 + 1)) fun t17 =>
  next1 t17)) (some 0)
noncomputable def edit_checkAll (a0 : (List (List T_edit_Step))) : Option (Int) :=
  fix (fun next1 s => edit_checkAll_l1 a0 next1 s) 0

/-! tintype/edit.Shape -/
noncomputable def edit_Shape (a0 : T_edit_Step) : Option (Bool) :=
  bnd (edit_outside a0.Kind 1 3) fun t5 =>
  some (!t5)

/-! tintype/edit.apart -/
noncomputable def edit_apart_j1 (l : (List T_edit_Step)) (l_2 : (List T_edit_Step)) : Option ((List T_edit_Step) × (List T_edit_Step)) :=
  some (l, l_2)
noncomputable def edit_apart_j3 (x8_2 : Int) (next2 : ((Int × (List T_edit_Step) × (List T_edit_Step)) → Option ((List T_edit_Step) × (List T_edit_Step)))) (l_7 : (List T_edit_Step)) (l_8 : (List T_edit_Step)) : Option ((List T_edit_Step) × (List T_edit_Step)) :=
  bnd (gI (x8_2 + 1)) fun t22 =>
  next2 (t22, l_7, l_8)
noncomputable def edit_apart_l2 (a0 : (List T_edit_Step)) (next2 : ((Int × (List T_edit_Step) × (List T_edit_Step)) → Option ((List T_edit_Step) × (List T_edit_Step)))) (x8_2 : Int) (l_5 : (List T_edit_Step)) (l_6 : (List T_edit_Step)) : Option ((List T_edit_Step) × (List T_edit_Step)) :=
  cnd (decide (x8_2 < (a0.length : Int))) (bnd (gAt a0 x8_2) fun t10 =>
  bnd (edit_Shape t10) fun t13 =>
  cnd t13 (bnd (gApp 40 l_5 ([t10] : List T_edit_Step)) fun l17 =>
  edit_apart_j3 x8_2 next2 l17 l_6) (bnd (gApp 40 l_6 ([t10] : List T_edit_Step)) fun l21 =>
  edit_apart_j3 x8_2 next2 l_5 l21)) (edit_apart_j1 l_5 l_6)
noncomputable def edit_apart (a0 : (List T_edit_Step)) : Option ((List T_edit_Step) × (List T_edit_Step)) :=
  fix (fun next2 s => edit_apart_l2 a0 next2 s.1 s.2.1 s.2.2) (0, ([] : List T_edit_Step), ([] : List T_edit_Step))

/-! tintype/edit.Like -/
noncomputable def edit_Like (a0 : (List T_edit_Step)) (a1 : (List T_edit_Step)) : Option ((List T_edit_Step) × Int) :=
  bnd (edit_checkAll ([a0, a1] : List (List T_edit_Step))) fun t15 =>
  cnd (decide (t15 ≠ 0)) (some (([] : List T_edit_Step), t15)) (bnd (edit_apart a0) fun t21 =>
  bnd (edit_apart a1) fun t26 =>
  bnd (slices_Concat_edit_Step ([t26.1, t21.2] : List (List T_edit_Step))) fun t32 =>
  cnd (decide (50 < (t32.length : Int))) (some (([] : List T_edit_Step), 4)) (some (t32, 0)))

/-! tintype/edit.Common -/
noncomputable def edit_Common_l1 (a0 : (List T_edit_Step)) (a1 : (List T_edit_Step)) (next1 : ((Int) → Option (Int))) (x5_2 : Int) : Option (Int) :=
  cnd (decide (x5_2 < (a0.length : Int))) (cnd (decide (x5_2 < (a1.length : Int))) (bnd (gAt a0 x5_2) fun t19 =>
  bnd (gAt a1 x5_2) fun t23 =>
  cnd (eq_edit_Step t19 t23) (bnd (gI (x5_2 + 1)) fun t28 =>
  next1 t28) (some x5_2)) (some x5_2)) (some x5_2)
noncomputable def edit_Common (a0 : (List T_edit_Step)) (a1 : (List T_edit_Step)) : Option (Int) :=
  fix (fun next1 s => edit_Common_l1 a0 a1 next1 s) 0

/-! (tintype/edit.Step).line -/
noncomputable def edit_Step_line_l1 (t16 : (List Int)) (next1 : (((List UInt8) × Int) → Option ((List UInt8)))) (x3_2 : (List UInt8)) (x18_2 : Int) : Option ((List UInt8)) :=
  cnd (decide (x18_2 < (t16.length : Int))) (bnd (gAt t16 x18_2) fun t20 =>
  bnd (gItoa t20) fun t24 =>
  bnd (gCat [32] t24) fun t25 =>
  bnd (gCat x3_2 t25) fun t26 =>
  bnd (gI (x18_2 + 1)) fun t27 =>
  next1 (t26, t27)) (some x3_2)
noncomputable def edit_Step_line (a0 : T_edit_Step) : Option ((List UInt8)) :=
  bnd (edit_word a0.Kind) fun t10 =>
  bnd (edit_Step_numbers a0) fun t14 =>
  bnd (gCut t14 0 t10.2) fun t16 =>
  fix (fun next1 s => edit_Step_line_l1 t16 next1 s.1 s.2) (t10.1, 0)

/-! tintype/edit.Differ -/
noncomputable def edit_Differ_j2 (l_2 : (List (List UInt8))) : Option ((List (List UInt8)) × Int) :=
  some (l_2, 0)
noncomputable def edit_Differ_l3 (t40 : (List T_edit_Step)) (next3 : ((Int × (List (List UInt8))) → Option ((List (List UInt8)) × Int))) (x42_2 : Int) (l_4 : (List (List UInt8))) : Option ((List (List UInt8)) × Int) :=
  cnd (decide (x42_2 < (t40.length : Int))) (bnd (gAt t40 x42_2) fun t44 =>
  bnd (edit_Step_line t44) fun t48 =>
  bnd (gCat [43, 32] t48) fun t49 =>
  bnd (gApp 16 l_4 ([t49] : List (List UInt8))) fun l51 =>
  bnd (gI (x42_2 + 1)) fun t52 =>
  next3 (t52, l51)) (edit_Differ_j2 l_4)
noncomputable def edit_Differ_j1 (a1 : (List T_edit_Step)) (t22 : (Int)) (l : (List (List UInt8))) : Option ((List (List UInt8)) × Int) :=
  bnd (gCut a1 t22 a1.length) fun t40 =>
  fix (fun next3 s => edit_Differ_l3 t40 next3 s.1 s.2) (0, l)
noncomputable def edit_Differ_l4 (a1 : (List T_edit_Step)) (t22 : (Int)) (t25 : (List T_edit_Step)) (next4 : ((Int × (List (List UInt8))) → Option ((List (List UInt8)) × Int))) (x27_2 : Int) (l_6 : (List (List UInt8))) : Option ((List (List UInt8)) × Int) :=
  cnd (decide (x27_2 < (t25.length : Int))) (bnd (gAt t25 x27_2) fun t29 =>
  bnd (edit_Step_line t29) fun t33 =>
  bnd (gCat [45, 32] t33) fun t34 =>
  bnd (gApp 16 l_6 ([t34] : List (List UInt8))) fun l36 =>
  bnd (gI (x27_2 + 1)) fun t37 =>
  next4 (t37, l36)) (edit_Differ_j1 a1 t22 l_6)
noncomputable def edit_Differ (a0 : (List T_edit_Step)) (a1 : (List T_edit_Step)) : Option ((List (List UInt8)) × Int) :=
  bnd (edit_checkAll ([a0, a1] : List (List T_edit_Step))) fun t16 =>
  cnd (decide (t16 ≠ 0)) (some (([] : List (List UInt8)), t16)) (bnd (edit_Common a0 a1) fun t22 =>
  bnd (gCut a0 t22 a0.length) fun t25 =>
  fix (fun next4 s => edit_Differ_l4 a1 t22 t25 next4 s.1 s.2) (0, ([] : List (List UInt8))))

/-! tintype/tintref2.Shaped -/
noncomputable def R_Shaped (a0 : T_edit_Step) : Option (Bool) :=
  cnd (decide (1 ≤ a0.Kind)) (some (decide (a0.Kind ≤ 3))) (some false)

/-! tintype/tintref2.Parted -/
noncomputable def R_Parted_j1 (l : (List T_edit_Step)) (l_2 : (List T_edit_Step)) : Option ((List T_edit_Step) × (List T_edit_Step)) :=
  some (l, l_2)
noncomputable def R_Parted_j3 (x8_2 : Int) (next2 : ((Int × (List T_edit_Step) × (List T_edit_Step)) → Option ((List T_edit_Step) × (List T_edit_Step)))) (l_7 : (List T_edit_Step)) (l_8 : (List T_edit_Step)) : Option ((List T_edit_Step) × (List T_edit_Step)) :=
  bnd (gI (x8_2 + 1)) fun t22 =>
  next2 (t22, l_7, l_8)
noncomputable def R_Parted_l2 (a0 : (List T_edit_Step)) (next2 : ((Int × (List T_edit_Step) × (List T_edit_Step)) → Option ((List T_edit_Step) × (List T_edit_Step)))) (x8_2 : Int) (l_5 : (List T_edit_Step)) (l_6 : (List T_edit_Step)) : Option ((List T_edit_Step) × (List T_edit_Step)) :=
  cnd (decide (x8_2 < (a0.length : Int))) (bnd (gAt a0 x8_2) fun t10 =>
  bnd (R_Shaped t10) fun t13 =>
  cnd t13 (bnd (gApp 40 l_5 ([t10] : List T_edit_Step)) fun l17 =>
  R_Parted_j3 x8_2 next2 l17 l_6) (bnd (gApp 40 l_6 ([t10] : List T_edit_Step)) fun l21 =>
  R_Parted_j3 x8_2 next2 l_5 l21)) (R_Parted_j1 l_5 l_6)
noncomputable def R_Parted (a0 : (List T_edit_Step)) : Option ((List T_edit_Step) × (List T_edit_Step)) :=
  fix (fun next2 s => R_Parted_l2 a0 next2 s.1 s.2.1 s.2.2) (0, ([] : List T_edit_Step), ([] : List T_edit_Step))

/-! tintype/tintlaw2.unless -/
noncomputable def Law_unless (a0 : Bool) (a1 : Int) : Option (Int) :=
  cnd a0 (some 0) (some a1)

/-! tintype/tintref2.CommonOf -/
noncomputable def R_CommonOf_l1 (a0 : (List T_edit_Step)) (a1 : (List T_edit_Step)) (next1 : ((Int) → Option (Int))) (x5_2 : Int) : Option (Int) :=
  cnd (decide (x5_2 < (a0.length : Int))) (cnd (decide (x5_2 < (a1.length : Int))) (bnd (gAt a0 x5_2) fun t19 =>
  bnd (gAt a1 x5_2) fun t23 =>
  cnd (eq_edit_Step t19 t23) (bnd (gI (x5_2 + 1)) fun t28 =>
  next1 t28) (some x5_2)) (some x5_2)) (some x5_2)
noncomputable def R_CommonOf (a0 : (List T_edit_Step)) (a1 : (List T_edit_Step)) : Option (Int) :=
  fix (fun next1 s => R_CommonOf_l1 a0 a1 next1 s) 0

/-! tintype/tintref2.stepWords -/
noncomputable def R_stepWords  : Option ((List (List UInt8))) :=
  some ([[], [116, 117, 114, 110], [99, 114, 111, 112], [115, 99, 97, 108, 101], [108, 105, 103, 104, 116], [115, 112, 114, 101, 97, 100], [108, 101, 118, 101, 108, 115], [119, 97, 114, 109], [109, 117, 116, 101], [105, 110, 118, 101, 114, 116]] : List (List UInt8))

/-! tintype/tintref2.stepLine -/
noncomputable def R_stepLine_l1 (t23 : (List Int)) (next1 : (((List UInt8) × Int) → Option ((List UInt8)))) (x3_2 : (List UInt8)) (x25_2 : Int) : Option ((List UInt8)) :=
  cnd (decide (x25_2 < (t23.length : Int))) (bnd (gAt t23 x25_2) fun t27 =>
  bnd (gItoa t27) fun t31 =>
  bnd (gCat [32] t31) fun t32 =>
  bnd (gCat x3_2 t32) fun t33 =>
  bnd (gI (x25_2 + 1)) fun t34 =>
  next1 (t33, t34)) (some x3_2)
noncomputable def R_stepLine (a0 : T_edit_Step) : Option ((List UInt8)) :=
  bnd (R_stepWords) fun t6 =>
  bnd (gAt t6 a0.Kind) fun t9 =>
  bnd (R_numbersUsed a0.Kind) fun t22 =>
  bnd (gCut ([a0.A, a0.B, a0.C, a0.D] : List Int) 0 t22) fun t23 =>
  fix (fun next1 s => R_stepLine_l1 t23 next1 s.1 s.2) (t9, 0)

/-! tintype/tintref2.DifferOf -/
noncomputable def R_DifferOf_l2 (t31 : (List T_edit_Step)) (next2 : ((Int × (List (List UInt8))) → Option ((List (List UInt8))))) (x33_2 : Int) (l_3 : (List (List UInt8))) : Option ((List (List UInt8))) :=
  cnd (decide (x33_2 < (t31.length : Int))) (bnd (gAt t31 x33_2) fun t35 =>
  bnd (R_stepLine t35) fun t39 =>
  bnd (gCat [43, 32] t39) fun t40 =>
  bnd (gApp 16 l_3 ([t40] : List (List UInt8))) fun l42 =>
  bnd (gI (x33_2 + 1)) fun t43 =>
  next2 (t43, l42)) (some l_3)
noncomputable def R_DifferOf_j1 (a1 : (List T_edit_Step)) (t13 : (Int)) (l : (List (List UInt8))) : Option ((List (List UInt8))) :=
  bnd (gCut a1 t13 a1.length) fun t31 =>
  fix (fun next2 s => R_DifferOf_l2 t31 next2 s.1 s.2) (0, l)
noncomputable def R_DifferOf_l3 (a1 : (List T_edit_Step)) (t13 : (Int)) (t16 : (List T_edit_Step)) (next3 : ((Int × (List (List UInt8))) → Option ((List (List UInt8))))) (x18_2 : Int) (l_5 : (List (List UInt8))) : Option ((List (List UInt8))) :=
  cnd (decide (x18_2 < (t16.length : Int))) (bnd (gAt t16 x18_2) fun t20 =>
  bnd (R_stepLine t20) fun t24 =>
  bnd (gCat [45, 32] t24) fun t25 =>
  bnd (gApp 16 l_5 ([t25] : List (List UInt8))) fun l27 =>
  bnd (gI (x18_2 + 1)) fun t28 =>
  next3 (t28, l27)) (R_DifferOf_j1 a1 t13 l_5)
noncomputable def R_DifferOf (a0 : (List T_edit_Step)) (a1 : (List T_edit_Step)) : Option ((List (List UInt8))) :=
  bnd (R_CommonOf a0 a1) fun t13 =>
  bnd (gCut a0 t13 a0.length) fun t16 =>
  fix (fun next3 s => R_DifferOf_l3 a1 t13 t16 next3 s.1 s.2) (0, ([] : List (List UInt8)))

/-! slices.Equal[[]tintype/edit.Step,tintype/edit.Step] -/
noncomputable def slices_Equal_edit_Step_l1 (a0 : (List T_edit_Step)) (a1 : (List T_edit_Step)) (next1 : ((Int) → Option (Bool))) (x13_2 : Int) : Option (Bool) :=
  cnd (decide (x13_2 < (a0.length : Int))) (bnd (gAt a0 x13_2) fun t18 =>
  bnd (gAt a1 x13_2) fun t22 =>
  cnd (!(eq_edit_Step t18 t22)) (some false) (bnd (gI (x13_2 + 1)) fun t25 =>
  next1 t25)) (some true)
noncomputable def slices_Equal_edit_Step (a0 : (List T_edit_Step)) (a1 : (List T_edit_Step)) : Option (Bool) :=
  cnd (decide ((a0.length : Int) ≠ (a1.length : Int))) (some false) (fix (fun next1 s => slices_Equal_edit_Step_l1 a0 a1 next1 s) 0)

/-! tintype/tintlaw2.listed[tintype/edit.Step] -/
noncomputable def Law_listed_edit_Step_j1 (a0 : (List T_edit_Step)) (a1 : Int) (a3 : Int) (x2 : (List T_edit_Step)) : Option (Bool) :=
  bnd (slices_Equal_edit_Step a0 x2) fun t13 =>
  cnd t13 (some (decide (a1 = a3))) (some false)
noncomputable def Law_listed_edit_Step (a0 : (List T_edit_Step)) (a1 : Int) (a2 : (List T_edit_Step)) (a3 : Int) : Option (Bool) :=
  cnd (decide (a3 ≠ 0)) (Law_listed_edit_Step_j1 a0 a1 a3 ([] : (List T_edit_Step))) (Law_listed_edit_Step_j1 a0 a1 a3 a2)

/-! slices.Equal[[]string,string] -/
noncomputable def slices_Equal_string_l1 (a0 : (List (List UInt8))) (a1 : (List (List UInt8))) (next1 : ((Int) → Option (Bool))) (x13_2 : Int) : Option (Bool) :=
  cnd (decide (x13_2 < (a0.length : Int))) (bnd (gAt a0 x13_2) fun t18 =>
  bnd (gAt a1 x13_2) fun t22 =>
  cnd (decide (t18 ≠ t22)) (some false) (bnd (gI (x13_2 + 1)) fun t25 =>
  next1 t25)) (some true)
noncomputable def slices_Equal_string (a0 : (List (List UInt8))) (a1 : (List (List UInt8))) : Option (Bool) :=
  cnd (decide ((a0.length : Int) ≠ (a1.length : Int))) (some false) (fix (fun next1 s => slices_Equal_string_l1 a0 a1 next1 s) 0)

/-! tintype/tintlaw2.listed[string] -/
noncomputable def Law_listed_string_j1 (a0 : (List (List UInt8))) (a1 : Int) (a3 : Int) (x2 : (List (List UInt8))) : Option (Bool) :=
  bnd (slices_Equal_string a0 x2) fun t13 =>
  cnd t13 (some (decide (a1 = a3))) (some false)
noncomputable def Law_listed_string (a0 : (List (List UInt8))) (a1 : Int) (a2 : (List (List UInt8))) (a3 : Int) : Option (Bool) :=
  cnd (decide (a3 ≠ 0)) (Law_listed_string_j1 a0 a1 a3 ([] : (List (List UInt8)))) (Law_listed_string_j1 a0 a1 a3 a2)

/-! tintype/edit.Same -/
noncomputable def edit_Same (a0 : (List T_edit_Step)) (a1 : (List T_edit_Step)) : Option (Bool) :=
  bnd (slices_Equal_edit_Step a0 a1) fun t7 =>
  some t7

/-! slices.IndexFunc[[]tintype/edit.Step,tintype/edit.Step] -/
noncomputable def slices_IndexFunc_edit_Step_l1 (a0 : (List T_edit_Step)) (a1 : (T_edit_Step → Option (Bool))) (next1 : ((Int) → Option (Int))) (x8_2 : Int) : Option (Int) :=
  cnd (decide (x8_2 < (a0.length : Int))) (bnd (gAt a0 x8_2) fun t14 =>
  bnd (a1 t14) fun t16 =>
  cnd t16 (some x8_2) (bnd (gI (x8_2 + 1)) fun t18 =>
  next1 t18)) (some (-1))
noncomputable def slices_IndexFunc_edit_Step (a0 : (List T_edit_Step)) (a1 : (T_edit_Step → Option (Bool))) : Option (Int) :=
  fix (fun next1 s => slices_IndexFunc_edit_Step_l1 a0 a1 next1 s) 0

/-! slices.ContainsFunc[[]tintype/edit.Step,tintype/edit.Step] -/
noncomputable def slices_ContainsFunc_edit_Step (a0 : (List T_edit_Step)) (a1 : (T_edit_Step → Option (Bool))) : Option (Bool) :=
  bnd (slices_IndexFunc_edit_Step a0 a1) fun t7 =>
  some (decide (0 ≤ t7))

/-! slices.Clone[[]tintype/edit.Step,tintype/edit.Step] -/
noncomputable def slices_Clone_edit_Step (a0 : (List T_edit_Step)) : Option ((List T_edit_Step)) :=
  bnd (gApp 40 ([] : List T_edit_Step) a0) fun l7 =>
  some l7

/-! tintype/edit.Merge -/
noncomputable def edit_Merge_j1 (x15 : Bool) (l : (List T_edit_Step)) : Option ((List T_edit_Step) × Bool × Int) :=
  cnd (decide (50 < (l.length : Int))) (some (([] : List T_edit_Step), false, 4)) (bnd (slices_Clone_edit_Step l) fun t79 =>
  some (t79, x15, 0))
noncomputable def edit_Merge (a0 : (List T_edit_Step)) (a1 : (List T_edit_Step)) (a2 : (List T_edit_Step)) : Option ((List T_edit_Step) × Bool × Int) :=
  bnd (edit_checkAll ([a0, a1, a2] : List (List T_edit_Step))) fun t20 =>
  cnd (decide (t20 ≠ 0)) (some (([] : List T_edit_Step), false, t20)) (bnd (edit_Common a0 a1) fun t26 =>
  bnd (edit_Common a0 a2) fun t29 =>
  bnd (gCut a1 (min t26 t29) a1.length) fun t33 =>
  bnd (gCut a2 (min t26 t29) a2.length) fun t36 =>
  bnd (gCut a0 (min t26 t29) a0.length) fun t39 =>
  bnd (edit_Same t33 t39) fun t44 =>
  cnd t44 (edit_Merge_j1 false a2) (bnd (edit_Same t36 t39) fun t49 =>
  cnd t49 (edit_Merge_j1 false a1) (bnd (edit_Same t33 t36) fun t53 =>
  cnd t53 (edit_Merge_j1 false a1) (cnd (decide ((t39.length : Int) = 0)) (bnd (slices_Concat_edit_Step ([t33, t36] : List (List T_edit_Step))) fun t64 =>
  bnd (slices_ContainsFunc_edit_Step t64 edit_Shape) fun t65 =>
  cnd (!t65) (bnd (gCut a0 0 (min t26 t29)) fun t70 =>
  bnd (slices_Concat_edit_Step ([t70, t33, t36] : List (List T_edit_Step))) fun t74 =>
  edit_Merge_j1 false t74) (edit_Merge_j1 true a1)) (edit_Merge_j1 true a1)))))

/-! tintype/tintref2.MergeOf$1 -/
noncomputable def R_MergeOf_1 (a0 : T_edit_Step) : Option (Bool) :=
  bnd (R_Shaped a0) fun t4 =>
  some (!t4)

/-! tintype/tintref2.MergeOf$2 -/
noncomputable def R_MergeOf_2 (q0 : (T_edit_Step → Option (Bool))) (a0 : T_edit_Step) : Option (Bool) :=
  bnd (q0 a0) fun t6 =>
  some (!t6)

/-! tintype/tintref2.MergeOf -/
noncomputable def R_MergeOf_j1 (a0 : (List T_edit_Step)) (a1 : (List T_edit_Step)) (t16 : (Int)) (t19 : (Int)) (t22 : (Int)) (t26 : (List T_edit_Step)) (t29 : (List T_edit_Step)) (t32 : (List T_edit_Step)) (t36 : ((List T_edit_Step))) (x42 : Bool) : Option ((List T_edit_Step) × Bool) :=
  cnd x42 (some (a1, false)) (cnd (decide ((t32.length : Int) = 0)) (bnd (slices_ContainsFunc_edit_Step t36 (R_MergeOf_2 R_MergeOf_1)) fun t57 =>
  cnd (!t57) (bnd (gCut a0 0 (min (min t16 t19) t22)) fun t62 =>
  bnd (slices_Concat_edit_Step ([t62, t26, t29] : List (List T_edit_Step))) fun t66 =>
  some (t66, false)) (some (a1, true))) (some (a1, true)))
noncomputable def R_MergeOf (a0 : (List T_edit_Step)) (a1 : (List T_edit_Step)) (a2 : (List T_edit_Step)) : Option ((List T_edit_Step) × Bool) :=
  bnd (R_CommonOf a0 a1) fun t16 =>
  bnd (R_CommonOf a0 a2) fun t19 =>
  bnd (R_CommonOf a1 a2) fun t22 =>
  bnd (gCut a1 (min (min t16 t19) t22) a1.length) fun t26 =>
  bnd (gCut a2 (min (min t16 t19) t22) a2.length) fun t29 =>
  bnd (gCut a0 (min (min t16 t19) t22) a0.length) fun t32 =>
  bnd (slices_Concat_edit_Step ([t26, t29] : List (List T_edit_Step))) fun t36 =>
  bnd (slices_Equal_edit_Step t26 t32) fun t40 =>
  cnd t40 (some (a2, false)) (bnd (slices_Equal_edit_Step t29 t32) fun t45 =>
  cnd t45 (R_MergeOf_j1 a0 a1 t16 t19 t22 t26 t29 t32 t36 t45) (bnd (slices_Equal_edit_Step t26 t29) fun t48 =>
  R_MergeOf_j1 a0 a1 t16 t19 t22 t26 t29 t32 t36 t48))

/-! tintype/tintlaw2.EditOthers -/
noncomputable def Law_EditOthers_j2 (t96 : ((List T_edit_Step) × Bool × Int)) (x22 : Int) (x24 : Bool) (l_2 : (List T_edit_Step)) : Option (Bool) :=
  bnd (Law_listed_edit_Step t96.1 t96.2.2 l_2 x22) fun t124 =>
  cnd t124 (some (decide (t96.2.1 = x24))) (some false)
noncomputable def Law_EditOthers_j1 (a0 : (List T_edit_Step)) (a1 : (List T_edit_Step)) (a2 : (List T_edit_Step)) (t30 : (Int)) (t34 : ((List T_edit_Step) × Int)) (t40 : ((List (List UInt8)) × Int)) (t56 : ((List T_edit_Step))) (t63 : (Int)) (l : (List (List UInt8))) : Option (Bool) :=
  bnd (edit_Common a1 a2) fun t71 =>
  bnd (R_CommonOf a1 a2) fun t74 =>
  cnd (decide (t71 ≠ t74)) (some false) (bnd (Law_listed_edit_Step t34.1 t34.2 t56 t63) fun t81 =>
  cnd (!t81) (some false) (bnd (Law_listed_string t40.1 t40.2 l t30) fun t89 =>
  cnd (!t89) (some false) (bnd (edit_Merge a0 a1 a2) fun t96 =>
  bnd (R_StepsFault a0) fun t101 =>
  bnd (Law_first ([t101, t30] : List Int)) fun t104 =>
  cnd (decide (t104 = 0)) (bnd (R_MergeOf a0 a1 a2) fun t111 =>
  bnd (Law_unless (decide ((t111.1.length : Int) ≤ 50)) 4) fun t117 =>
  cnd (decide (t117 ≠ 0)) (Law_EditOthers_j2 t96 t117 false t111.1) (Law_EditOthers_j2 t96 t117 t111.2 t111.1)) (Law_EditOthers_j2 t96 t104 false ([] : List T_edit_Step)))))
noncomputable def Law_EditOthers (a0 : (List T_edit_Step)) (a1 : (List T_edit_Step)) (a2 : (List T_edit_Step)) : Option (Bool) :=
  bnd (R_StepsFault a1) fun t26 =>
  bnd (R_StepsFault a2) fun t28 =>
  bnd (Law_first ([t26, t28] : List Int)) fun t30 =>
  bnd (edit_Like a1 a2) fun t34 =>
  bnd (edit_Differ a1 a2) fun t40 =>
  bnd (R_Parted a1) fun t45 =>
  bnd (R_Parted a2) fun t50 =>
  bnd (slices_Concat_edit_Step ([t50.1, t45.2] : List (List T_edit_Step))) fun t56 =>
  bnd (Law_unless (decide ((t56.length : Int) ≤ 50)) 4) fun t61 =>
  bnd (Law_first ([t30, t61] : List Int)) fun t63 =>
  cnd (decide (t30 = 0)) (bnd (R_DifferOf a1 a2) fun t68 =>
  Law_EditOthers_j1 a0 a1 a2 t30 t34 t40 t56 t63 t68) (Law_EditOthers_j1 a0 a1 a2 t30 t34 t40 t56 t63 ([] : List (List UInt8)))

end Go.M
