/- EditSteps: the models, printed by our generator from the compiled program. Conditions: none. -/
import Derived.Test.YtaonhnkojkkmbaaDoorMd6
namespace Go.M
open Go.Md
set_option maxRecDepth 100000
set_option linter.unusedVariables false

structure T_edit_Step where
  Kind : Int
  A : Int
  B : Int
  C : Int
  D : Int
instance : Inhabited T_edit_Step := ⟨⟨0, 0, 0, 0, 0⟩⟩

def eq_edit_Step (x y : T_edit_Step) : Bool := decide (x.Kind = y.Kind ∧ x.A = y.A ∧ x.B = y.B ∧ x.C = y.C ∧ x.D = y.D)

/-! tintype/edit.outside -/
noncomputable def edit_outside (a0 : Int) (a1 : Int) (a2 : Int) : Option (Bool) :=
  cnd (decide (a0 < a1)) (some true) (some (decide (a2 < a0)))

/-! tintype/edit.word -/
noncomputable def edit_word (a0 : Int) : Option ((List UInt8) × Int) :=
  cnd (decide (a0 = 1)) (some ([116, 117, 114, 110], 1)) (cnd (decide (a0 = 2)) (some ([99, 114, 111, 112], 4)) (cnd (decide (a0 = 3)) (some ([115, 99, 97, 108, 101], 2)) (cnd (decide (a0 = 4)) (some ([108, 105, 103, 104, 116], 1)) (cnd (decide (a0 = 5)) (some ([115, 112, 114, 101, 97, 100], 1)) (cnd (decide (a0 = 6)) (some ([108, 101, 118, 101, 108, 115], 2)) (cnd (decide (a0 = 7)) (some ([119, 97, 114, 109], 1)) (cnd (decide (a0 = 8)) (some ([109, 117, 116, 101], 1)) (some ([105, 110, 118, 101, 114, 116], 0)))))))))

/-! (tintype/edit.Step).numbers -/
noncomputable def edit_Step_numbers (a0 : T_edit_Step) : Option ((List Int)) :=
  some ([a0.A, a0.B, a0.C, a0.D] : List Int)

/-! tintype/edit.bounds -/
noncomputable def edit_bounds (a0 : Int) : Option ((Nat → (Nat → Int))) :=
  cnd (decide (a0 = 1)) (some (ofL [(ofL [1, 8]), (fun _ => 0), (fun _ => 0), (fun _ => 0)])) (cnd (decide (a0 = 2)) (some (ofL [(ofL [0, 63]), (ofL [0, 63]), (ofL [1, 64]), (ofL [1, 64])])) (cnd (decide (a0 = 3)) (some (ofL [(ofL [1, 64]), (ofL [1, 64]), (fun _ => 0), (fun _ => 0)])) (cnd (decide (a0 = 4)) (some (ofL [(ofL [(-255), 255]), (fun _ => 0), (fun _ => 0), (fun _ => 0)])) (cnd (decide (a0 = 5)) (some (ofL [(ofL [0, 400]), (fun _ => 0), (fun _ => 0), (fun _ => 0)])) (cnd (decide (a0 = 6)) (some (ofL [(ofL [0, 255]), (ofL [0, 255]), (fun _ => 0), (fun _ => 0)])) (cnd (decide (a0 = 7)) (some (ofL [(ofL [(-100), 100]), (fun _ => 0), (fun _ => 0), (fun _ => 0)])) (cnd (decide (a0 = 8)) (some (ofL [(ofL [0, 100]), (fun _ => 0), (fun _ => 0), (fun _ => 0)])) (some (fun _ => (fun _ => 0))))))))))

/-! tintype/edit.CheckStep -/
noncomputable def edit_CheckStep_j2 (a0 : T_edit_Step) : Option (Int) :=
  cnd (decide (a0.Kind = 6)) (cnd (decide (a0.B ≤ a0.A)) (some 5) (some 0)) (some 0)
noncomputable def edit_CheckStep_l3 (a0 : T_edit_Step) (t35 : ((Nat → (Nat → Int)))) (t38 : (List Int)) (next3 : ((Int) → Option (Int))) (x40_2 : Int) : Option (Int) :=
  cnd (decide (x40_2 < (t38.length : Int))) (bnd (gAt t38 x40_2) fun t43 =>
  bnd (gIx 4 x40_2) fun k47 =>
  bnd (gIx 4 x40_2) fun k51 =>
  bnd (edit_outside t43 ((t35 k47) 0) ((t35 k51) 1)) fun t54 =>
  cnd t54 (some 2) (bnd (gI (x40_2 + 1)) fun t55 =>
  next3 t55)) (edit_CheckStep_j2 a0)
noncomputable def edit_CheckStep_j1 (a0 : T_edit_Step) (t17 : ((List UInt8) × Int)) (t21 : ((List Int))) : Option (Int) :=
  bnd (edit_bounds a0.Kind) fun t35 =>
  bnd (gCut t21 0 t17.2) fun t38 =>
  fix (fun next3 s => edit_CheckStep_l3 a0 t35 t38 next3 s) 0
noncomputable def edit_CheckStep_l4 (a0 : T_edit_Step) (t17 : ((List UInt8) × Int)) (t21 : ((List Int))) (t24 : (List Int)) (next4 : ((Int) → Option (Int))) (x26_2 : Int) : Option (Int) :=
  cnd (decide (x26_2 < (t24.length : Int))) (bnd (gAt t24 x26_2) fun t28 =>
  cnd (decide (t28 ≠ 0)) (some 1) (bnd (gI (x26_2 + 1)) fun t32 =>
  next4 t32)) (edit_CheckStep_j1 a0 t17 t21)
noncomputable def edit_CheckStep (a0 : T_edit_Step) : Option (Int) :=
  bnd (edit_outside a0.Kind 1 9) fun t13 =>
  cnd t13 (some 10) (bnd (edit_word a0.Kind) fun t17 =>
  bnd (edit_Step_numbers a0) fun t21 =>
  bnd (gCut t21 t17.2 t21.length) fun t24 =>
  fix (fun next4 s => edit_CheckStep_l4 a0 t17 t21 t24 next4 s) 0)

/-! tintype/tintref2.numbersUsed -/
noncomputable def R_numbersUsed (a0 : Int) : Option (Int) :=
  bnd (gAt ([0, 1, 4, 2, 1, 1, 2, 1, 1, 0] : List Int) a0) fun t5 =>
  some t5

/-! tintype/tintref2.StepFault$1 -/
noncomputable def R_StepFault_1 (a0 : Int) (a1 : Int) (a2 : Int) : Option (Bool) :=
  cnd (decide (a0 < a1)) (some true) (some (decide (a2 < a0)))

/-! tintype/tintref2.StepFault -/
noncomputable def R_StepFault_j2 (a0 : T_edit_Step) (x6 : Bool) : Option (Int) :=
  cnd x6 (some 2) (cnd (decide (a0.Kind = 6)) (cnd (decide (a0.B ≤ a0.A)) (some 5) (some 0)) (some 0))
noncomputable def R_StepFault_j1 (a0 : T_edit_Step) : Option (Int) :=
  cnd (decide (a0.Kind = 1)) (bnd (R_StepFault_1 a0.A 1 8) fun t47 =>
  R_StepFault_j2 a0 t47) (cnd (decide (a0.Kind = 2)) (bnd (R_StepFault_1 a0.A 0 63) fun t53 =>
  cnd t53 (R_StepFault_j2 a0 true) (bnd (R_StepFault_1 a0.B 0 63) fun t58 =>
  cnd t58 (R_StepFault_j2 a0 true) (bnd (R_StepFault_1 a0.C 1 64) fun t64 =>
  cnd t64 (R_StepFault_j2 a0 true) (bnd (R_StepFault_1 a0.D 1 64) fun t70 =>
  R_StepFault_j2 a0 t70)))) (cnd (decide (a0.Kind = 3)) (bnd (R_StepFault_1 a0.A 1 64) fun t77 =>
  cnd t77 (R_StepFault_j2 a0 true) (bnd (R_StepFault_1 a0.B 1 64) fun t82 =>
  R_StepFault_j2 a0 t82)) (cnd (decide (a0.Kind = 4)) (bnd (R_StepFault_1 a0.A (-255) 255) fun t89 =>
  R_StepFault_j2 a0 t89) (cnd (decide (a0.Kind = 5)) (bnd (R_StepFault_1 a0.A 0 400) fun t95 =>
  R_StepFault_j2 a0 t95) (cnd (decide (a0.Kind = 6)) (bnd (R_StepFault_1 a0.A 0 255) fun t101 =>
  cnd t101 (R_StepFault_j2 a0 true) (bnd (R_StepFault_1 a0.B 0 255) fun t106 =>
  R_StepFault_j2 a0 t106)) (cnd (decide (a0.Kind = 7)) (bnd (R_StepFault_1 a0.A (-100) 100) fun t113 =>
  R_StepFault_j2 a0 t113) (cnd (decide (a0.Kind = 8)) (bnd (R_StepFault_1 a0.A 0 100) fun t119 =>
  R_StepFault_j2 a0 t119) (R_StepFault_j2 a0 false))))))))
noncomputable def R_StepFault_j4 (x25_2 : Int) (next3 : ((Int) → Option (Int))) : Option (Int) :=
  bnd (gI (x25_2 + 1)) fun t39 =>
  next3 t39
noncomputable def R_StepFault_l3 (a0 : T_edit_Step) (next3 : ((Int) → Option (Int))) (x25_2 : Int) : Option (Int) :=
  cnd (decide (x25_2 < 4)) (bnd (gAt ([a0.A, a0.B, a0.C, a0.D] : List Int) x25_2) fun t28 =>
  bnd (R_numbersUsed a0.Kind) fun t33 =>
  cnd (decide (t33 ≤ x25_2)) (cnd (decide (t28 ≠ 0)) (some 1) (R_StepFault_j4 x25_2 next3)) (R_StepFault_j4 x25_2 next3)) (R_StepFault_j1 a0)
noncomputable def R_StepFault (a0 : T_edit_Step) : Option (Int) :=
  cnd (decide (a0.Kind < 1)) (some 10) (cnd (decide (9 < a0.Kind)) (some 10) (fix (fun next3 s => R_StepFault_l3 a0 next3 s) 0))

/-! tintype/edit.Shape -/
noncomputable def edit_Shape (a0 : T_edit_Step) : Option (Bool) :=
  bnd (edit_outside a0.Kind 1 3) fun t5 =>
  some (!t5)

/-! tintype/tintref2.Shaped -/
noncomputable def R_Shaped (a0 : T_edit_Step) : Option (Bool) :=
  cnd (decide (1 ≤ a0.Kind)) (some (decide (a0.Kind ≤ 3))) (some false)

/-! tintype/tintref2.StepsFault -/
noncomputable def R_StepsFault_l1 (a0 : (List T_edit_Step)) (next1 : ((Int) → Option (Int))) (x11_2 : Int) : Option (Int) :=
  cnd (decide (x11_2 < (a0.length : Int))) (bnd (gAt a0 x11_2) fun t13 =>
  bnd (R_StepFault t13) fun t16 =>
  cnd (decide (t16 ≠ 0)) (some t16) (bnd (gI (x11_2 + 1)) fun t20 =>
  next1 t20)) (some 0)
noncomputable def R_StepsFault (a0 : (List T_edit_Step)) : Option (Int) :=
  cnd (decide (50 < (a0.length : Int))) (some 4) (fix (fun next1 s => R_StepsFault_l1 a0 next1 s) 0)

/-! tintype/tintref2.stepWords -/
noncomputable def R_stepWords  : Option ((List (List UInt8))) :=
  some ([[], [116, 117, 114, 110], [99, 114, 111, 112], [115, 99, 97, 108, 101], [108, 105, 103, 104, 116], [115, 112, 114, 101, 97, 100], [108, 101, 118, 101, 108, 115], [119, 97, 114, 109], [109, 117, 116, 101], [105, 110, 118, 101, 114, 116]] : List (List UInt8))

/-! tintype/tintref2.stepLine -/
noncomputable def R_stepLine_l1 (t23 : (List Int)) (next1 : (((List UInt8) × Int) → Option ((List UInt8)))) (x3_2 : (List UInt8)) (x25_2 : Int) : Option ((List UInt8)) :=
  cnd (decide (x25_2 < (t23.length : Int))) (bnd (gAt t23 x25_2) fun t27 =>
  bnd (gItoa t27) fun t31 =>
  bnd (gCat [32] t31) fun t32 =>
  bnd (gCat x3_2 t32) fun t33 =>
  bnd (gI (x25_2 + 1)) fun t34 =>
  next1 (t33, t34)) (some x3_2)
noncomputable def R_stepLine (a0 : T_edit_Step) : Option ((List UInt8)) :=
  bnd (R_stepWords) fun t6 =>
  bnd (gAt t6 a0.Kind) fun t9 =>
  bnd (R_numbersUsed a0.Kind) fun t22 =>
  bnd (gCut ([a0.A, a0.B, a0.C, a0.D] : List Int) 0 t22) fun t23 =>
  fix (fun next1 s => R_stepLine_l1 t23 next1 s.1 s.2) (t9, 0)

/-! tintype/tintref2.StepsText -/
noncomputable def R_StepsText_l1 (a0 : (List T_edit_Step)) (next1 : (((List UInt8) × Int) → Option ((List UInt8)))) (x3_2 : (List UInt8)) (x8_2 : Int) : Option ((List UInt8)) :=
  cnd (decide (x8_2 < (a0.length : Int))) (bnd (gAt a0 x8_2) fun t10 =>
  bnd (R_stepLine t10) fun t14 =>
  bnd (gCat t14 [10]) fun t15 =>
  bnd (gCat x3_2 t15) fun t16 =>
  bnd (gI (x8_2 + 1)) fun t17 =>
  next1 (t16, t17)) (some x3_2)
noncomputable def R_StepsText (a0 : (List T_edit_Step)) : Option ((List UInt8)) :=
  fix (fun next1 s => R_StepsText_l1 a0 next1 s.1 s.2) ([], 0)

/-! tintype/edit.Check -/
noncomputable def edit_Check_l1 (a0 : (List T_edit_Step)) (next1 : ((Int) → Option (Int))) (x11_2 : Int) : Option (Int) :=
  cnd (decide (x11_2 < (a0.length : Int))) (bnd (gAt a0 x11_2) fun t13 =>
  bnd (edit_CheckStep t13) fun t16 =>
  cnd (decide (t16 ≠ 0)) (some t16) (bnd (gI (x11_2 + 1)) fun t20 =>
  next1 t20)) (some 0)
noncomputable def edit_Check (a0 : (List T_edit_Step)) : Option (Int) :=
  cnd (decide (50 < (a0.length : Int))) (some 4) (fix (fun next1 s => edit_Check_l1 a0 next1 s) 0)

/-! (tintype/edit.Step).line -/
noncomputable def edit_Step_line_l1 (t16 : (List Int)) (next1 : (((List UInt8) × Int) → Option ((List UInt8)))) (x3_2 : (List UInt8)) (x18_2 : Int) : Option ((List UInt8)) :=
  cnd (decide (x18_2 < (t16.length : Int))) (bnd (gAt t16 x18_2) fun t20 =>
  bnd (gItoa t20) fun t24 =>
  bnd (gCat [32] t24) fun t25 =>
  bnd (gCat x3_2 t25) fun t26 =>
  bnd (gI (x18_2 + 1)) fun t27 =>
  next1 (t26, t27)) (some x3_2)
noncomputable def edit_Step_line (a0 : T_edit_Step) : Option ((List UInt8)) :=
  bnd (edit_word a0.Kind) fun t10 =>
  bnd (edit_Step_numbers a0) fun t14 =>
  bnd (gCut t14 0 t10.2) fun t16 =>
  fix (fun next1 s => edit_Step_line_l1 t16 next1 s.1 s.2) (t10.1, 0)

/-! tintype/edit.Text -/
noncomputable def edit_Text_j1 (m : (List UInt8)) : Option ((List UInt8) × Int) :=
  some (m, 0)
noncomputable def edit_Text_l2 (a0 : (List T_edit_Step)) (next2 : ((Int × (List UInt8)) → Option ((List UInt8) × Int))) (x15_2 : Int) (m_3 : (List UInt8)) : Option ((List UInt8) × Int) :=
  cnd (decide (x15_2 < (a0.length : Int))) (bnd (gAt a0 x15_2) fun t17 =>
  bnd (edit_Step_line t17) fun t20 =>
  bnd (gCat t20 [10]) fun t21 =>
  bnd (gBld m_3 t21) fun t22 =>
  bnd (gI (x15_2 + 1)) fun t23 =>
  next2 (t23, t22)) (edit_Text_j1 m_3)
noncomputable def edit_Text (a0 : (List T_edit_Step)) : Option ((List UInt8) × Int) :=
  bnd (edit_Check a0) fun t9 =>
  cnd (decide (t9 ≠ 0)) (some ([], t9)) (fix (fun next2 s => edit_Text_l2 a0 next2 s.1 s.2) (0, []))

/-! tintype/tintlaw2.told[string] -/
noncomputable def Law_told_string_j1 (a0 : (List UInt8)) (a1 : Int) (a3 : Int) (x2 : (List UInt8)) : Option (Bool) :=
  cnd (decide (a0 = x2)) (some (decide (a1 = a3))) (some false)
noncomputable def Law_told_string (a0 : (List UInt8)) (a1 : Int) (a2 : (List UInt8)) (a3 : Int) : Option (Bool) :=
  cnd (decide (a3 ≠ 0)) (Law_told_string_j1 a0 a1 a3 []) (Law_told_string_j1 a0 a1 a3 a2)

/-! slices.Equal[[]tintype/edit.Step,tintype/edit.Step] -/
noncomputable def slices_Equal_edit_Step_l1 (a0 : (List T_edit_Step)) (a1 : (List T_edit_Step)) (next1 : ((Int) → Option (Bool))) (x13_2 : Int) : Option (Bool) :=
  cnd (decide (x13_2 < (a0.length : Int))) (bnd (gAt a0 x13_2) fun t18 =>
  bnd (gAt a1 x13_2) fun t22 =>
  cnd (!(eq_edit_Step t18 t22)) (some false) (bnd (gI (x13_2 + 1)) fun t25 =>
  next1 t25)) (some true)
noncomputable def slices_Equal_edit_Step (a0 : (List T_edit_Step)) (a1 : (List T_edit_Step)) : Option (Bool) :=
  cnd (decide ((a0.length : Int) ≠ (a1.length : Int))) (some false) (fix (fun next1 s => slices_Equal_edit_Step_l1 a0 a1 next1 s) 0)

/-! tintype/edit.Same -/
noncomputable def edit_Same (a0 : (List T_edit_Step)) (a1 : (List T_edit_Step)) : Option (Bool) :=
  bnd (slices_Equal_edit_Step a0 a1) fun t7 =>
  some t7

/-! internal/stringslite.IndexByte -/
noncomputable def internal_stringslite_IndexByte (a0 : (List UInt8)) (a1 : Int) : Option (Int) :=
  bnd (gIxB a0 a1) fun t7 =>
  some t7

/-! internal/bytealg.Cutover -/
noncomputable def internal_bytealg_Cutover (a0 : Int) : Option (Int) :=
  bnd (gI (a0 + 16)) fun t4 =>
  bnd (gQuo t4 8) fun t5 =>
  some t5

/-! internal/bytealg.hashStr[string] -/
noncomputable def internal_bytealg_hashStr_string_j2 (x4 : Int) (x6 : Int) : Option (Int × Int) :=
  some (x4, x6)
noncomputable def internal_bytealg_hashStr_string_j4 (x7_2 : Int) (x8_2 : Int) (next3 : ((Int × Int × Int) → Option (Int × Int))) (x6_4 : Int) : Option (Int × Int) :=
  bnd (gShr 64 x8_2 1) fun t27 =>
  next3 (x6_4, (wU32 (x7_2 * x7_2)), t27)
noncomputable def internal_bytealg_hashStr_string_l3 (x4 : Int) (next3 : ((Int × Int × Int) → Option (Int × Int))) (x6_3 : Int) (x7_2 : Int) (x8_2 : Int) : Option (Int × Int) :=
  cnd (decide (0 < x8_2)) (cnd (decide ((wI64 (bAnd 64 x8_2 1)) ≠ 0)) (internal_bytealg_hashStr_string_j4 x7_2 x8_2 next3 (wU32 (x6_3 * x7_2))) (internal_bytealg_hashStr_string_j4 x7_2 x8_2 next3 x6_3)) (internal_bytealg_hashStr_string_j2 x4 x6_3)
noncomputable def internal_bytealg_hashStr_string_j1 (a0 : (List UInt8)) (x4 : Int) : Option (Int × Int) :=
  fix (fun next3 s => internal_bytealg_hashStr_string_l3 x4 next3 s.1 s.2.1 s.2.2) (1, 16777619, (a0.length : Int))
noncomputable def internal_bytealg_hashStr_string_l5 (a0 : (List UInt8)) (next5 : ((Int × Int) → Option (Int × Int))) (x4_3 : Int) (x5_2 : Int) : Option (Int × Int) :=
  cnd (decide (x5_2 < (a0.length : Int))) (bnd (gOct a0 x5_2) fun t19 =>
  bnd (gK 0 4294967295 t19) fun t20 =>
  bnd (gI (x5_2 + 1)) fun t14 =>
  next5 ((wU32 ((wU32 (x4_3 * 16777619)) + t20)), t14)) (internal_bytealg_hashStr_string_j1 a0 x4_3)
noncomputable def internal_bytealg_hashStr_string (a0 : (List UInt8)) : Option (Int × Int) :=
  fix (fun next5 s => internal_bytealg_hashStr_string_l5 a0 next5 s.1 s.2) (0, 0)

/-! internal/bytealg.IndexRabinKarp[string] -/
noncomputable def internal_bytealg_IndexRabinKarp_string_l3 (a0 : (List UInt8)) (a1 : (List UInt8)) (t13 : (Int × Int)) (next3 : ((Int × Int) → Option (Int))) (x8_3 : Int) (x10_2 : Int) : Option (Int) :=
  cnd (decide (x10_2 < (a0.length : Int))) (bnd (gOct a0 x10_2) fun t50 =>
  bnd (gK 0 4294967295 t50) fun t51 =>
  bnd (gI (x10_2 - (a1.length : Int))) fun t58 =>
  bnd (gOct a0 t58) fun t59 =>
  bnd (gK 0 4294967295 t59) fun t60 =>
  bnd (gI (x10_2 + 1)) fun t64 =>
  cnd (decide ((wU32 ((wU32 ((wU32 (x8_3 * 16777619)) + t51)) - (wU32 (t13.2 * t60)))) = t13.1)) (bnd (gI (t64 - (a1.length : Int))) fun t72 =>
  bnd (gCut a0 t72 t64) fun t74 =>
  cnd (decide (t74 = a1)) (bnd (gI (t64 - (a1.length : Int))) fun t80 =>
  some t80) (next3 ((wU32 ((wU32 ((wU32 (x8_3 * 16777619)) + t51)) - (wU32 (t13.2 * t60)))), t64))) (next3 ((wU32 ((wU32 ((wU32 (x8_3 * 16777619)) + t51)) - (wU32 (t13.2 * t60)))), t64))) (some (-1))
noncomputable def internal_bytealg_IndexRabinKarp_string_j2 (a0 : (List UInt8)) (a1 : (List UInt8)) (t13 : (Int × Int)) (x8 : Int) : Option (Int) :=
  fix (fun next3 s => internal_bytealg_IndexRabinKarp_string_l3 a0 a1 t13 next3 s.1 s.2) (x8, (a1.length : Int))
noncomputable def internal_bytealg_IndexRabinKarp_string_j1 (a0 : (List UInt8)) (a1 : (List UInt8)) (t13 : (Int × Int)) (x8 : Int) : Option (Int) :=
  cnd (decide (x8 = t13.1)) (bnd (gCut a0 0 (a1.length : Int)) fun t36 =>
  cnd (decide (t36 = a1)) (some 0) (internal_bytealg_IndexRabinKarp_string_j2 a0 a1 t13 x8)) (internal_bytealg_IndexRabinKarp_string_j2 a0 a1 t13 x8)
noncomputable def internal_bytealg_IndexRabinKarp_string_l4 (a0 : (List UInt8)) (a1 : (List UInt8)) (t13 : (Int × Int)) (next4 : ((Int × Int) → Option (Int))) (x8_5 : Int) (x9_2 : Int) : Option (Int) :=
  cnd (decide (x9_2 < (a1.length : Int))) (bnd (gOct a0 x9_2) fun t27 =>
  bnd (gK 0 4294967295 t27) fun t28 =>
  bnd (gI (x9_2 + 1)) fun t22 =>
  next4 ((wU32 ((wU32 (x8_5 * 16777619)) + t28)), t22)) (internal_bytealg_IndexRabinKarp_string_j1 a0 a1 t13 x8_5)
noncomputable def internal_bytealg_IndexRabinKarp_string (a0 : (List UInt8)) (a1 : (List UInt8)) : Option (Int) :=
  bnd (internal_bytealg_hashStr_string a1) fun t13 =>
  fix (fun next4 s => internal_bytealg_IndexRabinKarp_string_l4 a0 a1 t13 next4 s.1 s.2) (0, 0)

/-! internal/stringslite.Index -/
noncomputable def internal_stringslite_Index (a0 : (List UInt8)) (a1 : (List UInt8)) : Option (Int) :=
  cnd (decide ((a1.length : Int) = 0)) (some 0) (cnd (decide (a1 = a0)) (some 0) (cnd (decide ((a1.length : Int) = 1)) (bnd (gOct a1 0) fun t29 =>
  bnd (internal_stringslite_IndexByte a0 t29) fun t30 =>
  some t30) (cnd (decide ((a0.length : Int) ≤ (a1.length : Int))) (some (-1)) (none))))

/-! internal/stringslite.Cut -/
noncomputable def internal_stringslite_Cut (a0 : (List UInt8)) (a1 : (List UInt8)) : Option ((List UInt8) × (List UInt8) × Bool) :=
  bnd (internal_stringslite_Index a0 a1) fun t10 =>
  cnd (decide (0 ≤ t10)) (bnd (gCut a0 0 t10) fun t15 =>
  bnd (gI (t10 + (a1.length : Int))) fun t20 =>
  bnd (gCut a0 t20 a0.length) fun t21 =>
  some (t15, t21, true)) (some (a0, [], false))

/-! strings.Cut -/
noncomputable def strings_Cut (a0 : (List UInt8)) (a1 : (List UInt8)) : Option ((List UInt8) × (List UInt8) × Bool) :=
  bnd (internal_stringslite_Cut a0 a1) fun t9 =>
  some (t9.1, t9.2.1, t9.2.2)

/-! unicode/utf8.decodeRuneInStringSlow -/
noncomputable def unicode_utf8_decodeRuneInStringSlow (a0 : (List UInt8)) : Option (Int × Int) :=
  cnd (decide ((a0.length : Int) < 1)) (some (65533, 0)) (none)

/-! unicode/utf8.DecodeRuneInString -/
noncomputable def unicode_utf8_DecodeRuneInString_j1 (a0 : (List UInt8)) (x10 : Bool) : Option (Int × Int) :=
  cnd x10 (bnd (gOct a0 0) fun t12 =>
  bnd (gK (-2147483648) 2147483647 t12) fun t13 =>
  some (t13, 1)) (bnd (unicode_utf8_decodeRuneInStringSlow a0) fun t16 =>
  some (t16.1, t16.2))
noncomputable def unicode_utf8_DecodeRuneInString (a0 : (List UInt8)) : Option (Int × Int) :=
  cnd (decide (a0 ≠ [])) (bnd (gOct a0 0) fun t8 =>
  unicode_utf8_DecodeRuneInString_j1 a0 (decide (t8 < 128))) (unicode_utf8_DecodeRuneInString_j1 a0 false)

/-! unicode/utf8.RuneCountInString -/
noncomputable def unicode_utf8_RuneCountInString_l1 (a0 : (List UInt8)) (next1 : ((Int × Nat) → Option (Int))) (x2_2 : Int) (k_2 : Nat) : Option (Int) :=
  cnd (decide (k_2 < a0.length)) (bnd (gNx a0 k_2) fun t5 =>
  bnd (gI (x2_2 + 1)) fun t8 =>
  next1 (t8, (k_2 + 1))) (some x2_2)
noncomputable def unicode_utf8_RuneCountInString (a0 : (List UInt8)) : Option (Int) :=
  fix (fun next1 s => unicode_utf8_RuneCountInString_l1 a0 next1 s.1 s.2) (0, 0)

/-! strings.explode -/
noncomputable def strings_explode_j2 (x1 : Int) (x0 : (List UInt8)) (l : (List (List UInt8))) : Option ((List (List UInt8))) :=
  cnd (decide (0 < x1)) (bnd (gI (x1 - 1)) fun t46 =>
  bnd (gAt l t46) fun t48 =>
  bnd (gSet l t46 x0) fun l0 =>
  some l0) (some l)
noncomputable def strings_explode_l3 (x1 : Int) (next3 : (((List UInt8) × Int × (List (List UInt8))) → Option ((List (List UInt8))))) (x0_3 : (List UInt8)) (x7_2 : Int) (l_3 : (List (List UInt8))) : Option ((List (List UInt8))) :=
  bnd (gI (x1 - 1)) fun t24 =>
  cnd (decide (x7_2 < t24)) (bnd (unicode_utf8_DecodeRuneInString x0_3) fun t30 =>
  bnd (gCut x0_3 0 t30.2) fun t37 =>
  bnd (gAt l_3 x7_2) fun t38 =>
  bnd (gSet l_3 x7_2 t37) fun l0_2 =>
  bnd (gCut x0_3 t30.2 x0_3.length) fun t41 =>
  bnd (gI (x7_2 + 1)) fun t27 =>
  next3 (t41, t27, l0_2)) (strings_explode_j2 x1 x0_3 l_3)
noncomputable def strings_explode_j1 (a0 : (List UInt8)) (x1 : Int) : Option ((List (List UInt8))) :=
  bnd (gMake 16 x1 []) fun t21 =>
  fix (fun next3 s => strings_explode_l3 x1 next3 s.1 s.2.1 s.2.2) (a0, 0, t21)
noncomputable def strings_explode (a0 : (List UInt8)) (a1 : Int) : Option ((List (List UInt8))) :=
  bnd (unicode_utf8_RuneCountInString a0) fun t11 =>
  cnd (decide (a1 < 0)) (strings_explode_j1 a0 t11) (cnd (decide (t11 < a1)) (strings_explode_j1 a0 t11) (strings_explode_j1 a0 a1))

/-! strings.Index -/
noncomputable def strings_Index (a0 : (List UInt8)) (a1 : (List UInt8)) : Option (Int) :=
  bnd (internal_stringslite_Index a0 a1) fun t7 =>
  some t7

/-! strings.Count -/
noncomputable def strings_Count_l1 (a1 : (List UInt8)) (next1 : (((List UInt8) × Int) → Option (Int))) (x0_2 : (List UInt8)) (x5_2 : Int) : Option (Int) :=
  bnd (strings_Index x0_2 a1) fun t22 =>
  cnd (decide (t22 = (-1))) (some x5_2) (bnd (gI (x5_2 + 1)) fun t27 =>
  bnd (gI (t22 + (a1.length : Int))) fun t32 =>
  bnd (gCut x0_2 t32 x0_2.length) fun t33 =>
  next1 (t33, t27))
noncomputable def strings_Count (a0 : (List UInt8)) (a1 : (List UInt8)) : Option (Int) :=
  cnd (decide ((a1.length : Int) = 0)) (bnd (unicode_utf8_RuneCountInString a0) fun t11 =>
  bnd (gI (t11 + 1)) fun t12 =>
  some t12) (cnd (decide ((a1.length : Int) = 1)) (bnd (gOct a1 0) fun t18 =>
  bnd (gCnB a0 t18) fun t19 =>
  some t19) (fix (fun next1 s => strings_Count_l1 a1 next1 s.1 s.2) (a0, 0)))

/-! strings.genSplit -/
noncomputable def strings_genSplit_j2 (x0 : (List UInt8)) (x10 : Int) (l : (List (List UInt8))) : Option ((List (List UInt8))) :=
  bnd (gAt l x10) fun t61 =>
  bnd (gSet l x10 x0) fun l0 =>
  bnd (gI (x10 + 1)) fun t64 =>
  bnd (gCut l0 0 t64) fun t65 =>
  some t65
noncomputable def strings_genSplit_l3 (a1 : (List UInt8)) (a2 : Int) (t33 : Int) (next3 : (((List UInt8) × Int × (List (List UInt8))) → Option ((List (List UInt8))))) (x0_3 : (List UInt8)) (x10_3 : Int) (l_3 : (List (List UInt8))) : Option ((List (List UInt8))) :=
  cnd (decide (x10_3 < t33)) (bnd (strings_Index x0_3 a1) fun t39 =>
  cnd (decide (t39 < 0)) (strings_genSplit_j2 x0_3 x10_3 l_3) (bnd (gI (t39 + a2)) fun t47 =>
  bnd (gCut x0_3 0 t47) fun t48 =>
  bnd (gAt l_3 x10_3) fun t49 =>
  bnd (gSet l_3 x10_3 t48) fun l0_2 =>
  bnd (gI (t39 + (a1.length : Int))) fun t54 =>
  bnd (gCut x0_3 t54 x0_3.length) fun t55 =>
  bnd (gI (x10_3 + 1)) fun t57 =>
  next3 (t55, t57, l0_2))) (strings_genSplit_j2 x0_3 x10_3 l_3)
noncomputable def strings_genSplit_j1 (a0 : (List UInt8)) (a1 : (List UInt8)) (a2 : Int) (x3 : Int) : Option ((List (List UInt8))) :=
  bnd (gI ((a0.length : Int) + 1)) fun t28 =>
  bnd (gMake 16 (min x3 t28) []) fun t31 =>
  bnd (gI ((min x3 t28) - 1)) fun t33 =>
  fix (fun next3 s => strings_genSplit_l3 a1 a2 t33 next3 s.1 s.2.1 s.2.2) (a0, 0, t31)
noncomputable def strings_genSplit (a0 : (List UInt8)) (a1 : (List UInt8)) (a2 : Int) (a3 : Int) : Option ((List (List UInt8))) :=
  cnd (decide (a3 = 0)) (some ([] : List (List UInt8))) (cnd (decide (a1 = [])) (bnd (strings_explode a0 a3) fun t18 =>
  some t18) (cnd (decide (a3 < 0)) (bnd (strings_Count a0 a1) fun t23 =>
  bnd (gI (t23 + 1)) fun t24 =>
  strings_genSplit_j1 a0 a1 a2 t24) (strings_genSplit_j1 a0 a1 a2 a3)))

/-! strings.Split -/
noncomputable def strings_Split (a0 : (List UInt8)) (a1 : (List UInt8)) : Option ((List (List UInt8))) :=
  bnd (strings_genSplit a0 a1 0 (-1)) fun t7 =>
  some t7

/-! strings.trimLeftByte -/
noncomputable def strings_trimLeftByte_l1 (a1 : Int) (next1 : (((List UInt8)) → Option ((List UInt8)))) (x0_2 : (List UInt8)) : Option ((List UInt8)) :=
  cnd (decide (0 < (x0_2.length : Int))) (bnd (gOct x0_2 0) fun t10 =>
  cnd (decide (t10 = a1)) (bnd (gCut x0_2 1 x0_2.length) fun t15 =>
  next1 t15) (some x0_2)) (some x0_2)
noncomputable def strings_trimLeftByte (a0 : (List UInt8)) (a1 : Int) : Option ((List UInt8)) :=
  fix (fun next1 s => strings_trimLeftByte_l1 a1 next1 s) a0

/-! strings.trimRightByte -/
noncomputable def strings_trimRightByte_l1 (a1 : Int) (next1 : (((List UInt8)) → Option ((List UInt8)))) (x0_2 : (List UInt8)) : Option ((List UInt8)) :=
  cnd (decide (0 < (x0_2.length : Int))) (bnd (gI ((x0_2.length : Int) - 1)) fun t12 =>
  bnd (gOct x0_2 t12) fun t13 =>
  cnd (decide (t13 = a1)) (bnd (gI ((x0_2.length : Int) - 1)) fun t20 =>
  bnd (gCut x0_2 0 t20) fun t21 =>
  next1 t21) (some x0_2)) (some x0_2)
noncomputable def strings_trimRightByte (a0 : (List UInt8)) (a1 : Int) : Option ((List UInt8)) :=
  fix (fun next1 s => strings_trimRightByte_l1 a1 next1 s) a0

/-! strings.makeASCIISet -/
noncomputable def strings_makeASCIISet_j1 (m : (Nat → Bool)) : Option ((Nat → Bool) × Bool) :=
  some (m, true)
noncomputable def strings_makeASCIISet_l2 (a0 : (List UInt8)) (next2 : ((Int × (Nat → Bool)) → Option ((Nat → Bool) × Bool))) (x4_2 : Int) (m_3 : (Nat → Bool)) : Option ((Nat → Bool) × Bool) :=
  cnd (decide (x4_2 < (a0.length : Int))) (bnd (gOct a0 x4_2) fun t14 =>
  cnd (decide (128 ≤ t14)) (some (m_3, false)) (bnd (gIx 256 t14) fun k19 =>
  bnd (gI (x4_2 + 1)) fun t11 =>
  next2 (t11, (setA m_3 k19 true)))) (strings_makeASCIISet_j1 m_3)
noncomputable def strings_makeASCIISet (a0 : (List UInt8)) : Option ((Nat → Bool) × Bool) :=
  fix (fun next2 s => strings_makeASCIISet_l2 a0 next2 s.1 s.2) (0, (fun _ => false))

/-! (*strings.asciiSet).contains -/
noncomputable def strings_asciiSet_contains (a0 : (Nat → Bool)) (a1 : Int) : Option (Bool × (Nat → Bool)) :=
  bnd (gIx 256 a1) fun k8 =>
  some ((a0 k8), a0)

/-! strings.trimLeftASCII -/
noncomputable def strings_trimLeftASCII_l1 (next1 : (((List UInt8) × (Nat → Bool)) → Option ((List UInt8) × (Nat → Bool)))) (x0_2 : (List UInt8)) (m_2 : (Nat → Bool)) : Option ((List UInt8) × (Nat → Bool)) :=
  cnd (decide (0 < (x0_2.length : Int))) (bnd (gOct x0_2 0) fun t10 =>
  bnd (strings_asciiSet_contains m_2 t10) fun t11 =>
  cnd (!t11.1) (some (x0_2, t11.2)) (bnd (gCut x0_2 1 x0_2.length) fun t14 =>
  next1 (t14, t11.2))) (some (x0_2, m_2))
noncomputable def strings_trimLeftASCII (a0 : (List UInt8)) (a1 : (Nat → Bool)) : Option ((List UInt8) × (Nat → Bool)) :=
  fix (fun next1 s => strings_trimLeftASCII_l1 next1 s.1 s.2) (a0, a1)

/-! strings.trimRightASCII -/
noncomputable def strings_trimRightASCII_l1 (next1 : (((List UInt8) × (Nat → Bool)) → Option ((List UInt8) × (Nat → Bool)))) (x0_2 : (List UInt8)) (m_2 : (Nat → Bool)) : Option ((List UInt8) × (Nat → Bool)) :=
  cnd (decide (0 < (x0_2.length : Int))) (bnd (gI ((x0_2.length : Int) - 1)) fun t12 =>
  bnd (gOct x0_2 t12) fun t13 =>
  bnd (strings_asciiSet_contains m_2 t13) fun t14 =>
  cnd (!t14.1) (some (x0_2, t14.2)) (bnd (gI ((x0_2.length : Int) - 1)) fun t19 =>
  bnd (gCut x0_2 0 t19) fun t20 =>
  next1 (t20, t14.2))) (some (x0_2, m_2))
noncomputable def strings_trimRightASCII (a0 : (List UInt8)) (a1 : (Nat → Bool)) : Option ((List UInt8) × (Nat → Bool)) :=
  fix (fun next1 s => strings_trimRightASCII_l1 next1 s.1 s.2) (a0, a1)

/-! strings.IndexByte -/
noncomputable def strings_IndexByte (a0 : (List UInt8)) (a1 : Int) : Option (Int) :=
  bnd (internal_stringslite_IndexByte a0 a1) fun t7 =>
  some t7

/-! unicode/utf8.ValidRune -/
noncomputable def unicode_utf8_ValidRune_j1 (a0 : Int) (x3 : Bool) : Option (Bool) :=
  cnd x3 (some true) (cnd (decide (57343 < a0)) (cnd (decide (a0 ≤ 1114111)) (some true) (some false)) (some false))
noncomputable def unicode_utf8_ValidRune (a0 : Int) : Option (Bool) :=
  cnd (decide (0 ≤ a0)) (unicode_utf8_ValidRune_j1 a0 (decide (a0 < 55296))) (unicode_utf8_ValidRune_j1 a0 false)

/-! strings.IndexRune -/
noncomputable def strings_IndexRune_l2 (a0 : (List UInt8)) (next2 : ((Nat) → Option (Int))) (k_2 : Nat) : Option (Int) :=
  cnd (decide (k_2 < a0.length)) (bnd (gNx a0 k_2) fun t176 =>
  cnd (decide (t176 = 65533)) (some ((k_2 : Nat) : Int)) (next2 (k_2 + 1))) (some (-1))
noncomputable def strings_IndexRune_j1 (a0 : (List UInt8)) (a1 : Int) (x160 : Bool) : Option (Int) :=
  cnd x160 (bnd (strings_IndexByte a0 (wU8 a1)) fun t170 =>
  some t170) (cnd (decide (a1 = 65533)) (fix (fun next2 s => strings_IndexRune_l2 a0 next2 s) 0) (bnd (unicode_utf8_ValidRune a1) fun t185 =>
  cnd (!t185) (some (-1)) (none)))
noncomputable def strings_IndexRune (a0 : (List UInt8)) (a1 : Int) : Option (Int) :=
  cnd (decide (0 ≤ a1)) (strings_IndexRune_j1 a0 a1 (decide (a1 < 128))) (strings_IndexRune_j1 a0 a1 false)

/-! strings.ContainsRune -/
noncomputable def strings_ContainsRune (a0 : (List UInt8)) (a1 : Int) : Option (Bool) :=
  bnd (strings_IndexRune a0 a1) fun t7 =>
  some (decide (0 ≤ t7))

/-! strings.trimLeftUnicode -/
noncomputable def strings_trimLeftUnicode_l1 (a1 : (List UInt8)) (next1 : (((List UInt8)) → Option ((List UInt8)))) (x0_2 : (List UInt8)) : Option ((List UInt8)) :=
  cnd (decide (0 < (x0_2.length : Int))) (bnd (unicode_utf8_DecodeRuneInString x0_2) fun t12 =>
  bnd (strings_ContainsRune a1 t12.1) fun t17 =>
  cnd (!t17) (some x0_2) (bnd (gCut x0_2 t12.2 x0_2.length) fun t21 =>
  next1 t21)) (some x0_2)
noncomputable def strings_trimLeftUnicode (a0 : (List UInt8)) (a1 : (List UInt8)) : Option ((List UInt8)) :=
  fix (fun next1 s => strings_trimLeftUnicode_l1 a1 next1 s) a0

/-! unicode/utf8.RuneStart -/
noncomputable def unicode_utf8_RuneStart (a0 : Int) : Option (Bool) :=
  some (decide ((wU8 (bAnd 8 a0 192)) ≠ 128))

/-! unicode/utf8.DecodeLastRuneInString -/
noncomputable def unicode_utf8_DecodeLastRuneInString_j2 (a0 : (List UInt8)) (x5_2 : Int) : Option (Int × Int) :=
  bnd (gCut a0 x5_2 (a0.length : Int)) fun t40 =>
  bnd (unicode_utf8_DecodeRuneInString t40) fun t41 =>
  bnd (gI (x5_2 + t41.2)) fun t46 =>
  cnd (decide (t46 ≠ (a0.length : Int))) (some (65533, 1)) (some (t41.1, t41.2))
noncomputable def unicode_utf8_DecodeLastRuneInString_j1 (a0 : (List UInt8)) (x5 : Int) : Option (Int × Int) :=
  cnd (decide (x5 < 0)) (unicode_utf8_DecodeLastRuneInString_j2 a0 0) (unicode_utf8_DecodeLastRuneInString_j2 a0 x5)
noncomputable def unicode_utf8_DecodeLastRuneInString_l3 (a0 : (List UInt8)) (t21 : Int) (next3 : ((Int) → Option (Int × Int))) (x5_4 : Int) : Option (Int × Int) :=
  cnd (decide ((max t21 0) ≤ x5_4)) (bnd (gOct a0 x5_4) fun t32 =>
  bnd (unicode_utf8_RuneStart t32) fun t33 =>
  cnd t33 (unicode_utf8_DecodeLastRuneInString_j1 a0 x5_4) (bnd (gI (x5_4 - 1)) fun t29 =>
  next3 t29)) (unicode_utf8_DecodeLastRuneInString_j1 a0 x5_4)
noncomputable def unicode_utf8_DecodeLastRuneInString (a0 : (List UInt8)) : Option (Int × Int) :=
  cnd (decide ((a0.length : Int) = 0)) (some (65533, 0)) (bnd (gI ((a0.length : Int) - 1)) fun t12 =>
  bnd (gOct a0 t12) fun t15 =>
  bnd (gK (-2147483648) 2147483647 t15) fun t16 =>
  cnd (decide (t16 < 128)) (some (t16, 1)) (bnd (gI ((a0.length : Int) - 4)) fun t21 =>
  bnd (gI (t12 - 1)) fun t24 =>
  fix (fun next3 s => unicode_utf8_DecodeLastRuneInString_l3 a0 t21 next3 s) t24))

/-! strings.trimRightUnicode -/
noncomputable def strings_trimRightUnicode_j2 (a1 : (List UInt8)) (x0_2 : (List UInt8)) (next1 : (((List UInt8)) → Option ((List UInt8)))) (x5 : Int) (x6 : Int) : Option ((List UInt8)) :=
  bnd (strings_ContainsRune a1 x5) fun t25 =>
  cnd (!t25) (some x0_2) (bnd (gI ((x0_2.length : Int) - x6)) fun t31 =>
  bnd (gCut x0_2 0 t31) fun t32 =>
  next1 t32)
noncomputable def strings_trimRightUnicode_l1 (a1 : (List UInt8)) (next1 : (((List UInt8)) → Option ((List UInt8)))) (x0_2 : (List UInt8)) : Option ((List UInt8)) :=
  cnd (decide (0 < (x0_2.length : Int))) (bnd (gI ((x0_2.length : Int) - 1)) fun t13 =>
  bnd (gOct x0_2 t13) fun t14 =>
  bnd (gK (-2147483648) 2147483647 t14) fun t15 =>
  cnd (decide (128 ≤ t15)) (bnd (unicode_utf8_DecodeLastRuneInString x0_2) fun t20 =>
  strings_trimRightUnicode_j2 a1 x0_2 next1 t20.1 t20.2) (strings_trimRightUnicode_j2 a1 x0_2 next1 t15 1)) (some x0_2)
noncomputable def strings_trimRightUnicode (a0 : (List UInt8)) (a1 : (List UInt8)) : Option ((List UInt8)) :=
  fix (fun next1 s => strings_trimRightUnicode_l1 a1 next1 s) a0

/-! strings.Trim -/
noncomputable def strings_Trim_j1 (a0 : (List UInt8)) (a1 : (List UInt8)) : Option ((List UInt8)) :=
  bnd (strings_makeASCIISet a1) fun t31 =>
  cnd t31.2 (bnd (strings_trimRightASCII a0 t31.1) fun t36 =>
  bnd (strings_trimLeftASCII t36.1 t36.2) fun t37 =>
  some t37.1) (bnd (strings_trimRightUnicode a0 a1) fun t40 =>
  bnd (strings_trimLeftUnicode t40 a1) fun t42 =>
  some t42)
noncomputable def strings_Trim (a0 : (List UInt8)) (a1 : (List UInt8)) : Option ((List UInt8)) :=
  cnd (decide (a0 = [])) (some a0) (cnd (decide (a1 = [])) (some a0) (cnd (decide ((a1.length : Int) = 1)) (bnd (gOct a1 0) fun t19 =>
  cnd (decide (t19 < 128)) (bnd (gOct a1 0) fun t24 =>
  bnd (strings_trimRightByte a0 t24) fun t25 =>
  bnd (gOct a1 0) fun t27 =>
  bnd (strings_trimLeftByte t25 t27) fun t28 =>
  some t28) (strings_Trim_j1 a0 a1)) (strings_Trim_j1 a0 a1)))

/-! internal/stringslite.HasPrefix -/
noncomputable def internal_stringslite_HasPrefix (a0 : (List UInt8)) (a1 : (List UInt8)) : Option (Bool) :=
  cnd (decide ((a1.length : Int) ≤ (a0.length : Int))) (bnd (gCut a0 0 (a1.length : Int)) fun t14 =>
  some (decide (t14 = a1))) (some false)

/-! internal/stringslite.TrimPrefix -/
noncomputable def internal_stringslite_TrimPrefix (a0 : (List UInt8)) (a1 : (List UInt8)) : Option ((List UInt8)) :=
  bnd (internal_stringslite_HasPrefix a0 a1) fun t7 =>
  cnd t7 (bnd (gCut a0 (a1.length : Int) a0.length) fun t11 =>
  some t11) (some a0)

/-! strings.TrimPrefix -/
noncomputable def strings_TrimPrefix (a0 : (List UInt8)) (a1 : (List UInt8)) : Option ((List UInt8)) :=
  bnd (internal_stringslite_TrimPrefix a0 a1) fun t7 =>
  some t7

/-! tintype/edit.number -/
noncomputable def edit_number (a0 : (List UInt8)) : Option (Int × Bool) :=
  bnd (strings_TrimPrefix a0 [45]) fun t8 =>
  cnd (decide (t8 = [])) (some (0, false)) (cnd (decide (4 < (t8.length : Int))) (some (0, false)) (bnd (strings_Trim t8 [48, 49, 50, 51, 52, 53, 54, 55, 56, 57]) fun t18 =>
  cnd (decide (t18 ≠ [])) (some (0, false)) (bnd (gAtoi a0) fun t23 =>
  bnd (gItoa t23) fun t31 =>
  some (t23, (decide (t31 = a0))))))

/-! tintype/edit.readStep -/
noncomputable def edit_readStep_j1  : Option (T_edit_Step × Bool) :=
  some ((⟨0, 0, 0, 0, 0⟩ : T_edit_Step), false)
noncomputable def edit_readStep_j3 (x5_2 : Int) (next2 : ((Int) → Option (T_edit_Step × Bool))) : Option (T_edit_Step × Bool) :=
  bnd (gI (x5_2 + 1)) fun t18 =>
  next2 t18
noncomputable def edit_readStep_j4 (x5_2 : Int) (m : Int) (m_2 : Int) (m_3 : Int) (m_4 : Int) : Option (T_edit_Step × Bool) :=
  some ((⟨x5_2, m, m_2, m_3, m_4⟩ : T_edit_Step), true)
noncomputable def edit_readStep_j6 (x46_2 : Int) (next5 : ((Int × Int × Int × Int × Int) → Option (T_edit_Step × Bool))) (m_13 : Int) (m_14 : Int) (m_15 : Int) (m_16 : Int) : Option (T_edit_Step × Bool) :=
  bnd (gI (x46_2 + 1)) fun t66 =>
  next5 (t66, m_13, m_14, m_15, m_16)
noncomputable def edit_readStep_l5 (t14 : ((List (List UInt8)))) (x5_2 : Int) (t44 : (List Nat)) (next5 : ((Int × Int × Int × Int × Int) → Option (T_edit_Step × Bool))) (x46_2 : Int) (m_9 : Int) (m_10 : Int) (m_11 : Int) (m_12 : Int) : Option (T_edit_Step × Bool) :=
  cnd (decide (x46_2 < (t44.length : Int))) (bnd (gAt t44 x46_2) fun t49 =>
  bnd (gI (x46_2 + 1)) fun t54 =>
  bnd (gAt t14 t54) fun t55 =>
  bnd (edit_number t55) fun t57 =>
  cnd (!t57.2) (some ((⟨0, 0, 0, 0, 0⟩ : T_edit_Step), false)) (bnd (gIf (t49 < 4)) fun u =>
  cnd (decide (t49 = 0)) (edit_readStep_j6 x46_2 next5 t57.1 m_10 m_11 m_12) (cnd (decide (t49 = 1)) (edit_readStep_j6 x46_2 next5 m_9 t57.1 m_11 m_12) (cnd (decide (t49 = 2)) (edit_readStep_j6 x46_2 next5 m_9 m_10 t57.1 m_12) (edit_readStep_j6 x46_2 next5 m_9 m_10 m_11 t57.1))))) (edit_readStep_j4 x5_2 m_9 m_10 m_11 m_12)
noncomputable def edit_readStep_l2 (t14 : ((List (List UInt8)))) (next2 : ((Int) → Option (T_edit_Step × Bool))) (x5_2 : Int) : Option (T_edit_Step × Bool) :=
  cnd (decide (x5_2 ≤ 9)) (bnd (edit_word x5_2) fun t21 =>
  bnd (gAt t14 0) fun t25 =>
  cnd (decide (t25 ≠ t21.1)) (edit_readStep_j3 x5_2 next2) (bnd (gI (t21.2 + 1)) fun t33 =>
  cnd (decide ((t14.length : Int) ≠ t33)) (edit_readStep_j3 x5_2 next2) (bnd (gCut ([0, 1, 2, 3] : List Nat) 0 t21.2) fun t44 =>
  fix (fun next5 s => edit_readStep_l5 t14 x5_2 t44 next5 s.1 s.2.1 s.2.2.1 s.2.2.2.1 s.2.2.2.2) (0, 0, 0, 0, 0)))) (edit_readStep_j1)
noncomputable def edit_readStep (a0 : (List UInt8)) : Option (T_edit_Step × Bool) :=
  bnd (strings_Split a0 [32]) fun t14 =>
  fix (fun next2 s => edit_readStep_l2 t14 next2 s) 1

/-! tintype/edit.Read -/
noncomputable def edit_Read_j1 (l : (List T_edit_Step)) : Option ((List T_edit_Step) × Int × Int) :=
  bnd (edit_Check l) fun t44 =>
  cnd (decide (t44 ≠ 0)) (some (([] : List T_edit_Step), 0, t44)) (some (l, 0, 0))
noncomputable def edit_Read_l2 (next2 : (((List UInt8) × Int × (List T_edit_Step)) → Option ((List T_edit_Step) × Int × Int))) (x0_2 : (List UInt8)) (x6_2 : Int) (l_3 : (List T_edit_Step)) : Option ((List T_edit_Step) × Int × Int) :=
  cnd (decide (x0_2 ≠ [])) (bnd (strings_Cut x0_2 [10]) fun t22 =>
  bnd (edit_readStep t22.1) fun t28 =>
  cnd (!t22.2.2) (some (([] : List T_edit_Step), x6_2, 8)) (cnd (!t28.2) (some (([] : List T_edit_Step), x6_2, 8)) (bnd (gApp 40 l_3 ([t28.1] : List T_edit_Step)) fun l41 =>
  bnd (gI (x6_2 + 1)) fun t19 =>
  next2 (t22.2.1, t19, l41)))) (edit_Read_j1 l_3)
noncomputable def edit_Read (a0 : (List UInt8)) : Option ((List T_edit_Step) × Int × Int) :=
  cnd (decide (1000000 < (a0.length : Int))) (some (([] : List T_edit_Step), 0, 4)) (fix (fun next2 s => edit_Read_l2 next2 s.1 s.2.1 s.2.2) (a0, 1, ([] : List T_edit_Step)))

/-! slices.Index[[]string,string] -/
noncomputable def slices_Index_string_l1 (a0 : (List (List UInt8))) (a1 : (List UInt8)) (next1 : ((Int) → Option (Int))) (x8_2 : Int) : Option (Int) :=
  cnd (decide (x8_2 < (a0.length : Int))) (bnd (gAt a0 x8_2) fun t14 =>
  cnd (decide (a1 = t14)) (some x8_2) (bnd (gI (x8_2 + 1)) fun t18 =>
  next1 t18)) (some (-1))
noncomputable def slices_Index_string (a0 : (List (List UInt8))) (a1 : (List UInt8)) : Option (Int) :=
  fix (fun next1 s => slices_Index_string_l1 a0 a1 next1 s) 0

/-! tintype/tintref2.Whole -/
noncomputable def R_Whole_j2 (a0 : (List UInt8)) : Option (Int × Bool) :=
  bnd (gAtoi a0) fun t39 =>
  some (t39, true)
noncomputable def R_Whole_j1 (a0 : (List UInt8)) (a1 : Int) (x8 : (List UInt8)) : Option (Int × Bool) :=
  cnd (decide (x8 = [])) (some (0, false)) (cnd (decide (a1 < (x8.length : Int))) (some (0, false)) (bnd (strings_Trim x8 [48, 49, 50, 51, 52, 53, 54, 55, 56, 57]) fun t25 =>
  cnd (decide (t25 ≠ [])) (some (0, false)) (bnd (gOct x8 0) fun t30 =>
  cnd (decide (t30 = 48)) (cnd (decide (a0 ≠ [48])) (some (0, false)) (R_Whole_j2 a0)) (R_Whole_j2 a0))))
noncomputable def R_Whole (a0 : (List UInt8)) (a1 : Int) (a2 : Bool) : Option (Int × Bool) :=
  cnd a2 (bnd (strings_TrimPrefix a0 [45]) fun t14 =>
  R_Whole_j1 a0 a1 t14) (R_Whole_j1 a0 a1 a0)

/-! tintype/tintref2.StepsRead -/
noncomputable def R_StepsRead_j1 (l : (List T_edit_Step)) : Option ((List T_edit_Step) × Int × Int) :=
  bnd (R_StepsFault l) fun t84 =>
  cnd (decide (t84 ≠ 0)) (some (([] : List T_edit_Step), 0, t84)) (some (l, 0, 0))
noncomputable def R_StepsRead_j3 (x3_2 : Int) (next2 : (((List UInt8) × Int × (List T_edit_Step)) → Option ((List T_edit_Step) × Int × Int))) (x0_3 : (List UInt8)) (x39 : Int) (x40 : Bool) (x44 : Int) (x45 : Int) (x46 : Int) (x47 : Int) (x48 : Bool) (l_4 : (List T_edit_Step)) (l_5 : (List (List UInt8))) : Option ((List T_edit_Step) × Int × Int) :=
  bnd (gI (x3_2 + 1)) fun t21 =>
  next2 (x0_3, t21, l_4)
noncomputable def R_StepsRead_j4 (x3_2 : Int) (l_3 : (List T_edit_Step)) (next2 : (((List UInt8) × Int × (List T_edit_Step)) → Option ((List T_edit_Step) × Int × Int))) (t24 : ((List UInt8) × (List UInt8) × Bool)) (t30 : ((List (List UInt8)))) (t35 : (Int)) (t45 : Int) (t47 : (Int)) (m : (Nat → Int)) : Option ((List T_edit_Step) × Int × Int) :=
  bnd (gApp 40 l_3 ([(⟨t35, (m 0), (m 1), (m 2), (m 3)⟩ : T_edit_Step)] : List T_edit_Step)) fun l82 =>
  R_StepsRead_j3 x3_2 next2 t24.2.1 t35 (decide (t35 < 1)) (t30.length : Int) t45 t35 t47 (decide (t45 ≠ t47)) l82 t30
noncomputable def R_StepsRead_l5 (x3_2 : Int) (l_3 : (List T_edit_Step)) (next2 : (((List UInt8) × Int × (List T_edit_Step)) → Option ((List T_edit_Step) × Int × Int))) (t24 : ((List UInt8) × (List UInt8) × Bool)) (t30 : ((List (List UInt8)))) (t35 : (Int)) (t45 : Int) (t47 : (Int)) (t52 : (List (List UInt8))) (next5 : ((Int × (Nat → Int)) → Option ((List T_edit_Step) × Int × Int))) (x54_2 : Int) (m_3 : (Nat → Int)) : Option ((List T_edit_Step) × Int × Int) :=
  cnd (decide (x54_2 < (t52.length : Int))) (bnd (gAt t52 x54_2) fun t57 =>
  bnd (R_Whole t57 4 true) fun t62 =>
  bnd (gIx 4 x54_2) fun k65 =>
  cnd (!t62.2) (some (([] : List T_edit_Step), x3_2, 8)) (bnd (gI (x54_2 + 1)) fun t69 =>
  next5 (t69, (setA m_3 k65 t62.1)))) (R_StepsRead_j4 x3_2 l_3 next2 t24 t30 t35 t45 t47 m_3)
noncomputable def R_StepsRead_l2 (next2 : (((List UInt8) × Int × (List T_edit_Step)) → Option ((List T_edit_Step) × Int × Int))) (x0_2 : (List UInt8)) (x3_2 : Int) (l_3 : (List T_edit_Step)) : Option ((List T_edit_Step) × Int × Int) :=
  cnd (decide (x0_2 ≠ [])) (bnd (strings_Cut x0_2 [10]) fun t24 =>
  bnd (strings_Split t24.1 [32]) fun t30 =>
  bnd (R_stepWords) fun t31 =>
  bnd (gAt t30 0) fun t33 =>
  bnd (slices_Index_string t31 t33) fun t35 =>
  cnd (!t24.2.2) (some (([] : List T_edit_Step), x3_2, 8)) (cnd (decide (t35 < 1)) (some (([] : List T_edit_Step), x3_2, 8)) (bnd (gI ((t30.length : Int) - 1)) fun t45 =>
  bnd (R_numbersUsed t35) fun t47 =>
  cnd (decide (t45 ≠ t47)) (some (([] : List T_edit_Step), x3_2, 8)) (bnd (gCut t30 1 t30.length) fun t52 =>
  fix (fun next5 s => R_StepsRead_l5 x3_2 l_3 next2 t24 t30 t35 t45 t47 t52 next5 s.1 s.2) (0, (fun _ => 0)))))) (R_StepsRead_j1 l_3)
noncomputable def R_StepsRead (a0 : (List UInt8)) : Option ((List T_edit_Step) × Int × Int) :=
  cnd (decide (1000000 < (a0.length : Int))) (some (([] : List T_edit_Step), 0, 4)) (fix (fun next2 s => R_StepsRead_l2 next2 s.1 s.2.1 s.2.2) (a0, 1, ([] : List T_edit_Step)))

/-! tintype/tintlaw2.listed[tintype/edit.Step] -/
noncomputable def Law_listed_edit_Step_j1 (a0 : (List T_edit_Step)) (a1 : Int) (a3 : Int) (x2 : (List T_edit_Step)) : Option (Bool) :=
  bnd (slices_Equal_edit_Step a0 x2) fun t13 =>
  cnd t13 (some (decide (a1 = a3))) (some false)
noncomputable def Law_listed_edit_Step (a0 : (List T_edit_Step)) (a1 : Int) (a2 : (List T_edit_Step)) (a3 : Int) : Option (Bool) :=
  cnd (decide (a3 ≠ 0)) (Law_listed_edit_Step_j1 a0 a1 a3 ([] : (List T_edit_Step))) (Law_listed_edit_Step_j1 a0 a1 a3 a2)

/-! tintype/tintlaw2.EditSteps -/
noncomputable def Law_EditSteps_l3 (a2 : (List UInt8)) (x10 : (List UInt8)) (next3 : ((Int) → Option (Bool))) (x82_2 : Int) : Option (Bool) :=
  cnd (decide (x82_2 < 2)) (bnd (gAt ([a2, x10] : List (List UInt8)) x82_2) fun t84 =>
  bnd (edit_Read t84) fun t88 =>
  bnd (R_StepsRead t84) fun t94 =>
  cnd (decide (t88.2.1 ≠ t94.2.1)) (some false) (bnd (Law_listed_edit_Step t88.1 t88.2.2 t94.1 t94.2.2) fun t106 =>
  cnd (!t106) (some false) (bnd (gI (x82_2 + 1)) fun t109 =>
  next3 t109))) (some true)
noncomputable def Law_EditSteps_j2 (a0 : (List T_edit_Step)) (a1 : (List T_edit_Step)) (a2 : (List UInt8)) (t41 : (Int)) (x10 : (List UInt8)) : Option (Bool) :=
  bnd (edit_Text a0) fun t48 =>
  bnd (edit_Check a0) fun t52 =>
  cnd (decide (t52 ≠ t41)) (some false) (bnd (Law_told_string t48.1 t48.2 x10 t41) fun t60 =>
  cnd (!t60) (some false) (bnd (edit_Same a0 a1) fun t66 =>
  bnd (slices_Equal_edit_Step a0 a1) fun t69 =>
  cnd (decide (t66 ≠ t69)) (some false) (bnd (edit_Same a0 a0) fun t75 =>
  cnd (!t75) (some false) (fix (fun next3 s => Law_EditSteps_l3 a2 x10 next3 s) 0))))
noncomputable def Law_EditSteps_j1 (a0 : (List T_edit_Step)) (a1 : (List T_edit_Step)) (a2 : (List UInt8)) : Option (Bool) :=
  bnd (R_StepsFault a0) fun t41 =>
  cnd (decide (t41 = 0)) (bnd (R_StepsText a0) fun t45 =>
  Law_EditSteps_j2 a0 a1 a2 t41 t45) (Law_EditSteps_j2 a0 a1 a2 t41 [])
noncomputable def Law_EditSteps_l4 (a0 : (List T_edit_Step)) (a1 : (List T_edit_Step)) (a2 : (List UInt8)) (next4 : ((Int) → Option (Bool))) (x23_2 : Int) : Option (Bool) :=
  cnd (decide (x23_2 < (a0.length : Int))) (bnd (gAt a0 x23_2) fun t25 =>
  bnd (edit_CheckStep t25) fun t28 =>
  bnd (R_StepFault t25) fun t30 =>
  cnd (decide (t28 ≠ t30)) (some false) (bnd (edit_Shape t25) fun t34 =>
  bnd (R_Shaped t25) fun t36 =>
  cnd (decide (t34 ≠ t36)) (some false) (bnd (gI (x23_2 + 1)) fun t39 =>
  next4 t39))) (Law_EditSteps_j1 a0 a1 a2)
noncomputable def Law_EditSteps (a0 : (List T_edit_Step)) (a1 : (List T_edit_Step)) (a2 : (List UInt8)) : Option (Bool) :=
  fix (fun next4 s => Law_EditSteps_l4 a0 a1 a2 next4 s) 0

end Go.M
