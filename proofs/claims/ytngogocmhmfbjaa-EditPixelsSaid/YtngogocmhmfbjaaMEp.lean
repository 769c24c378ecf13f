/- EditPixels: the models, printed by our generator from the compiled program. Conditions: none. -/
import Derived.Test.YtngogocmhmfbjaaMd3
namespace Go.M
open Go.Md
set_option maxRecDepth 100000
set_option linter.unusedVariables false

structure T_edit_Step where
  Kind : Int
  A : Int
  B : Int
  C : Int
  D : Int
instance : Inhabited T_edit_Step := ⟨⟨0, 0, 0, 0, 0⟩⟩

def eq_256_uint8 (x y : (Nat → Int)) : Bool := decide ((List.range 256).map x = (List.range 256).map y)
def eq_3_uint8 (x y : (Nat → Int)) : Bool := decide ((List.range 3).map x = (List.range 3).map y)

/-! tintype/tintlaw2.first -/
noncomputable def Law_first_l1 (a0 : (List Int)) (next1 : ((Int) → Option (Int))) (x7_2 : Int) : Option (Int) :=
  cnd (decide (x7_2 < (a0.length : Int))) (bnd (gAt a0 x7_2) fun t9 =>
  cnd (decide (t9 ≠ 0)) (some t9) (bnd (gI (x7_2 + 1)) fun t14 =>
  next1 t14)) (some 0)
noncomputable def Law_first (a0 : (List Int)) : Option (Int) :=
  fix (fun next1 s => Law_first_l1 a0 next1 s) 0

/-! tintype/tintref2.numbersUsed -/
noncomputable def R_numbersUsed (a0 : Int) : Option (Int) :=
  bnd (gAt ([0, 1, 4, 2, 1, 1, 2, 1, 1, 0] : List Int) a0) fun t5 =>
  some t5

/-! tintype/tintref2.StepFault$1 -/
noncomputable def R_StepFault_1 (a0 : Int) (a1 : Int) (a2 : Int) : Option (Bool) :=
  cnd (decide (a0 < a1)) (some true) (some (decide (a2 < a0)))

/-! tintype/tintref2.StepFault -/
noncomputable def R_StepFault_j2 (a0 : T_edit_Step) (x6 : Bool) : Option (Int) :=
  cnd x6 (some 2) (cnd (decide (a0.Kind = 6)) (cnd (decide (a0.B ≤ a0.A)) (some 5) (some 0)) (some 0))
noncomputable def R_StepFault_j1 (a0 : T_edit_Step) : Option (Int) :=
  cnd (decide (a0.Kind = 1)) (bnd (R_StepFault_1 a0.A 1 8) fun t47 =>
  R_StepFault_j2 a0 t47) (cnd (decide (a0.Kind = 2)) (bnd (R_StepFault_1 a0.A 0 63) fun t53 =>
  cnd t53 (R_StepFault_j2 a0 true) (bnd (R_StepFault_1 a0.B 0 63) fun t58 =>
  cnd t58 (R_StepFault_j2 a0 true) (bnd (R_StepFault_1 a0.C 1 64) fun t64 =>
  cnd t64 (R_StepFault_j2 a0 true) (bnd (R_StepFault_1 a0.D 1 64) fun t70 =>
  R_StepFault_j2 a0 t70)))) (cnd (decide (a0.Kind = 3)) (bnd (R_StepFault_1 a0.A 1 64) fun t77 =>
  cnd t77 (R_StepFault_j2 a0 true) (bnd (R_StepFault_1 a0.B 1 64) fun t82 =>
  R_StepFault_j2 a0 t82)) (cnd (decide (a0.Kind = 4)) (bnd (R_StepFault_1 a0.A (-255) 255) fun t89 =>
  R_StepFault_j2 a0 t89) (cnd (decide (a0.Kind = 5)) (bnd (R_StepFault_1 a0.A 0 400) fun t95 =>
  R_StepFault_j2 a0 t95) (cnd (decide (a0.Kind = 6)) (bnd (R_StepFault_1 a0.A 0 255) fun t101 =>
  cnd t101 (R_StepFault_j2 a0 true) (bnd (R_StepFault_1 a0.B 0 255) fun t106 =>
  R_StepFault_j2 a0 t106)) (cnd (decide (a0.Kind = 7)) (bnd (R_StepFault_1 a0.A (-100) 100) fun t113 =>
  R_StepFault_j2 a0 t113) (cnd (decide (a0.Kind = 8)) (bnd (R_StepFault_1 a0.A 0 100) fun t119 =>
  R_StepFault_j2 a0 t119) (R_StepFault_j2 a0 false))))))))
noncomputable def R_StepFault_j4 (x25_2 : Int) (next3 : ((Int) → Option (Int))) : Option (Int) :=
  bnd (gI (x25_2 + 1)) fun t39 =>
  next3 t39
noncomputable def R_StepFault_l3 (a0 : T_edit_Step) (next3 : ((Int) → Option (Int))) (x25_2 : Int) : Option (Int) :=
  cnd (decide (x25_2 < 4)) (bnd (gAt ([a0.A, a0.B, a0.C, a0.D] : List Int) x25_2) fun t28 =>
  bnd (R_numbersUsed a0.Kind) fun t33 =>
  cnd (decide (t33 ≤ x25_2)) (cnd (decide (t28 ≠ 0)) (some 1) (R_StepFault_j4 x25_2 next3)) (R_StepFault_j4 x25_2 next3)) (R_StepFault_j1 a0)
noncomputable def R_StepFault (a0 : T_edit_Step) : Option (Int) :=
  cnd (decide (a0.Kind < 1)) (some 10) (cnd (decide (9 < a0.Kind)) (some 10) (fix (fun next3 s => R_StepFault_l3 a0 next3 s) 0))

/-! tintype/tintref2.StepsFault -/
noncomputable def R_StepsFault_l1 (a0 : (List T_edit_Step)) (next1 : ((Int) → Option (Int))) (x11_2 : Int) : Option (Int) :=
  cnd (decide (x11_2 < (a0.length : Int))) (bnd (gAt a0 x11_2) fun t13 =>
  bnd (R_StepFault t13) fun t16 =>
  cnd (decide (t16 ≠ 0)) (some t16) (bnd (gI (x11_2 + 1)) fun t20 =>
  next1 t20)) (some 0)
noncomputable def R_StepsFault (a0 : (List T_edit_Step)) : Option (Int) :=
  cnd (decide (50 < (a0.length : Int))) (some 4) (fix (fun next1 s => R_StepsFault_l1 a0 next1 s) 0)

/-! tintype/tintlaw2.unless -/
noncomputable def Law_unless (a0 : Bool) (a1 : Int) : Option (Int) :=
  cnd a0 (some 0) (some a1)

/-! tintype/edit.outside -/
noncomputable def edit_outside (a0 : Int) (a1 : Int) (a2 : Int) : Option (Bool) :=
  cnd (decide (a0 < a1)) (some true) (some (decide (a2 < a0)))

/-! tintype/edit.word -/
noncomputable def edit_word (a0 : Int) : Option ((List UInt8) × Int) :=
  cnd (decide (a0 = 1)) (some ([116, 117, 114, 110], 1)) (cnd (decide (a0 = 2)) (some ([99, 114, 111, 112], 4)) (cnd (decide (a0 = 3)) (some ([115, 99, 97, 108, 101], 2)) (cnd (decide (a0 = 4)) (some ([108, 105, 103, 104, 116], 1)) (cnd (decide (a0 = 5)) (some ([115, 112, 114, 101, 97, 100], 1)) (cnd (decide (a0 = 6)) (some ([108, 101, 118, 101, 108, 115], 2)) (cnd (decide (a0 = 7)) (some ([119, 97, 114, 109], 1)) (cnd (decide (a0 = 8)) (some ([109, 117, 116, 101], 1)) (some ([105, 110, 118, 101, 114, 116], 0)))))))))

/-! (tintype/edit.Step).numbers -/
noncomputable def edit_Step_numbers (a0 : T_edit_Step) : Option ((List Int)) :=
  some ([a0.A, a0.B, a0.C, a0.D] : List Int)

/-! tintype/edit.bounds -/
noncomputable def edit_bounds (a0 : Int) : Option ((Nat → (Nat → Int))) :=
  cnd (decide (a0 = 1)) (some (ofL [(ofL [1, 8]), (fun _ => 0), (fun _ => 0), (fun _ => 0)])) (cnd (decide (a0 = 2)) (some (ofL [(ofL [0, 63]), (ofL [0, 63]), (ofL [1, 64]), (ofL [1, 64])])) (cnd (decide (a0 = 3)) (some (ofL [(ofL [1, 64]), (ofL [1, 64]), (fun _ => 0), (fun _ => 0)])) (cnd (decide (a0 = 4)) (some (ofL [(ofL [(-255), 255]), (fun _ => 0), (fun _ => 0), (fun _ => 0)])) (cnd (decide (a0 = 5)) (some (ofL [(ofL [0, 400]), (fun _ => 0), (fun _ => 0), (fun _ => 0)])) (cnd (decide (a0 = 6)) (some (ofL [(ofL [0, 255]), (ofL [0, 255]), (fun _ => 0), (fun _ => 0)])) (cnd (decide (a0 = 7)) (some (ofL [(ofL [(-100), 100]), (fun _ => 0), (fun _ => 0), (fun _ => 0)])) (cnd (decide (a0 = 8)) (some (ofL [(ofL [0, 100]), (fun _ => 0), (fun _ => 0), (fun _ => 0)])) (some (fun _ => (fun _ => 0))))))))))

/-! tintype/edit.CheckStep -/
noncomputable def edit_CheckStep_j2 (a0 : T_edit_Step) : Option (Int) :=
  cnd (decide (a0.Kind = 6)) (cnd (decide (a0.B ≤ a0.A)) (some 5) (some 0)) (some 0)
noncomputable def edit_CheckStep_l3 (a0 : T_edit_Step) (t35 : ((Nat → (Nat → Int)))) (t38 : (List Int)) (next3 : ((Int) → Option (Int))) (x40_2 : Int) : Option (Int) :=
  cnd (decide (x40_2 < (t38.length : Int))) (bnd (gAt t38 x40_2) fun t43 =>
  bnd (gIx 4 x40_2) fun k47 =>
  bnd (gIx 4 x40_2) fun k51 =>
  bnd (edit_outside t43 ((t35 k47) 0) ((t35 k51) 1)) fun t54 =>
  cnd t54 (some 2) (bnd (gI (x40_2 + 1)) fun t55 =>
  next3 t55)) (edit_CheckStep_j2 a0)
noncomputable def edit_CheckStep_j1 (a0 : T_edit_Step) (t17 : ((List UInt8) × Int)) (t21 : ((List Int))) : Option (Int) :=
  bnd (edit_bounds a0.Kind) fun t35 =>
  bnd (gCut t21 0 t17.2) fun t38 =>
  fix (fun next3 s => edit_CheckStep_l3 a0 t35 t38 next3 s) 0
noncomputable def edit_CheckStep_l4 (a0 : T_edit_Step) (t17 : ((List UInt8) × Int)) (t21 : ((List Int))) (t24 : (List Int)) (next4 : ((Int) → Option (Int))) (x26_2 : Int) : Option (Int) :=
  cnd (decide (x26_2 < (t24.length : Int))) (bnd (gAt t24 x26_2) fun t28 =>
  cnd (decide (t28 ≠ 0)) (some 1) (bnd (gI (x26_2 + 1)) fun t32 =>
  next4 t32)) (edit_CheckStep_j1 a0 t17 t21)
noncomputable def edit_CheckStep (a0 : T_edit_Step) : Option (Int) :=
  bnd (edit_outside a0.Kind 1 9) fun t13 =>
  cnd t13 (some 10) (bnd (edit_word a0.Kind) fun t17 =>
  bnd (edit_Step_numbers a0) fun t21 =>
  bnd (gCut t21 t17.2 t21.length) fun t24 =>
  fix (fun next4 s => edit_CheckStep_l4 a0 t17 t21 t24 next4 s) 0)

/-! tintype/edit.Check -/
noncomputable def edit_Check_l1 (a0 : (List T_edit_Step)) (next1 : ((Int) → Option (Int))) (x11_2 : Int) : Option (Int) :=
  cnd (decide (x11_2 < (a0.length : Int))) (bnd (gAt a0 x11_2) fun t13 =>
  bnd (edit_CheckStep t13) fun t16 =>
  cnd (decide (t16 ≠ 0)) (some t16) (bnd (gI (x11_2 + 1)) fun t20 =>
  next1 t20)) (some 0)
noncomputable def edit_Check (a0 : (List T_edit_Step)) : Option (Int) :=
  cnd (decide (50 < (a0.length : Int))) (some 4) (fix (fun next1 s => edit_Check_l1 a0 next1 s) 0)

/-! (tintype/edit.Step).size -/
noncomputable def edit_Step_size_j1 (a1 : Int) (a2 : Int) : Option (Int × Int × Bool) :=
  some (a1, a2, true)
noncomputable def edit_Step_size (a0 : T_edit_Step) (a1 : Int) (a2 : Int) : Option (Int × Int × Bool) :=
  cnd (decide (a0.Kind = 1)) (cnd (decide (5 ≤ a0.A)) (some (a2, a1, true)) (edit_Step_size_j1 a1 a2)) (cnd (decide (a0.Kind = 2)) (bnd (gI (a0.A + a0.C)) fun t28 =>
  cnd (decide (t28 ≤ a1)) (bnd (gI (a0.B + a0.D)) fun t36 =>
  some (a0.C, a0.D, (decide (t36 ≤ a2)))) (some (a0.C, a0.D, false))) (cnd (decide (a0.Kind = 3)) (some (a0.A, a0.B, true)) (edit_Step_size_j1 a1 a2)))

/-! tintype/edit.size -/
noncomputable def edit_size_j1 (x1 : Int) (x2 : Int) : Option (Int × Int × Int) :=
  some (x1, x2, 0)
noncomputable def edit_size_l2 (a0 : (List T_edit_Step)) (next2 : ((Int × Int × Int) → Option (Int × Int × Int))) (x1_3 : Int) (x2_3 : Int) (x20_2 : Int) : Option (Int × Int × Int) :=
  cnd (decide (x20_2 < (a0.length : Int))) (bnd (gAt a0 x20_2) fun t22 =>
  bnd (edit_Step_size t22 x1_3 x2_3) fun t28 =>
  cnd (!t28.2.2) (some (0, 0, 7)) (bnd (gI (x20_2 + 1)) fun t34 =>
  next2 (t28.1, t28.2.1, t34))) (edit_size_j1 x1_3 x2_3)
noncomputable def edit_size (a0 : (List T_edit_Step)) (a1 : Int) (a2 : Int) : Option (Int × Int × Int) :=
  bnd (edit_outside a1 1 64) fun t13 =>
  cnd t13 (some (0, 0, 2)) (bnd (edit_outside a2 1 64) fun t16 =>
  cnd t16 (some (0, 0, 2)) (fix (fun next2 s => edit_size_l2 a0 next2 s.1 s.2.1 s.2.2) (a1, a2, 0)))

/-! tintype/pix.turnings$1 -/
noncomputable def pix_turnings_1 (a0 : Int) (a1 : Int) (a2 : Int) (a3 : Int) : Option (Int × Int) :=
  some (a2, a3)

/-! tintype/pix.turnings$2 -/
noncomputable def pix_turnings_2 (a0 : Int) (a1 : Int) (a2 : Int) (a3 : Int) : Option (Int × Int) :=
  bnd (gI (a0 - 1)) fun t11 =>
  bnd (gI (t11 - a2)) fun t13 =>
  some (t13, a3)

/-! tintype/pix.turnings$3 -/
noncomputable def pix_turnings_3 (a0 : Int) (a1 : Int) (a2 : Int) (a3 : Int) : Option (Int × Int) :=
  bnd (gI (a0 - 1)) fun t11 =>
  bnd (gI (t11 - a2)) fun t13 =>
  bnd (gI (a1 - 1)) fun t15 =>
  bnd (gI (t15 - a3)) fun t17 =>
  some (t13, t17)

/-! tintype/pix.turnings$4 -/
noncomputable def pix_turnings_4 (a0 : Int) (a1 : Int) (a2 : Int) (a3 : Int) : Option (Int × Int) :=
  bnd (gI (a1 - 1)) fun t12 =>
  bnd (gI (t12 - a3)) fun t14 =>
  some (a2, t14)

/-! tintype/pix.turnings$5 -/
noncomputable def pix_turnings_5 (a0 : Int) (a1 : Int) (a2 : Int) (a3 : Int) : Option (Int × Int) :=
  some (a3, a2)

/-! tintype/pix.turnings$6 -/
noncomputable def pix_turnings_6 (a0 : Int) (a1 : Int) (a2 : Int) (a3 : Int) : Option (Int × Int) :=
  bnd (gI (a1 - 1)) fun t12 =>
  bnd (gI (t12 - a2)) fun t14 =>
  some (a3, t14)

/-! tintype/pix.turnings$7 -/
noncomputable def pix_turnings_7 (a0 : Int) (a1 : Int) (a2 : Int) (a3 : Int) : Option (Int × Int) :=
  bnd (gI (a0 - 1)) fun t11 =>
  bnd (gI (t11 - a3)) fun t13 =>
  bnd (gI (a1 - 1)) fun t15 =>
  bnd (gI (t15 - a2)) fun t17 =>
  some (t13, t17)

/-! tintype/pix.turnings$8 -/
noncomputable def pix_turnings_8 (a0 : Int) (a1 : Int) (a2 : Int) (a3 : Int) : Option (Int × Int) :=
  bnd (gI (a0 - 1)) fun t11 =>
  bnd (gI (t11 - a3)) fun t13 =>
  some (t13, a2)

/-! tintype/pix.turnings -/
noncomputable def pix_turnings  : Option (Unit) :=
  some ()
noncomputable def pix_turnings_tab0 : Nat → (Option (Int → Int → Int → Int → Option (Int × Int))) := ofL [none, (some pix_turnings_1), (some pix_turnings_2), (some pix_turnings_3), (some pix_turnings_4), (some pix_turnings_5), (some pix_turnings_6), (some pix_turnings_7), (some pix_turnings_8)]
noncomputable def pix_turnings_tab1 : Nat → Bool := ofL [false, false, false, false, false, true, true, true, true]

/-! tintype/pix.From -/
noncomputable def pix_From (a0 : Int) (a1 : Int) (a2 : Int) (a3 : Int) (a4 : Int) : Option (Int × Int) :=
  bnd (pix_turnings) fun t12 =>
  bnd (gIx 9 a0) fun k14 =>
  bnd (gFn (pix_turnings_tab0 k14)) fun g20 =>
  bnd (g20 a1 a2 a3 a4) fun t20 =>
  some (t20.1, t20.2)

/-! tintype/edit.Comes -/
noncomputable def edit_Comes_j2 (x3 : Int) (x4 : Int) : Option (Int × Int × Int) :=
  some (x3, x4, 0)
noncomputable def edit_Comes_j4 (x19_2 : Int) (next3 : ((Int × Int × Int) → Option (Int × Int × Int))) (x3_4 : Int) (x4_4 : Int) : Option (Int × Int × Int) :=
  bnd (gI (x19_2 - 1)) fun t66 =>
  next3 (x3_4, x4_4, t66)
noncomputable def edit_Comes_l3 (a0 : (List T_edit_Step)) (a1 : Int) (a2 : Int) (next3 : ((Int × Int × Int) → Option (Int × Int × Int))) (x3_3 : Int) (x4_3 : Int) (x19_2 : Int) : Option (Int × Int × Int) :=
  cnd (decide (0 ≤ x19_2)) (bnd (gAt a0 x19_2) fun t69 =>
  cnd (decide (t69.Kind = 1)) (bnd (gCut a0 0 x19_2) fun t78 =>
  bnd (edit_size t78 a1 a2) fun t81 =>
  bnd (pix_From t69.A t81.1 t81.2.1 x3_3 x4_3) fun t92 =>
  edit_Comes_j4 x19_2 next3 t92.1 t92.2) (cnd (decide (t69.Kind = 2)) (bnd (gI (x3_3 + t69.A)) fun t100 =>
  bnd (gI (x4_3 + t69.B)) fun t104 =>
  edit_Comes_j4 x19_2 next3 t100 t104) (edit_Comes_j4 x19_2 next3 x3_3 x4_3))) (edit_Comes_j2 x3_3 x4_3)
noncomputable def edit_Comes_j1 (a0 : (List T_edit_Step)) (a1 : Int) (a2 : Int) (a3 : Int) (a4 : Int) (t33 : (Int × Int × Int)) : Option (Int × Int × Int) :=
  bnd (gI (t33.1 - 1)) fun t52 =>
  bnd (edit_outside a3 0 t52) fun t53 =>
  cnd t53 (some (0, 0, 2)) (bnd (gI (t33.2.1 - 1)) fun t57 =>
  bnd (edit_outside a4 0 t57) fun t58 =>
  cnd t58 (some (0, 0, 2)) (bnd (gI ((a0.length : Int) - 1)) fun t62 =>
  fix (fun next3 s => edit_Comes_l3 a0 a1 a2 next3 s.1 s.2.1 s.2.2) (a3, a4, t62)))
noncomputable def edit_Comes_l5 (a0 : (List T_edit_Step)) (a1 : Int) (a2 : Int) (a3 : Int) (a4 : Int) (t33 : (Int × Int × Int)) (next5 : ((Int) → Option (Int × Int × Int))) (x42_2 : Int) : Option (Int × Int × Int) :=
  cnd (decide (x42_2 < (a0.length : Int))) (bnd (gAt a0 x42_2) fun t44 =>
  cnd (decide (t44.Kind = 3)) (some (0, 0, 11)) (bnd (gI (x42_2 + 1)) fun t49 =>
  next5 t49)) (edit_Comes_j1 a0 a1 a2 a3 a4 t33)
noncomputable def edit_Comes (a0 : (List T_edit_Step)) (a1 : Int) (a2 : Int) (a3 : Int) (a4 : Int) : Option (Int × Int × Int) :=
  bnd (edit_Check a0) fun t25 =>
  cnd (decide (t25 ≠ 0)) (some (0, 0, t25)) (bnd (edit_size a0 a1 a2) fun t33 =>
  cnd (decide (t33.2.2 ≠ 0)) (some (0, 0, t33.2.2)) (fix (fun next5 s => edit_Comes_l5 a0 a1 a2 a3 a4 t33 next5 s) 0))

/-! tintype/tintref2.SizeOf -/
noncomputable def R_SizeOf_j1 (x1 : Int) (x2 : Int) : Option (Int × Int × Int) :=
  some (x1, x2, 0)
noncomputable def R_SizeOf_j3 (x27_2 : Int) (next2 : ((Int × Int × Int) → Option (Int × Int × Int))) (x1_4 : Int) (x2_4 : Int) : Option (Int × Int × Int) :=
  bnd (gI (x27_2 + 1)) fun t68 =>
  next2 (x1_4, x2_4, t68)
noncomputable def R_SizeOf_l2 (a0 : (List T_edit_Step)) (next2 : ((Int × Int × Int) → Option (Int × Int × Int))) (x1_3 : Int) (x2_3 : Int) (x27_2 : Int) : Option (Int × Int × Int) :=
  cnd (decide (x27_2 < (a0.length : Int))) (bnd (gAt a0 x27_2) fun t29 =>
  cnd (decide (t29.Kind = 1)) (cnd (decide (5 ≤ t29.A)) (R_SizeOf_j3 x27_2 next2 x2_3 x1_3) (R_SizeOf_j3 x27_2 next2 x1_3 x2_3)) (cnd (decide (t29.Kind = 2)) (bnd (gI (t29.A + t29.C)) fun t46 =>
  cnd (decide (x1_3 < t46)) (some (0, 0, 7)) (bnd (gI (t29.B + t29.D)) fun t54 =>
  cnd (decide (x2_3 < t54)) (some (0, 0, 7)) (R_SizeOf_j3 x27_2 next2 t29.C t29.D))) (cnd (decide (t29.Kind = 3)) (R_SizeOf_j3 x27_2 next2 t29.A t29.B) (R_SizeOf_j3 x27_2 next2 x1_3 x2_3)))) (R_SizeOf_j1 x1_3 x2_3)
noncomputable def R_SizeOf (a0 : (List T_edit_Step)) (a1 : Int) (a2 : Int) : Option (Int × Int × Int) :=
  cnd (decide (a1 < 1)) (some (0, 0, 2)) (cnd (decide (64 < a1)) (some (0, 0, 2)) (cnd (decide (a2 < 1)) (some (0, 0, 2)) (cnd (decide (64 < a2)) (some (0, 0, 2)) (fix (fun next2 s => R_SizeOf_l2 a0 next2 s.1 s.2.1 s.2.2) (a1, a2, 0)))))

/-! slices.IndexFunc[[]tintype/edit.Step,tintype/edit.Step] -/
noncomputable def slices_IndexFunc_edit_Step_l1 (a0 : (List T_edit_Step)) (a1 : (T_edit_Step → Option (Bool))) (next1 : ((Int) → Option (Int))) (x8_2 : Int) : Option (Int) :=
  cnd (decide (x8_2 < (a0.length : Int))) (bnd (gAt a0 x8_2) fun t14 =>
  bnd (a1 t14) fun t16 =>
  cnd t16 (some x8_2) (bnd (gI (x8_2 + 1)) fun t18 =>
  next1 t18)) (some (-1))
noncomputable def slices_IndexFunc_edit_Step (a0 : (List T_edit_Step)) (a1 : (T_edit_Step → Option (Bool))) : Option (Int) :=
  fix (fun next1 s => slices_IndexFunc_edit_Step_l1 a0 a1 next1 s) 0

/-! slices.ContainsFunc[[]tintype/edit.Step,tintype/edit.Step] -/
noncomputable def slices_ContainsFunc_edit_Step (a0 : (List T_edit_Step)) (a1 : (T_edit_Step → Option (Bool))) : Option (Bool) :=
  bnd (slices_IndexFunc_edit_Step a0 a1) fun t7 =>
  some (decide (0 ≤ t7))

/-! tintype/tintref2.ComesFrom$1 -/
noncomputable def R_ComesFrom_1 (a0 : T_edit_Step) : Option (Bool) :=
  some (decide (a0.Kind = 3))

/-! tintype/tintref2.source -/
noncomputable def R_source (a0 : Int) (a1 : Int) (a2 : Int) (a3 : Int) (a4 : Int) : Option (Int × Int) :=
  cnd (decide (a0 = 2)) (bnd (gI (a1 - 1)) fun t16 =>
  bnd (gI (t16 - a3)) fun t18 =>
  some (t18, a4)) (cnd (decide (a0 = 3)) (bnd (gI (a1 - 1)) fun t23 =>
  bnd (gI (t23 - a3)) fun t25 =>
  bnd (gI (a2 - 1)) fun t27 =>
  bnd (gI (t27 - a4)) fun t29 =>
  some (t25, t29)) (cnd (decide (a0 = 4)) (bnd (gI (a2 - 1)) fun t34 =>
  bnd (gI (t34 - a4)) fun t36 =>
  some (a3, t36)) (cnd (decide (a0 = 5)) (some (a4, a3)) (cnd (decide (a0 = 6)) (bnd (gI (a2 - 1)) fun t45 =>
  bnd (gI (t45 - a3)) fun t47 =>
  some (a4, t47)) (cnd (decide (a0 = 7)) (bnd (gI (a1 - 1)) fun t51 =>
  bnd (gI (t51 - a4)) fun t53 =>
  bnd (gI (a2 - 1)) fun t55 =>
  bnd (gI (t55 - a3)) fun t57 =>
  some (t53, t57)) (cnd (decide (a0 = 8)) (bnd (gI (a1 - 1)) fun t61 =>
  bnd (gI (t61 - a4)) fun t63 =>
  some (t63, a3)) (some (a3, a4))))))))

/-! tintype/tintref2.ComesFrom -/
noncomputable def R_ComesFrom_j1 (x3 : Int) (x4 : Int) : Option (Int × Int × Int) :=
  some (x3, x4, 0)
noncomputable def R_ComesFrom_j3 (x16_2 : Int) (next2 : ((Int × Int × Int) → Option (Int × Int × Int))) (x3_4 : Int) (x4_4 : Int) : Option (Int × Int × Int) :=
  bnd (gI (x16_2 - 1)) fun t59 =>
  next2 (x3_4, x4_4, t59)
noncomputable def R_ComesFrom_l2 (a0 : (List T_edit_Step)) (a1 : Int) (a2 : Int) (next2 : ((Int × Int × Int) → Option (Int × Int × Int))) (x3_3 : Int) (x4_3 : Int) (x16_2 : Int) : Option (Int × Int × Int) :=
  cnd (decide (0 ≤ x16_2)) (bnd (gCut a0 0 x16_2) fun t63 =>
  bnd (R_SizeOf t63 a1 a2) fun t66 =>
  bnd (gAt a0 x16_2) fun t72 =>
  cnd (decide (t72.Kind = 1)) (bnd (R_source t72.A t66.1 t66.2.1 x3_3 x4_3) fun t85 =>
  R_ComesFrom_j3 x16_2 next2 t85.1 t85.2) (cnd (decide (t72.Kind = 2)) (bnd (gI (x3_3 + t72.A)) fun t93 =>
  bnd (gI (x4_3 + t72.B)) fun t97 =>
  R_ComesFrom_j3 x16_2 next2 t93 t97) (R_ComesFrom_j3 x16_2 next2 x3_3 x4_3))) (R_ComesFrom_j1 x3_3 x4_3)
noncomputable def R_ComesFrom (a0 : (List T_edit_Step)) (a1 : Int) (a2 : Int) (a3 : Int) (a4 : Int) : Option (Int × Int × Int) :=
  bnd (R_SizeOf a0 a1 a2) fun t25 =>
  cnd (decide (t25.2.2 ≠ 0)) (some (0, 0, t25.2.2)) (bnd (slices_ContainsFunc_edit_Step a0 R_ComesFrom_1) fun t35 =>
  cnd t35 (some (0, 0, 11)) (cnd (decide (a3 < 0)) (some (0, 0, 2)) (cnd (decide (t25.1 ≤ a3)) (some (0, 0, 2)) (cnd (decide (a4 < 0)) (some (0, 0, 2)) (cnd (decide (t25.2.1 ≤ a4)) (some (0, 0, 2)) (bnd (gI ((a0.length : Int) - 1)) fun t55 =>
  fix (fun next2 s => R_ComesFrom_l2 a0 a1 a2 next2 s.1 s.2.1 s.2.2) (a3, a4, t55)))))))

/-! tintype/edit.straight -/
noncomputable def edit_straight_j1 (m : (Nat → Int)) : Option ((Nat → Int)) :=
  some m
noncomputable def edit_straight_l2 (next2 : ((Int × (Nat → Int)) → Option ((Nat → Int)))) (x3_2 : Int) (m_3 : (Nat → Int)) : Option ((Nat → Int)) :=
  cnd (decide (x3_2 < 256)) (bnd (gIx 256 x3_2) fun k9 =>
  bnd (gI (x3_2 + 1)) fun t10 =>
  next2 (t10, (setA m_3 k9 (wU8 x3_2)))) (edit_straight_j1 m_3)
noncomputable def edit_straight  : Option ((Nat → Int)) :=
  fix (fun next2 s => edit_straight_l2 next2 s.1 s.2) (0, (fun _ => 0))

/-! tintype/edit.clamp -/
noncomputable def edit_clamp (a0 : Int) : Option (Int) :=
  some (wU8 (min (max a0 0) 255))

/-! (tintype/edit.Step).light -/
noncomputable def edit_Step_light (a0 : T_edit_Step) (a1 : Int) : Option (Int) :=
  bnd (gK (-9223372036854775808) 9223372036854775807 a1) fun t6 =>
  bnd (gI (t6 + a0.A)) fun t9 =>
  bnd (edit_clamp t9) fun t10 =>
  some t10

/-! tintype/edit.floor -/
noncomputable def edit_floor (a0 : Int) (a1 : Int) : Option (Int) :=
  bnd (gQuo a0 a1) fun t8 =>
  bnd (gRem a0 a1) fun t11 =>
  cnd (decide (t11 < 0)) (bnd (gI (t8 - 1)) fun t14 =>
  some t14) (some t8)

/-! (tintype/edit.Step).spread -/
noncomputable def edit_Step_spread (a0 : T_edit_Step) (a1 : Int) : Option (Int) :=
  bnd (gK (-9223372036854775808) 9223372036854775807 a1) fun t6 =>
  bnd (gI (t6 - 128)) fun t7 =>
  bnd (gI (t7 * a0.A)) fun t10 =>
  bnd (edit_floor t10 100) fun t11 =>
  bnd (gI (128 + t11)) fun t12 =>
  bnd (edit_clamp t12) fun t13 =>
  some t13

/-! (tintype/edit.Step).levels -/
noncomputable def edit_Step_levels (a0 : T_edit_Step) (a1 : Int) : Option (Int) :=
  bnd (gK (-9223372036854775808) 9223372036854775807 a1) fun t6 =>
  bnd (gI (t6 - a0.A)) fun t9 =>
  bnd (gI (t9 * 255)) fun t10 =>
  bnd (gI (a0.B - a0.A)) fun t15 =>
  bnd (edit_floor t10 t15) fun t16 =>
  bnd (edit_clamp t16) fun t17 =>
  some t17

/-! (tintype/edit.Step).invert -/
noncomputable def edit_Step_invert (a0 : T_edit_Step) (a1 : Int) : Option (Int) :=
  some (wU8 (255 - a1))

/-! (tintype/edit.Step).byByte -/
noncomputable def edit_Step_byByte (a0 : T_edit_Step) : Option ((Option (Int → Option (Int)))) :=
  cnd (decide (a0.Kind = 4)) (some (some (edit_Step_light a0))) (cnd (decide (a0.Kind = 5)) (some (some (edit_Step_spread a0))) (cnd (decide (a0.Kind = 6)) (some (some (edit_Step_levels a0))) (cnd (decide (a0.Kind = 9)) (some (some (edit_Step_invert a0))) (some none))))

/-! (tintype/edit.curve).after -/
noncomputable def edit_curve_after_j1 (m : (Nat → Int)) : Option ((Nat → Int) × Bool) :=
  some (m, true)
noncomputable def edit_curve_after_l2 (a0 : (Nat → Int)) (t10 : ((Option (Int → Option (Int))))) (next2 : ((Int × (Nat → Int)) → Option ((Nat → Int) × Bool))) (x15_2 : Int) (m_3 : (Nat → Int)) : Option ((Nat → Int) × Bool) :=
  cnd (decide (x15_2 < 256)) (bnd (gIx 256 x15_2) fun k18 =>
  bnd (gFn t10) fun g22 =>
  bnd (g22 (a0 k18)) fun t22 =>
  bnd (gIx 256 x15_2) fun k23 =>
  bnd (gI (x15_2 + 1)) fun t24 =>
  next2 (t24, (setA m_3 k23 t22))) (edit_curve_after_j1 m_3)
noncomputable def edit_curve_after (a0 : (Nat → Int)) (a1 : T_edit_Step) : Option ((Nat → Int) × Bool) :=
  bnd (edit_Step_byByte a1) fun t10 =>
  cnd (Option.isNone t10) (some (a0, false)) (fix (fun next2 s => edit_curve_after_l2 a0 t10 next2 s.1 s.2) (0, a0))

/-! tintype/edit.Curve -/
noncomputable def edit_Curve_j1 (m : (Nat → Int)) : Option ((Nat → Int) × Int) :=
  some (m, 0)
noncomputable def edit_Curve_l2 (a0 : (List T_edit_Step)) (next2 : ((Int × (Nat → Int)) → Option ((Nat → Int) × Int))) (x18_2 : Int) (m_3 : (Nat → Int)) : Option ((Nat → Int) × Int) :=
  cnd (decide (x18_2 < (a0.length : Int))) (bnd (gAt a0 x18_2) fun t20 =>
  bnd (edit_curve_after m_3 t20) fun t25 =>
  cnd (!t25.2) (some ((fun _ => 0), 10)) (bnd (gI (x18_2 + 1)) fun t31 =>
  next2 (t31, t25.1))) (edit_Curve_j1 m_3)
noncomputable def edit_Curve (a0 : (List T_edit_Step)) : Option ((Nat → Int) × Int) :=
  bnd (edit_Check a0) fun t10 =>
  cnd (decide (t10 ≠ 0)) (some ((fun _ => 0), t10)) (bnd (edit_straight) fun t15 =>
  fix (fun next2 s => edit_Curve_l2 a0 next2 s.1 s.2) (0, t15))

/-! tintype/edit.Shape -/
noncomputable def edit_Shape (a0 : T_edit_Step) : Option (Bool) :=
  bnd (edit_outside a0.Kind 1 3) fun t5 =>
  some (!t5)

/-! (tintype/edit.Step).warm -/
noncomputable def edit_Step_warm (a0 : T_edit_Step) (a1 : (Nat → Int)) : Option ((Nat → Int)) :=
  bnd (gK (-9223372036854775808) 9223372036854775807 (a1 0)) fun t7 =>
  bnd (gI (t7 + a0.A)) fun t10 =>
  bnd (edit_clamp t10) fun t11 =>
  bnd (gK (-9223372036854775808) 9223372036854775807 (a1 2)) fun t16 =>
  bnd (gI (t16 - a0.A)) fun t19 =>
  bnd (edit_clamp t19) fun t20 =>
  some (ofL [t11, (a1 1), t20])

/-! (tintype/edit.Step).mute -/
noncomputable def edit_Step_mute_j1 (m : (Nat → Int)) : Option ((Nat → Int)) :=
  some m
noncomputable def edit_Step_mute_l2 (a0 : T_edit_Step) (a1 : (Nat → Int)) (t22 : Int) (next2 : ((Int × (Nat → Int)) → Option ((Nat → Int)))) (x24_2 : Int) (m_3 : (Nat → Int)) : Option ((Nat → Int)) :=
  cnd (decide (x24_2 < 3)) (bnd (gIx 3 x24_2) fun k27 =>
  bnd (gK (-9223372036854775808) 9223372036854775807 (a1 k27)) fun t30 =>
  bnd (gK (-9223372036854775808) 9223372036854775807 (a1 k27)) fun t33 =>
  bnd (gI (t22 - t33)) fun t34 =>
  bnd (gI (t34 * a0.A)) fun t37 =>
  bnd (edit_floor t37 100) fun t38 =>
  bnd (gI (t30 + t38)) fun t39 =>
  bnd (edit_clamp t39) fun t40 =>
  bnd (gIx 3 x24_2) fun k41 =>
  bnd (gI (x24_2 + 1)) fun t42 =>
  next2 (t42, (setA m_3 k41 t40))) (edit_Step_mute_j1 m_3)
noncomputable def edit_Step_mute (a0 : T_edit_Step) (a1 : (Nat → Int)) : Option ((Nat → Int)) :=
  bnd (gK (-9223372036854775808) 9223372036854775807 (a1 0)) fun t10 =>
  bnd (gI (77 * t10)) fun t11 =>
  bnd (gK (-9223372036854775808) 9223372036854775807 (a1 1)) fun t14 =>
  bnd (gI (150 * t14)) fun t15 =>
  bnd (gI (t11 + t15)) fun t16 =>
  bnd (gK (-9223372036854775808) 9223372036854775807 (a1 2)) fun t19 =>
  bnd (gI (29 * t19)) fun t20 =>
  bnd (gI (t16 + t20)) fun t21 =>
  bnd (gQuo t21 256) fun t22 =>
  fix (fun next2 s => edit_Step_mute_l2 a0 a1 t22 next2 s.1 s.2) (0, a1)

/-! (tintype/edit.Step).eachByte -/
noncomputable def edit_Step_eachByte_j1 (m : (Nat → Int)) : Option ((Nat → Int)) :=
  some m
noncomputable def edit_Step_eachByte_l2 (a1 : (Nat → Int)) (t9 : ((Option (Int → Option (Int))))) (next2 : ((Int × (Nat → Int)) → Option ((Nat → Int)))) (x11_2 : Int) (m_3 : (Nat → Int)) : Option ((Nat → Int)) :=
  cnd (decide (x11_2 < 3)) (bnd (gIx 3 x11_2) fun k14 =>
  bnd (gFn t9) fun g18 =>
  bnd (g18 (a1 k14)) fun t18 =>
  bnd (gIx 3 x11_2) fun k19 =>
  bnd (gI (x11_2 + 1)) fun t20 =>
  next2 (t20, (setA m_3 k19 t18))) (edit_Step_eachByte_j1 m_3)
noncomputable def edit_Step_eachByte (a0 : T_edit_Step) (a1 : (Nat → Int)) : Option ((Nat → Int)) :=
  bnd (edit_Step_byByte a0) fun t9 =>
  fix (fun next2 s => edit_Step_eachByte_l2 a1 t9 next2 s.1 s.2) (0, a1)

/-! (tintype/edit.Step).byPixel -/
noncomputable def edit_Step_byPixel (a0 : T_edit_Step) : Option ((Option ((Nat → Int) → Option ((Nat → Int))))) :=
  cnd (decide (a0.Kind = 7)) (some (some (edit_Step_warm a0))) (cnd (decide (a0.Kind = 8)) (some (some (edit_Step_mute a0))) (some (some (edit_Step_eachByte a0))))

/-! tintype/edit.Pixel -/
noncomputable def edit_Pixel_j1 (m : (Nat → Int)) : Option ((Nat → Int) × Int) :=
  some (m, 0)
noncomputable def edit_Pixel_l2 (a0 : (List T_edit_Step)) (next2 : ((Int × (Nat → Int)) → Option ((Nat → Int) × Int))) (x17_2 : Int) (m_3 : (Nat → Int)) : Option ((Nat → Int) × Int) :=
  cnd (decide (x17_2 < (a0.length : Int))) (bnd (gAt a0 x17_2) fun t19 =>
  bnd (edit_Shape t19) fun t22 =>
  cnd t22 (some ((fun _ => 0), 10)) (bnd (edit_Step_byPixel t19) fun t25 =>
  bnd (gFn t25) fun g27 =>
  bnd (g27 m_3) fun t27 =>
  bnd (gI (x17_2 + 1)) fun t28 =>
  next2 (t28, t27))) (edit_Pixel_j1 m_3)
noncomputable def edit_Pixel (a0 : (List T_edit_Step)) (a1 : (Nat → Int)) : Option ((Nat → Int) × Int) :=
  bnd (edit_Check a0) fun t10 =>
  cnd (decide (t10 ≠ 0)) (some ((fun _ => 0), t10)) (fix (fun next2 s => edit_Pixel_l2 a0 next2 s.1 s.2) (0, a1))

/-! tintype/tintref2.Shaped -/
noncomputable def R_Shaped (a0 : T_edit_Step) : Option (Bool) :=
  cnd (decide (1 ≤ a0.Kind)) (some (decide (a0.Kind ≤ 3))) (some false)

/-! tintype/tintref2.down -/
noncomputable def R_down (a0 : Int) (a1 : Int) : Option (Int) :=
  bnd (gQuo a0 a1) fun t8 =>
  bnd (gRem a0 a1) fun t11 =>
  cnd (decide (t11 ≠ 0)) (cnd (decide ((decide (a0 < 0)) ≠ (decide (a1 < 0)))) (bnd (gI (t8 - 1)) fun t21 =>
  some t21) (some t8)) (some t8)

/-! tintype/tintref2.byteOf -/
noncomputable def R_byteOf (a0 : Int) : Option (Int) :=
  some (min (max a0 0) 255)

/-! tintype/tintref2.Dot -/
noncomputable def R_Dot_j1 (m : (Nat → Int)) : Option ((Nat → Int)) :=
  some m
noncomputable def R_Dot_j3 (x21_2 : Int) (m_3 : (Nat → Int)) (next2 : ((Int × (Nat → Int)) → Option ((Nat → Int)))) (x7 : Int) : Option ((Nat → Int)) :=
  bnd (R_byteOf x7) fun t85 =>
  bnd (gIx 3 x21_2) fun k86 =>
  bnd (gI (x21_2 + 1)) fun t87 =>
  next2 (t87, (setA m_3 k86 t85))
noncomputable def R_Dot_l2 (a0 : T_edit_Step) (a1 : (Nat → Int)) (t19 : (Int)) (next2 : ((Int × (Nat → Int)) → Option ((Nat → Int)))) (x21_2 : Int) (m_3 : (Nat → Int)) : Option ((Nat → Int)) :=
  cnd (decide (x21_2 < 3)) (bnd (gIx 3 x21_2) fun k24 =>
  cnd (decide (a0.Kind = 4)) (bnd (gI ((a1 k24) + a0.A)) fun t32 =>
  R_Dot_j3 x21_2 m_3 next2 t32) (cnd (decide (a0.Kind = 5)) (bnd (gI ((a1 k24) - 128)) fun t36 =>
  bnd (gI (t36 * a0.A)) fun t39 =>
  bnd (R_down t39 100) fun t40 =>
  bnd (gI (128 + t40)) fun t41 =>
  R_Dot_j3 x21_2 m_3 next2 t41) (cnd (decide (a0.Kind = 6)) (bnd (gI ((a1 k24) - a0.A)) fun t47 =>
  bnd (gI (t47 * 255)) fun t48 =>
  bnd (gI (a0.B - a0.A)) fun t53 =>
  bnd (R_down t48 t53) fun t54 =>
  R_Dot_j3 x21_2 m_3 next2 t54) (cnd (decide (a0.Kind = 7)) (bnd (gI (-a0.A)) fun t62 =>
  bnd (gAt ([a0.A, 0, t62] : List Int) x21_2) fun t65 =>
  bnd (gI ((a1 k24) + t65)) fun t67 =>
  R_Dot_j3 x21_2 m_3 next2 t67) (cnd (decide (a0.Kind = 8)) (bnd (gI (t19 - (a1 k24))) fun t73 =>
  bnd (gI (t73 * a0.A)) fun t76 =>
  bnd (R_down t76 100) fun t77 =>
  bnd (gI ((a1 k24) + t77)) fun t78 =>
  R_Dot_j3 x21_2 m_3 next2 t78) (cnd (decide (a0.Kind = 9)) (bnd (gI (255 - (a1 k24))) fun t82 =>
  R_Dot_j3 x21_2 m_3 next2 t82) (R_Dot_j3 x21_2 m_3 next2 (a1 k24)))))))) (R_Dot_j1 m_3)
noncomputable def R_Dot (a0 : T_edit_Step) (a1 : (Nat → Int)) : Option ((Nat → Int)) :=
  bnd (gI (77 * (a1 0))) fun t10 =>
  bnd (gI (150 * (a1 1))) fun t13 =>
  bnd (gI (t10 + t13)) fun t14 =>
  bnd (gI (29 * (a1 2))) fun t17 =>
  bnd (gI (t14 + t17)) fun t18 =>
  bnd (R_down t18 256) fun t19 =>
  fix (fun next2 s => R_Dot_l2 a0 a1 t19 next2 s.1 s.2) (0, a1)

/-! tintype/tintlaw2.told[[256]byte] -/
noncomputable def Law_told_256_byte_j1 (a0 : (Nat → Int)) (a1 : Int) (a3 : Int) (m : (Nat → Int)) : Option (Bool) :=
  cnd (eq_256_uint8 a0 m) (some (decide (a1 = a3))) (some false)
noncomputable def Law_told_256_byte (a0 : (Nat → Int)) (a1 : Int) (a2 : (Nat → Int)) (a3 : Int) : Option (Bool) :=
  cnd (decide (a3 ≠ 0)) (Law_told_256_byte_j1 a0 a1 a3 (fun _ => 0)) (Law_told_256_byte_j1 a0 a1 a3 a2)

/-! tintype/tintlaw2.told[[3]byte] -/
noncomputable def Law_told_3_byte_j1 (a0 : (Nat → Int)) (a1 : Int) (a3 : Int) (m : (Nat → Int)) : Option (Bool) :=
  cnd (eq_3_uint8 a0 m) (some (decide (a1 = a3))) (some false)
noncomputable def Law_told_3_byte (a0 : (Nat → Int)) (a1 : Int) (a2 : (Nat → Int)) (a3 : Int) : Option (Bool) :=
  cnd (decide (a3 ≠ 0)) (Law_told_3_byte_j1 a0 a1 a3 (fun _ => 0)) (Law_told_3_byte_j1 a0 a1 a3 a2)

/-! tintype/tintlaw2.EditPixels -/
noncomputable def Law_EditPixels_j4 (t77 : ((Nat → Int) × Int)) (t83 : ((Nat → Int) × Int)) (x24 : Int) (x25 : Int) (m : (Nat → Int)) (m_2 : (Nat → Int)) : Option (Bool) :=
  bnd (Law_told_256_byte t77.1 t77.2 m x24) fun t180 =>
  cnd t180 (bnd (Law_told_3_byte t83.1 t83.2 m_2 x25) fun t186 =>
  some t186) (some false)
noncomputable def Law_EditPixels_j5 (t77 : ((Nat → Int) × Int)) (t83 : ((Nat → Int) × Int)) (x24 : Int) (x25 : Int) (m : (Nat → Int)) (m_3 : (Nat → Int)) : Option (Bool) :=
  Law_EditPixels_j4 t77 t83 x24 x25 m (ofL [(wU8 (m_3 0)), (wU8 (m_3 1)), (wU8 (m_3 2))])
noncomputable def Law_EditPixels_l6 (a0 : (List T_edit_Step)) (t77 : ((Nat → Int) × Int)) (t83 : ((Nat → Int) × Int)) (x24 : Int) (x25 : Int) (m : (Nat → Int)) (next6 : ((Int × (Nat → Int)) → Option (Bool))) (x158_2 : Int) (m_5 : (Nat → Int)) : Option (Bool) :=
  cnd (decide (x158_2 < (a0.length : Int))) (bnd (gAt a0 x158_2) fun t160 =>
  bnd (R_Dot t160 m_5) fun t164 =>
  bnd (gI (x158_2 + 1)) fun t165 =>
  next6 (t165, t164)) (Law_EditPixels_j5 t77 t83 x24 x25 m m_5)
noncomputable def Law_EditPixels_j3 (a0 : (List T_edit_Step)) (a5 : (Nat → Int)) (t77 : ((Nat → Int) × Int)) (t83 : ((Nat → Int) × Int)) (x24 : Int) (x25 : Int) (m : (Nat → Int)) : Option (Bool) :=
  cnd (decide (x25 = 0)) (bnd (gK (-9223372036854775808) 9223372036854775807 (a5 0)) fun t148 =>
  bnd (gK (-9223372036854775808) 9223372036854775807 (a5 1)) fun t151 =>
  bnd (gK (-9223372036854775808) 9223372036854775807 (a5 2)) fun t154 =>
  fix (fun next6 s => Law_EditPixels_l6 a0 t77 t83 x24 x25 m next6 s.1 s.2) (0, (ofL [t148, t151, t154]))) (Law_EditPixels_j4 t77 t83 x24 x25 m (fun _ => 0))
noncomputable def Law_EditPixels_j8 (x121_2 : Int) (next7 : ((Int × (Nat → Int)) → Option (Bool))) (m_8 : (Nat → Int)) : Option (Bool) :=
  bnd (gI (x121_2 + 1)) fun t143 =>
  next7 (t143, m_8)
noncomputable def Law_EditPixels_j9 (x121_2 : Int) (m_7 : (Nat → Int)) (next7 : ((Int × (Nat → Int)) → Option (Bool))) (m_9 : (Nat → Int)) : Option (Bool) :=
  bnd (gIx 256 x121_2) fun k142 =>
  Law_EditPixels_j8 x121_2 next7 (setA m_7 k142 (wU8 (m_9 0)))
noncomputable def Law_EditPixels_l10 (a0 : (List T_edit_Step)) (x121_2 : Int) (m_7 : (Nat → Int)) (next7 : ((Int × (Nat → Int)) → Option (Bool))) (next10 : ((Int × (Nat → Int)) → Option (Bool))) (x130_2 : Int) (m_11 : (Nat → Int)) : Option (Bool) :=
  cnd (decide (x130_2 < (a0.length : Int))) (bnd (gAt a0 x130_2) fun t132 =>
  bnd (R_Dot t132 m_11) fun t136 =>
  bnd (gI (x130_2 + 1)) fun t137 =>
  next10 (t137, t136)) (Law_EditPixels_j9 x121_2 m_7 next7 m_11)
noncomputable def Law_EditPixels_l7 (a0 : (List T_edit_Step)) (a5 : (Nat → Int)) (t77 : ((Nat → Int) × Int)) (t83 : ((Nat → Int) × Int)) (x24 : Int) (x25 : Int) (next7 : ((Int × (Nat → Int)) → Option (Bool))) (x121_2 : Int) (m_7 : (Nat → Int)) : Option (Bool) :=
  cnd (decide (x121_2 < 256)) (fix (fun next10 s => Law_EditPixels_l10 a0 x121_2 m_7 next7 next10 s.1 s.2) (0, (ofL [x121_2, x121_2, x121_2]))) (Law_EditPixels_j3 a0 a5 t77 t83 x24 x25 m_7)
noncomputable def Law_EditPixels_j2 (a0 : (List T_edit_Step)) (a5 : (Nat → Int)) (t77 : ((Nat → Int) × Int)) (t83 : ((Nat → Int) × Int)) (x24 : Int) (x25 : Int) : Option (Bool) :=
  cnd (decide (x24 = 0)) (fix (fun next7 s => Law_EditPixels_l7 a0 a5 t77 t83 x24 x25 next7 s.1 s.2) (0, (fun _ => 0))) (Law_EditPixels_j3 a0 a5 t77 t83 x24 x25 (fun _ => 0))
noncomputable def Law_EditPixels_j12 (x25_3 : Int) (x90_2 : Int) (next11 : ((Int × Int × Int) → Option (Bool))) (t92 : T_edit_Step) (x24_4 : Int) : Option (Bool) :=
  bnd (R_Shaped t92) fun t113 =>
  bnd (Law_unless (!t113) 10) fun t115 =>
  bnd (Law_first ([x25_3, t115] : List Int)) fun t117 =>
  bnd (gI (x90_2 + 1)) fun t118 =>
  next11 (x24_4, t117, t118)
noncomputable def Law_EditPixels_l11 (a0 : (List T_edit_Step)) (a5 : (Nat → Int)) (t77 : ((Nat → Int) × Int)) (t83 : ((Nat → Int) × Int)) (next11 : ((Int × Int × Int) → Option (Bool))) (x24_3 : Int) (x25_3 : Int) (x90_2 : Int) : Option (Bool) :=
  cnd (decide (x90_2 < (a0.length : Int))) (bnd (gAt a0 x90_2) fun t92 =>
  bnd (R_Shaped t92) fun t96 =>
  cnd (!t96) (cnd (decide (t92.Kind ≠ 7)) (bnd (Law_unless (decide (t92.Kind ≠ 8)) 10) fun t108 =>
  bnd (Law_first ([x24_3, t108] : List Int)) fun t110 =>
  Law_EditPixels_j12 x25_3 x90_2 next11 t92 t110) (bnd (Law_unless false 10) fun t108_2 =>
  bnd (Law_first ([x24_3, t108_2] : List Int)) fun t110_2 =>
  Law_EditPixels_j12 x25_3 x90_2 next11 t92 t110_2)) (bnd (Law_unless false 10) fun t108_3 =>
  bnd (Law_first ([x24_3, t108_3] : List Int)) fun t110_3 =>
  Law_EditPixels_j12 x25_3 x90_2 next11 t92 t110_3)) (Law_EditPixels_j2 a0 a5 t77 t83 x24_3 x25_3)
noncomputable def Law_EditPixels_j1 (a0 : (List T_edit_Step)) (a5 : (Nat → Int)) (t38 : (Int)) (t45 : (Int × Int × Int)) (x17 : Int) (x18 : Int) (x19 : Int) : Option (Bool) :=
  cnd (decide (t45.1 ≠ x17)) (some false) (cnd (decide (t45.2.1 ≠ x18)) (some false) (cnd (decide (t45.2.2 ≠ x19)) (some false) (bnd (edit_Curve a0) fun t77 =>
  bnd (edit_Pixel a0 a5) fun t83 =>
  fix (fun next11 s => Law_EditPixels_l11 a0 a5 t77 t83 next11 s.1 s.2.1 s.2.2) (t38, t38, 0))))
noncomputable def Law_EditPixels (a0 : (List T_edit_Step)) (a1 : Int) (a2 : Int) (a3 : Int) (a4 : Int) (a5 : (Nat → Int)) : Option (Bool) :=
  bnd (R_StepsFault a0) fun t38 =>
  bnd (edit_Comes a0 a1 a2 a3 a4) fun t45 =>
  cnd (decide (t38 = 0)) (bnd (R_ComesFrom a0 a1 a2 a3 a4) fun t58 =>
  Law_EditPixels_j1 a0 a5 t38 t45 t58.1 t58.2.1 t58.2.2) (Law_EditPixels_j1 a0 a5 t38 t45 0 0 t38)

end Go.M
