/- Recipes, keep-laws: the models, printed by our generator from the compiled program. Conditions: none. -/
import Derived.Test.YtinpjnlocahjjaaDoorMd4
namespace Go.M
open Go.Md
set_option maxRecDepth 100000
set_option linter.unusedVariables false

structure T_edit_Step where
  Kind : Int
  A : Int
  B : Int
  C : Int
  D : Int
instance : Inhabited T_edit_Step := ⟨⟨0, 0, 0, 0, 0⟩⟩

structure T_api_Image where
  W : Int
  H : Int
  Pixels : (List Int)
instance : Inhabited T_api_Image := ⟨⟨0, 0, []⟩⟩

structure T_pix_share where
  at_ : Int
  parts_ : Int
instance : Inhabited T_pix_share := ⟨⟨0, 0⟩⟩

def eq_edit_Step (x y : T_edit_Step) : Bool := decide (x.Kind = y.Kind ∧ x.A = y.A ∧ x.B = y.B ∧ x.C = y.C ∧ x.D = y.D)

/-! tintype/edit.Common -/
noncomputable def edit_Common_l1 (a0 : (List T_edit_Step)) (a1 : (List T_edit_Step)) (next1 : ((Int) → Option (Int))) (x5_2 : Int) : Option (Int) :=
  cnd (decide (x5_2 < (a0.length : Int))) (cnd (decide (x5_2 < (a1.length : Int))) (bnd (gAt a0 x5_2) fun t19 =>
  bnd (gAt a1 x5_2) fun t23 =>
  cnd (eq_edit_Step t19 t23) (bnd (gI (x5_2 + 1)) fun t28 =>
  next1 t28) (some x5_2)) (some x5_2)) (some x5_2)
noncomputable def edit_Common (a0 : (List T_edit_Step)) (a1 : (List T_edit_Step)) : Option (Int) :=
  fix (fun next1 s => edit_Common_l1 a0 a1 next1 s) 0

/-! slices.Concat[[]tintype/edit.Step,tintype/edit.Step] -/
noncomputable def slices_Concat_edit_Step_l2 (a0 : (List (List T_edit_Step))) (next2 : ((Int × (List T_edit_Step)) → Option ((List T_edit_Step)))) (x27_2 : Int) (l_2 : (List T_edit_Step)) : Option ((List T_edit_Step)) :=
  cnd (decide (x27_2 < (a0.length : Int))) (bnd (gAt a0 x27_2) fun t29 =>
  bnd (gApp 40 l_2 t29) fun l33 =>
  bnd (gI (x27_2 + 1)) fun t34 =>
  next2 (t34, l33)) (some l_2)
noncomputable def slices_Concat_edit_Step_j1 (a0 : (List (List T_edit_Step))) (x3 : Int) : Option ((List T_edit_Step)) :=
  bnd (gGrow 40 x3) fun u24 =>
  fix (fun next2 s => slices_Concat_edit_Step_l2 a0 next2 s.1 s.2) (0, ([] : List T_edit_Step))
noncomputable def slices_Concat_edit_Step_l3 (a0 : (List (List T_edit_Step))) (next3 : ((Int × Int) → Option ((List T_edit_Step)))) (x3_3 : Int) (x11_2 : Int) : Option ((List T_edit_Step)) :=
  cnd (decide (x11_2 < (a0.length : Int))) (bnd (gAt a0 x11_2) fun t13 =>
  bnd (gI (x3_3 + (t13.length : Int))) fun t18 =>
  cnd (decide (t18 < 0)) (none) (bnd (gI (x11_2 + 1)) fun t22 =>
  next3 (t18, t22))) (slices_Concat_edit_Step_j1 a0 x3_3)
noncomputable def slices_Concat_edit_Step (a0 : (List (List T_edit_Step))) : Option ((List T_edit_Step)) :=
  fix (fun next3 s => slices_Concat_edit_Step_l3 a0 next3 s.1 s.2) (0, 0)

/-! slices.Equal[[]tintype/edit.Step,tintype/edit.Step] -/
noncomputable def slices_Equal_edit_Step_l1 (a0 : (List T_edit_Step)) (a1 : (List T_edit_Step)) (next1 : ((Int) → Option (Bool))) (x13_2 : Int) : Option (Bool) :=
  cnd (decide (x13_2 < (a0.length : Int))) (bnd (gAt a0 x13_2) fun t18 =>
  bnd (gAt a1 x13_2) fun t22 =>
  cnd (!(eq_edit_Step t18 t22)) (some false) (bnd (gI (x13_2 + 1)) fun t25 =>
  next1 t25)) (some true)
noncomputable def slices_Equal_edit_Step (a0 : (List T_edit_Step)) (a1 : (List T_edit_Step)) : Option (Bool) :=
  cnd (decide ((a0.length : Int) ≠ (a1.length : Int))) (some false) (fix (fun next1 s => slices_Equal_edit_Step_l1 a0 a1 next1 s) 0)

/-! tintype/edit.Same -/
noncomputable def edit_Same (a0 : (List T_edit_Step)) (a1 : (List T_edit_Step)) : Option (Bool) :=
  bnd (slices_Equal_edit_Step a0 a1) fun t7 =>
  some t7

/-! tintype/edit.outside -/
noncomputable def edit_outside (a0 : Int) (a1 : Int) (a2 : Int) : Option (Bool) :=
  cnd (decide (a0 < a1)) (some true) (some (decide (a2 < a0)))

/-! tintype/edit.Shape -/
noncomputable def edit_Shape (a0 : T_edit_Step) : Option (Bool) :=
  bnd (edit_outside a0.Kind 1 3) fun t5 =>
  some (!t5)

/-! slices.IndexFunc[[]tintype/edit.Step,tintype/edit.Step] -/
noncomputable def slices_IndexFunc_edit_Step_l1 (a0 : (List T_edit_Step)) (a1 : (T_edit_Step → Option (Bool))) (next1 : ((Int) → Option (Int))) (x8_2 : Int) : Option (Int) :=
  cnd (decide (x8_2 < (a0.length : Int))) (bnd (gAt a0 x8_2) fun t14 =>
  bnd (a1 t14) fun t16 =>
  cnd t16 (some x8_2) (bnd (gI (x8_2 + 1)) fun t18 =>
  next1 t18)) (some (-1))
noncomputable def slices_IndexFunc_edit_Step (a0 : (List T_edit_Step)) (a1 : (T_edit_Step → Option (Bool))) : Option (Int) :=
  fix (fun next1 s => slices_IndexFunc_edit_Step_l1 a0 a1 next1 s) 0

/-! slices.ContainsFunc[[]tintype/edit.Step,tintype/edit.Step] -/
noncomputable def slices_ContainsFunc_edit_Step (a0 : (List T_edit_Step)) (a1 : (T_edit_Step → Option (Bool))) : Option (Bool) :=
  bnd (slices_IndexFunc_edit_Step a0 a1) fun t7 =>
  some (decide (0 ≤ t7))

/-! tintype/edit.word -/
noncomputable def edit_word (a0 : Int) : Option ((List UInt8) × Int) :=
  cnd (decide (a0 = 1)) (some ([116, 117, 114, 110], 1)) (cnd (decide (a0 = 2)) (some ([99, 114, 111, 112], 4)) (cnd (decide (a0 = 3)) (some ([115, 99, 97, 108, 101], 2)) (cnd (decide (a0 = 4)) (some ([108, 105, 103, 104, 116], 1)) (cnd (decide (a0 = 5)) (some ([115, 112, 114, 101, 97, 100], 1)) (cnd (decide (a0 = 6)) (some ([108, 101, 118, 101, 108, 115], 2)) (cnd (decide (a0 = 7)) (some ([119, 97, 114, 109], 1)) (cnd (decide (a0 = 8)) (some ([109, 117, 116, 101], 1)) (some ([105, 110, 118, 101, 114, 116], 0)))))))))

/-! (tintype/edit.Step).numbers -/
noncomputable def edit_Step_numbers (a0 : T_edit_Step) : Option ((List Int)) :=
  some ([a0.A, a0.B, a0.C, a0.D] : List Int)

/-! tintype/edit.bounds -/
noncomputable def edit_bounds (a0 : Int) : Option ((Nat → (Nat → Int))) :=
  cnd (decide (a0 = 1)) (some (ofL [(ofL [1, 8]), (fun _ => 0), (fun _ => 0), (fun _ => 0)])) (cnd (decide (a0 = 2)) (some (ofL [(ofL [0, 63]), (ofL [0, 63]), (ofL [1, 64]), (ofL [1, 64])])) (cnd (decide (a0 = 3)) (some (ofL [(ofL [1, 64]), (ofL [1, 64]), (fun _ => 0), (fun _ => 0)])) (cnd (decide (a0 = 4)) (some (ofL [(ofL [(-255), 255]), (fun _ => 0), (fun _ => 0), (fun _ => 0)])) (cnd (decide (a0 = 5)) (some (ofL [(ofL [0, 400]), (fun _ => 0), (fun _ => 0), (fun _ => 0)])) (cnd (decide (a0 = 6)) (some (ofL [(ofL [0, 255]), (ofL [0, 255]), (fun _ => 0), (fun _ => 0)])) (cnd (decide (a0 = 7)) (some (ofL [(ofL [(-100), 100]), (fun _ => 0), (fun _ => 0), (fun _ => 0)])) (cnd (decide (a0 = 8)) (some (ofL [(ofL [0, 100]), (fun _ => 0), (fun _ => 0), (fun _ => 0)])) (some (fun _ => (fun _ => 0))))))))))

/-! tintype/edit.CheckStep -/
noncomputable def edit_CheckStep_j2 (a0 : T_edit_Step) : Option (Int) :=
  cnd (decide (a0.Kind = 6)) (cnd (decide (a0.B ≤ a0.A)) (some 5) (some 0)) (some 0)
noncomputable def edit_CheckStep_l3 (a0 : T_edit_Step) (t35 : ((Nat → (Nat → Int)))) (t38 : (List Int)) (next3 : ((Int) → Option (Int))) (x40_2 : Int) : Option (Int) :=
  cnd (decide (x40_2 < (t38.length : Int))) (bnd (gAt t38 x40_2) fun t43 =>
  bnd (gIx 4 x40_2) fun k47 =>
  bnd (gIx 4 x40_2) fun k51 =>
  bnd (edit_outside t43 ((t35 k47) 0) ((t35 k51) 1)) fun t54 =>
  cnd t54 (some 2) (bnd (gI (x40_2 + 1)) fun t55 =>
  next3 t55)) (edit_CheckStep_j2 a0)
noncomputable def edit_CheckStep_j1 (a0 : T_edit_Step) (t17 : ((List UInt8) × Int)) (t21 : ((List Int))) : Option (Int) :=
  bnd (edit_bounds a0.Kind) fun t35 =>
  bnd (gCut t21 0 t17.2) fun t38 =>
  fix (fun next3 s => edit_CheckStep_l3 a0 t35 t38 next3 s) 0
noncomputable def edit_CheckStep_l4 (a0 : T_edit_Step) (t17 : ((List UInt8) × Int)) (t21 : ((List Int))) (t24 : (List Int)) (next4 : ((Int) → Option (Int))) (x26_2 : Int) : Option (Int) :=
  cnd (decide (x26_2 < (t24.length : Int))) (bnd (gAt t24 x26_2) fun t28 =>
  cnd (decide (t28 ≠ 0)) (some 1) (bnd (gI (x26_2 + 1)) fun t32 =>
  next4 t32)) (edit_CheckStep_j1 a0 t17 t21)
noncomputable def edit_CheckStep (a0 : T_edit_Step) : Option (Int) :=
  bnd (edit_outside a0.Kind 1 9) fun t13 =>
  cnd t13 (some 10) (bnd (edit_word a0.Kind) fun t17 =>
  bnd (edit_Step_numbers a0) fun t21 =>
  bnd (gCut t21 t17.2 t21.length) fun t24 =>
  fix (fun next4 s => edit_CheckStep_l4 a0 t17 t21 t24 next4 s) 0)

/-! tintype/edit.Check -/
noncomputable def edit_Check_l1 (a0 : (List T_edit_Step)) (next1 : ((Int) → Option (Int))) (x11_2 : Int) : Option (Int) :=
  cnd (decide (x11_2 < (a0.length : Int))) (bnd (gAt a0 x11_2) fun t13 =>
  bnd (edit_CheckStep t13) fun t16 =>
  cnd (decide (t16 ≠ 0)) (some t16) (bnd (gI (x11_2 + 1)) fun t20 =>
  next1 t20)) (some 0)
noncomputable def edit_Check (a0 : (List T_edit_Step)) : Option (Int) :=
  cnd (decide (50 < (a0.length : Int))) (some 4) (fix (fun next1 s => edit_Check_l1 a0 next1 s) 0)

/-! tintype/edit.checkAll -/
noncomputable def edit_checkAll_l1 (a0 : (List (List T_edit_Step))) (next1 : ((Int) → Option (Int))) (x8_2 : Int) : Option (Int) :=
  cnd (decide (x8_2 < (a0.length : Int))) (bnd (gAt a0 x8_2) fun t10 =>
  bnd (edit_Check t10) fun t13 =>
  cnd (decide (t13 ≠ 0)) (some t13) (bnd (gI (x8_2 + 1)) fun t17 =>
  next1 t17)) (some 0)
noncomputable def edit_checkAll (a0 : (List (List T_edit_Step))) : Option (Int) :=
  fix (fun next1 s => edit_checkAll_l1 a0 next1 s) 0

/-! slices.Clone[[]tintype/edit.Step,tintype/edit.Step] -/
noncomputable def slices_Clone_edit_Step (a0 : (List T_edit_Step)) : Option ((List T_edit_Step)) :=
  bnd (gApp 40 ([] : List T_edit_Step) a0) fun l7 =>
  some l7

/-! tintype/edit.Merge -/
noncomputable def edit_Merge_j1 (x15 : Bool) (l : (List T_edit_Step)) : Option ((List T_edit_Step) × Bool × Int) :=
  cnd (decide (50 < (l.length : Int))) (some (([] : List T_edit_Step), false, 4)) (bnd (slices_Clone_edit_Step l) fun t79 =>
  some (t79, x15, 0))
noncomputable def edit_Merge (a0 : (List T_edit_Step)) (a1 : (List T_edit_Step)) (a2 : (List T_edit_Step)) : Option ((List T_edit_Step) × Bool × Int) :=
  bnd (edit_checkAll ([a0, a1, a2] : List (List T_edit_Step))) fun t20 =>
  cnd (decide (t20 ≠ 0)) (some (([] : List T_edit_Step), false, t20)) (bnd (edit_Common a0 a1) fun t26 =>
  bnd (edit_Common a0 a2) fun t29 =>
  bnd (gCut a1 (min t26 t29) a1.length) fun t33 =>
  bnd (gCut a2 (min t26 t29) a2.length) fun t36 =>
  bnd (gCut a0 (min t26 t29) a0.length) fun t39 =>
  bnd (edit_Same t33 t39) fun t44 =>
  cnd t44 (edit_Merge_j1 false a2) (bnd (edit_Same t36 t39) fun t49 =>
  cnd t49 (edit_Merge_j1 false a1) (bnd (edit_Same t33 t36) fun t53 =>
  cnd t53 (edit_Merge_j1 false a1) (cnd (decide ((t39.length : Int) = 0)) (bnd (slices_Concat_edit_Step ([t33, t36] : List (List T_edit_Step))) fun t64 =>
  bnd (slices_ContainsFunc_edit_Step t64 edit_Shape) fun t65 =>
  cnd (!t65) (bnd (gCut a0 0 (min t26 t29)) fun t70 =>
  bnd (slices_Concat_edit_Step ([t70, t33, t36] : List (List T_edit_Step))) fun t74 =>
  edit_Merge_j1 false t74) (edit_Merge_j1 true a1)) (edit_Merge_j1 true a1)))))

/-! internal/strconv.small -/
noncomputable def internal_strconv_small (a0 : Int) : Option ((List UInt8)) :=
  cnd (decide (a0 < 10)) (bnd (gI (a0 + 1)) fun t7 =>
  bnd (gCut [48, 49, 50, 51, 52, 53, 54, 55, 56, 57, 97, 98, 99, 100, 101, 102, 103, 104, 105, 106, 107, 108, 109, 110, 111, 112, 113, 114, 115, 116, 117, 118, 119, 120, 121, 122] a0 t7) fun t8 =>
  some t8) (bnd (gI (a0 * 2)) fun t10 =>
  bnd (gI (a0 * 2)) fun t12 =>
  bnd (gI (t12 + 2)) fun t13 =>
  bnd (gCut [48, 48, 48, 49, 48, 50, 48, 51, 48, 52, 48, 53, 48, 54, 48, 55, 48, 56, 48, 57, 49, 48, 49, 49, 49, 50, 49, 51, 49, 52, 49, 53, 49, 54, 49, 55, 49, 56, 49, 57, 50, 48, 50, 49, 50, 50, 50, 51, 50, 52, 50, 53, 50, 54, 50, 55, 50, 56, 50, 57, 51, 48, 51, 49, 51, 50, 51, 51, 51, 52, 51, 53, 51, 54, 51, 55, 51, 56, 51, 57, 52, 48, 52, 49, 52, 50, 52, 51, 52, 52, 52, 53, 52, 54, 52, 55, 52, 56, 52, 57, 53, 48, 53, 49, 53, 50, 53, 51, 53, 52, 53, 53, 53, 54, 53, 55, 53, 56, 53, 57, 54, 48, 54, 49, 54, 50, 54, 51, 54, 52, 54, 53, 54, 54, 54, 55, 54, 56, 54, 57, 55, 48, 55, 49, 55, 50, 55, 51, 55, 52, 55, 53, 55, 54, 55, 55, 55, 56, 55, 57, 56, 48, 56, 49, 56, 50, 56, 51, 56, 52, 56, 53, 56, 54, 56, 55, 56, 56, 56, 57, 57, 48, 57, 49, 57, 50, 57, 51, 57, 52, 57, 53, 57, 54, 57, 55, 57, 56, 57, 57] t10 t13) fun t14 =>
  some t14)

/-! math/bits.Len64 -/
noncomputable def math_bits_Len64_j3 (x0_3 : Int) (x2_3 : Int) : Option (Int) :=
  bnd (gOct [0, 1, 2, 2, 3, 3, 3, 3, 4, 4, 4, 4, 4, 4, 4, 4, 5, 5, 5, 5, 5, 5, 5, 5, 5, 5, 5, 5, 5, 5, 5, 5, 6, 6, 6, 6, 6, 6, 6, 6, 6, 6, 6, 6, 6, 6, 6, 6, 6, 6, 6, 6, 6, 6, 6, 6, 6, 6, 6, 6, 6, 6, 6, 6, 7, 7, 7, 7, 7, 7, 7, 7, 7, 7, 7, 7, 7, 7, 7, 7, 7, 7, 7, 7, 7, 7, 7, 7, 7, 7, 7, 7, 7, 7, 7, 7, 7, 7, 7, 7, 7, 7, 7, 7, 7, 7, 7, 7, 7, 7, 7, 7, 7, 7, 7, 7, 7, 7, 7, 7, 7, 7, 7, 7, 7, 7, 7, 7, 8, 8, 8, 8, 8, 8, 8, 8, 8, 8, 8, 8, 8, 8, 8, 8, 8, 8, 8, 8, 8, 8, 8, 8, 8, 8, 8, 8, 8, 8, 8, 8, 8, 8, 8, 8, 8, 8, 8, 8, 8, 8, 8, 8, 8, 8, 8, 8, 8, 8, 8, 8, 8, 8, 8, 8, 8, 8, 8, 8, 8, 8, 8, 8, 8, 8, 8, 8, 8, 8, 8, 8, 8, 8, 8, 8, 8, 8, 8, 8, 8, 8, 8, 8, 8, 8, 8, 8, 8, 8, 8, 8, 8, 8, 8, 8, 8, 8, 8, 8, 8, 8, 8, 8, 8, 8, 8, 8, 8, 8, 8, 8, 8, 8, 8, 8, 8, 8, 8, 8, 8, 8, 8, 8, 8, 8, 8, 8] (wU8 x0_3)) fun t22 =>
  bnd (gK (-9223372036854775808) 9223372036854775807 t22) fun t23 =>
  bnd (gI (x2_3 + t23)) fun t24 =>
  some t24
noncomputable def math_bits_Len64_j2 (x0_2 : Int) (x2_2 : Int) : Option (Int) :=
  cnd (decide (256 ≤ x0_2)) (bnd (gShr 64 x0_2 8) fun t16 =>
  bnd (gI (x2_2 + 8)) fun t18 =>
  math_bits_Len64_j3 t16 t18) (math_bits_Len64_j3 x0_2 x2_2)
noncomputable def math_bits_Len64_j1 (x0 : Int) (x2 : Int) : Option (Int) :=
  cnd (decide (65536 ≤ x0)) (bnd (gShr 64 x0 16) fun t10 =>
  bnd (gI (x2 + 16)) fun t12 =>
  math_bits_Len64_j2 t10 t12) (math_bits_Len64_j2 x0 x2)
noncomputable def math_bits_Len64 (a0 : Int) : Option (Int) :=
  cnd (decide (4294967296 ≤ a0)) (bnd (gShr 64 a0 32) fun t6 =>
  math_bits_Len64_j1 t6 32) (math_bits_Len64_j1 a0 0)

/-! internal/strconv.log10Pow2 -/
noncomputable def internal_strconv_log10Pow2 (a0 : Int) : Option (Int) :=
  bnd (gI (a0 * 78913)) fun t4 =>
  bnd (gShr 64 t4 18) fun t5 =>
  some t5

/-! internal/strconv.bool2[int] -/
noncomputable def internal_strconv_bool2_int (a0 : Bool) : Option (Int) :=
  cnd a0 (some 1) (some 0)

/-! internal/strconv.formatBase10 -/
noncomputable def internal_strconv_formatBase10_j3 (x4_3 : Int) (x12_2 : Int) (l_3 : (List Int)) : Option ((List Int)) :=
  cnd (decide (0 < x4_3)) (bnd (gAt l_3 0) fun t166 =>
  bnd (gSet l_3 0 (wU8 (wU32 (48 + x12_2)))) fun l0 =>
  some l0) (some l_3)
noncomputable def internal_strconv_formatBase10_j2 (x4_2 : Int) (x12 : Int) (l_2 : (List Int)) : Option ((List Int)) :=
  cnd (decide (2 ≤ x4_2)) (bnd (gRem x12 100) fun t141 =>
  bnd (gQuoU 32 x12 100) fun t144 =>
  bnd (gI (x4_2 - 1)) fun t147 =>
  bnd (gI (x4_2 - 2)) fun t150 =>
  bnd (gOct [48, 48, 48, 49, 48, 50, 48, 51, 48, 52, 48, 53, 48, 54, 48, 55, 48, 56, 48, 57, 49, 48, 49, 49, 49, 50, 49, 51, 49, 52, 49, 53, 49, 54, 49, 55, 49, 56, 49, 57, 50, 48, 50, 49, 50, 50, 50, 51, 50, 52, 50, 53, 50, 54, 50, 55, 50, 56, 50, 57, 51, 48, 51, 49, 51, 50, 51, 51, 51, 52, 51, 53, 51, 54, 51, 55, 51, 56, 51, 57, 52, 48, 52, 49, 52, 50, 52, 51, 52, 52, 52, 53, 52, 54, 52, 55, 52, 56, 52, 57, 53, 48, 53, 49, 53, 50, 53, 51, 53, 52, 53, 53, 53, 54, 53, 55, 53, 56, 53, 57, 54, 48, 54, 49, 54, 50, 54, 51, 54, 52, 54, 53, 54, 54, 54, 55, 54, 56, 54, 57, 55, 48, 55, 49, 55, 50, 55, 51, 55, 52, 55, 53, 55, 54, 55, 55, 55, 56, 55, 57, 56, 48, 56, 49, 56, 50, 56, 51, 56, 52, 56, 53, 56, 54, 56, 55, 56, 56, 56, 57, 57, 48, 57, 49, 57, 50, 57, 51, 57, 52, 57, 53, 57, 54, 57, 55, 57, 56, 57, 57] (wU32 ((wU32 (t141 * 2)) + 1))) fun t153 =>
  bnd (gOct [48, 48, 48, 49, 48, 50, 48, 51, 48, 52, 48, 53, 48, 54, 48, 55, 48, 56, 48, 57, 49, 48, 49, 49, 49, 50, 49, 51, 49, 52, 49, 53, 49, 54, 49, 55, 49, 56, 49, 57, 50, 48, 50, 49, 50, 50, 50, 51, 50, 52, 50, 53, 50, 54, 50, 55, 50, 56, 50, 57, 51, 48, 51, 49, 51, 50, 51, 51, 51, 52, 51, 53, 51, 54, 51, 55, 51, 56, 51, 57, 52, 48, 52, 49, 52, 50, 52, 51, 52, 52, 52, 53, 52, 54, 52, 55, 52, 56, 52, 57, 53, 48, 53, 49, 53, 50, 53, 51, 53, 52, 53, 53, 53, 54, 53, 55, 53, 56, 53, 57, 54, 48, 54, 49, 54, 50, 54, 51, 54, 52, 54, 53, 54, 54, 54, 55, 54, 56, 54, 57, 55, 48, 55, 49, 55, 50, 55, 51, 55, 52, 55, 53, 55, 54, 55, 55, 55, 56, 55, 57, 56, 48, 56, 49, 56, 50, 56, 51, 56, 52, 56, 53, 56, 54, 56, 55, 56, 56, 56, 57, 57, 48, 57, 49, 57, 50, 57, 51, 57, 52, 57, 53, 57, 54, 57, 55, 57, 56, 57, 57] (wU32 (t141 * 2))) fun t155 =>
  bnd (gAt l_2 t147) fun t156 =>
  bnd (gSet l_2 t147 t153) fun l0_2 =>
  bnd (gAt l0_2 t150) fun t157 =>
  bnd (gSet l0_2 t150 t155) fun l0_3 =>
  bnd (gI (x4_2 - 2)) fun t159 =>
  internal_strconv_formatBase10_j3 t159 t144 l0_3) (internal_strconv_formatBase10_j3 x4_2 x12 l_2)
noncomputable def internal_strconv_formatBase10_j1 (x1 : Int) (x4 : Int) (l : (List Int)) : Option ((List Int)) :=
  cnd (decide (4 ≤ x4)) (bnd (gRem (wU32 x1) 10000) fun t101 =>
  bnd (gQuoU 32 (wU32 x1) 10000) fun t103 =>
  bnd (gQuoU 32 t101 100) fun t105 =>
  bnd (gRem t101 100) fun t108 =>
  bnd (gI (x4 - 1)) fun t112 =>
  bnd (gI (x4 - 2)) fun t115 =>
  bnd (gOct [48, 48, 48, 49, 48, 50, 48, 51, 48, 52, 48, 53, 48, 54, 48, 55, 48, 56, 48, 57, 49, 48, 49, 49, 49, 50, 49, 51, 49, 52, 49, 53, 49, 54, 49, 55, 49, 56, 49, 57, 50, 48, 50, 49, 50, 50, 50, 51, 50, 52, 50, 53, 50, 54, 50, 55, 50, 56, 50, 57, 51, 48, 51, 49, 51, 50, 51, 51, 51, 52, 51, 53, 51, 54, 51, 55, 51, 56, 51, 57, 52, 48, 52, 49, 52, 50, 52, 51, 52, 52, 52, 53, 52, 54, 52, 55, 52, 56, 52, 57, 53, 48, 53, 49, 53, 50, 53, 51, 53, 52, 53, 53, 53, 54, 53, 55, 53, 56, 53, 57, 54, 48, 54, 49, 54, 50, 54, 51, 54, 52, 54, 53, 54, 54, 54, 55, 54, 56, 54, 57, 55, 48, 55, 49, 55, 50, 55, 51, 55, 52, 55, 53, 55, 54, 55, 55, 55, 56, 55, 57, 56, 48, 56, 49, 56, 50, 56, 51, 56, 52, 56, 53, 56, 54, 56, 55, 56, 56, 56, 57, 57, 48, 57, 49, 57, 50, 57, 51, 57, 52, 57, 53, 57, 54, 57, 55, 57, 56, 57, 57] (wU32 ((wU32 (t108 * 2)) + 1))) fun t118 =>
  bnd (gOct [48, 48, 48, 49, 48, 50, 48, 51, 48, 52, 48, 53, 48, 54, 48, 55, 48, 56, 48, 57, 49, 48, 49, 49, 49, 50, 49, 51, 49, 52, 49, 53, 49, 54, 49, 55, 49, 56, 49, 57, 50, 48, 50, 49, 50, 50, 50, 51, 50, 52, 50, 53, 50, 54, 50, 55, 50, 56, 50, 57, 51, 48, 51, 49, 51, 50, 51, 51, 51, 52, 51, 53, 51, 54, 51, 55, 51, 56, 51, 57, 52, 48, 52, 49, 52, 50, 52, 51, 52, 52, 52, 53, 52, 54, 52, 55, 52, 56, 52, 57, 53, 48, 53, 49, 53, 50, 53, 51, 53, 52, 53, 53, 53, 54, 53, 55, 53, 56, 53, 57, 54, 48, 54, 49, 54, 50, 54, 51, 54, 52, 54, 53, 54, 54, 54, 55, 54, 56, 54, 57, 55, 48, 55, 49, 55, 50, 55, 51, 55, 52, 55, 53, 55, 54, 55, 55, 55, 56, 55, 57, 56, 48, 56, 49, 56, 50, 56, 51, 56, 52, 56, 53, 56, 54, 56, 55, 56, 56, 56, 57, 57, 48, 57, 49, 57, 50, 57, 51, 57, 52, 57, 53, 57, 54, 57, 55, 57, 56, 57, 57] (wU32 (t108 * 2))) fun t120 =>
  bnd (gAt l t112) fun t121 =>
  bnd (gSet l t112 t118) fun l0_4 =>
  bnd (gAt l0_4 t115) fun t122 =>
  bnd (gSet l0_4 t115 t120) fun l0_5 =>
  bnd (gI (x4 - 3)) fun t125 =>
  bnd (gI (x4 - 4)) fun t128 =>
  bnd (gOct [48, 48, 48, 49, 48, 50, 48, 51, 48, 52, 48, 53, 48, 54, 48, 55, 48, 56, 48, 57, 49, 48, 49, 49, 49, 50, 49, 51, 49, 52, 49, 53, 49, 54, 49, 55, 49, 56, 49, 57, 50, 48, 50, 49, 50, 50, 50, 51, 50, 52, 50, 53, 50, 54, 50, 55, 50, 56, 50, 57, 51, 48, 51, 49, 51, 50, 51, 51, 51, 52, 51, 53, 51, 54, 51, 55, 51, 56, 51, 57, 52, 48, 52, 49, 52, 50, 52, 51, 52, 52, 52, 53, 52, 54, 52, 55, 52, 56, 52, 57, 53, 48, 53, 49, 53, 50, 53, 51, 53, 52, 53, 53, 53, 54, 53, 55, 53, 56, 53, 57, 54, 48, 54, 49, 54, 50, 54, 51, 54, 52, 54, 53, 54, 54, 54, 55, 54, 56, 54, 57, 55, 48, 55, 49, 55, 50, 55, 51, 55, 52, 55, 53, 55, 54, 55, 55, 55, 56, 55, 57, 56, 48, 56, 49, 56, 50, 56, 51, 56, 52, 56, 53, 56, 54, 56, 55, 56, 56, 56, 57, 57, 48, 57, 49, 57, 50, 57, 51, 57, 52, 57, 53, 57, 54, 57, 55, 57, 56, 57, 57] (wU32 ((wU32 (t105 * 2)) + 1))) fun t131 =>
  bnd (gOct [48, 48, 48, 49, 48, 50, 48, 51, 48, 52, 48, 53, 48, 54, 48, 55, 48, 56, 48, 57, 49, 48, 49, 49, 49, 50, 49, 51, 49, 52, 49, 53, 49, 54, 49, 55, 49, 56, 49, 57, 50, 48, 50, 49, 50, 50, 50, 51, 50, 52, 50, 53, 50, 54, 50, 55, 50, 56, 50, 57, 51, 48, 51, 49, 51, 50, 51, 51, 51, 52, 51, 53, 51, 54, 51, 55, 51, 56, 51, 57, 52, 48, 52, 49, 52, 50, 52, 51, 52, 52, 52, 53, 52, 54, 52, 55, 52, 56, 52, 57, 53, 48, 53, 49, 53, 50, 53, 51, 53, 52, 53, 53, 53, 54, 53, 55, 53, 56, 53, 57, 54, 48, 54, 49, 54, 50, 54, 51, 54, 52, 54, 53, 54, 54, 54, 55, 54, 56, 54, 57, 55, 48, 55, 49, 55, 50, 55, 51, 55, 52, 55, 53, 55, 54, 55, 55, 55, 56, 55, 57, 56, 48, 56, 49, 56, 50, 56, 51, 56, 52, 56, 53, 56, 54, 56, 55, 56, 56, 56, 57, 57, 48, 57, 49, 57, 50, 57, 51, 57, 52, 57, 53, 57, 54, 57, 55, 57, 56, 57, 57] (wU32 (t105 * 2))) fun t133 =>
  bnd (gAt l0_5 t125) fun t134 =>
  bnd (gSet l0_5 t125 t131) fun l0_6 =>
  bnd (gAt l0_6 t128) fun t135 =>
  bnd (gSet l0_6 t128 t133) fun l0_7 =>
  bnd (gI (x4 - 4)) fun t137 =>
  internal_strconv_formatBase10_j2 t137 t103 l0_7) (internal_strconv_formatBase10_j2 x4 (wU32 x1) l)
noncomputable def internal_strconv_formatBase10_l4 (next4 : ((Int × Int × (List Int)) → Option ((List Int)))) (x1_3 : Int) (x4_5 : Int) (l_5 : (List Int)) : Option ((List Int)) :=
  cnd (decide (8 ≤ x4_5)) (bnd (gRem x1_3 100000000) fun t22 =>
  bnd (gQuoU 64 x1_3 100000000) fun t25 =>
  bnd (gQuoU 32 (wU32 t22) 10000) fun t27 =>
  bnd (gRem (wU32 t22) 10000) fun t29 =>
  bnd (gQuoU 32 t29 100) fun t31 =>
  bnd (gRem t29 100) fun t34 =>
  bnd (gQuoU 32 t27 100) fun t37 =>
  bnd (gRem t27 100) fun t40 =>
  bnd (gI (x4_5 - 1)) fun t44 =>
  bnd (gI (x4_5 - 2)) fun t47 =>
  bnd (gOct [48, 48, 48, 49, 48, 50, 48, 51, 48, 52, 48, 53, 48, 54, 48, 55, 48, 56, 48, 57, 49, 48, 49, 49, 49, 50, 49, 51, 49, 52, 49, 53, 49, 54, 49, 55, 49, 56, 49, 57, 50, 48, 50, 49, 50, 50, 50, 51, 50, 52, 50, 53, 50, 54, 50, 55, 50, 56, 50, 57, 51, 48, 51, 49, 51, 50, 51, 51, 51, 52, 51, 53, 51, 54, 51, 55, 51, 56, 51, 57, 52, 48, 52, 49, 52, 50, 52, 51, 52, 52, 52, 53, 52, 54, 52, 55, 52, 56, 52, 57, 53, 48, 53, 49, 53, 50, 53, 51, 53, 52, 53, 53, 53, 54, 53, 55, 53, 56, 53, 57, 54, 48, 54, 49, 54, 50, 54, 51, 54, 52, 54, 53, 54, 54, 54, 55, 54, 56, 54, 57, 55, 48, 55, 49, 55, 50, 55, 51, 55, 52, 55, 53, 55, 54, 55, 55, 55, 56, 55, 57, 56, 48, 56, 49, 56, 50, 56, 51, 56, 52, 56, 53, 56, 54, 56, 55, 56, 56, 56, 57, 57, 48, 57, 49, 57, 50, 57, 51, 57, 52, 57, 53, 57, 54, 57, 55, 57, 56, 57, 57] (wU32 ((wU32 (t34 * 2)) + 1))) fun t50 =>
  bnd (gOct [48, 48, 48, 49, 48, 50, 48, 51, 48, 52, 48, 53, 48, 54, 48, 55, 48, 56, 48, 57, 49, 48, 49, 49, 49, 50, 49, 51, 49, 52, 49, 53, 49, 54, 49, 55, 49, 56, 49, 57, 50, 48, 50, 49, 50, 50, 50, 51, 50, 52, 50, 53, 50, 54, 50, 55, 50, 56, 50, 57, 51, 48, 51, 49, 51, 50, 51, 51, 51, 52, 51, 53, 51, 54, 51, 55, 51, 56, 51, 57, 52, 48, 52, 49, 52, 50, 52, 51, 52, 52, 52, 53, 52, 54, 52, 55, 52, 56, 52, 57, 53, 48, 53, 49, 53, 50, 53, 51, 53, 52, 53, 53, 53, 54, 53, 55, 53, 56, 53, 57, 54, 48, 54, 49, 54, 50, 54, 51, 54, 52, 54, 53, 54, 54, 54, 55, 54, 56, 54, 57, 55, 48, 55, 49, 55, 50, 55, 51, 55, 52, 55, 53, 55, 54, 55, 55, 55, 56, 55, 57, 56, 48, 56, 49, 56, 50, 56, 51, 56, 52, 56, 53, 56, 54, 56, 55, 56, 56, 56, 57, 57, 48, 57, 49, 57, 50, 57, 51, 57, 52, 57, 53, 57, 54, 57, 55, 57, 56, 57, 57] (wU32 (t34 * 2))) fun t52 =>
  bnd (gAt l_5 t44) fun t53 =>
  bnd (gSet l_5 t44 t50) fun l0_8 =>
  bnd (gAt l0_8 t47) fun t54 =>
  bnd (gSet l0_8 t47 t52) fun l0_9 =>
  bnd (gI (x4_5 - 3)) fun t57 =>
  bnd (gI (x4_5 - 4)) fun t60 =>
  bnd (gOct [48, 48, 48, 49, 48, 50, 48, 51, 48, 52, 48, 53, 48, 54, 48, 55, 48, 56, 48, 57, 49, 48, 49, 49, 49, 50, 49, 51, 49, 52, 49, 53, 49, 54, 49, 55, 49, 56, 49, 57, 50, 48, 50, 49, 50, 50, 50, 51, 50, 52, 50, 53, 50, 54, 50, 55, 50, 56, 50, 57, 51, 48, 51, 49, 51, 50, 51, 51, 51, 52, 51, 53, 51, 54, 51, 55, 51, 56, 51, 57, 52, 48, 52, 49, 52, 50, 52, 51, 52, 52, 52, 53, 52, 54, 52, 55, 52, 56, 52, 57, 53, 48, 53, 49, 53, 50, 53, 51, 53, 52, 53, 53, 53, 54, 53, 55, 53, 56, 53, 57, 54, 48, 54, 49, 54, 50, 54, 51, 54, 52, 54, 53, 54, 54, 54, 55, 54, 56, 54, 57, 55, 48, 55, 49, 55, 50, 55, 51, 55, 52, 55, 53, 55, 54, 55, 55, 55, 56, 55, 57, 56, 48, 56, 49, 56, 50, 56, 51, 56, 52, 56, 53, 56, 54, 56, 55, 56, 56, 56, 57, 57, 48, 57, 49, 57, 50, 57, 51, 57, 52, 57, 53, 57, 54, 57, 55, 57, 56, 57, 57] (wU32 ((wU32 (t31 * 2)) + 1))) fun t63 =>
  bnd (gOct [48, 48, 48, 49, 48, 50, 48, 51, 48, 52, 48, 53, 48, 54, 48, 55, 48, 56, 48, 57, 49, 48, 49, 49, 49, 50, 49, 51, 49, 52, 49, 53, 49, 54, 49, 55, 49, 56, 49, 57, 50, 48, 50, 49, 50, 50, 50, 51, 50, 52, 50, 53, 50, 54, 50, 55, 50, 56, 50, 57, 51, 48, 51, 49, 51, 50, 51, 51, 51, 52, 51, 53, 51, 54, 51, 55, 51, 56, 51, 57, 52, 48, 52, 49, 52, 50, 52, 51, 52, 52, 52, 53, 52, 54, 52, 55, 52, 56, 52, 57, 53, 48, 53, 49, 53, 50, 53, 51, 53, 52, 53, 53, 53, 54, 53, 55, 53, 56, 53, 57, 54, 48, 54, 49, 54, 50, 54, 51, 54, 52, 54, 53, 54, 54, 54, 55, 54, 56, 54, 57, 55, 48, 55, 49, 55, 50, 55, 51, 55, 52, 55, 53, 55, 54, 55, 55, 55, 56, 55, 57, 56, 48, 56, 49, 56, 50, 56, 51, 56, 52, 56, 53, 56, 54, 56, 55, 56, 56, 56, 57, 57, 48, 57, 49, 57, 50, 57, 51, 57, 52, 57, 53, 57, 54, 57, 55, 57, 56, 57, 57] (wU32 (t31 * 2))) fun t65 =>
  bnd (gAt l0_9 t57) fun t66 =>
  bnd (gSet l0_9 t57 t63) fun l0_10 =>
  bnd (gAt l0_10 t60) fun t67 =>
  bnd (gSet l0_10 t60 t65) fun l0_11 =>
  bnd (gI (x4_5 - 5)) fun t70 =>
  bnd (gI (x4_5 - 6)) fun t73 =>
  bnd (gOct [48, 48, 48, 49, 48, 50, 48, 51, 48, 52, 48, 53, 48, 54, 48, 55, 48, 56, 48, 57, 49, 48, 49, 49, 49, 50, 49, 51, 49, 52, 49, 53, 49, 54, 49, 55, 49, 56, 49, 57, 50, 48, 50, 49, 50, 50, 50, 51, 50, 52, 50, 53, 50, 54, 50, 55, 50, 56, 50, 57, 51, 48, 51, 49, 51, 50, 51, 51, 51, 52, 51, 53, 51, 54, 51, 55, 51, 56, 51, 57, 52, 48, 52, 49, 52, 50, 52, 51, 52, 52, 52, 53, 52, 54, 52, 55, 52, 56, 52, 57, 53, 48, 53, 49, 53, 50, 53, 51, 53, 52, 53, 53, 53, 54, 53, 55, 53, 56, 53, 57, 54, 48, 54, 49, 54, 50, 54, 51, 54, 52, 54, 53, 54, 54, 54, 55, 54, 56, 54, 57, 55, 48, 55, 49, 55, 50, 55, 51, 55, 52, 55, 53, 55, 54, 55, 55, 55, 56, 55, 57, 56, 48, 56, 49, 56, 50, 56, 51, 56, 52, 56, 53, 56, 54, 56, 55, 56, 56, 56, 57, 57, 48, 57, 49, 57, 50, 57, 51, 57, 52, 57, 53, 57, 54, 57, 55, 57, 56, 57, 57] (wU32 ((wU32 (t40 * 2)) + 1))) fun t76 =>
  bnd (gOct [48, 48, 48, 49, 48, 50, 48, 51, 48, 52, 48, 53, 48, 54, 48, 55, 48, 56, 48, 57, 49, 48, 49, 49, 49, 50, 49, 51, 49, 52, 49, 53, 49, 54, 49, 55, 49, 56, 49, 57, 50, 48, 50, 49, 50, 50, 50, 51, 50, 52, 50, 53, 50, 54, 50, 55, 50, 56, 50, 57, 51, 48, 51, 49, 51, 50, 51, 51, 51, 52, 51, 53, 51, 54, 51, 55, 51, 56, 51, 57, 52, 48, 52, 49, 52, 50, 52, 51, 52, 52, 52, 53, 52, 54, 52, 55, 52, 56, 52, 57, 53, 48, 53, 49, 53, 50, 53, 51, 53, 52, 53, 53, 53, 54, 53, 55, 53, 56, 53, 57, 54, 48, 54, 49, 54, 50, 54, 51, 54, 52, 54, 53, 54, 54, 54, 55, 54, 56, 54, 57, 55, 48, 55, 49, 55, 50, 55, 51, 55, 52, 55, 53, 55, 54, 55, 55, 55, 56, 55, 57, 56, 48, 56, 49, 56, 50, 56, 51, 56, 52, 56, 53, 56, 54, 56, 55, 56, 56, 56, 57, 57, 48, 57, 49, 57, 50, 57, 51, 57, 52, 57, 53, 57, 54, 57, 55, 57, 56, 57, 57] (wU32 (t40 * 2))) fun t78 =>
  bnd (gAt l0_11 t70) fun t79 =>
  bnd (gSet l0_11 t70 t76) fun l0_12 =>
  bnd (gAt l0_12 t73) fun t80 =>
  bnd (gSet l0_12 t73 t78) fun l0_13 =>
  bnd (gI (x4_5 - 7)) fun t83 =>
  bnd (gI (x4_5 - 8)) fun t86 =>
  bnd (gOct [48, 48, 48, 49, 48, 50, 48, 51, 48, 52, 48, 53, 48, 54, 48, 55, 48, 56, 48, 57, 49, 48, 49, 49, 49, 50, 49, 51, 49, 52, 49, 53, 49, 54, 49, 55, 49, 56, 49, 57, 50, 48, 50, 49, 50, 50, 50, 51, 50, 52, 50, 53, 50, 54, 50, 55, 50, 56, 50, 57, 51, 48, 51, 49, 51, 50, 51, 51, 51, 52, 51, 53, 51, 54, 51, 55, 51, 56, 51, 57, 52, 48, 52, 49, 52, 50, 52, 51, 52, 52, 52, 53, 52, 54, 52, 55, 52, 56, 52, 57, 53, 48, 53, 49, 53, 50, 53, 51, 53, 52, 53, 53, 53, 54, 53, 55, 53, 56, 53, 57, 54, 48, 54, 49, 54, 50, 54, 51, 54, 52, 54, 53, 54, 54, 54, 55, 54, 56, 54, 57, 55, 48, 55, 49, 55, 50, 55, 51, 55, 52, 55, 53, 55, 54, 55, 55, 55, 56, 55, 57, 56, 48, 56, 49, 56, 50, 56, 51, 56, 52, 56, 53, 56, 54, 56, 55, 56, 56, 56, 57, 57, 48, 57, 49, 57, 50, 57, 51, 57, 52, 57, 53, 57, 54, 57, 55, 57, 56, 57, 57] (wU32 ((wU32 (t37 * 2)) + 1))) fun t89 =>
  bnd (gOct [48, 48, 48, 49, 48, 50, 48, 51, 48, 52, 48, 53, 48, 54, 48, 55, 48, 56, 48, 57, 49, 48, 49, 49, 49, 50, 49, 51, 49, 52, 49, 53, 49, 54, 49, 55, 49, 56, 49, 57, 50, 48, 50, 49, 50, 50, 50, 51, 50, 52, 50, 53, 50, 54, 50, 55, 50, 56, 50, 57, 51, 48, 51, 49, 51, 50, 51, 51, 51, 52, 51, 53, 51, 54, 51, 55, 51, 56, 51, 57, 52, 48, 52, 49, 52, 50, 52, 51, 52, 52, 52, 53, 52, 54, 52, 55, 52, 56, 52, 57, 53, 48, 53, 49, 53, 50, 53, 51, 53, 52, 53, 53, 53, 54, 53, 55, 53, 56, 53, 57, 54, 48, 54, 49, 54, 50, 54, 51, 54, 52, 54, 53, 54, 54, 54, 55, 54, 56, 54, 57, 55, 48, 55, 49, 55, 50, 55, 51, 55, 52, 55, 53, 55, 54, 55, 55, 55, 56, 55, 57, 56, 48, 56, 49, 56, 50, 56, 51, 56, 52, 56, 53, 56, 54, 56, 55, 56, 56, 56, 57, 57, 48, 57, 49, 57, 50, 57, 51, 57, 52, 57, 53, 57, 54, 57, 55, 57, 56, 57, 57] (wU32 (t37 * 2))) fun t91 =>
  bnd (gAt l0_13 t83) fun t92 =>
  bnd (gSet l0_13 t83 t89) fun l0_14 =>
  bnd (gAt l0_14 t86) fun t93 =>
  bnd (gSet l0_14 t86 t91) fun l0_15 =>
  bnd (gI (x4_5 - 8)) fun t95 =>
  next4 (t25, t95, l0_15)) (internal_strconv_formatBase10_j1 x1_3 x4_5 l_5)
noncomputable def internal_strconv_formatBase10 (a0 : (List Int)) (a1 : Int) : Option ((List Int)) :=
  fix (fun next4 s => internal_strconv_formatBase10_l4 next4 s.1 s.2.1 s.2.2) (a1, (a0.length : Int), a0)

/-! internal/strconv.isPowerOfTwo -/
noncomputable def internal_strconv_isPowerOfTwo (a0 : Int) : Option (Bool) :=
  bnd (gI (a0 - 1)) fun t5 =>
  some (decide ((wI64 (bAnd 64 a0 t5)) = 0))

/-! math/bits.TrailingZeros32 -/
noncomputable def math_bits_TrailingZeros32 (a0 : Int) : Option (Int) :=
  cnd (decide (a0 = 0)) (some 32) (none)

/-! math/bits.TrailingZeros64 -/
noncomputable def math_bits_TrailingZeros64 (a0 : Int) : Option (Int) :=
  cnd (decide (a0 = 0)) (some 64) (none)

/-! math/bits.TrailingZeros -/
noncomputable def math_bits_TrailingZeros (a0 : Int) : Option (Int) :=
  bnd (math_bits_TrailingZeros64 a0) fun t7 =>
  some t7

/-! internal/strconv.formatBits -/
noncomputable def internal_strconv_formatBits_j3 (x13_2 : Int) (m_2 : (Nat → Int)) : Option ((List Int) × (List UInt8)) :=
  none
noncomputable def internal_strconv_formatBits_j2 (a3 : Bool) (x13 : Int) (m : (Nat → Int)) : Option ((List Int) × (List UInt8)) :=
  cnd a3 (bnd (gI (x13 - 1)) fun t91 =>
  bnd (gIx 65 t91) fun k93 =>
  internal_strconv_formatBits_j3 t91 (setA m k93 45)) (internal_strconv_formatBits_j3 x13 m)
noncomputable def internal_strconv_formatBits_j4 (a3 : Bool) (x1_2 : Int) (x13_3 : Int) (m_3 : (Nat → Int)) : Option ((List Int) × (List UInt8)) :=
  bnd (gI (x13_3 - 1)) fun t59 =>
  bnd (gOct [48, 49, 50, 51, 52, 53, 54, 55, 56, 57, 97, 98, 99, 100, 101, 102, 103, 104, 105, 106, 107, 108, 109, 110, 111, 112, 113, 114, 115, 116, 117, 118, 119, 120, 121, 122] x1_2) fun t62 =>
  bnd (gIx 65 t59) fun k63 =>
  internal_strconv_formatBits_j2 a3 t59 (setA m_3 k63 t62)
noncomputable def internal_strconv_formatBits_l5 (a2 : Int) (a3 : Bool) (t37 : (Int)) (next5 : ((Int × Int × (Nat → Int)) → Option ((List Int) × (List UInt8)))) (x1_4 : Int) (x13_5 : Int) (m_5 : (Nat → Int)) : Option ((List Int) × (List UInt8)) :=
  cnd (decide ((wU64 a2) ≤ x1_4)) (bnd (gI (x13_5 - 1)) fun t48 =>
  bnd (gOct [48, 49, 50, 51, 52, 53, 54, 55, 56, 57, 97, 98, 99, 100, 101, 102, 103, 104, 105, 106, 107, 108, 109, 110, 111, 112, 113, 114, 115, 116, 117, 118, 119, 120, 121, 122] (wU64 (bAnd 64 x1_4 (wU64 ((wU64 a2) - 1))))) fun t53 =>
  bnd (gIx 65 t48) fun k54 =>
  bnd (gShr 64 x1_4 (wU64 t37)) fun t57 =>
  next5 (t57, t48, (setA m_5 k54 t53))) (internal_strconv_formatBits_j4 a3 x1_4 x13_5 m_5)
noncomputable def internal_strconv_formatBits_j6 (a3 : Bool) (x1_5 : Int) (x13_6 : Int) (m_6 : (Nat → Int)) : Option ((List Int) × (List UInt8)) :=
  bnd (gI (x13_6 - 1)) fun t84 =>
  bnd (gOct [48, 49, 50, 51, 52, 53, 54, 55, 56, 57, 97, 98, 99, 100, 101, 102, 103, 104, 105, 106, 107, 108, 109, 110, 111, 112, 113, 114, 115, 116, 117, 118, 119, 120, 121, 122] x1_5) fun t87 =>
  bnd (gIx 65 t84) fun k88 =>
  internal_strconv_formatBits_j2 a3 t84 (setA m_6 k88 t87)
noncomputable def internal_strconv_formatBits_l7 (a2 : Int) (a3 : Bool) (next7 : ((Int × Int × (Nat → Int)) → Option ((List Int) × (List UInt8)))) (x1_7 : Int) (x13_8 : Int) (m_8 : (Nat → Int)) : Option ((List Int) × (List UInt8)) :=
  cnd (decide ((wU64 a2) ≤ x1_7)) (bnd (gI (x13_8 - 1)) fun t70 =>
  bnd (gQuoU 64 x1_7 (wU64 a2)) fun t73 =>
  bnd (gOct [48, 49, 50, 51, 52, 53, 54, 55, 56, 57, 97, 98, 99, 100, 101, 102, 103, 104, 105, 106, 107, 108, 109, 110, 111, 112, 113, 114, 115, 116, 117, 118, 119, 120, 121, 122] (wU64 (x1_7 - (wU64 (t73 * (wU64 a2)))))) fun t80 =>
  bnd (gIx 65 t70) fun k81 =>
  next7 (t73, t70, (setA m_8 k81 t80))) (internal_strconv_formatBits_j6 a3 x1_7 x13_8 m_8)
noncomputable def internal_strconv_formatBits_j1 (a2 : Int) (a3 : Bool) (x1 : Int) : Option ((List Int) × (List UInt8)) :=
  bnd (internal_strconv_isPowerOfTwo a2) fun t34 =>
  cnd t34 (bnd (math_bits_TrailingZeros (wU64 a2)) fun t37 =>
  fix (fun next5 s => internal_strconv_formatBits_l5 a2 a3 t37 next5 s.1 s.2.1 s.2.2) (x1, 65, (fun _ => 0))) (fix (fun next7 s => internal_strconv_formatBits_l7 a2 a3 next7 s.1 s.2.1 s.2.2) (x1, 65, (fun _ => 0)))
noncomputable def internal_strconv_formatBits (a0 : (List Int)) (a1 : Int) (a2 : Int) (a3 : Bool) (a4 : Bool) : Option ((List Int) × (List UInt8)) :=
  cnd (decide (a2 < 2)) (none) (cnd (decide (a2 = 10)) (none) (cnd (decide (36 < a2)) (none) (cnd a3 (internal_strconv_formatBits_j1 a2 a3 (wU64 (0 - a1))) (internal_strconv_formatBits_j1 a2 a3 a1))))

/-! internal/strconv.FormatInt -/
noncomputable def internal_strconv_FormatInt_j2 (x6 : Int) : Option ((List UInt8)) :=
  none
noncomputable def internal_strconv_FormatInt_j1 (a0 : Int) : Option ((List UInt8)) :=
  cnd (decide (a0 < 0)) (internal_strconv_FormatInt_j2 (wU64 (0 - (wU64 a0)))) (internal_strconv_FormatInt_j2 (wU64 a0))
noncomputable def internal_strconv_FormatInt (a0 : Int) (a1 : Int) : Option ((List UInt8)) :=
  cnd (decide (a1 = 10)) (cnd (decide (0 ≤ a0)) (cnd (decide (a0 < 100)) (bnd (internal_strconv_small a0) fun t19 =>
  some t19) (internal_strconv_FormatInt_j1 a0)) (internal_strconv_FormatInt_j1 a0)) (bnd (internal_strconv_formatBits ([] : (List Int)) (wU64 a0) a1 (decide (a0 < 0)) false) fun t50 =>
  some t50.2)

/-! internal/strconv.Itoa -/
noncomputable def internal_strconv_Itoa (a0 : Int) : Option ((List UInt8)) :=
  bnd (internal_strconv_FormatInt a0 10) fun t4 =>
  some t4

/-! strconv.Itoa -/
noncomputable def strconv_Itoa (a0 : Int) : Option ((List UInt8)) :=
  bnd (internal_strconv_Itoa a0) fun t4 =>
  some t4

/-! (tintype/edit.Step).line -/
noncomputable def edit_Step_line_l1 (t16 : (List Int)) (next1 : (((List UInt8) × Int) → Option ((List UInt8)))) (x3_2 : (List UInt8)) (x18_2 : Int) : Option ((List UInt8)) :=
  cnd (decide (x18_2 < (t16.length : Int))) (bnd (gAt t16 x18_2) fun t20 =>
  bnd (strconv_Itoa t20) fun t24 =>
  bnd (gCat [32] t24) fun t25 =>
  bnd (gCat x3_2 t25) fun t26 =>
  bnd (gI (x18_2 + 1)) fun t27 =>
  next1 (t26, t27)) (some x3_2)
noncomputable def edit_Step_line (a0 : T_edit_Step) : Option ((List UInt8)) :=
  bnd (edit_word a0.Kind) fun t10 =>
  bnd (edit_Step_numbers a0) fun t14 =>
  bnd (gCut t14 0 t10.2) fun t16 =>
  fix (fun next1 s => edit_Step_line_l1 t16 next1 s.1 s.2) (t10.1, 0)

/-! tintype/edit.Text -/
noncomputable def edit_Text_j1 (m : (List UInt8)) : Option ((List UInt8) × Int) :=
  some (m, 0)
noncomputable def edit_Text_l2 (a0 : (List T_edit_Step)) (next2 : ((Int × (List UInt8)) → Option ((List UInt8) × Int))) (x15_2 : Int) (m_3 : (List UInt8)) : Option ((List UInt8) × Int) :=
  cnd (decide (x15_2 < (a0.length : Int))) (bnd (gAt a0 x15_2) fun t17 =>
  bnd (edit_Step_line t17) fun t20 =>
  bnd (gCat t20 [10]) fun t21 =>
  bnd (gBld m_3 t21) fun t22 =>
  bnd (gI (x15_2 + 1)) fun t23 =>
  next2 (t23, t22)) (edit_Text_j1 m_3)
noncomputable def edit_Text (a0 : (List T_edit_Step)) : Option ((List UInt8) × Int) :=
  bnd (edit_Check a0) fun t9 =>
  cnd (decide (t9 ≠ 0)) (some ([], t9)) (fix (fun next2 s => edit_Text_l2 a0 next2 s.1 s.2) (0, []))

/-! tintype/tintkeep2.awakeEdit -/
noncomputable def Keep_awakeEdit  : Option (Bool) :=
  bnd (edit_Text ([(⟨9, 0, 0, 0, 0⟩ : T_edit_Step)] : List T_edit_Step)) fun t6 =>
  cnd (decide (t6.2 = 0)) (some (decide (t6.1 = [105, 110, 118, 101, 114, 116, 10]))) (some false)

/-! slices.Index[[]tintype/edit.Step,tintype/edit.Step] -/
noncomputable def slices_Index_edit_Step_l1 (a0 : (List T_edit_Step)) (a1 : T_edit_Step) (next1 : ((Int) → Option (Int))) (x8_2 : Int) : Option (Int) :=
  cnd (decide (x8_2 < (a0.length : Int))) (bnd (gAt a0 x8_2) fun t14 =>
  cnd (eq_edit_Step a1 t14) (some x8_2) (bnd (gI (x8_2 + 1)) fun t18 =>
  next1 t18)) (some (-1))
noncomputable def slices_Index_edit_Step (a0 : (List T_edit_Step)) (a1 : T_edit_Step) : Option (Int) :=
  fix (fun next1 s => slices_Index_edit_Step_l1 a0 a1 next1 s) 0

/-! slices.Contains[[]tintype/edit.Step,tintype/edit.Step] -/
noncomputable def slices_Contains_edit_Step (a0 : (List T_edit_Step)) (a1 : T_edit_Step) : Option (Bool) :=
  bnd (slices_Index_edit_Step a0 a1) fun t7 =>
  some (decide (0 ≤ t7))

/-! tintype/tintkeep2.EditMerges -/
noncomputable def Keep_EditMerges_j1 (a1 : (List T_edit_Step)) (t27 : ((List T_edit_Step) × Bool × Int)) : Option (Bool) :=
  cnd (!t27.2.1) (some true) (bnd (edit_Same t27.1 a1) fun t105 =>
  some t105)
noncomputable def Keep_EditMerges_j3 (x75_2 : Int) (next2 : ((Int) → Option (Bool))) : Option (Bool) :=
  bnd (gI (x75_2 + 1)) fun t99 =>
  next2 t99
noncomputable def Keep_EditMerges_j5 (x86_2 : Int) (next4 : ((Int) → Option (Bool))) : Option (Bool) :=
  bnd (gI (x86_2 + 1)) fun t98 =>
  next4 t98
noncomputable def Keep_EditMerges_l4 (t27 : ((List T_edit_Step) × Bool × Int)) (x75_2 : Int) (next2 : ((Int) → Option (Bool))) (t84 : (List T_edit_Step)) (next4 : ((Int) → Option (Bool))) (x86_2 : Int) : Option (Bool) :=
  cnd (decide (x86_2 < (t84.length : Int))) (bnd (gAt t84 x86_2) fun t88 =>
  cnd (!t27.2.1) (bnd (slices_Contains_edit_Step t27.1 t88) fun t95 =>
  cnd (!t95) (some false) (Keep_EditMerges_j5 x86_2 next4)) (Keep_EditMerges_j5 x86_2 next4)) (Keep_EditMerges_j3 x75_2 next2)
noncomputable def Keep_EditMerges_l2 (a0 : (List T_edit_Step)) (a1 : (List T_edit_Step)) (a2 : (List T_edit_Step)) (t27 : ((List T_edit_Step) × Bool × Int)) (next2 : ((Int) → Option (Bool))) (x75_2 : Int) : Option (Bool) :=
  cnd (decide (x75_2 < 2)) (bnd (gAt ([a1, a2] : List (List T_edit_Step)) x75_2) fun t77 =>
  bnd (edit_Common t77 a0) fun t81 =>
  bnd (gCut t77 t81 t77.length) fun t84 =>
  fix (fun next4 s => Keep_EditMerges_l4 t27 x75_2 next2 t84 next4 s) 0) (Keep_EditMerges_j1 a1 t27)
noncomputable def Keep_EditMerges (a0 : (List T_edit_Step)) (a1 : (List T_edit_Step)) (a2 : (List T_edit_Step)) : Option (Bool) :=
  bnd (Keep_awakeEdit) fun t21 =>
  cnd (!t21) (some false) (bnd (edit_Merge a0 a1 a2) fun t27 =>
  cnd (decide (t27.2.2 ≠ 0)) (some true) (bnd (edit_Merge a0 a1 a0) fun t37 =>
  cnd (decide (t37.2.2 ≠ 0)) (some false) (cnd t37.2.1 (some false) (bnd (edit_Same t37.1 a1) fun t49 =>
  cnd (!t49) (some false) (bnd (edit_Merge a0 a0 a2) fun t56 =>
  cnd (decide (t56.2.2 ≠ 0)) (some false) (cnd t56.2.1 (some false) (bnd (edit_Same t56.1 a2) fun t68 =>
  cnd (!t68) (some false) (fix (fun next2 s => Keep_EditMerges_l2 a0 a1 a2 t27 next2 s) 0))))))))

/-! tintype/pix.outside -/
noncomputable def pix_outside (a0 : Int) (a1 : Int) (a2 : Int) : Option (Bool) :=
  cnd (decide (a0 < a1)) (some true) (some (decide (a2 < a0)))

/-! tintype/pix.Check -/
noncomputable def pix_Check (a0 : T_api_Image) : Option (Int) :=
  bnd (pix_outside a0.W 1 64) fun t5 =>
  cnd t5 (some 2) (bnd (pix_outside a0.H 1 64) fun t9 =>
  cnd t9 (some 2) (bnd (gI (3 * a0.W)) fun t16 =>
  bnd (gI (t16 * a0.H)) fun t19 =>
  cnd (decide ((a0.Pixels.length : Int) ≠ t19)) (some 1) (some 0)))

/-! tintype/pix.blank -/
noncomputable def pix_blank (a0 : Int) (a1 : Int) : Option (T_api_Image) :=
  bnd (gI (3 * a0)) fun t8 =>
  bnd (gI (t8 * a1)) fun t10 =>
  bnd (gMake 1 t10 0) fun t11 =>
  some (⟨a0, a1, t11⟩ : T_api_Image)

/-! tintype/pix.set -/
noncomputable def pix_set (a0 : T_api_Image) (a1 : Int) (a2 : Int) (a3 : (Nat → Int)) : Option ((List Int)) :=
  bnd (gI (a2 * a0.W)) fun t13 =>
  bnd (gI (t13 + a1)) fun t15 =>
  bnd (gI (3 * t15)) fun t16 =>
  bnd (gCut a0.Pixels t16 a0.Pixels.length) fun t17 =>
  some (cpyL a0.Pixels t16 t17.length ((List.range 3).map a3))

/-! tintype/pix.at -/
noncomputable def pix_at (a0 : T_api_Image) (a1 : Int) (a2 : Int) : Option ((Nat → Int)) :=
  bnd (gI (a2 * a0.W)) fun t12 =>
  bnd (gI (t12 + a1)) fun t14 =>
  bnd (gI (3 * t14)) fun t15 =>
  bnd (gCut a0.Pixels t15 a0.Pixels.length) fun t16 =>
  bnd (gIf (3 ≤ t16.length)) fun u17 =>
  some (ofL t16)

/-! tintype/pix.turnings$1 -/
noncomputable def pix_turnings_1 (a0 : Int) (a1 : Int) (a2 : Int) (a3 : Int) : Option (Int × Int) :=
  some (a2, a3)

/-! tintype/pix.turnings$2 -/
noncomputable def pix_turnings_2 (a0 : Int) (a1 : Int) (a2 : Int) (a3 : Int) : Option (Int × Int) :=
  bnd (gI (a0 - 1)) fun t11 =>
  bnd (gI (t11 - a2)) fun t13 =>
  some (t13, a3)

/-! tintype/pix.turnings$3 -/
noncomputable def pix_turnings_3 (a0 : Int) (a1 : Int) (a2 : Int) (a3 : Int) : Option (Int × Int) :=
  bnd (gI (a0 - 1)) fun t11 =>
  bnd (gI (t11 - a2)) fun t13 =>
  bnd (gI (a1 - 1)) fun t15 =>
  bnd (gI (t15 - a3)) fun t17 =>
  some (t13, t17)

/-! tintype/pix.turnings$4 -/
noncomputable def pix_turnings_4 (a0 : Int) (a1 : Int) (a2 : Int) (a3 : Int) : Option (Int × Int) :=
  bnd (gI (a1 - 1)) fun t12 =>
  bnd (gI (t12 - a3)) fun t14 =>
  some (a2, t14)

/-! tintype/pix.turnings$5 -/
noncomputable def pix_turnings_5 (a0 : Int) (a1 : Int) (a2 : Int) (a3 : Int) : Option (Int × Int) :=
  some (a3, a2)

/-! tintype/pix.turnings$6 -/
noncomputable def pix_turnings_6 (a0 : Int) (a1 : Int) (a2 : Int) (a3 : Int) : Option (Int × Int) :=
  bnd (gI (a1 - 1)) fun t12 =>
  bnd (gI (t12 - a2)) fun t14 =>
  some (a3, t14)

/-! tintype/pix.turnings$7 -/
noncomputable def pix_turnings_7 (a0 : Int) (a1 : Int) (a2 : Int) (a3 : Int) : Option (Int × Int) :=
  bnd (gI (a0 - 1)) fun t11 =>
  bnd (gI (t11 - a3)) fun t13 =>
  bnd (gI (a1 - 1)) fun t15 =>
  bnd (gI (t15 - a2)) fun t17 =>
  some (t13, t17)

/-! tintype/pix.turnings$8 -/
noncomputable def pix_turnings_8 (a0 : Int) (a1 : Int) (a2 : Int) (a3 : Int) : Option (Int × Int) :=
  bnd (gI (a0 - 1)) fun t11 =>
  bnd (gI (t11 - a3)) fun t13 =>
  some (t13, a2)

/-! tintype/pix.turnings -/
noncomputable def pix_turnings  : Option (Unit) :=
  some ()
noncomputable def pix_turnings_tab0 : Nat → (Option (Int → Int → Int → Int → Option (Int × Int))) := ofL [none, (some pix_turnings_1), (some pix_turnings_2), (some pix_turnings_3), (some pix_turnings_4), (some pix_turnings_5), (some pix_turnings_6), (some pix_turnings_7), (some pix_turnings_8)]
noncomputable def pix_turnings_tab1 : Nat → Bool := ofL [false, false, false, false, false, true, true, true, true]

/-! tintype/pix.Sides -/
noncomputable def pix_Sides (a0 : Int) (a1 : Int) (a2 : Int) : Option (Int × Int) :=
  bnd (pix_turnings) fun t8 =>
  bnd (gIx 9 a0) fun k10 =>
  cnd (pix_turnings_tab1 k10) (some (a2, a1)) (some (a1, a2))

/-! tintype/pix.turned -/
noncomputable def pix_turned_j1 (t19 : (T_api_Image)) (l : (List Int)) : Option (T_api_Image) :=
  some (⟨t19.W, t19.H, l⟩ : T_api_Image)
noncomputable def pix_turned_j3 (x26_2 : Int) (m_2 : (List Int)) (next2 : ((Int × (List Int) × (List Int)) → Option (T_api_Image))) (l_4 : (List Int)) : Option (T_api_Image) :=
  bnd (gI (x26_2 + 1)) fun t54 =>
  next2 (t54, m_2, l_4)
noncomputable def pix_turned_l4 (a0 : T_api_Image) (t19 : (T_api_Image)) (k22 : Nat) (x26_2 : Int) (m_2 : (List Int)) (next2 : ((Int × (List Int) × (List Int)) → Option (T_api_Image))) (next4 : ((Int × (List Int)) → Option (T_api_Image))) (x31_2 : Int) (l_6 : (List Int)) : Option (T_api_Image) :=
  cnd (decide (x31_2 < t19.W)) (bnd (gFn (pix_turnings_tab0 k22)) fun g42 =>
  bnd (g42 a0.W a0.H x31_2 x26_2) fun t42 =>
  bnd (pix_at (⟨a0.W, a0.H, m_2⟩ : T_api_Image) t42.1 t42.2) fun t51 =>
  bnd (pix_set (⟨t19.W, t19.H, l_6⟩ : T_api_Image) x31_2 x26_2 t51) fun t52 =>
  bnd (gI (x31_2 + 1)) fun t53 =>
  next4 (t53, t52)) (pix_turned_j3 x26_2 m_2 next2 l_6)
noncomputable def pix_turned_l2 (a0 : T_api_Image) (t19 : (T_api_Image)) (k22 : Nat) (next2 : ((Int × (List Int) × (List Int)) → Option (T_api_Image))) (x26_2 : Int) (m_2 : (List Int)) (l_3 : (List Int)) : Option (T_api_Image) :=
  cnd (decide (x26_2 < t19.H)) (fix (fun next4 s => pix_turned_l4 a0 t19 k22 x26_2 m_2 next2 next4 s.1 s.2) (0, l_3)) (pix_turned_j1 t19 l_3)
noncomputable def pix_turned (a0 : T_api_Image) (a1 : Int) : Option (T_api_Image) :=
  bnd (pix_Sides a1 a0.W a0.H) fun t16 =>
  bnd (pix_blank t16.1 t16.2) fun t19 =>
  bnd (pix_turnings) fun t20 =>
  bnd (gIx 9 a1) fun k22 =>
  fix (fun next2 s => pix_turned_l2 a0 t19 k22 next2 s.1 s.2.1 s.2.2) (0, a0.Pixels, t19.Pixels)

/-! tintype/pix.Turn -/
noncomputable def pix_Turn (a0 : T_api_Image) (a1 : Int) : Option (T_api_Image × Int) :=
  bnd (pix_Check a0) fun t8 =>
  cnd (decide (t8 ≠ 0)) (some ((⟨0, 0, ([] : List Int)⟩ : T_api_Image), t8)) (bnd (pix_outside a1 1 8) fun t14 =>
  cnd t14 (some ((⟨0, 0, ([] : List Int)⟩ : T_api_Image), 2)) (bnd (pix_turned a0 a1) fun t18 =>
  some (t18, 0)))

/-! (tintype/edit.Step).size -/
noncomputable def edit_Step_size_j1 (a1 : Int) (a2 : Int) : Option (Int × Int × Bool) :=
  some (a1, a2, true)
noncomputable def edit_Step_size (a0 : T_edit_Step) (a1 : Int) (a2 : Int) : Option (Int × Int × Bool) :=
  cnd (decide (a0.Kind = 1)) (cnd (decide (5 ≤ a0.A)) (some (a2, a1, true)) (edit_Step_size_j1 a1 a2)) (cnd (decide (a0.Kind = 2)) (bnd (gI (a0.A + a0.C)) fun t28 =>
  cnd (decide (t28 ≤ a1)) (bnd (gI (a0.B + a0.D)) fun t36 =>
  some (a0.C, a0.D, (decide (t36 ≤ a2)))) (some (a0.C, a0.D, false))) (cnd (decide (a0.Kind = 3)) (some (a0.A, a0.B, true)) (edit_Step_size_j1 a1 a2)))

/-! tintype/edit.size -/
noncomputable def edit_size_j1 (x1 : Int) (x2 : Int) : Option (Int × Int × Int) :=
  some (x1, x2, 0)
noncomputable def edit_size_l2 (a0 : (List T_edit_Step)) (next2 : ((Int × Int × Int) → Option (Int × Int × Int))) (x1_3 : Int) (x2_3 : Int) (x20_2 : Int) : Option (Int × Int × Int) :=
  cnd (decide (x20_2 < (a0.length : Int))) (bnd (gAt a0 x20_2) fun t22 =>
  bnd (edit_Step_size t22 x1_3 x2_3) fun t28 =>
  cnd (!t28.2.2) (some (0, 0, 7)) (bnd (gI (x20_2 + 1)) fun t34 =>
  next2 (t28.1, t28.2.1, t34))) (edit_size_j1 x1_3 x2_3)
noncomputable def edit_size (a0 : (List T_edit_Step)) (a1 : Int) (a2 : Int) : Option (Int × Int × Int) :=
  bnd (edit_outside a1 1 64) fun t13 =>
  cnd t13 (some (0, 0, 2)) (bnd (edit_outside a2 1 64) fun t16 =>
  cnd t16 (some (0, 0, 2)) (fix (fun next2 s => edit_size_l2 a0 next2 s.1 s.2.1 s.2.2) (a1, a2, 0)))

/-! tintype/pix.Crop -/
noncomputable def pix_Crop_j1 (t59 : (T_api_Image)) (l : (List Int)) : Option (T_api_Image × Int) :=
  some ((⟨t59.W, t59.H, l⟩ : T_api_Image), 0)
noncomputable def pix_Crop_j3 (x61_2 : Int) (m_2 : (List Int)) (next2 : ((Int × (List Int) × (List Int)) → Option (T_api_Image × Int))) (l_4 : (List Int)) : Option (T_api_Image × Int) :=
  bnd (gI (x61_2 + 1)) fun t81 =>
  next2 (t81, m_2, l_4)
noncomputable def pix_Crop_l4 (a0 : T_api_Image) (a1 : Int) (a2 : Int) (a3 : Int) (t59 : (T_api_Image)) (x61_2 : Int) (m_2 : (List Int)) (next2 : ((Int × (List Int) × (List Int)) → Option (T_api_Image × Int))) (next4 : ((Int × (List Int)) → Option (T_api_Image × Int))) (x65_2 : Int) (l_6 : (List Int)) : Option (T_api_Image × Int) :=
  cnd (decide (x65_2 < a3)) (bnd (gI (a1 + x65_2)) fun t74 =>
  bnd (gI (a2 + x61_2)) fun t77 =>
  bnd (pix_at (⟨a0.W, a0.H, m_2⟩ : T_api_Image) t74 t77) fun t78 =>
  bnd (pix_set (⟨t59.W, t59.H, l_6⟩ : T_api_Image) x65_2 x61_2 t78) fun t79 =>
  bnd (gI (x65_2 + 1)) fun t80 =>
  next4 (t80, t79)) (pix_Crop_j3 x61_2 m_2 next2 l_6)
noncomputable def pix_Crop_l2 (a0 : T_api_Image) (a1 : Int) (a2 : Int) (a3 : Int) (a4 : Int) (t59 : (T_api_Image)) (next2 : ((Int × (List Int) × (List Int)) → Option (T_api_Image × Int))) (x61_2 : Int) (m_2 : (List Int)) (l_3 : (List Int)) : Option (T_api_Image × Int) :=
  cnd (decide (x61_2 < a4)) (fix (fun next4 s => pix_Crop_l4 a0 a1 a2 a3 t59 x61_2 m_2 next2 next4 s.1 s.2) (0, l_3)) (pix_Crop_j1 t59 l_3)
noncomputable def pix_Crop (a0 : T_api_Image) (a1 : Int) (a2 : Int) (a3 : Int) (a4 : Int) : Option (T_api_Image × Int) :=
  bnd (pix_Check a0) fun t17 =>
  cnd (decide (t17 ≠ 0)) (some ((⟨0, 0, ([] : List Int)⟩ : T_api_Image), t17)) (cnd (decide (a1 < 0)) (some ((⟨0, 0, ([] : List Int)⟩ : T_api_Image), 2)) (cnd (decide (a2 < 0)) (some ((⟨0, 0, ([] : List Int)⟩ : T_api_Image), 2)) (bnd (pix_outside a3 1 a0.W) fun t32 =>
  cnd t32 (some ((⟨0, 0, ([] : List Int)⟩ : T_api_Image), 2)) (bnd (pix_outside a4 1 a0.H) fun t38 =>
  cnd t38 (some ((⟨0, 0, ([] : List Int)⟩ : T_api_Image), 2)) (bnd (gI (a0.W - a3)) fun t45 =>
  cnd (decide (t45 < a1)) (some ((⟨0, 0, ([] : List Int)⟩ : T_api_Image), 2)) (bnd (gI (a0.H - a4)) fun t53 =>
  cnd (decide (t53 < a2)) (some ((⟨0, 0, ([] : List Int)⟩ : T_api_Image), 2)) (bnd (pix_blank a3 a4) fun t59 =>
  fix (fun next2 s => pix_Crop_l2 a0 a1 a2 a3 a4 t59 next2 s.1 s.2.1 s.2.2) (0, a0.Pixels, t59.Pixels))))))))

/-! tintype/pix.shares -/
noncomputable def pix_shares_l1 (a0 : Int) (a1 : Int) (a2 : Int) (next1 : ((Int × (List T_pix_share)) → Option ((List T_pix_share)))) (x8_2 : Int) (l_2 : (List T_pix_share)) : Option ((List T_pix_share)) :=
  bnd (gI (a2 + 1)) fun t17 =>
  bnd (gI (a0 * t17)) fun t18 =>
  cnd (decide (x8_2 < t18)) (bnd (gQuo x8_2 a1) fun t22 =>
  bnd (gI (t22 + 1)) fun t24 =>
  bnd (gI (t24 * a1)) fun t26 =>
  bnd (gI (a2 + 1)) fun t29 =>
  bnd (gI (a0 * t29)) fun t30 =>
  bnd (gI ((min t26 t30) - x8_2)) fun t36 =>
  bnd (gApp 16 l_2 ([(⟨t22, t36⟩ : T_pix_share)] : List T_pix_share)) fun l39 =>
  next1 ((min t26 t30), l39)) (some l_2)
noncomputable def pix_shares (a0 : Int) (a1 : Int) (a2 : Int) : Option ((List T_pix_share)) :=
  bnd (gI (a0 * a2)) fun t13 =>
  fix (fun next1 s => pix_shares_l1 a0 a1 a2 next1 s.1 s.2) (t13, ([] : List T_pix_share))

/-! tintype/pix.scaled -/
noncomputable def pix_scaled_j1 (t25 : (T_api_Image)) (l : (List Int)) : Option (T_api_Image) :=
  some (⟨t25.W, t25.H, l⟩ : T_api_Image)
noncomputable def pix_scaled_j3 (x32_2 : Int) (m_2 : (List Int)) (next2 : ((Int × (List Int) × (List Int)) → Option (T_api_Image))) (l_4 : (List Int)) : Option (T_api_Image) :=
  bnd (gI (x32_2 + 1)) fun t109 =>
  next2 (t109, m_2, l_4)
noncomputable def pix_scaled_j5 (x41_2 : Int) (next4 : ((Int × (List Int)) → Option (T_api_Image))) (l_7 : (List Int)) : Option (T_api_Image) :=
  bnd (gI (x41_2 + 1)) fun t108 =>
  next4 (t108, l_7)
noncomputable def pix_scaled_j7 (t25 : (T_api_Image)) (x32_2 : Int) (x41_2 : Int) (l_6 : (List Int)) (next4 : ((Int × (List Int)) → Option (T_api_Image))) (m_4 : (Nat → Int)) : Option (T_api_Image) :=
  bnd (pix_set (⟨t25.W, t25.H, l_6⟩ : T_api_Image) x41_2 x32_2 m_4) fun t107 =>
  pix_scaled_j5 x41_2 next4 t107
noncomputable def pix_scaled_l8 (t25 : (T_api_Image)) (t30 : Int) (x32_2 : Int) (x41_2 : Int) (l_6 : (List Int)) (next4 : ((Int × (List Int)) → Option (T_api_Image))) (m_3 : (Nat → Int)) (next8 : ((Int × (Nat → Int)) → Option (T_api_Image))) (x88_2 : Int) (m_6 : (Nat → Int)) : Option (T_api_Image) :=
  cnd (decide (x88_2 < 3)) (bnd (gIx 3 x88_2) fun k91 =>
  bnd (gI (2 * (m_3 k91))) fun t94 =>
  bnd (gI (t94 + t30)) fun t96 =>
  bnd (gI (2 * t30)) fun t98 =>
  bnd (gQuo t96 t98) fun t99 =>
  bnd (gIx 3 x88_2) fun k101 =>
  bnd (gI (x88_2 + 1)) fun t102 =>
  next8 (t102, (setA m_6 k101 (wU8 t99)))) (pix_scaled_j7 t25 x32_2 x41_2 l_6 next4 m_6)
noncomputable def pix_scaled_j6 (t25 : (T_api_Image)) (t30 : Int) (x32_2 : Int) (x41_2 : Int) (l_6 : (List Int)) (next4 : ((Int × (List Int)) → Option (T_api_Image))) (m_3 : (Nat → Int)) : Option (T_api_Image) :=
  fix (fun next8 s => pix_scaled_l8 t25 t30 x32_2 x41_2 l_6 next4 m_3 next8 s.1 s.2) (0, (fun _ => 0))
noncomputable def pix_scaled_j10 (x51_2 : Int) (next9 : ((Int × (Nat → Int)) → Option (T_api_Image))) (m_9 : (Nat → Int)) : Option (T_api_Image) :=
  bnd (gI (x51_2 + 1)) fun t86 =>
  next9 (t86, m_9)
noncomputable def pix_scaled_j12 (x57_2 : Int) (next11 : ((Int × (Nat → Int)) → Option (T_api_Image))) (m_12 : (Nat → Int)) : Option (T_api_Image) :=
  bnd (gI (x57_2 + 1)) fun t85 =>
  next11 (t85, m_12)
noncomputable def pix_scaled_l13 (t53 : T_pix_share) (x57_2 : Int) (next11 : ((Int × (Nat → Int)) → Option (T_api_Image))) (t59 : T_pix_share) (t66 : ((Nat → Int))) (next13 : ((Int × (Nat → Int)) → Option (T_api_Image))) (x67_2 : Int) (m_14 : (Nat → Int)) : Option (T_api_Image) :=
  cnd (decide (x67_2 < 3)) (bnd (gIx 3 x67_2) fun k70 =>
  bnd (gIx 3 x67_2) fun k72 =>
  bnd (gK (-9223372036854775808) 9223372036854775807 (t66 k70)) fun t75 =>
  bnd (gI (t75 * t53.parts_)) fun t78 =>
  bnd (gI (t78 * t59.parts_)) fun t81 =>
  bnd (gI ((m_14 k72) + t81)) fun t82 =>
  bnd (gIx 3 x67_2) fun k83 =>
  bnd (gI (x67_2 + 1)) fun t84 =>
  next13 (t84, (setA m_14 k83 t82))) (pix_scaled_j12 x57_2 next11 m_14)
noncomputable def pix_scaled_l11 (a0 : T_api_Image) (m_2 : (List Int)) (t48 : ((List T_pix_share))) (x51_2 : Int) (next9 : ((Int × (Nat → Int)) → Option (T_api_Image))) (t53 : T_pix_share) (next11 : ((Int × (Nat → Int)) → Option (T_api_Image))) (x57_2 : Int) (m_11 : (Nat → Int)) : Option (T_api_Image) :=
  cnd (decide (x57_2 < (t48.length : Int))) (bnd (gAt t48 x57_2) fun t59 =>
  bnd (pix_at (⟨a0.W, a0.H, m_2⟩ : T_api_Image) t59.at_ t53.at_) fun t66 =>
  fix (fun next13 s => pix_scaled_l13 t53 x57_2 next11 t59 t66 next13 s.1 s.2) (0, m_11)) (pix_scaled_j10 x51_2 next9 m_11)
noncomputable def pix_scaled_l9 (a0 : T_api_Image) (t25 : (T_api_Image)) (t30 : Int) (x32_2 : Int) (m_2 : (List Int)) (t39 : ((List T_pix_share))) (x41_2 : Int) (l_6 : (List Int)) (next4 : ((Int × (List Int)) → Option (T_api_Image))) (t48 : ((List T_pix_share))) (next9 : ((Int × (Nat → Int)) → Option (T_api_Image))) (x51_2 : Int) (m_8 : (Nat → Int)) : Option (T_api_Image) :=
  cnd (decide (x51_2 < (t39.length : Int))) (bnd (gAt t39 x51_2) fun t53 =>
  fix (fun next11 s => pix_scaled_l11 a0 m_2 t48 x51_2 next9 t53 next11 s.1 s.2) (0, m_8)) (pix_scaled_j6 t25 t30 x32_2 x41_2 l_6 next4 m_8)
noncomputable def pix_scaled_l4 (a0 : T_api_Image) (a1 : Int) (t25 : (T_api_Image)) (t30 : Int) (x32_2 : Int) (m_2 : (List Int)) (next2 : ((Int × (List Int) × (List Int)) → Option (T_api_Image))) (t39 : ((List T_pix_share))) (next4 : ((Int × (List Int)) → Option (T_api_Image))) (x41_2 : Int) (l_6 : (List Int)) : Option (T_api_Image) :=
  cnd (decide (x41_2 < a1)) (bnd (pix_shares a0.W a1 x41_2) fun t48 =>
  fix (fun next9 s => pix_scaled_l9 a0 t25 t30 x32_2 m_2 t39 x41_2 l_6 next4 t48 next9 s.1 s.2) (0, (fun _ => 0))) (pix_scaled_j3 x32_2 m_2 next2 l_6)
noncomputable def pix_scaled_l2 (a0 : T_api_Image) (a1 : Int) (a2 : Int) (t25 : (T_api_Image)) (t30 : Int) (next2 : ((Int × (List Int) × (List Int)) → Option (T_api_Image))) (x32_2 : Int) (m_2 : (List Int)) (l_3 : (List Int)) : Option (T_api_Image) :=
  cnd (decide (x32_2 < a2)) (bnd (pix_shares a0.H a2 x32_2) fun t39 =>
  fix (fun next4 s => pix_scaled_l4 a0 a1 t25 t30 x32_2 m_2 next2 t39 next4 s.1 s.2) (0, l_3)) (pix_scaled_j1 t25 l_3)
noncomputable def pix_scaled (a0 : T_api_Image) (a1 : Int) (a2 : Int) : Option (T_api_Image) :=
  bnd (pix_blank a1 a2) fun t25 =>
  bnd (gI (a0.W * a0.H)) fun t30 =>
  fix (fun next2 s => pix_scaled_l2 a0 a1 a2 t25 t30 next2 s.1 s.2.1 s.2.2) (0, a0.Pixels, t25.Pixels)

/-! tintype/pix.Scale -/
noncomputable def pix_Scale (a0 : T_api_Image) (a1 : Int) (a2 : Int) : Option (T_api_Image × Int) :=
  bnd (pix_Check a0) fun t10 =>
  cnd (decide (t10 ≠ 0)) (some ((⟨0, 0, ([] : List Int)⟩ : T_api_Image), t10)) (bnd (pix_outside a1 1 64) fun t16 =>
  cnd t16 (some ((⟨0, 0, ([] : List Int)⟩ : T_api_Image), 2)) (bnd (pix_outside a2 1 64) fun t19 =>
  cnd t19 (some ((⟨0, 0, ([] : List Int)⟩ : T_api_Image), 2)) (bnd (pix_scaled a0 a1 a2) fun t25 =>
  some (t25, 0))))

/-! tintype/edit.clamp -/
noncomputable def edit_clamp (a0 : Int) : Option (Int) :=
  some (wU8 (min (max a0 0) 255))

/-! (tintype/edit.Step).warm -/
noncomputable def edit_Step_warm (a0 : T_edit_Step) (a1 : (Nat → Int)) : Option ((Nat → Int)) :=
  bnd (gK (-9223372036854775808) 9223372036854775807 (a1 0)) fun t7 =>
  bnd (gI (t7 + a0.A)) fun t10 =>
  bnd (edit_clamp t10) fun t11 =>
  bnd (gK (-9223372036854775808) 9223372036854775807 (a1 2)) fun t16 =>
  bnd (gI (t16 - a0.A)) fun t19 =>
  bnd (edit_clamp t19) fun t20 =>
  some (ofL [t11, (a1 1), t20])

/-! tintype/edit.floor -/
noncomputable def edit_floor (a0 : Int) (a1 : Int) : Option (Int) :=
  bnd (gQuo a0 a1) fun t8 =>
  bnd (gRem a0 a1) fun t11 =>
  cnd (decide (t11 < 0)) (bnd (gI (t8 - 1)) fun t14 =>
  some t14) (some t8)

/-! (tintype/edit.Step).mute -/
noncomputable def edit_Step_mute_j1 (m : (Nat → Int)) : Option ((Nat → Int)) :=
  some m
noncomputable def edit_Step_mute_l2 (a0 : T_edit_Step) (a1 : (Nat → Int)) (t22 : Int) (next2 : ((Int × (Nat → Int)) → Option ((Nat → Int)))) (x24_2 : Int) (m_3 : (Nat → Int)) : Option ((Nat → Int)) :=
  cnd (decide (x24_2 < 3)) (bnd (gIx 3 x24_2) fun k27 =>
  bnd (gK (-9223372036854775808) 9223372036854775807 (a1 k27)) fun t30 =>
  bnd (gK (-9223372036854775808) 9223372036854775807 (a1 k27)) fun t33 =>
  bnd (gI (t22 - t33)) fun t34 =>
  bnd (gI (t34 * a0.A)) fun t37 =>
  bnd (edit_floor t37 100) fun t38 =>
  bnd (gI (t30 + t38)) fun t39 =>
  bnd (edit_clamp t39) fun t40 =>
  bnd (gIx 3 x24_2) fun k41 =>
  bnd (gI (x24_2 + 1)) fun t42 =>
  next2 (t42, (setA m_3 k41 t40))) (edit_Step_mute_j1 m_3)
noncomputable def edit_Step_mute (a0 : T_edit_Step) (a1 : (Nat → Int)) : Option ((Nat → Int)) :=
  bnd (gK (-9223372036854775808) 9223372036854775807 (a1 0)) fun t10 =>
  bnd (gI (77 * t10)) fun t11 =>
  bnd (gK (-9223372036854775808) 9223372036854775807 (a1 1)) fun t14 =>
  bnd (gI (150 * t14)) fun t15 =>
  bnd (gI (t11 + t15)) fun t16 =>
  bnd (gK (-9223372036854775808) 9223372036854775807 (a1 2)) fun t19 =>
  bnd (gI (29 * t19)) fun t20 =>
  bnd (gI (t16 + t20)) fun t21 =>
  bnd (gQuo t21 256) fun t22 =>
  fix (fun next2 s => edit_Step_mute_l2 a0 a1 t22 next2 s.1 s.2) (0, a1)

/-! (tintype/edit.Step).light -/
noncomputable def edit_Step_light (a0 : T_edit_Step) (a1 : Int) : Option (Int) :=
  bnd (gK (-9223372036854775808) 9223372036854775807 a1) fun t6 =>
  bnd (gI (t6 + a0.A)) fun t9 =>
  bnd (edit_clamp t9) fun t10 =>
  some t10

/-! (tintype/edit.Step).spread -/
noncomputable def edit_Step_spread (a0 : T_edit_Step) (a1 : Int) : Option (Int) :=
  bnd (gK (-9223372036854775808) 9223372036854775807 a1) fun t6 =>
  bnd (gI (t6 - 128)) fun t7 =>
  bnd (gI (t7 * a0.A)) fun t10 =>
  bnd (edit_floor t10 100) fun t11 =>
  bnd (gI (128 + t11)) fun t12 =>
  bnd (edit_clamp t12) fun t13 =>
  some t13

/-! (tintype/edit.Step).levels -/
noncomputable def edit_Step_levels (a0 : T_edit_Step) (a1 : Int) : Option (Int) :=
  bnd (gK (-9223372036854775808) 9223372036854775807 a1) fun t6 =>
  bnd (gI (t6 - a0.A)) fun t9 =>
  bnd (gI (t9 * 255)) fun t10 =>
  bnd (gI (a0.B - a0.A)) fun t15 =>
  bnd (edit_floor t10 t15) fun t16 =>
  bnd (edit_clamp t16) fun t17 =>
  some t17

/-! (tintype/edit.Step).invert -/
noncomputable def edit_Step_invert (a0 : T_edit_Step) (a1 : Int) : Option (Int) :=
  some (wU8 (255 - a1))

/-! (tintype/edit.Step).byByte -/
noncomputable def edit_Step_byByte (a0 : T_edit_Step) : Option ((Option (Int → Option (Int)))) :=
  cnd (decide (a0.Kind = 4)) (some (some (edit_Step_light a0))) (cnd (decide (a0.Kind = 5)) (some (some (edit_Step_spread a0))) (cnd (decide (a0.Kind = 6)) (some (some (edit_Step_levels a0))) (cnd (decide (a0.Kind = 9)) (some (some (edit_Step_invert a0))) (some none))))

/-! (tintype/edit.Step).eachByte -/
noncomputable def edit_Step_eachByte_j1 (m : (Nat → Int)) : Option ((Nat → Int)) :=
  some m
noncomputable def edit_Step_eachByte_l2 (a1 : (Nat → Int)) (t9 : ((Option (Int → Option (Int))))) (next2 : ((Int × (Nat → Int)) → Option ((Nat → Int)))) (x11_2 : Int) (m_3 : (Nat → Int)) : Option ((Nat → Int)) :=
  cnd (decide (x11_2 < 3)) (bnd (gIx 3 x11_2) fun k14 =>
  bnd (gFn t9) fun g18 =>
  bnd (g18 (a1 k14)) fun t18 =>
  bnd (gIx 3 x11_2) fun k19 =>
  bnd (gI (x11_2 + 1)) fun t20 =>
  next2 (t20, (setA m_3 k19 t18))) (edit_Step_eachByte_j1 m_3)
noncomputable def edit_Step_eachByte (a0 : T_edit_Step) (a1 : (Nat → Int)) : Option ((Nat → Int)) :=
  bnd (edit_Step_byByte a0) fun t9 =>
  fix (fun next2 s => edit_Step_eachByte_l2 a1 t9 next2 s.1 s.2) (0, a1)

/-! (tintype/edit.Step).byPixel -/
noncomputable def edit_Step_byPixel (a0 : T_edit_Step) : Option ((Option ((Nat → Int) → Option ((Nat → Int))))) :=
  cnd (decide (a0.Kind = 7)) (some (some (edit_Step_warm a0))) (cnd (decide (a0.Kind = 8)) (some (some (edit_Step_mute a0))) (some (some (edit_Step_eachByte a0))))

/-! (tintype/edit.Step).tone -/
noncomputable def edit_Step_tone_l1 (t8 : ((Option ((Nat → Int) → Option ((Nat → Int)))))) (next1 : ((Int × (List Int)) → Option ((List Int)))) (x5_2 : Int) (l_2 : (List Int)) : Option ((List Int)) :=
  cnd (decide (x5_2 < (l_2.length : Int))) (bnd (gI (x5_2 + 3)) fun t21 =>
  bnd (gCut l_2 x5_2 t21) fun t22 =>
  bnd (gIf (3 ≤ t22.length)) fun u23 =>
  bnd (gFn t8) fun g25 =>
  bnd (g25 (ofL t22)) fun t25 =>
  bnd (gCut l_2 x5_2 l_2.length) fun t29 =>
  bnd (gI (x5_2 + 3)) fun t15 =>
  next1 (t15, (cpyL l_2 x5_2 t29.length ((List.range 3).map t25)))) (some l_2)
noncomputable def edit_Step_tone (a0 : T_edit_Step) (a1 : T_api_Image) : Option ((List Int)) :=
  bnd (edit_Step_byPixel a0) fun t8 =>
  fix (fun next1 s => edit_Step_tone_l1 t8 next1 s.1 s.2) (0, a1.Pixels)

/-! tintype/edit.Render -/
noncomputable def edit_Render_j1 (m : Int) (m_2 : Int) (l : (List Int)) : Option (T_api_Image × Int) :=
  some ((⟨m, m_2, l⟩ : T_api_Image), 0)
noncomputable def edit_Render_j3 (x46_2 : Int) (next2 : ((Int × Int × Int × (List Int)) → Option (T_api_Image × Int))) (m_7 : Int) (m_8 : Int) (l_4 : (List Int)) : Option (T_api_Image × Int) :=
  bnd (gI (x46_2 + 1)) fun t90 =>
  next2 (t90, m_7, m_8, l_4)
noncomputable def edit_Render_l2 (a1 : (List T_edit_Step)) (next2 : ((Int × Int × Int × (List Int)) → Option (T_api_Image × Int))) (x46_2 : Int) (m_5 : Int) (m_6 : Int) (l_3 : (List Int)) : Option (T_api_Image × Int) :=
  cnd (decide (x46_2 < (a1.length : Int))) (bnd (gAt a1 x46_2) fun t48 =>
  cnd (decide (t48.Kind = 1)) (bnd (pix_Turn (⟨m_5, m_6, l_3⟩ : T_api_Image) t48.A) fun t61 =>
  edit_Render_j3 x46_2 next2 t61.1.W t61.1.H t61.1.Pixels) (cnd (decide (t48.Kind = 2)) (bnd (pix_Crop (⟨m_5, m_6, l_3⟩ : T_api_Image) t48.A t48.B t48.C t48.D) fun t76 =>
  edit_Render_j3 x46_2 next2 t76.1.W t76.1.H t76.1.Pixels) (cnd (decide (t48.Kind = 3)) (bnd (pix_Scale (⟨m_5, m_6, l_3⟩ : T_api_Image) t48.A t48.B) fun t87 =>
  edit_Render_j3 x46_2 next2 t87.1.W t87.1.H t87.1.Pixels) (bnd (edit_Step_tone t48 (⟨m_5, m_6, l_3⟩ : T_api_Image)) fun t54 =>
  edit_Render_j3 x46_2 next2 m_5 m_6 t54)))) (edit_Render_j1 m_5 m_6 l_3)
noncomputable def edit_Render (a0 : T_api_Image) (a1 : (List T_edit_Step)) : Option (T_api_Image × Int) :=
  bnd (edit_Check a1) fun t14 =>
  cnd (decide (t14 ≠ 0)) (some ((⟨0, 0, ([] : List Int)⟩ : T_api_Image), t14)) (bnd (pix_Check a0) fun t20 =>
  cnd (decide (t20 ≠ 0)) (some ((⟨0, 0, ([] : List Int)⟩ : T_api_Image), t20)) (bnd (edit_size a1 a0.W a0.H) fun t31 =>
  cnd (decide (t31.2.2 ≠ 0)) (some ((⟨0, 0, ([] : List Int)⟩ : T_api_Image), t31.2.2)) (bnd (pix_Turn a0 1) fun t41 =>
  fix (fun next2 s => edit_Render_l2 a1 next2 s.1 s.2.1 s.2.2.1 s.2.2.2) (0, t41.1.W, t41.1.H, t41.1.Pixels))))

/-! bytes.Equal -/
noncomputable def bytes_Equal (a0 : (List Int)) (a1 : (List Int)) : Option (Bool) :=
  some (decide ((toStr a0) = (toStr a1)))

/-! tintype/tintkeep2.same -/
noncomputable def Keep_same (a0 : T_api_Image) (a1 : T_api_Image) : Option (Bool) :=
  cnd (decide (a0.W = a1.W)) (cnd (decide (a0.H = a1.H)) (bnd (bytes_Equal a0.Pixels a1.Pixels) fun t22 =>
  some t22) (some false)) (some false)

/-! tintype/tintkeep2.EditTurns -/
noncomputable def Keep_EditTurns (a0 : T_api_Image) (a1 : Int) : Option (Bool) :=
  bnd (Keep_awakeEdit) fun t9 =>
  cnd (!t9) (some false) (bnd (edit_Render a0 ([(⟨1, a1, 0, 0, 0⟩ : T_edit_Step)] : List T_edit_Step)) fun t16 =>
  bnd (pix_Turn a0 a1) fun t22 =>
  cnd (decide ((decide (t16.2 = 0)) = (decide (t22.2 = 0)))) (cnd (decide (t16.2 ≠ 0)) (some true) (bnd (Keep_same t16.1 t22.1) fun t36 =>
  some t36)) (some false))

/-! tintype/edit.apart -/
noncomputable def edit_apart_j1 (l : (List T_edit_Step)) (l_2 : (List T_edit_Step)) : Option ((List T_edit_Step) × (List T_edit_Step)) :=
  some (l, l_2)
noncomputable def edit_apart_j3 (x8_2 : Int) (next2 : ((Int × (List T_edit_Step) × (List T_edit_Step)) → Option ((List T_edit_Step) × (List T_edit_Step)))) (l_7 : (List T_edit_Step)) (l_8 : (List T_edit_Step)) : Option ((List T_edit_Step) × (List T_edit_Step)) :=
  bnd (gI (x8_2 + 1)) fun t22 =>
  next2 (t22, l_7, l_8)
noncomputable def edit_apart_l2 (a0 : (List T_edit_Step)) (next2 : ((Int × (List T_edit_Step) × (List T_edit_Step)) → Option ((List T_edit_Step) × (List T_edit_Step)))) (x8_2 : Int) (l_5 : (List T_edit_Step)) (l_6 : (List T_edit_Step)) : Option ((List T_edit_Step) × (List T_edit_Step)) :=
  cnd (decide (x8_2 < (a0.length : Int))) (bnd (gAt a0 x8_2) fun t10 =>
  bnd (edit_Shape t10) fun t13 =>
  cnd t13 (bnd (gApp 40 l_5 ([t10] : List T_edit_Step)) fun l17 =>
  edit_apart_j3 x8_2 next2 l17 l_6) (bnd (gApp 40 l_6 ([t10] : List T_edit_Step)) fun l21 =>
  edit_apart_j3 x8_2 next2 l_5 l21)) (edit_apart_j1 l_5 l_6)
noncomputable def edit_apart (a0 : (List T_edit_Step)) : Option ((List T_edit_Step) × (List T_edit_Step)) :=
  fix (fun next2 s => edit_apart_l2 a0 next2 s.1 s.2.1 s.2.2) (0, ([] : List T_edit_Step), ([] : List T_edit_Step))

/-! tintype/edit.Apart -/
noncomputable def edit_Apart (a0 : (List T_edit_Step)) : Option ((List T_edit_Step) × (List T_edit_Step) × Int) :=
  bnd (edit_Check a0) fun t7 =>
  cnd (decide (t7 ≠ 0)) (some (([] : List T_edit_Step), ([] : List T_edit_Step), t7)) (bnd (edit_apart a0) fun t13 =>
  some (t13.1, t13.2, 0))

/-! tintype/tintkeep2.EditApart -/
noncomputable def Keep_EditApart_j1 (a0 : T_api_Image) (a1 : (List T_edit_Step)) (t18 : (T_api_Image × Int)) : Option (Bool) :=
  bnd (edit_Apart a1) fun t44 =>
  cnd (decide (t44.2.2 ≠ 0)) (some false) (bnd (slices_Concat_edit_Step ([t44.1, t44.2.1] : List (List T_edit_Step))) fun t55 =>
  bnd (edit_Render a0 t55) fun t56 =>
  cnd (decide (t56.2 = 0)) (bnd (Keep_same t18.1 t56.1) fun t64 =>
  some t64) (some false))
noncomputable def Keep_EditApart_j3 (x25_2 : Int) (next2 : ((Bool × Int) → Option (Bool))) (x7_3 : Bool) : Option (Bool) :=
  bnd (gI (x25_2 + 1)) fun t41 =>
  next2 (x7_3, t41)
noncomputable def Keep_EditApart_j4 (x7_2 : Bool) (x25_2 : Int) (next2 : ((Bool × Int) → Option (Bool))) (t27 : T_edit_Step) : Option (Bool) :=
  cnd x7_2 (Keep_EditApart_j3 x25_2 next2 true) (bnd (edit_Shape t27) fun t38 =>
  Keep_EditApart_j3 x25_2 next2 (!t38))
noncomputable def Keep_EditApart_l2 (a0 : T_api_Image) (a1 : (List T_edit_Step)) (t18 : (T_api_Image × Int)) (next2 : ((Bool × Int) → Option (Bool))) (x7_2 : Bool) (x25_2 : Int) : Option (Bool) :=
  cnd (decide (x25_2 < (a1.length : Int))) (bnd (gAt a1 x25_2) fun t27 =>
  cnd (decide (t27.Kind = 3)) (cnd x7_2 (some true) (Keep_EditApart_j4 x7_2 x25_2 next2 t27)) (Keep_EditApart_j4 x7_2 x25_2 next2 t27)) (Keep_EditApart_j1 a0 a1 t18)
noncomputable def Keep_EditApart (a0 : T_api_Image) (a1 : (List T_edit_Step)) : Option (Bool) :=
  bnd (Keep_awakeEdit) fun t13 =>
  cnd (!t13) (some false) (bnd (edit_Render a0 a1) fun t18 =>
  cnd (decide (t18.2 ≠ 0)) (some true) (fix (fun next2 s => Keep_EditApart_l2 a0 a1 t18 next2 s.1 s.2) (false, 0)))

/-! tintype/tintkeep2.EditComes$1 -/
noncomputable def Keep_EditComes_1 (a0 : T_edit_Step) : Option (Bool) :=
  some (decide (a0.Kind = 3))

/-! tintype/edit.Size -/
noncomputable def edit_Size (a0 : (List T_edit_Step)) (a1 : Int) (a2 : Int) : Option (Int × Int × Int) :=
  bnd (edit_Check a0) fun t11 =>
  cnd (decide (t11 ≠ 0)) (some (0, 0, t11)) (bnd (edit_size a0 a1 a2) fun t18 =>
  some (t18.1, t18.2.1, t18.2.2))

/-! tintype/pix.From -/
noncomputable def pix_From (a0 : Int) (a1 : Int) (a2 : Int) (a3 : Int) (a4 : Int) : Option (Int × Int) :=
  bnd (pix_turnings) fun t12 =>
  bnd (gIx 9 a0) fun k14 =>
  bnd (gFn (pix_turnings_tab0 k14)) fun g20 =>
  bnd (g20 a1 a2 a3 a4) fun t20 =>
  some (t20.1, t20.2)

/-! tintype/edit.Comes -/
noncomputable def edit_Comes_j2 (x3 : Int) (x4 : Int) : Option (Int × Int × Int) :=
  some (x3, x4, 0)
noncomputable def edit_Comes_j4 (x19_2 : Int) (next3 : ((Int × Int × Int) → Option (Int × Int × Int))) (x3_4 : Int) (x4_4 : Int) : Option (Int × Int × Int) :=
  bnd (gI (x19_2 - 1)) fun t66 =>
  next3 (x3_4, x4_4, t66)
noncomputable def edit_Comes_l3 (a0 : (List T_edit_Step)) (a1 : Int) (a2 : Int) (next3 : ((Int × Int × Int) → Option (Int × Int × Int))) (x3_3 : Int) (x4_3 : Int) (x19_2 : Int) : Option (Int × Int × Int) :=
  cnd (decide (0 ≤ x19_2)) (bnd (gAt a0 x19_2) fun t69 =>
  cnd (decide (t69.Kind = 1)) (bnd (gCut a0 0 x19_2) fun t78 =>
  bnd (edit_size t78 a1 a2) fun t81 =>
  bnd (pix_From t69.A t81.1 t81.2.1 x3_3 x4_3) fun t92 =>
  edit_Comes_j4 x19_2 next3 t92.1 t92.2) (cnd (decide (t69.Kind = 2)) (bnd (gI (x3_3 + t69.A)) fun t100 =>
  bnd (gI (x4_3 + t69.B)) fun t104 =>
  edit_Comes_j4 x19_2 next3 t100 t104) (edit_Comes_j4 x19_2 next3 x3_3 x4_3))) (edit_Comes_j2 x3_3 x4_3)
noncomputable def edit_Comes_j1 (a0 : (List T_edit_Step)) (a1 : Int) (a2 : Int) (a3 : Int) (a4 : Int) (t33 : (Int × Int × Int)) : Option (Int × Int × Int) :=
  bnd (gI (t33.1 - 1)) fun t52 =>
  bnd (edit_outside a3 0 t52) fun t53 =>
  cnd t53 (some (0, 0, 2)) (bnd (gI (t33.2.1 - 1)) fun t57 =>
  bnd (edit_outside a4 0 t57) fun t58 =>
  cnd t58 (some (0, 0, 2)) (bnd (gI ((a0.length : Int) - 1)) fun t62 =>
  fix (fun next3 s => edit_Comes_l3 a0 a1 a2 next3 s.1 s.2.1 s.2.2) (a3, a4, t62)))
noncomputable def edit_Comes_l5 (a0 : (List T_edit_Step)) (a1 : Int) (a2 : Int) (a3 : Int) (a4 : Int) (t33 : (Int × Int × Int)) (next5 : ((Int) → Option (Int × Int × Int))) (x42_2 : Int) : Option (Int × Int × Int) :=
  cnd (decide (x42_2 < (a0.length : Int))) (bnd (gAt a0 x42_2) fun t44 =>
  cnd (decide (t44.Kind = 3)) (some (0, 0, 11)) (bnd (gI (x42_2 + 1)) fun t49 =>
  next5 t49)) (edit_Comes_j1 a0 a1 a2 a3 a4 t33)
noncomputable def edit_Comes (a0 : (List T_edit_Step)) (a1 : Int) (a2 : Int) (a3 : Int) (a4 : Int) : Option (Int × Int × Int) :=
  bnd (edit_Check a0) fun t25 =>
  cnd (decide (t25 ≠ 0)) (some (0, 0, t25)) (bnd (edit_size a0 a1 a2) fun t33 =>
  cnd (decide (t33.2.2 ≠ 0)) (some (0, 0, t33.2.2)) (fix (fun next5 s => edit_Comes_l5 a0 a1 a2 a3 a4 t33 next5 s) 0))

/-! tintype/edit.Pixel -/
noncomputable def edit_Pixel_j1 (m : (Nat → Int)) : Option ((Nat → Int) × Int) :=
  some (m, 0)
noncomputable def edit_Pixel_l2 (a0 : (List T_edit_Step)) (next2 : ((Int × (Nat → Int)) → Option ((Nat → Int) × Int))) (x17_2 : Int) (m_3 : (Nat → Int)) : Option ((Nat → Int) × Int) :=
  cnd (decide (x17_2 < (a0.length : Int))) (bnd (gAt a0 x17_2) fun t19 =>
  bnd (edit_Shape t19) fun t22 =>
  cnd t22 (some ((fun _ => 0), 10)) (bnd (edit_Step_byPixel t19) fun t25 =>
  bnd (gFn t25) fun g27 =>
  bnd (g27 m_3) fun t27 =>
  bnd (gI (x17_2 + 1)) fun t28 =>
  next2 (t28, t27))) (edit_Pixel_j1 m_3)
noncomputable def edit_Pixel (a0 : (List T_edit_Step)) (a1 : (Nat → Int)) : Option ((Nat → Int) × Int) :=
  bnd (edit_Check a0) fun t10 =>
  cnd (decide (t10 ≠ 0)) (some ((fun _ => 0), t10)) (fix (fun next2 s => edit_Pixel_l2 a0 next2 s.1 s.2) (0, a1))

/-! tintype/tintkeep2.EditComes -/
noncomputable def Keep_EditComes_l1 (a0 : T_api_Image) (a1 : (List T_edit_Step)) (t23 : (T_api_Image × Int)) (t38 : (Int × Int × Int)) (t44 : ((List T_edit_Step) × (List T_edit_Step) × Int)) (t68 : Int) (next1 : ((Int) → Option (Bool))) (x69_2 : Int) : Option (Bool) :=
  cnd (decide (x69_2 < t68)) (bnd (gRem x69_2 t38.1) fun t80 =>
  bnd (gQuo x69_2 t38.1) fun t83 =>
  bnd (edit_Comes a1 a0.W a0.H t80 t83) fun t84 =>
  cnd (decide (t84.2.2 ≠ 0)) (some false) (cnd (decide (t84.1 < 0)) (some false) (cnd (decide (a0.W ≤ t84.1)) (some false) (cnd (decide (t84.2.1 < 0)) (some false) (cnd (decide (a0.H ≤ t84.2.1)) (some false) (bnd (gI (t84.2.1 * a0.W)) fun t113 =>
  bnd (gI (t113 + t84.1)) fun t115 =>
  bnd (gI (3 * t115)) fun t116 =>
  bnd (gI (t116 + 3)) fun t123 =>
  bnd (gCut a0.Pixels t116 t123) fun t124 =>
  bnd (gIf (3 ≤ t124.length)) fun u125 =>
  bnd (edit_Pixel t44.2.1 (ofL t124)) fun t127 =>
  cnd (decide (t127.2 ≠ 0)) (some false) (bnd (gI (3 * x69_2)) fun t137 =>
  bnd (gI (3 * x69_2)) fun t139 =>
  bnd (gI (t139 + 3)) fun t140 =>
  bnd (gCut t23.1.Pixels t137 t140) fun t141 =>
  bnd (bytes_Equal ((List.range 3).map t127.1) t141) fun t142 =>
  cnd (!t142) (some false) (bnd (gI (x69_2 + 1)) fun t145 =>
  next1 t145)))))))) (some true)
noncomputable def Keep_EditComes (a0 : T_api_Image) (a1 : (List T_edit_Step)) : Option (Bool) :=
  bnd (Keep_awakeEdit) fun t18 =>
  cnd (!t18) (some false) (bnd (edit_Render a0 a1) fun t23 =>
  cnd (decide (t23.2 ≠ 0)) (some true) (bnd (slices_ContainsFunc_edit_Step a1 Keep_EditComes_1) fun t30 =>
  cnd t30 (some true) (bnd (edit_Size a1 a0.W a0.H) fun t38 =>
  bnd (edit_Apart a1) fun t44 =>
  cnd (decide (t38.2.2 ≠ 0)) (some false) (cnd (decide (t44.2.2 ≠ 0)) (some false) (cnd (decide (t38.1 ≠ t23.1.W)) (some false) (cnd (decide (t38.2.1 ≠ t23.1.H)) (some false) (bnd (gI (t38.1 * t38.2.1)) fun t68 =>
  fix (fun next1 s => Keep_EditComes_l1 a0 a1 t23 t38 t44 t68 next1 s) 0)))))))

end Go.M
