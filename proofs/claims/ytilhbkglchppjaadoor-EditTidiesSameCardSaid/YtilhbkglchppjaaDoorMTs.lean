/- EditTidiesSame: the models, printed by our generator from the compiled program. Conditions: none. -/
import Derived.Test.YtilhbkglchppjaaDoorMd5
namespace Go.M
open Go.Md
set_option maxRecDepth 100000
set_option linter.unusedVariables false

structure T_edit_Step where
  Kind : Int
  A : Int
  B : Int
  C : Int
  D : Int
instance : Inhabited T_edit_Step := ⟨⟨0, 0, 0, 0, 0⟩⟩

structure T_api_Image where
  W : Int
  H : Int
  Pixels : (List Int)
instance : Inhabited T_api_Image := ⟨⟨0, 0, []⟩⟩

structure T_pix_share where
  at_ : Int
  parts_ : Int
instance : Inhabited T_pix_share := ⟨⟨0, 0⟩⟩

def eq_edit_Step (x y : T_edit_Step) : Bool := decide (x.Kind = y.Kind ∧ x.A = y.A ∧ x.B = y.B ∧ x.C = y.C ∧ x.D = y.D)
def eq_edit_curve (x y : (Nat → Int)) : Bool := decide ((List.range 256).map x = (List.range 256).map y)

/-! tintype/edit.word -/
noncomputable def edit_word (a0 : Int) : Option ((List UInt8) × Int) :=
  cnd (decide (a0 = 1)) (some ([116, 117, 114, 110], 1)) (cnd (decide (a0 = 2)) (some ([99, 114, 111, 112], 4)) (cnd (decide (a0 = 3)) (some ([115, 99, 97, 108, 101], 2)) (cnd (decide (a0 = 4)) (some ([108, 105, 103, 104, 116], 1)) (cnd (decide (a0 = 5)) (some ([115, 112, 114, 101, 97, 100], 1)) (cnd (decide (a0 = 6)) (some ([108, 101, 118, 101, 108, 115], 2)) (cnd (decide (a0 = 7)) (some ([119, 97, 114, 109], 1)) (cnd (decide (a0 = 8)) (some ([109, 117, 116, 101], 1)) (some ([105, 110, 118, 101, 114, 116], 0)))))))))

/-! (tintype/edit.Step).numbers -/
noncomputable def edit_Step_numbers (a0 : T_edit_Step) : Option ((List Int)) :=
  some ([a0.A, a0.B, a0.C, a0.D] : List Int)

/-! (tintype/edit.Step).line -/
noncomputable def edit_Step_line_l1 (t16 : (List Int)) (next1 : (((List UInt8) × Int) → Option ((List UInt8)))) (x3_2 : (List UInt8)) (x18_2 : Int) : Option ((List UInt8)) :=
  cnd (decide (x18_2 < (t16.length : Int))) (bnd (gAt t16 x18_2) fun t20 =>
  bnd (gItoa t20) fun t24 =>
  bnd (gCat [32] t24) fun t25 =>
  bnd (gCat x3_2 t25) fun t26 =>
  bnd (gI (x18_2 + 1)) fun t27 =>
  next1 (t26, t27)) (some x3_2)
noncomputable def edit_Step_line (a0 : T_edit_Step) : Option ((List UInt8)) :=
  bnd (edit_word a0.Kind) fun t10 =>
  bnd (edit_Step_numbers a0) fun t14 =>
  bnd (gCut t14 0 t10.2) fun t16 =>
  fix (fun next1 s => edit_Step_line_l1 t16 next1 s.1 s.2) (t10.1, 0)

/-! tintype/edit.outside -/
noncomputable def edit_outside (a0 : Int) (a1 : Int) (a2 : Int) : Option (Bool) :=
  cnd (decide (a0 < a1)) (some true) (some (decide (a2 < a0)))

/-! tintype/edit.bounds -/
noncomputable def edit_bounds (a0 : Int) : Option ((Nat → (Nat → Int))) :=
  cnd (decide (a0 = 1)) (some (ofL [(ofL [1, 8]), (fun _ => 0), (fun _ => 0), (fun _ => 0)])) (cnd (decide (a0 = 2)) (some (ofL [(ofL [0, 63]), (ofL [0, 63]), (ofL [1, 64]), (ofL [1, 64])])) (cnd (decide (a0 = 3)) (some (ofL [(ofL [1, 64]), (ofL [1, 64]), (fun _ => 0), (fun _ => 0)])) (cnd (decide (a0 = 4)) (some (ofL [(ofL [(-255), 255]), (fun _ => 0), (fun _ => 0), (fun _ => 0)])) (cnd (decide (a0 = 5)) (some (ofL [(ofL [0, 400]), (fun _ => 0), (fun _ => 0), (fun _ => 0)])) (cnd (decide (a0 = 6)) (some (ofL [(ofL [0, 255]), (ofL [0, 255]), (fun _ => 0), (fun _ => 0)])) (cnd (decide (a0 = 7)) (some (ofL [(ofL [(-100), 100]), (fun _ => 0), (fun _ => 0), (fun _ => 0)])) (cnd (decide (a0 = 8)) (some (ofL [(ofL [0, 100]), (fun _ => 0), (fun _ => 0), (fun _ => 0)])) (some (fun _ => (fun _ => 0))))))))))

/-! tintype/edit.CheckStep -/
noncomputable def edit_CheckStep_j2 (a0 : T_edit_Step) : Option (Int) :=
  cnd (decide (a0.Kind = 6)) (cnd (decide (a0.B ≤ a0.A)) (some 5) (some 0)) (some 0)
noncomputable def edit_CheckStep_l3 (a0 : T_edit_Step) (t35 : ((Nat → (Nat → Int)))) (t38 : (List Int)) (next3 : ((Int) → Option (Int))) (x40_2 : Int) : Option (Int) :=
  cnd (decide (x40_2 < (t38.length : Int))) (bnd (gAt t38 x40_2) fun t43 =>
  bnd (gIx 4 x40_2) fun k47 =>
  bnd (gIx 4 x40_2) fun k51 =>
  bnd (edit_outside t43 ((t35 k47) 0) ((t35 k51) 1)) fun t54 =>
  cnd t54 (some 2) (bnd (gI (x40_2 + 1)) fun t55 =>
  next3 t55)) (edit_CheckStep_j2 a0)
noncomputable def edit_CheckStep_j1 (a0 : T_edit_Step) (t17 : ((List UInt8) × Int)) (t21 : ((List Int))) : Option (Int) :=
  bnd (edit_bounds a0.Kind) fun t35 =>
  bnd (gCut t21 0 t17.2) fun t38 =>
  fix (fun next3 s => edit_CheckStep_l3 a0 t35 t38 next3 s) 0
noncomputable def edit_CheckStep_l4 (a0 : T_edit_Step) (t17 : ((List UInt8) × Int)) (t21 : ((List Int))) (t24 : (List Int)) (next4 : ((Int) → Option (Int))) (x26_2 : Int) : Option (Int) :=
  cnd (decide (x26_2 < (t24.length : Int))) (bnd (gAt t24 x26_2) fun t28 =>
  cnd (decide (t28 ≠ 0)) (some 1) (bnd (gI (x26_2 + 1)) fun t32 =>
  next4 t32)) (edit_CheckStep_j1 a0 t17 t21)
noncomputable def edit_CheckStep (a0 : T_edit_Step) : Option (Int) :=
  bnd (edit_outside a0.Kind 1 9) fun t13 =>
  cnd t13 (some 10) (bnd (edit_word a0.Kind) fun t17 =>
  bnd (edit_Step_numbers a0) fun t21 =>
  bnd (gCut t21 t17.2 t21.length) fun t24 =>
  fix (fun next4 s => edit_CheckStep_l4 a0 t17 t21 t24 next4 s) 0)

/-! tintype/edit.Check -/
noncomputable def edit_Check_l1 (a0 : (List T_edit_Step)) (next1 : ((Int) → Option (Int))) (x11_2 : Int) : Option (Int) :=
  cnd (decide (x11_2 < (a0.length : Int))) (bnd (gAt a0 x11_2) fun t13 =>
  bnd (edit_CheckStep t13) fun t16 =>
  cnd (decide (t16 ≠ 0)) (some t16) (bnd (gI (x11_2 + 1)) fun t20 =>
  next1 t20)) (some 0)
noncomputable def edit_Check (a0 : (List T_edit_Step)) : Option (Int) :=
  cnd (decide (50 < (a0.length : Int))) (some 4) (fix (fun next1 s => edit_Check_l1 a0 next1 s) 0)

/-! tintype/edit.Text -/
noncomputable def edit_Text_j1 (m : (List UInt8)) : Option ((List UInt8) × Int) :=
  some (m, 0)
noncomputable def edit_Text_l2 (a0 : (List T_edit_Step)) (next2 : ((Int × (List UInt8)) → Option ((List UInt8) × Int))) (x15_2 : Int) (m_3 : (List UInt8)) : Option ((List UInt8) × Int) :=
  cnd (decide (x15_2 < (a0.length : Int))) (bnd (gAt a0 x15_2) fun t17 =>
  bnd (edit_Step_line t17) fun t20 =>
  bnd (gCat t20 [10]) fun t21 =>
  bnd (gBld m_3 t21) fun t22 =>
  bnd (gI (x15_2 + 1)) fun t23 =>
  next2 (t23, t22)) (edit_Text_j1 m_3)
noncomputable def edit_Text (a0 : (List T_edit_Step)) : Option ((List UInt8) × Int) :=
  bnd (edit_Check a0) fun t9 =>
  cnd (decide (t9 ≠ 0)) (some ([], t9)) (fix (fun next2 s => edit_Text_l2 a0 next2 s.1 s.2) (0, []))

/-! tintype/tintkeep2.awakeEdit -/
noncomputable def Keep_awakeEdit  : Option (Bool) :=
  bnd (edit_Text ([(⟨9, 0, 0, 0, 0⟩ : T_edit_Step)] : List T_edit_Step)) fun t6 =>
  cnd (decide (t6.2 = 0)) (some (decide (t6.1 = [105, 110, 118, 101, 114, 116, 10]))) (some false)

/-! tintype/pix.outside -/
noncomputable def pix_outside (a0 : Int) (a1 : Int) (a2 : Int) : Option (Bool) :=
  cnd (decide (a0 < a1)) (some true) (some (decide (a2 < a0)))

/-! tintype/pix.Check -/
noncomputable def pix_Check (a0 : T_api_Image) : Option (Int) :=
  bnd (pix_outside a0.W 1 64) fun t5 =>
  cnd t5 (some 2) (bnd (pix_outside a0.H 1 64) fun t9 =>
  cnd t9 (some 2) (bnd (gI (3 * a0.W)) fun t16 =>
  bnd (gI (t16 * a0.H)) fun t19 =>
  cnd (decide ((a0.Pixels.length : Int) ≠ t19)) (some 1) (some 0)))

/-! (tintype/edit.Step).size -/
noncomputable def edit_Step_size_j1 (a1 : Int) (a2 : Int) : Option (Int × Int × Bool) :=
  some (a1, a2, true)
noncomputable def edit_Step_size (a0 : T_edit_Step) (a1 : Int) (a2 : Int) : Option (Int × Int × Bool) :=
  cnd (decide (a0.Kind = 1)) (cnd (decide (5 ≤ a0.A)) (some (a2, a1, true)) (edit_Step_size_j1 a1 a2)) (cnd (decide (a0.Kind = 2)) (bnd (gI (a0.A + a0.C)) fun t28 =>
  cnd (decide (t28 ≤ a1)) (bnd (gI (a0.B + a0.D)) fun t36 =>
  some (a0.C, a0.D, (decide (t36 ≤ a2)))) (some (a0.C, a0.D, false))) (cnd (decide (a0.Kind = 3)) (some (a0.A, a0.B, true)) (edit_Step_size_j1 a1 a2)))

/-! tintype/edit.size -/
noncomputable def edit_size_j1 (x1 : Int) (x2 : Int) : Option (Int × Int × Int) :=
  some (x1, x2, 0)
noncomputable def edit_size_l2 (a0 : (List T_edit_Step)) (next2 : ((Int × Int × Int) → Option (Int × Int × Int))) (x1_3 : Int) (x2_3 : Int) (x20_2 : Int) : Option (Int × Int × Int) :=
  cnd (decide (x20_2 < (a0.length : Int))) (bnd (gAt a0 x20_2) fun t22 =>
  bnd (edit_Step_size t22 x1_3 x2_3) fun t28 =>
  cnd (!t28.2.2) (some (0, 0, 7)) (bnd (gI (x20_2 + 1)) fun t34 =>
  next2 (t28.1, t28.2.1, t34))) (edit_size_j1 x1_3 x2_3)
noncomputable def edit_size (a0 : (List T_edit_Step)) (a1 : Int) (a2 : Int) : Option (Int × Int × Int) :=
  bnd (edit_outside a1 1 64) fun t13 =>
  cnd t13 (some (0, 0, 2)) (bnd (edit_outside a2 1 64) fun t16 =>
  cnd t16 (some (0, 0, 2)) (fix (fun next2 s => edit_size_l2 a0 next2 s.1 s.2.1 s.2.2) (a1, a2, 0)))

/-! tintype/pix.blank -/
noncomputable def pix_blank (a0 : Int) (a1 : Int) : Option (T_api_Image) :=
  bnd (gI (3 * a0)) fun t8 =>
  bnd (gI (t8 * a1)) fun t10 =>
  bnd (gMake 1 t10 0) fun t11 =>
  some (⟨a0, a1, t11⟩ : T_api_Image)

/-! tintype/pix.set -/
noncomputable def pix_set (a0 : T_api_Image) (a1 : Int) (a2 : Int) (a3 : (Nat → Int)) : Option ((List Int)) :=
  bnd (gI (a2 * a0.W)) fun t13 =>
  bnd (gI (t13 + a1)) fun t15 =>
  bnd (gI (3 * t15)) fun t16 =>
  bnd (gCut a0.Pixels t16 a0.Pixels.length) fun t17 =>
  some (cpyL a0.Pixels t16 t17.length ((List.range 3).map a3))

/-! tintype/pix.at -/
noncomputable def pix_at (a0 : T_api_Image) (a1 : Int) (a2 : Int) : Option ((Nat → Int)) :=
  bnd (gI (a2 * a0.W)) fun t12 =>
  bnd (gI (t12 + a1)) fun t14 =>
  bnd (gI (3 * t14)) fun t15 =>
  bnd (gCut a0.Pixels t15 a0.Pixels.length) fun t16 =>
  bnd (gIf (3 ≤ t16.length)) fun u17 =>
  some (ofL t16)

/-! tintype/pix.turnings$1 -/
noncomputable def pix_turnings_1 (a0 : Int) (a1 : Int) (a2 : Int) (a3 : Int) : Option (Int × Int) :=
  some (a2, a3)

/-! tintype/pix.turnings$2 -/
noncomputable def pix_turnings_2 (a0 : Int) (a1 : Int) (a2 : Int) (a3 : Int) : Option (Int × Int) :=
  bnd (gI (a0 - 1)) fun t11 =>
  bnd (gI (t11 - a2)) fun t13 =>
  some (t13, a3)

/-! tintype/pix.turnings$3 -/
noncomputable def pix_turnings_3 (a0 : Int) (a1 : Int) (a2 : Int) (a3 : Int) : Option (Int × Int) :=
  bnd (gI (a0 - 1)) fun t11 =>
  bnd (gI (t11 - a2)) fun t13 =>
  bnd (gI (a1 - 1)) fun t15 =>
  bnd (gI (t15 - a3)) fun t17 =>
  some (t13, t17)

/-! tintype/pix.turnings$4 -/
noncomputable def pix_turnings_4 (a0 : Int) (a1 : Int) (a2 : Int) (a3 : Int) : Option (Int × Int) :=
  bnd (gI (a1 - 1)) fun t12 =>
  bnd (gI (t12 - a3)) fun t14 =>
  some (a2, t14)

/-! tintype/pix.turnings$5 -/
noncomputable def pix_turnings_5 (a0 : Int) (a1 : Int) (a2 : Int) (a3 : Int) : Option (Int × Int) :=
  some (a3, a2)

/-! tintype/pix.turnings$6 -/
noncomputable def pix_turnings_6 (a0 : Int) (a1 : Int) (a2 : Int) (a3 : Int) : Option (Int × Int) :=
  bnd (gI (a1 - 1)) fun t12 =>
  bnd (gI (t12 - a2)) fun t14 =>
  some (a3, t14)

/-! tintype/pix.turnings$7 -/
noncomputable def pix_turnings_7 (a0 : Int) (a1 : Int) (a2 : Int) (a3 : Int) : Option (Int × Int) :=
  bnd (gI (a0 - 1)) fun t11 =>
  bnd (gI (t11 - a3)) fun t13 =>
  bnd (gI (a1 - 1)) fun t15 =>
  bnd (gI (t15 - a2)) fun t17 =>
  some (t13, t17)

/-! tintype/pix.turnings$8 -/
noncomputable def pix_turnings_8 (a0 : Int) (a1 : Int) (a2 : Int) (a3 : Int) : Option (Int × Int) :=
  bnd (gI (a0 - 1)) fun t11 =>
  bnd (gI (t11 - a3)) fun t13 =>
  some (t13, a2)

/-! tintype/pix.turnings -/
noncomputable def pix_turnings  : Option (Unit) :=
  some ()
noncomputable def pix_turnings_tab0 : Nat → (Option (Int → Int → Int → Int → Option (Int × Int))) := ofL [none, (some pix_turnings_1), (some pix_turnings_2), (some pix_turnings_3), (some pix_turnings_4), (some pix_turnings_5), (some pix_turnings_6), (some pix_turnings_7), (some pix_turnings_8)]
noncomputable def pix_turnings_tab1 : Nat → Bool := ofL [false, false, false, false, false, true, true, true, true]

/-! tintype/pix.Sides -/
noncomputable def pix_Sides (a0 : Int) (a1 : Int) (a2 : Int) : Option (Int × Int) :=
  bnd (pix_turnings) fun t8 =>
  bnd (gIx 9 a0) fun k10 =>
  cnd (pix_turnings_tab1 k10) (some (a2, a1)) (some (a1, a2))

/-! tintype/pix.turned -/
noncomputable def pix_turned_j1 (t19 : (T_api_Image)) (l : (List Int)) : Option (T_api_Image) :=
  some (⟨t19.W, t19.H, l⟩ : T_api_Image)
noncomputable def pix_turned_j3 (x26_2 : Int) (m_2 : (List Int)) (next2 : ((Int × (List Int) × (List Int)) → Option (T_api_Image))) (l_4 : (List Int)) : Option (T_api_Image) :=
  bnd (gI (x26_2 + 1)) fun t54 =>
  next2 (t54, m_2, l_4)
noncomputable def pix_turned_l4 (a0 : T_api_Image) (t19 : (T_api_Image)) (k22 : Nat) (x26_2 : Int) (m_2 : (List Int)) (next2 : ((Int × (List Int) × (List Int)) → Option (T_api_Image))) (next4 : ((Int × (List Int)) → Option (T_api_Image))) (x31_2 : Int) (l_6 : (List Int)) : Option (T_api_Image) :=
  cnd (decide (x31_2 < t19.W)) (bnd (gFn (pix_turnings_tab0 k22)) fun g42 =>
  bnd (g42 a0.W a0.H x31_2 x26_2) fun t42 =>
  bnd (pix_at (⟨a0.W, a0.H, m_2⟩ : T_api_Image) t42.1 t42.2) fun t51 =>
  bnd (pix_set (⟨t19.W, t19.H, l_6⟩ : T_api_Image) x31_2 x26_2 t51) fun t52 =>
  bnd (gI (x31_2 + 1)) fun t53 =>
  next4 (t53, t52)) (pix_turned_j3 x26_2 m_2 next2 l_6)
noncomputable def pix_turned_l2 (a0 : T_api_Image) (t19 : (T_api_Image)) (k22 : Nat) (next2 : ((Int × (List Int) × (List Int)) → Option (T_api_Image))) (x26_2 : Int) (m_2 : (List Int)) (l_3 : (List Int)) : Option (T_api_Image) :=
  cnd (decide (x26_2 < t19.H)) (fix (fun next4 s => pix_turned_l4 a0 t19 k22 x26_2 m_2 next2 next4 s.1 s.2) (0, l_3)) (pix_turned_j1 t19 l_3)
noncomputable def pix_turned (a0 : T_api_Image) (a1 : Int) : Option (T_api_Image) :=
  bnd (pix_Sides a1 a0.W a0.H) fun t16 =>
  bnd (pix_blank t16.1 t16.2) fun t19 =>
  bnd (pix_turnings) fun t20 =>
  bnd (gIx 9 a1) fun k22 =>
  fix (fun next2 s => pix_turned_l2 a0 t19 k22 next2 s.1 s.2.1 s.2.2) (0, a0.Pixels, t19.Pixels)

/-! tintype/pix.Turn -/
noncomputable def pix_Turn (a0 : T_api_Image) (a1 : Int) : Option (T_api_Image × Int) :=
  bnd (pix_Check a0) fun t8 =>
  cnd (decide (t8 ≠ 0)) (some ((⟨0, 0, ([] : List Int)⟩ : T_api_Image), t8)) (bnd (pix_outside a1 1 8) fun t14 =>
  cnd t14 (some ((⟨0, 0, ([] : List Int)⟩ : T_api_Image), 2)) (bnd (pix_turned a0 a1) fun t18 =>
  some (t18, 0)))

/-! tintype/pix.Crop -/
noncomputable def pix_Crop_j1 (t59 : (T_api_Image)) (l : (List Int)) : Option (T_api_Image × Int) :=
  some ((⟨t59.W, t59.H, l⟩ : T_api_Image), 0)
noncomputable def pix_Crop_j3 (x61_2 : Int) (m_2 : (List Int)) (next2 : ((Int × (List Int) × (List Int)) → Option (T_api_Image × Int))) (l_4 : (List Int)) : Option (T_api_Image × Int) :=
  bnd (gI (x61_2 + 1)) fun t81 =>
  next2 (t81, m_2, l_4)
noncomputable def pix_Crop_l4 (a0 : T_api_Image) (a1 : Int) (a2 : Int) (a3 : Int) (t59 : (T_api_Image)) (x61_2 : Int) (m_2 : (List Int)) (next2 : ((Int × (List Int) × (List Int)) → Option (T_api_Image × Int))) (next4 : ((Int × (List Int)) → Option (T_api_Image × Int))) (x65_2 : Int) (l_6 : (List Int)) : Option (T_api_Image × Int) :=
  cnd (decide (x65_2 < a3)) (bnd (gI (a1 + x65_2)) fun t74 =>
  bnd (gI (a2 + x61_2)) fun t77 =>
  bnd (pix_at (⟨a0.W, a0.H, m_2⟩ : T_api_Image) t74 t77) fun t78 =>
  bnd (pix_set (⟨t59.W, t59.H, l_6⟩ : T_api_Image) x65_2 x61_2 t78) fun t79 =>
  bnd (gI (x65_2 + 1)) fun t80 =>
  next4 (t80, t79)) (pix_Crop_j3 x61_2 m_2 next2 l_6)
noncomputable def pix_Crop_l2 (a0 : T_api_Image) (a1 : Int) (a2 : Int) (a3 : Int) (a4 : Int) (t59 : (T_api_Image)) (next2 : ((Int × (List Int) × (List Int)) → Option (T_api_Image × Int))) (x61_2 : Int) (m_2 : (List Int)) (l_3 : (List Int)) : Option (T_api_Image × Int) :=
  cnd (decide (x61_2 < a4)) (fix (fun next4 s => pix_Crop_l4 a0 a1 a2 a3 t59 x61_2 m_2 next2 next4 s.1 s.2) (0, l_3)) (pix_Crop_j1 t59 l_3)
noncomputable def pix_Crop (a0 : T_api_Image) (a1 : Int) (a2 : Int) (a3 : Int) (a4 : Int) : Option (T_api_Image × Int) :=
  bnd (pix_Check a0) fun t17 =>
  cnd (decide (t17 ≠ 0)) (some ((⟨0, 0, ([] : List Int)⟩ : T_api_Image), t17)) (cnd (decide (a1 < 0)) (some ((⟨0, 0, ([] : List Int)⟩ : T_api_Image), 2)) (cnd (decide (a2 < 0)) (some ((⟨0, 0, ([] : List Int)⟩ : T_api_Image), 2)) (bnd (pix_outside a3 1 a0.W) fun t32 =>
  cnd t32 (some ((⟨0, 0, ([] : List Int)⟩ : T_api_Image), 2)) (bnd (pix_outside a4 1 a0.H) fun t38 =>
  cnd t38 (some ((⟨0, 0, ([] : List Int)⟩ : T_api_Image), 2)) (bnd (gI (a0.W - a3)) fun t45 =>
  cnd (decide (t45 < a1)) (some ((⟨0, 0, ([] : List Int)⟩ : T_api_Image), 2)) (bnd (gI (a0.H - a4)) fun t53 =>
  cnd (decide (t53 < a2)) (some ((⟨0, 0, ([] : List Int)⟩ : T_api_Image), 2)) (bnd (pix_blank a3 a4) fun t59 =>
  fix (fun next2 s => pix_Crop_l2 a0 a1 a2 a3 a4 t59 next2 s.1 s.2.1 s.2.2) (0, a0.Pixels, t59.Pixels))))))))

/-! tintype/pix.shares -/
noncomputable def pix_shares_l1 (a0 : Int) (a1 : Int) (a2 : Int) (next1 : ((Int × (List T_pix_share)) → Option ((List T_pix_share)))) (x8_2 : Int) (l_2 : (List T_pix_share)) : Option ((List T_pix_share)) :=
  bnd (gI (a2 + 1)) fun t17 =>
  bnd (gI (a0 * t17)) fun t18 =>
  cnd (decide (x8_2 < t18)) (bnd (gQuo x8_2 a1) fun t22 =>
  bnd (gI (t22 + 1)) fun t24 =>
  bnd (gI (t24 * a1)) fun t26 =>
  bnd (gI (a2 + 1)) fun t29 =>
  bnd (gI (a0 * t29)) fun t30 =>
  bnd (gI ((min t26 t30) - x8_2)) fun t36 =>
  bnd (gApp 16 l_2 ([(⟨t22, t36⟩ : T_pix_share)] : List T_pix_share)) fun l39 =>
  next1 ((min t26 t30), l39)) (some l_2)
noncomputable def pix_shares (a0 : Int) (a1 : Int) (a2 : Int) : Option ((List T_pix_share)) :=
  bnd (gI (a0 * a2)) fun t13 =>
  fix (fun next1 s => pix_shares_l1 a0 a1 a2 next1 s.1 s.2) (t13, ([] : List T_pix_share))

/-! tintype/pix.scaled -/
noncomputable def pix_scaled_j1 (t25 : (T_api_Image)) (l : (List Int)) : Option (T_api_Image) :=
  some (⟨t25.W, t25.H, l⟩ : T_api_Image)
noncomputable def pix_scaled_j3 (x32_2 : Int) (m_2 : (List Int)) (next2 : ((Int × (List Int) × (List Int)) → Option (T_api_Image))) (l_4 : (List Int)) : Option (T_api_Image) :=
  bnd (gI (x32_2 + 1)) fun t109 =>
  next2 (t109, m_2, l_4)
noncomputable def pix_scaled_j5 (x41_2 : Int) (next4 : ((Int × (List Int)) → Option (T_api_Image))) (l_7 : (List Int)) : Option (T_api_Image) :=
  bnd (gI (x41_2 + 1)) fun t108 =>
  next4 (t108, l_7)
noncomputable def pix_scaled_j7 (t25 : (T_api_Image)) (x32_2 : Int) (x41_2 : Int) (l_6 : (List Int)) (next4 : ((Int × (List Int)) → Option (T_api_Image))) (m_4 : (Nat → Int)) : Option (T_api_Image) :=
  bnd (pix_set (⟨t25.W, t25.H, l_6⟩ : T_api_Image) x41_2 x32_2 m_4) fun t107 =>
  pix_scaled_j5 x41_2 next4 t107
noncomputable def pix_scaled_l8 (t25 : (T_api_Image)) (t30 : Int) (x32_2 : Int) (x41_2 : Int) (l_6 : (List Int)) (next4 : ((Int × (List Int)) → Option (T_api_Image))) (m_3 : (Nat → Int)) (next8 : ((Int × (Nat → Int)) → Option (T_api_Image))) (x88_2 : Int) (m_6 : (Nat → Int)) : Option (T_api_Image) :=
  cnd (decide (x88_2 < 3)) (bnd (gIx 3 x88_2) fun k91 =>
  bnd (gI (2 * (m_3 k91))) fun t94 =>
  bnd (gI (t94 + t30)) fun t96 =>
  bnd (gI (2 * t30)) fun t98 =>
  bnd (gQuo t96 t98) fun t99 =>
  bnd (gIx 3 x88_2) fun k101 =>
  bnd (gI (x88_2 + 1)) fun t102 =>
  next8 (t102, (setA m_6 k101 (wU8 t99)))) (pix_scaled_j7 t25 x32_2 x41_2 l_6 next4 m_6)
noncomputable def pix_scaled_j6 (t25 : (T_api_Image)) (t30 : Int) (x32_2 : Int) (x41_2 : Int) (l_6 : (List Int)) (next4 : ((Int × (List Int)) → Option (T_api_Image))) (m_3 : (Nat → Int)) : Option (T_api_Image) :=
  fix (fun next8 s => pix_scaled_l8 t25 t30 x32_2 x41_2 l_6 next4 m_3 next8 s.1 s.2) (0, (fun _ => 0))
noncomputable def pix_scaled_j10 (x51_2 : Int) (next9 : ((Int × (Nat → Int)) → Option (T_api_Image))) (m_9 : (Nat → Int)) : Option (T_api_Image) :=
  bnd (gI (x51_2 + 1)) fun t86 =>
  next9 (t86, m_9)
noncomputable def pix_scaled_j12 (x57_2 : Int) (next11 : ((Int × (Nat → Int)) → Option (T_api_Image))) (m_12 : (Nat → Int)) : Option (T_api_Image) :=
  bnd (gI (x57_2 + 1)) fun t85 =>
  next11 (t85, m_12)
noncomputable def pix_scaled_l13 (t53 : T_pix_share) (x57_2 : Int) (next11 : ((Int × (Nat → Int)) → Option (T_api_Image))) (t59 : T_pix_share) (t66 : ((Nat → Int))) (next13 : ((Int × (Nat → Int)) → Option (T_api_Image))) (x67_2 : Int) (m_14 : (Nat → Int)) : Option (T_api_Image) :=
  cnd (decide (x67_2 < 3)) (bnd (gIx 3 x67_2) fun k70 =>
  bnd (gIx 3 x67_2) fun k72 =>
  bnd (gK (-9223372036854775808) 9223372036854775807 (t66 k70)) fun t75 =>
  bnd (gI (t75 * t53.parts_)) fun t78 =>
  bnd (gI (t78 * t59.parts_)) fun t81 =>
  bnd (gI ((m_14 k72) + t81)) fun t82 =>
  bnd (gIx 3 x67_2) fun k83 =>
  bnd (gI (x67_2 + 1)) fun t84 =>
  next13 (t84, (setA m_14 k83 t82))) (pix_scaled_j12 x57_2 next11 m_14)
noncomputable def pix_scaled_l11 (a0 : T_api_Image) (m_2 : (List Int)) (t48 : ((List T_pix_share))) (x51_2 : Int) (next9 : ((Int × (Nat → Int)) → Option (T_api_Image))) (t53 : T_pix_share) (next11 : ((Int × (Nat → Int)) → Option (T_api_Image))) (x57_2 : Int) (m_11 : (Nat → Int)) : Option (T_api_Image) :=
  cnd (decide (x57_2 < (t48.length : Int))) (bnd (gAt t48 x57_2) fun t59 =>
  bnd (pix_at (⟨a0.W, a0.H, m_2⟩ : T_api_Image) t59.at_ t53.at_) fun t66 =>
  fix (fun next13 s => pix_scaled_l13 t53 x57_2 next11 t59 t66 next13 s.1 s.2) (0, m_11)) (pix_scaled_j10 x51_2 next9 m_11)
noncomputable def pix_scaled_l9 (a0 : T_api_Image) (t25 : (T_api_Image)) (t30 : Int) (x32_2 : Int) (m_2 : (List Int)) (t39 : ((List T_pix_share))) (x41_2 : Int) (l_6 : (List Int)) (next4 : ((Int × (List Int)) → Option (T_api_Image))) (t48 : ((List T_pix_share))) (next9 : ((Int × (Nat → Int)) → Option (T_api_Image))) (x51_2 : Int) (m_8 : (Nat → Int)) : Option (T_api_Image) :=
  cnd (decide (x51_2 < (t39.length : Int))) (bnd (gAt t39 x51_2) fun t53 =>
  fix (fun next11 s => pix_scaled_l11 a0 m_2 t48 x51_2 next9 t53 next11 s.1 s.2) (0, m_8)) (pix_scaled_j6 t25 t30 x32_2 x41_2 l_6 next4 m_8)
noncomputable def pix_scaled_l4 (a0 : T_api_Image) (a1 : Int) (t25 : (T_api_Image)) (t30 : Int) (x32_2 : Int) (m_2 : (List Int)) (next2 : ((Int × (List Int) × (List Int)) → Option (T_api_Image))) (t39 : ((List T_pix_share))) (next4 : ((Int × (List Int)) → Option (T_api_Image))) (x41_2 : Int) (l_6 : (List Int)) : Option (T_api_Image) :=
  cnd (decide (x41_2 < a1)) (bnd (pix_shares a0.W a1 x41_2) fun t48 =>
  fix (fun next9 s => pix_scaled_l9 a0 t25 t30 x32_2 m_2 t39 x41_2 l_6 next4 t48 next9 s.1 s.2) (0, (fun _ => 0))) (pix_scaled_j3 x32_2 m_2 next2 l_6)
noncomputable def pix_scaled_l2 (a0 : T_api_Image) (a1 : Int) (a2 : Int) (t25 : (T_api_Image)) (t30 : Int) (next2 : ((Int × (List Int) × (List Int)) → Option (T_api_Image))) (x32_2 : Int) (m_2 : (List Int)) (l_3 : (List Int)) : Option (T_api_Image) :=
  cnd (decide (x32_2 < a2)) (bnd (pix_shares a0.H a2 x32_2) fun t39 =>
  fix (fun next4 s => pix_scaled_l4 a0 a1 t25 t30 x32_2 m_2 next2 t39 next4 s.1 s.2) (0, l_3)) (pix_scaled_j1 t25 l_3)
noncomputable def pix_scaled (a0 : T_api_Image) (a1 : Int) (a2 : Int) : Option (T_api_Image) :=
  bnd (pix_blank a1 a2) fun t25 =>
  bnd (gI (a0.W * a0.H)) fun t30 =>
  fix (fun next2 s => pix_scaled_l2 a0 a1 a2 t25 t30 next2 s.1 s.2.1 s.2.2) (0, a0.Pixels, t25.Pixels)

/-! tintype/pix.Scale -/
noncomputable def pix_Scale (a0 : T_api_Image) (a1 : Int) (a2 : Int) : Option (T_api_Image × Int) :=
  bnd (pix_Check a0) fun t10 =>
  cnd (decide (t10 ≠ 0)) (some ((⟨0, 0, ([] : List Int)⟩ : T_api_Image), t10)) (bnd (pix_outside a1 1 64) fun t16 =>
  cnd t16 (some ((⟨0, 0, ([] : List Int)⟩ : T_api_Image), 2)) (bnd (pix_outside a2 1 64) fun t19 =>
  cnd t19 (some ((⟨0, 0, ([] : List Int)⟩ : T_api_Image), 2)) (bnd (pix_scaled a0 a1 a2) fun t25 =>
  some (t25, 0))))

/-! tintype/edit.clamp -/
noncomputable def edit_clamp (a0 : Int) : Option (Int) :=
  some (wU8 (min (max a0 0) 255))

/-! (tintype/edit.Step).warm -/
noncomputable def edit_Step_warm (a0 : T_edit_Step) (a1 : (Nat → Int)) : Option ((Nat → Int)) :=
  bnd (gK (-9223372036854775808) 9223372036854775807 (a1 0)) fun t7 =>
  bnd (gI (t7 + a0.A)) fun t10 =>
  bnd (edit_clamp t10) fun t11 =>
  bnd (gK (-9223372036854775808) 9223372036854775807 (a1 2)) fun t16 =>
  bnd (gI (t16 - a0.A)) fun t19 =>
  bnd (edit_clamp t19) fun t20 =>
  some (ofL [t11, (a1 1), t20])

/-! tintype/edit.floor -/
noncomputable def edit_floor (a0 : Int) (a1 : Int) : Option (Int) :=
  bnd (gQuo a0 a1) fun t8 =>
  bnd (gRem a0 a1) fun t11 =>
  cnd (decide (t11 < 0)) (bnd (gI (t8 - 1)) fun t14 =>
  some t14) (some t8)

/-! (tintype/edit.Step).mute -/
noncomputable def edit_Step_mute_j1 (m : (Nat → Int)) : Option ((Nat → Int)) :=
  some m
noncomputable def edit_Step_mute_l2 (a0 : T_edit_Step) (a1 : (Nat → Int)) (t22 : Int) (next2 : ((Int × (Nat → Int)) → Option ((Nat → Int)))) (x24_2 : Int) (m_3 : (Nat → Int)) : Option ((Nat → Int)) :=
  cnd (decide (x24_2 < 3)) (bnd (gIx 3 x24_2) fun k27 =>
  bnd (gK (-9223372036854775808) 9223372036854775807 (a1 k27)) fun t30 =>
  bnd (gK (-9223372036854775808) 9223372036854775807 (a1 k27)) fun t33 =>
  bnd (gI (t22 - t33)) fun t34 =>
  bnd (gI (t34 * a0.A)) fun t37 =>
  bnd (edit_floor t37 100) fun t38 =>
  bnd (gI (t30 + t38)) fun t39 =>
  bnd (edit_clamp t39) fun t40 =>
  bnd (gIx 3 x24_2) fun k41 =>
  bnd (gI (x24_2 + 1)) fun t42 =>
  next2 (t42, (setA m_3 k41 t40))) (edit_Step_mute_j1 m_3)
noncomputable def edit_Step_mute (a0 : T_edit_Step) (a1 : (Nat → Int)) : Option ((Nat → Int)) :=
  bnd (gK (-9223372036854775808) 9223372036854775807 (a1 0)) fun t10 =>
  bnd (gI (77 * t10)) fun t11 =>
  bnd (gK (-9223372036854775808) 9223372036854775807 (a1 1)) fun t14 =>
  bnd (gI (150 * t14)) fun t15 =>
  bnd (gI (t11 + t15)) fun t16 =>
  bnd (gK (-9223372036854775808) 9223372036854775807 (a1 2)) fun t19 =>
  bnd (gI (29 * t19)) fun t20 =>
  bnd (gI (t16 + t20)) fun t21 =>
  bnd (gQuo t21 256) fun t22 =>
  fix (fun next2 s => edit_Step_mute_l2 a0 a1 t22 next2 s.1 s.2) (0, a1)

/-! (tintype/edit.Step).light -/
noncomputable def edit_Step_light (a0 : T_edit_Step) (a1 : Int) : Option (Int) :=
  bnd (gK (-9223372036854775808) 9223372036854775807 a1) fun t6 =>
  bnd (gI (t6 + a0.A)) fun t9 =>
  bnd (edit_clamp t9) fun t10 =>
  some t10

/-! (tintype/edit.Step).spread -/
noncomputable def edit_Step_spread (a0 : T_edit_Step) (a1 : Int) : Option (Int) :=
  bnd (gK (-9223372036854775808) 9223372036854775807 a1) fun t6 =>
  bnd (gI (t6 - 128)) fun t7 =>
  bnd (gI (t7 * a0.A)) fun t10 =>
  bnd (edit_floor t10 100) fun t11 =>
  bnd (gI (128 + t11)) fun t12 =>
  bnd (edit_clamp t12) fun t13 =>
  some t13

/-! (tintype/edit.Step).levels -/
noncomputable def edit_Step_levels (a0 : T_edit_Step) (a1 : Int) : Option (Int) :=
  bnd (gK (-9223372036854775808) 9223372036854775807 a1) fun t6 =>
  bnd (gI (t6 - a0.A)) fun t9 =>
  bnd (gI (t9 * 255)) fun t10 =>
  bnd (gI (a0.B - a0.A)) fun t15 =>
  bnd (edit_floor t10 t15) fun t16 =>
  bnd (edit_clamp t16) fun t17 =>
  some t17

/-! (tintype/edit.Step).invert -/
noncomputable def edit_Step_invert (a0 : T_edit_Step) (a1 : Int) : Option (Int) :=
  some (wU8 (255 - a1))

/-! (tintype/edit.Step).byByte -/
noncomputable def edit_Step_byByte (a0 : T_edit_Step) : Option ((Option (Int → Option (Int)))) :=
  cnd (decide (a0.Kind = 4)) (some (some (edit_Step_light a0))) (cnd (decide (a0.Kind = 5)) (some (some (edit_Step_spread a0))) (cnd (decide (a0.Kind = 6)) (some (some (edit_Step_levels a0))) (cnd (decide (a0.Kind = 9)) (some (some (edit_Step_invert a0))) (some none))))

/-! (tintype/edit.Step).eachByte -/
noncomputable def edit_Step_eachByte_j1 (m : (Nat → Int)) : Option ((Nat → Int)) :=
  some m
noncomputable def edit_Step_eachByte_l2 (a1 : (Nat → Int)) (t9 : ((Option (Int → Option (Int))))) (next2 : ((Int × (Nat → Int)) → Option ((Nat → Int)))) (x11_2 : Int) (m_3 : (Nat → Int)) : Option ((Nat → Int)) :=
  cnd (decide (x11_2 < 3)) (bnd (gIx 3 x11_2) fun k14 =>
  bnd (gFn t9) fun g18 =>
  bnd (g18 (a1 k14)) fun t18 =>
  bnd (gIx 3 x11_2) fun k19 =>
  bnd (gI (x11_2 + 1)) fun t20 =>
  next2 (t20, (setA m_3 k19 t18))) (edit_Step_eachByte_j1 m_3)
noncomputable def edit_Step_eachByte (a0 : T_edit_Step) (a1 : (Nat → Int)) : Option ((Nat → Int)) :=
  bnd (edit_Step_byByte a0) fun t9 =>
  fix (fun next2 s => edit_Step_eachByte_l2 a1 t9 next2 s.1 s.2) (0, a1)

/-! (tintype/edit.Step).byPixel -/
noncomputable def edit_Step_byPixel (a0 : T_edit_Step) : Option ((Option ((Nat → Int) → Option ((Nat → Int))))) :=
  cnd (decide (a0.Kind = 7)) (some (some (edit_Step_warm a0))) (cnd (decide (a0.Kind = 8)) (some (some (edit_Step_mute a0))) (some (some (edit_Step_eachByte a0))))

/-! (tintype/edit.Step).tone -/
noncomputable def edit_Step_tone_l1 (t8 : ((Option ((Nat → Int) → Option ((Nat → Int)))))) (next1 : ((Int × (List Int)) → Option ((List Int)))) (x5_2 : Int) (l_2 : (List Int)) : Option ((List Int)) :=
  cnd (decide (x5_2 < (l_2.length : Int))) (bnd (gI (x5_2 + 3)) fun t21 =>
  bnd (gCut l_2 x5_2 t21) fun t22 =>
  bnd (gIf (3 ≤ t22.length)) fun u23 =>
  bnd (gFn t8) fun g25 =>
  bnd (g25 (ofL t22)) fun t25 =>
  bnd (gCut l_2 x5_2 l_2.length) fun t29 =>
  bnd (gI (x5_2 + 3)) fun t15 =>
  next1 (t15, (cpyL l_2 x5_2 t29.length ((List.range 3).map t25)))) (some l_2)
noncomputable def edit_Step_tone (a0 : T_edit_Step) (a1 : T_api_Image) : Option ((List Int)) :=
  bnd (edit_Step_byPixel a0) fun t8 =>
  fix (fun next1 s => edit_Step_tone_l1 t8 next1 s.1 s.2) (0, a1.Pixels)

/-! tintype/edit.Render -/
noncomputable def edit_Render_j1 (m : Int) (m_2 : Int) (l : (List Int)) : Option (T_api_Image × Int) :=
  some ((⟨m, m_2, l⟩ : T_api_Image), 0)
noncomputable def edit_Render_j3 (x46_2 : Int) (next2 : ((Int × Int × Int × (List Int)) → Option (T_api_Image × Int))) (m_7 : Int) (m_8 : Int) (l_4 : (List Int)) : Option (T_api_Image × Int) :=
  bnd (gI (x46_2 + 1)) fun t90 =>
  next2 (t90, m_7, m_8, l_4)
noncomputable def edit_Render_l2 (a1 : (List T_edit_Step)) (next2 : ((Int × Int × Int × (List Int)) → Option (T_api_Image × Int))) (x46_2 : Int) (m_5 : Int) (m_6 : Int) (l_3 : (List Int)) : Option (T_api_Image × Int) :=
  cnd (decide (x46_2 < (a1.length : Int))) (bnd (gAt a1 x46_2) fun t48 =>
  cnd (decide (t48.Kind = 1)) (bnd (pix_Turn (⟨m_5, m_6, l_3⟩ : T_api_Image) t48.A) fun t61 =>
  edit_Render_j3 x46_2 next2 t61.1.W t61.1.H t61.1.Pixels) (cnd (decide (t48.Kind = 2)) (bnd (pix_Crop (⟨m_5, m_6, l_3⟩ : T_api_Image) t48.A t48.B t48.C t48.D) fun t76 =>
  edit_Render_j3 x46_2 next2 t76.1.W t76.1.H t76.1.Pixels) (cnd (decide (t48.Kind = 3)) (bnd (pix_Scale (⟨m_5, m_6, l_3⟩ : T_api_Image) t48.A t48.B) fun t87 =>
  edit_Render_j3 x46_2 next2 t87.1.W t87.1.H t87.1.Pixels) (bnd (edit_Step_tone t48 (⟨m_5, m_6, l_3⟩ : T_api_Image)) fun t54 =>
  edit_Render_j3 x46_2 next2 m_5 m_6 t54)))) (edit_Render_j1 m_5 m_6 l_3)
noncomputable def edit_Render (a0 : T_api_Image) (a1 : (List T_edit_Step)) : Option (T_api_Image × Int) :=
  bnd (edit_Check a1) fun t14 =>
  cnd (decide (t14 ≠ 0)) (some ((⟨0, 0, ([] : List Int)⟩ : T_api_Image), t14)) (bnd (pix_Check a0) fun t20 =>
  cnd (decide (t20 ≠ 0)) (some ((⟨0, 0, ([] : List Int)⟩ : T_api_Image), t20)) (bnd (edit_size a1 a0.W a0.H) fun t31 =>
  cnd (decide (t31.2.2 ≠ 0)) (some ((⟨0, 0, ([] : List Int)⟩ : T_api_Image), t31.2.2)) (bnd (pix_Turn a0 1) fun t41 =>
  fix (fun next2 s => edit_Render_l2 a1 next2 s.1 s.2.1 s.2.2.1 s.2.2.2) (0, t41.1.W, t41.1.H, t41.1.Pixels))))

/-! slices.Clone[[]tintype/edit.Step,tintype/edit.Step] -/
noncomputable def slices_Clone_edit_Step (a0 : (List T_edit_Step)) : Option ((List T_edit_Step)) :=
  bnd (gApp 40 ([] : List T_edit_Step) a0) fun l7 =>
  some l7

/-! tintype/edit.straight -/
noncomputable def edit_straight_j1 (m : (Nat → Int)) : Option ((Nat → Int)) :=
  some m
noncomputable def edit_straight_l2 (next2 : ((Int × (Nat → Int)) → Option ((Nat → Int)))) (x3_2 : Int) (m_3 : (Nat → Int)) : Option ((Nat → Int)) :=
  cnd (decide (x3_2 < 256)) (bnd (gIx 256 x3_2) fun k9 =>
  bnd (gI (x3_2 + 1)) fun t10 =>
  next2 (t10, (setA m_3 k9 (wU8 x3_2)))) (edit_straight_j1 m_3)
noncomputable def edit_straight  : Option ((Nat → Int)) :=
  fix (fun next2 s => edit_straight_l2 next2 s.1 s.2) (0, (fun _ => 0))

/-! (tintype/edit.curve).after -/
noncomputable def edit_curve_after_j1 (m : (Nat → Int)) : Option ((Nat → Int) × Bool) :=
  some (m, true)
noncomputable def edit_curve_after_l2 (a0 : (Nat → Int)) (t10 : ((Option (Int → Option (Int))))) (next2 : ((Int × (Nat → Int)) → Option ((Nat → Int) × Bool))) (x15_2 : Int) (m_3 : (Nat → Int)) : Option ((Nat → Int) × Bool) :=
  cnd (decide (x15_2 < 256)) (bnd (gIx 256 x15_2) fun k18 =>
  bnd (gFn t10) fun g22 =>
  bnd (g22 (a0 k18)) fun t22 =>
  bnd (gIx 256 x15_2) fun k23 =>
  bnd (gI (x15_2 + 1)) fun t24 =>
  next2 (t24, (setA m_3 k23 t22))) (edit_curve_after_j1 m_3)
noncomputable def edit_curve_after (a0 : (Nat → Int)) (a1 : T_edit_Step) : Option ((Nat → Int) × Bool) :=
  bnd (edit_Step_byByte a1) fun t10 =>
  cnd (Option.isNone t10) (some (a0, false)) (fix (fun next2 s => edit_curve_after_l2 a0 t10 next2 s.1 s.2) (0, a0))

/-! (tintype/edit.Step).neutral -/
noncomputable def edit_Step_neutral_j1 (a0 : T_edit_Step) : Option (Bool) :=
  bnd (edit_straight) fun t42 =>
  bnd (edit_curve_after t42 a0) fun t44 =>
  bnd (edit_straight) fun t48 =>
  some (eq_edit_curve t44.1 t48)
noncomputable def edit_Step_neutral (a0 : T_edit_Step) (a1 : Int) (a2 : Int) : Option (Bool) :=
  cnd (decide (a0.Kind = 1)) (some (decide (a0.A = 1))) (cnd (decide (a0.Kind = 2)) (some (eq_edit_Step a0 (⟨2, 0, 0, a1, a2⟩ : T_edit_Step))) (cnd (decide (a0.Kind = 3)) (cnd (decide (a0.A = a1)) (some (decide (a0.B = a2))) (some false)) (cnd (decide (a0.Kind = 7)) (cnd (decide (a0.Kind = 7)) (some (decide (a0.A = 0))) (edit_Step_neutral_j1 a0)) (cnd (decide (a0.Kind = 8)) (some (decide (a0.A = 0))) (edit_Step_neutral_j1 a0)))))

/-! slices.Concat[[]tintype/edit.Step,tintype/edit.Step] -/
noncomputable def slices_Concat_edit_Step_l2 (a0 : (List (List T_edit_Step))) (u24 : Nat) (next2 : ((Int × (List T_edit_Step)) → Option ((List T_edit_Step)))) (x27_2 : Int) (l_2 : (List T_edit_Step)) : Option ((List T_edit_Step)) :=
  cnd (decide (x27_2 < (a0.length : Int))) (bnd (gAt a0 x27_2) fun t29 =>
  bnd (gApC u24 l_2 t29) fun l33 =>
  bnd (gI (x27_2 + 1)) fun t34 =>
  next2 (t34, l33)) (some l_2)
noncomputable def slices_Concat_edit_Step_j1 (a0 : (List (List T_edit_Step))) (x3 : Int) : Option ((List T_edit_Step)) :=
  bnd (gGroC 40 x3) fun u24 =>
  fix (fun next2 s => slices_Concat_edit_Step_l2 a0 u24 next2 s.1 s.2) (0, ([] : List T_edit_Step))
noncomputable def slices_Concat_edit_Step_l3 (a0 : (List (List T_edit_Step))) (next3 : ((Int × Int) → Option ((List T_edit_Step)))) (x3_3 : Int) (x11_2 : Int) : Option ((List T_edit_Step)) :=
  cnd (decide (x11_2 < (a0.length : Int))) (bnd (gAt a0 x11_2) fun t13 =>
  bnd (gI (x3_3 + (t13.length : Int))) fun t18 =>
  cnd (decide (t18 < 0)) (none) (bnd (gI (x11_2 + 1)) fun t22 =>
  next3 (t18, t22))) (slices_Concat_edit_Step_j1 a0 x3_3)
noncomputable def slices_Concat_edit_Step (a0 : (List (List T_edit_Step))) : Option ((List T_edit_Step)) :=
  fix (fun next3 s => slices_Concat_edit_Step_l3 a0 next3 s.1 s.2) (0, 0)

/-! tintype/edit.with -/
noncomputable def edit_with (a0 : (List T_edit_Step)) (a1 : Int) (a2 : Int) (a3 : (List T_edit_Step)) : Option ((List T_edit_Step)) :=
  bnd (gCut a0 0 a1) fun t11 =>
  bnd (gI (a1 + a2)) fun t16 =>
  bnd (gCut a0 t16 a0.length) fun t17 =>
  bnd (slices_Concat_edit_Step ([t11, a3, t17] : List (List T_edit_Step))) fun t19 =>
  some t19

/-! tintype/edit.leaveNeutral -/
noncomputable def edit_leaveNeutral (a0 : (List T_edit_Step)) (a1 : Int) (a2 : Int) (a3 : Int) : Option ((List T_edit_Step) × Bool) :=
  bnd (gAt a0 a1) fun t12 =>
  bnd (edit_Step_neutral t12 a2 a3) fun t16 =>
  cnd (!t16) (some (([] : List T_edit_Step), false)) (bnd (edit_with a0 a1 1 ([] : (List T_edit_Step))) fun t20 =>
  some (t20, true))

/-! tintype/edit.pair -/
noncomputable def edit_pair (a0 : (List T_edit_Step)) (a1 : Int) (a2 : Int) (a3 : Int) : Option (Bool) :=
  bnd (gI (a1 + 1)) fun t10 =>
  cnd (decide (t10 < (a0.length : Int))) (bnd (gAt a0 a1) fun t17 =>
  cnd (decide (t17.Kind = a2)) (bnd (gI (a1 + 1)) fun t26 =>
  bnd (gAt a0 t26) fun t27 =>
  some (decide (t27.Kind = a3))) (some false)) (some false)

/-! tintype/pix.sample -/
noncomputable def pix_sample_j1 (t3 : (T_api_Image)) (l : (List Int)) : Option (T_api_Image) :=
  some (⟨t3.W, t3.H, l⟩ : T_api_Image)
noncomputable def pix_sample_l2 (t3 : (T_api_Image)) (next2 : ((Int × Int × (List Int)) → Option (T_api_Image))) (x6_2 : Int) (x7_2 : Int) (l_3 : (List Int)) : Option (T_api_Image) :=
  cnd (decide (x7_2 < x6_2)) (bnd (gAt l_3 x7_2) fun t15 =>
  bnd (gSet l_3 x7_2 (wU8 x7_2)) fun l1 =>
  bnd (gI (x7_2 + 1)) fun t16 =>
  next2 (x6_2, t16, l1)) (pix_sample_j1 t3 l_3)
noncomputable def pix_sample  : Option (T_api_Image) :=
  bnd (pix_blank 2 3) fun t3 =>
  fix (fun next2 s => pix_sample_l2 t3 next2 s.1 s.2.1 s.2.2) ((t3.Pixels.length : Int), 0, t3.Pixels)

/-! slices.Equal[[]byte,byte] -/
noncomputable def slices_Equal_byte_l1 (a0 : (List Int)) (a1 : (List Int)) (next1 : ((Int) → Option (Bool))) (x13_2 : Int) : Option (Bool) :=
  cnd (decide (x13_2 < (a0.length : Int))) (bnd (gAt a0 x13_2) fun t18 =>
  bnd (gAt a1 x13_2) fun t22 =>
  cnd (decide (t18 ≠ t22)) (some false) (bnd (gI (x13_2 + 1)) fun t25 =>
  next1 t25)) (some true)
noncomputable def slices_Equal_byte (a0 : (List Int)) (a1 : (List Int)) : Option (Bool) :=
  cnd (decide ((a0.length : Int) ≠ (a1.length : Int))) (some false) (fix (fun next1 s => slices_Equal_byte_l1 a0 a1 next1 s) 0)

/-! tintype/pix.Same -/
noncomputable def pix_Same (a0 : T_api_Image) (a1 : T_api_Image) : Option (Bool) :=
  cnd (decide (a0.W = a1.W)) (cnd (decide (a0.H = a1.H)) (bnd (slices_Equal_byte a0.Pixels a1.Pixels) fun t22 =>
  some t22) (some false)) (some false)

/-! tintype/pix.Then -/
noncomputable def pix_Then_l1 (t18 : (T_api_Image)) (next1 : ((Int) → Option (Int × Int))) (x7_2 : Int) : Option (Int × Int) :=
  cnd (decide (x7_2 ≤ 8)) (bnd (pix_sample) fun t23 =>
  bnd (pix_turned t23 x7_2) fun t25 =>
  bnd (pix_Same t25 t18) fun t27 =>
  cnd t27 (some (x7_2, 0)) (bnd (gI (x7_2 + 1)) fun t22 =>
  next1 t22)) (some (0, 2))
noncomputable def pix_Then (a0 : Int) (a1 : Int) : Option (Int × Int) :=
  bnd (pix_outside a0 1 8) fun t9 =>
  cnd t9 (some (0, 2)) (bnd (pix_outside a1 1 8) fun t12 =>
  cnd t12 (some (0, 2)) (bnd (pix_sample) fun t14 =>
  bnd (pix_turned t14 a0) fun t16 =>
  bnd (pix_turned t16 a1) fun t18 =>
  fix (fun next1 s => pix_Then_l1 t18 next1 s) 1))

/-! tintype/edit.joinTurns -/
noncomputable def edit_joinTurns (a0 : (List T_edit_Step)) (a1 : Int) (a2 : Int) (a3 : Int) : Option ((List T_edit_Step) × Bool) :=
  bnd (edit_pair a0 a1 1 1) fun t14 =>
  cnd (!t14) (some (([] : List T_edit_Step), false)) (bnd (gAt a0 a1) fun t19 =>
  bnd (gI (a1 + 1)) fun t24 =>
  bnd (gAt a0 t24) fun t25 =>
  bnd (pix_Then t19.A t25.A) fun t28 =>
  bnd (edit_with a0 a1 2 ([(⟨1, t28.1, 0, 0, 0⟩ : T_edit_Step)] : List T_edit_Step)) fun t36 =>
  some (t36, true))

/-! tintype/edit.joinCrops -/
noncomputable def edit_joinCrops (a0 : (List T_edit_Step)) (a1 : Int) (a2 : Int) (a3 : Int) : Option ((List T_edit_Step) × Bool) :=
  bnd (edit_pair a0 a1 2 2) fun t14 =>
  cnd (!t14) (some (([] : List T_edit_Step), false)) (bnd (gAt a0 a1) fun t18 =>
  bnd (gI (a1 + 1)) fun t22 =>
  bnd (gAt a0 t22) fun t23 =>
  bnd (gI (t18.A + t23.A)) fun t31 =>
  bnd (gI (t18.B + t23.B)) fun t36 =>
  bnd (edit_with a0 a1 2 ([(⟨2, t31, t36, t23.C, t23.D⟩ : T_edit_Step)] : List T_edit_Step)) fun t43 =>
  some (t43, true))

/-! tintype/pix.From -/
noncomputable def pix_From (a0 : Int) (a1 : Int) (a2 : Int) (a3 : Int) (a4 : Int) : Option (Int × Int) :=
  bnd (pix_turnings) fun t12 =>
  bnd (gIx 9 a0) fun k14 =>
  bnd (gFn (pix_turnings_tab0 k14)) fun g20 =>
  bnd (g20 a1 a2 a3 a4) fun t20 =>
  some (t20.1, t20.2)

/-! tintype/edit.turnedCrop -/
noncomputable def edit_turnedCrop_j1 (a0 : T_edit_Step) (a1 : Int) (x11 : Int) (x12 : Int) : Option (T_edit_Step) :=
  bnd (pix_Sides a1 a0.C a0.D) fun t81 =>
  some (⟨a0.Kind, x11, x12, t81.1, t81.2⟩ : T_edit_Step)
noncomputable def edit_turnedCrop_j3 (x27_2 : Int) (next2 : ((Int × Int × Int) → Option (T_edit_Step))) (x11_4 : Int) (x12_4 : Int) : Option (T_edit_Step) :=
  bnd (gI (x27_2 + 1)) fun t74 =>
  next2 (x11_4, x12_4, t74)
noncomputable def edit_turnedCrop_j5 (x31_2 : Int) (next4 : ((Int × Int × Int) → Option (T_edit_Step))) (x11_7 : Int) (x12_7 : Int) : Option (T_edit_Step) :=
  bnd (gI (x31_2 + 1)) fun t73 =>
  next4 (x11_7, x12_7, t73)
noncomputable def edit_turnedCrop_l4 (a0 : T_edit_Step) (a1 : Int) (a2 : Int) (a3 : Int) (t21 : (Int × Int)) (x27_2 : Int) (next2 : ((Int × Int × Int) → Option (T_edit_Step))) (next4 : ((Int × Int × Int) → Option (T_edit_Step))) (x11_6 : Int) (x12_6 : Int) (x31_2 : Int) : Option (T_edit_Step) :=
  cnd (decide (x31_2 < t21.1)) (bnd (pix_From a1 a2 a3 x31_2 x27_2) fun t40 =>
  bnd (gI (a0.A + a0.C)) fun t50 =>
  bnd (gI (t50 - 1)) fun t51 =>
  bnd (edit_outside t40.1 a0.A t51) fun t52 =>
  cnd (!t52) (bnd (gI (a0.B + a0.D)) fun t62 =>
  bnd (gI (t62 - 1)) fun t63 =>
  bnd (edit_outside t40.2 a0.B t63) fun t64 =>
  cnd (!t64) (edit_turnedCrop_j5 x31_2 next4 (min x11_6 x31_2) (min x12_6 x27_2)) (edit_turnedCrop_j5 x31_2 next4 x11_6 x12_6)) (edit_turnedCrop_j5 x31_2 next4 x11_6 x12_6)) (edit_turnedCrop_j3 x27_2 next2 x11_6 x12_6)
noncomputable def edit_turnedCrop_l2 (a0 : T_edit_Step) (a1 : Int) (a2 : Int) (a3 : Int) (t21 : (Int × Int)) (next2 : ((Int × Int × Int) → Option (T_edit_Step))) (x11_3 : Int) (x12_3 : Int) (x27_2 : Int) : Option (T_edit_Step) :=
  cnd (decide (x27_2 < t21.2)) (fix (fun next4 s => edit_turnedCrop_l4 a0 a1 a2 a3 t21 x27_2 next2 next4 s.1 s.2.1 s.2.2) (x11_3, x12_3, 0)) (edit_turnedCrop_j1 a0 a1 x11_3 x12_3)
noncomputable def edit_turnedCrop (a0 : T_edit_Step) (a1 : Int) (a2 : Int) (a3 : Int) : Option (T_edit_Step) :=
  bnd (pix_Sides a1 a2 a3) fun t21 =>
  fix (fun next2 s => edit_turnedCrop_l2 a0 a1 a2 a3 t21 next2 s.1 s.2.1 s.2.2) (t21.1, t21.2, 0)

/-! tintype/edit.turnFirst -/
noncomputable def edit_turnFirst (a0 : (List T_edit_Step)) (a1 : Int) (a2 : Int) (a3 : Int) : Option ((List T_edit_Step) × Bool) :=
  bnd (edit_pair a0 a1 2 1) fun t12 =>
  cnd (!t12) (some (([] : List T_edit_Step), false)) (bnd (gI (a1 + 1)) fun t18 =>
  bnd (gAt a0 t18) fun t19 =>
  bnd (gAt a0 a1) fun t23 =>
  bnd (gI (a1 + 1)) fun t27 =>
  bnd (gAt a0 t27) fun t28 =>
  bnd (edit_turnedCrop t23 t28.A a2 a3) fun t33 =>
  bnd (edit_with a0 a1 2 ([t19, t33] : List T_edit_Step)) fun t35 =>
  some (t35, true))

/-! tintype/edit.leaveInverts -/
noncomputable def edit_leaveInverts (a0 : (List T_edit_Step)) (a1 : Int) (a2 : Int) (a3 : Int) : Option ((List T_edit_Step) × Bool) :=
  bnd (edit_pair a0 a1 9 9) fun t12 =>
  cnd (!t12) (some (([] : List T_edit_Step), false)) (bnd (edit_with a0 a1 2 ([] : (List T_edit_Step))) fun t16 =>
  some (t16, true))

/-! tintype/edit.Shape -/
noncomputable def edit_Shape (a0 : T_edit_Step) : Option (Bool) :=
  bnd (edit_outside a0.Kind 1 3) fun t5 =>
  some (!t5)

/-! tintype/edit.shapeFirst -/
noncomputable def edit_shapeFirst (a0 : (List T_edit_Step)) (a1 : Int) (a2 : Int) (a3 : Int) : Option ((List T_edit_Step) × Bool) :=
  bnd (gI (a1 + 1)) fun t11 =>
  cnd (decide (t11 = (a0.length : Int))) (some (([] : List T_edit_Step), false)) (bnd (gAt a0 a1) fun t18 =>
  bnd (edit_Shape t18) fun t20 =>
  cnd t20 (some (([] : List T_edit_Step), false)) (bnd (gI (a1 + 1)) fun t25 =>
  bnd (gAt a0 t25) fun t26 =>
  bnd (edit_Shape t26) fun t28 =>
  cnd (!t28) (some (([] : List T_edit_Step), false)) (bnd (gI (a1 + 1)) fun t34 =>
  bnd (gAt a0 t34) fun t35 =>
  cnd (decide (t35.Kind = 3)) (some (([] : List T_edit_Step), false)) (bnd (gI (a1 + 1)) fun t44 =>
  bnd (gAt a0 t44) fun t45 =>
  bnd (gAt a0 a1) fun t49 =>
  bnd (edit_with a0 a1 2 ([t45, t49] : List T_edit_Step)) fun t52 =>
  some (t52, true)))))

/-! tintype/edit.shorter -/
noncomputable def mft174 : Nat → (Option ((List T_edit_Step) → Int → Int → Int → Option ((List T_edit_Step) × Bool)))
  | 0 => some edit_leaveNeutral
  | 1 => some edit_joinTurns
  | 2 => some edit_joinCrops
  | 3 => some edit_turnFirst
  | 4 => some edit_leaveInverts
  | 5 => some edit_shapeFirst
  | _ => none
noncomputable def edit_shorter_j2 (x18_2 : Int) (next1 : ((Int) → Option ((List T_edit_Step) × Bool))) : Option ((List T_edit_Step) × Bool) :=
  bnd (gI (x18_2 + 1)) fun t49 =>
  next1 t49
noncomputable def edit_shorter_l3 (a0 : (List T_edit_Step)) (a1 : Int) (a2 : Int) (x18_2 : Int) (next1 : ((Int) → Option ((List T_edit_Step) × Bool))) (t20 : Nat) (next3 : ((Int) → Option ((List T_edit_Step) × Bool))) (x24_2 : Int) : Option ((List T_edit_Step) × Bool) :=
  cnd (decide (x24_2 < (a0.length : Int))) (bnd (gCut a0 0 x24_2) fun t30 =>
  bnd (edit_size t30 a1 a2) fun t33 =>
  bnd (gFn (mft174 t20)) fun g43 =>
  bnd (g43 a0 x24_2 t33.1 t33.2.1) fun t43 =>
  cnd t43.2 (some (t43.1, true)) (bnd (gI (x24_2 + 1)) fun t48 =>
  next3 t48)) (edit_shorter_j2 x18_2 next1)
noncomputable def edit_shorter_l1 (a0 : (List T_edit_Step)) (a1 : Int) (a2 : Int) (next1 : ((Int) → Option ((List T_edit_Step) × Bool))) (x18_2 : Int) : Option ((List T_edit_Step) × Bool) :=
  cnd (decide (x18_2 < 6)) (bnd (gAt ([0, 1, 2, 3, 4, 5] : List Nat) x18_2) fun t20 =>
  fix (fun next3 s => edit_shorter_l3 a0 a1 a2 x18_2 next1 t20 next3 s) 0) (some (a0, false))
noncomputable def edit_shorter (a0 : (List T_edit_Step)) (a1 : Int) (a2 : Int) : Option ((List T_edit_Step) × Bool) :=
  fix (fun next1 s => edit_shorter_l1 a0 a1 a2 next1 s) 0

/-! tintype/edit.Tidy -/
noncomputable def edit_Tidy_j1 (l : (List T_edit_Step)) : Option ((List T_edit_Step) × Int) :=
  some (l, 0)
noncomputable def edit_Tidy_l2 (a1 : Int) (a2 : Int) (next2 : ((Bool × (List T_edit_Step)) → Option ((List T_edit_Step) × Int))) (x12_2 : Bool) (l_3 : (List T_edit_Step)) : Option ((List T_edit_Step) × Int) :=
  cnd x12_2 (bnd (edit_shorter l_3 a1 a2) fun t36 =>
  next2 (t36.2, t36.1)) (edit_Tidy_j1 l_3)
noncomputable def edit_Tidy (a0 : (List T_edit_Step)) (a1 : Int) (a2 : Int) : Option ((List T_edit_Step) × Int) :=
  bnd (edit_Check a0) fun t14 =>
  cnd (decide (t14 ≠ 0)) (some (([] : List T_edit_Step), t14)) (bnd (edit_size a0 a1 a2) fun t22 =>
  cnd (decide (t22.2.2 ≠ 0)) (some (([] : List T_edit_Step), t22.2.2)) (bnd (slices_Clone_edit_Step a0) fun t30 =>
  fix (fun next2 s => edit_Tidy_l2 a1 a2 next2 s.1 s.2) (true, t30)))

/-! bytes.Equal -/
noncomputable def bytes_Equal (a0 : (List Int)) (a1 : (List Int)) : Option (Bool) :=
  some (decide ((toStr a0) = (toStr a1)))

/-! tintype/tintkeep2.same -/
noncomputable def Keep_same (a0 : T_api_Image) (a1 : T_api_Image) : Option (Bool) :=
  cnd (decide (a0.W = a1.W)) (cnd (decide (a0.H = a1.H)) (bnd (bytes_Equal a0.Pixels a1.Pixels) fun t22 =>
  some t22) (some false)) (some false)

/-! slices.Equal[[]tintype/edit.Step,tintype/edit.Step] -/
noncomputable def slices_Equal_edit_Step_l1 (a0 : (List T_edit_Step)) (a1 : (List T_edit_Step)) (next1 : ((Int) → Option (Bool))) (x13_2 : Int) : Option (Bool) :=
  cnd (decide (x13_2 < (a0.length : Int))) (bnd (gAt a0 x13_2) fun t18 =>
  bnd (gAt a1 x13_2) fun t22 =>
  cnd (!(eq_edit_Step t18 t22)) (some false) (bnd (gI (x13_2 + 1)) fun t25 =>
  next1 t25)) (some true)
noncomputable def slices_Equal_edit_Step (a0 : (List T_edit_Step)) (a1 : (List T_edit_Step)) : Option (Bool) :=
  cnd (decide ((a0.length : Int) ≠ (a1.length : Int))) (some false) (fix (fun next1 s => slices_Equal_edit_Step_l1 a0 a1 next1 s) 0)

/-! tintype/edit.Same -/
noncomputable def edit_Same (a0 : (List T_edit_Step)) (a1 : (List T_edit_Step)) : Option (Bool) :=
  bnd (slices_Equal_edit_Step a0 a1) fun t7 =>
  some t7

/-! slices.IndexFunc[[]tintype/edit.Step,tintype/edit.Step] -/
noncomputable def slices_IndexFunc_edit_Step_l1 (a0 : (List T_edit_Step)) (a1 : (T_edit_Step → Option (Bool))) (next1 : ((Int) → Option (Int))) (x8_2 : Int) : Option (Int) :=
  cnd (decide (x8_2 < (a0.length : Int))) (bnd (gAt a0 x8_2) fun t14 =>
  bnd (a1 t14) fun t16 =>
  cnd t16 (some x8_2) (bnd (gI (x8_2 + 1)) fun t18 =>
  next1 t18)) (some (-1))
noncomputable def slices_IndexFunc_edit_Step (a0 : (List T_edit_Step)) (a1 : (T_edit_Step → Option (Bool))) : Option (Int) :=
  fix (fun next1 s => slices_IndexFunc_edit_Step_l1 a0 a1 next1 s) 0

/-! slices.ContainsFunc[[]tintype/edit.Step,tintype/edit.Step] -/
noncomputable def slices_ContainsFunc_edit_Step (a0 : (List T_edit_Step)) (a1 : (T_edit_Step → Option (Bool))) : Option (Bool) :=
  bnd (slices_IndexFunc_edit_Step a0 a1) fun t7 =>
  some (decide (0 ≤ t7))

/-! tintype/tintkeep2.EditTidiesSame$1 -/
noncomputable def Keep_EditTidiesSame_1 (a0 : T_edit_Step) : Option (Bool) :=
  some (decide (a0.Kind = 3))

/-! tintype/tintkeep2.EditTidiesSame -/
noncomputable def Keep_EditTidiesSame_j2 (x80_2 : Int) (next1 : ((Int × Int) → Option (Bool))) (x11_3 : Int) (x94 : Int) (x96 : Bool) (x97 : Bool) (x100 : Bool) : Option (Bool) :=
  bnd (gI (x80_2 + 1)) fun t103 =>
  next1 (x11_3, t103)
noncomputable def Keep_EditTidiesSame_j3 (x11_2 : Int) (x80_2 : Int) (next1 : ((Int × Int) → Option (Bool))) (x14 : Int) : Option (Bool) :=
  cnd (decide (x14 < x11_2)) (some false) (cnd (decide (x14 = x11_2)) (cnd (decide (x14 < 3)) (some false) (Keep_EditTidiesSame_j2 x80_2 next1 x14 x14 (decide (x14 = x11_2)) true (decide (x14 < 3)))) (Keep_EditTidiesSame_j2 x80_2 next1 x14 x14 (decide (x14 = x11_2)) false false))
noncomputable def Keep_EditTidiesSame_l1 (t31 : ((List T_edit_Step) × Int)) (next1 : ((Int × Int) → Option (Bool))) (x11_2 : Int) (x80_2 : Int) : Option (Bool) :=
  cnd (decide (x80_2 < (t31.1.length : Int))) (bnd (gAt t31.1 x80_2) fun t82 =>
  cnd (decide (t82.Kind = 1)) (Keep_EditTidiesSame_j3 x11_2 x80_2 next1 1) (cnd (decide (t82.Kind = 2)) (Keep_EditTidiesSame_j3 x11_2 x80_2 next1 2) (Keep_EditTidiesSame_j3 x11_2 x80_2 next1 3))) (some true)
noncomputable def Keep_EditTidiesSame (a0 : T_api_Image) (a1 : (List T_edit_Step)) : Option (Bool) :=
  bnd (Keep_awakeEdit) fun t15 =>
  cnd (!t15) (some false) (bnd (edit_Render a0 a1) fun t20 =>
  cnd (decide (t20.2 ≠ 0)) (some true) (bnd (edit_Tidy a1 a0.W a0.H) fun t31 =>
  cnd (decide (t31.2 ≠ 0)) (some false) (cnd (decide ((a1.length : Int) < (t31.1.length : Int))) (some false) (bnd (edit_Render a0 t31.1) fun t46 =>
  bnd (edit_Tidy t31.1 a0.W a0.H) fun t55 =>
  cnd (decide (t46.2 ≠ 0)) (some false) (cnd (decide (t55.2 ≠ 0)) (some false) (bnd (Keep_same t20.1 t46.1) fun t67 =>
  cnd (!t67) (some false) (bnd (edit_Same t31.1 t55.1) fun t73 =>
  cnd (!t73) (some false) (bnd (slices_ContainsFunc_edit_Step a1 Keep_EditTidiesSame_1) fun t77 =>
  cnd t77 (some true) (fix (fun next1 s => Keep_EditTidiesSame_l1 t31 next1 s.1 s.2) (0, 0))))))))))

end Go.M
