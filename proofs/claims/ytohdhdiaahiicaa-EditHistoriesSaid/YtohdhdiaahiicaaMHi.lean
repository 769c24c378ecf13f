/- EditHistories: the models, printed by our generator from the compiled program. Conditions: none. -/
import Derived.Test.YtohdhdiaahiicaaMd7
namespace Go.M
open Go.Md
set_option maxRecDepth 100000
set_option linter.unusedVariables false

structure T_edit_Step where
  Kind : Int
  A : Int
  B : Int
  C : Int
  D : Int
instance : Inhabited T_edit_Step := ⟨⟨0, 0, 0, 0, 0⟩⟩

structure T_edit_History where
  all_ : (List (List T_edit_Step))
  now_ : Int
instance : Inhabited T_edit_History := ⟨⟨[], 0⟩⟩

structure T_tintlaw2_Move where
  Kind : Int
  N : Int
  Step : T_edit_Step
  Steps : (List T_edit_Step)
instance : Inhabited T_tintlaw2_Move := ⟨⟨0, 0, default, []⟩⟩

def eq_edit_Step (x y : T_edit_Step) : Bool := decide (x.Kind = y.Kind ∧ x.A = y.A ∧ x.B = y.B ∧ x.C = y.C ∧ x.D = y.D)

/-! slices.Clone[[]tintype/edit.Step,tintype/edit.Step] -/
noncomputable def slices_Clone_edit_Step (a0 : (List T_edit_Step)) : Option ((List T_edit_Step)) :=
  bnd (gApp 40 ([] : List T_edit_Step) a0) fun l7 =>
  some l7

/-! tintype/edit.outside -/
noncomputable def edit_outside (a0 : Int) (a1 : Int) (a2 : Int) : Option (Bool) :=
  cnd (decide (a0 < a1)) (some true) (some (decide (a2 < a0)))

/-! tintype/edit.word -/
noncomputable def edit_word (a0 : Int) : Option ((List UInt8) × Int) :=
  cnd (decide (a0 = 1)) (some ([116, 117, 114, 110], 1)) (cnd (decide (a0 = 2)) (some ([99, 114, 111, 112], 4)) (cnd (decide (a0 = 3)) (some ([115, 99, 97, 108, 101], 2)) (cnd (decide (a0 = 4)) (some ([108, 105, 103, 104, 116], 1)) (cnd (decide (a0 = 5)) (some ([115, 112, 114, 101, 97, 100], 1)) (cnd (decide (a0 = 6)) (some ([108, 101, 118, 101, 108, 115], 2)) (cnd (decide (a0 = 7)) (some ([119, 97, 114, 109], 1)) (cnd (decide (a0 = 8)) (some ([109, 117, 116, 101], 1)) (some ([105, 110, 118, 101, 114, 116], 0)))))))))

/-! (tintype/edit.Step).numbers -/
noncomputable def edit_Step_numbers (a0 : T_edit_Step) : Option ((List Int)) :=
  some ([a0.A, a0.B, a0.C, a0.D] : List Int)

/-! tintype/edit.bounds -/
noncomputable def edit_bounds (a0 : Int) : Option ((Nat → (Nat → Int))) :=
  cnd (decide (a0 = 1)) (some (ofL [(ofL [1, 8]), (fun _ => 0), (fun _ => 0), (fun _ => 0)])) (cnd (decide (a0 = 2)) (some (ofL [(ofL [0, 63]), (ofL [0, 63]), (ofL [1, 64]), (ofL [1, 64])])) (cnd (decide (a0 = 3)) (some (ofL [(ofL [1, 64]), (ofL [1, 64]), (fun _ => 0), (fun _ => 0)])) (cnd (decide (a0 = 4)) (some (ofL [(ofL [(-255), 255]), (fun _ => 0), (fun _ => 0), (fun _ => 0)])) (cnd (decide (a0 = 5)) (some (ofL [(ofL [0, 400]), (fun _ => 0), (fun _ => 0), (fun _ => 0)])) (cnd (decide (a0 = 6)) (some (ofL [(ofL [0, 255]), (ofL [0, 255]), (fun _ => 0), (fun _ => 0)])) (cnd (decide (a0 = 7)) (some (ofL [(ofL [(-100), 100]), (fun _ => 0), (fun _ => 0), (fun _ => 0)])) (cnd (decide (a0 = 8)) (some (ofL [(ofL [0, 100]), (fun _ => 0), (fun _ => 0), (fun _ => 0)])) (some (fun _ => (fun _ => 0))))))))))

/-! tintype/edit.CheckStep -/
noncomputable def edit_CheckStep_j2 (a0 : T_edit_Step) : Option (Int) :=
  cnd (decide (a0.Kind = 6)) (cnd (decide (a0.B ≤ a0.A)) (some 5) (some 0)) (some 0)
noncomputable def edit_CheckStep_l3 (a0 : T_edit_Step) (t35 : ((Nat → (Nat → Int)))) (t38 : (List Int)) (next3 : ((Int) → Option (Int))) (x40_2 : Int) : Option (Int) :=
  cnd (decide (x40_2 < (t38.length : Int))) (bnd (gAt t38 x40_2) fun t43 =>
  bnd (gIx 4 x40_2) fun k47 =>
  bnd (gIx 4 x40_2) fun k51 =>
  bnd (edit_outside t43 ((t35 k47) 0) ((t35 k51) 1)) fun t54 =>
  cnd t54 (some 2) (bnd (gI (x40_2 + 1)) fun t55 =>
  next3 t55)) (edit_CheckStep_j2 a0)
noncomputable def edit_CheckStep_j1 (a0 : T_edit_Step) (t17 : ((List UInt8) × Int)) (t21 : ((List Int))) : Option (Int) :=
  bnd (edit_bounds a0.Kind) fun t35 =>
  bnd (gCut t21 0 t17.2) fun t38 =>
  fix (fun next3 s => edit_CheckStep_l3 a0 t35 t38 next3 s) 0
noncomputable def edit_CheckStep_l4 (a0 : T_edit_Step) (t17 : ((List UInt8) × Int)) (t21 : ((List Int))) (t24 : (List Int)) (next4 : ((Int) → Option (Int))) (x26_2 : Int) : Option (Int) :=
  cnd (decide (x26_2 < (t24.length : Int))) (bnd (gAt t24 x26_2) fun t28 =>
  cnd (decide (t28 ≠ 0)) (some 1) (bnd (gI (x26_2 + 1)) fun t32 =>
  next4 t32)) (edit_CheckStep_j1 a0 t17 t21)
noncomputable def edit_CheckStep (a0 : T_edit_Step) : Option (Int) :=
  bnd (edit_outside a0.Kind 1 9) fun t13 =>
  cnd t13 (some 10) (bnd (edit_word a0.Kind) fun t17 =>
  bnd (edit_Step_numbers a0) fun t21 =>
  bnd (gCut t21 t17.2 t21.length) fun t24 =>
  fix (fun next4 s => edit_CheckStep_l4 a0 t17 t21 t24 next4 s) 0)

/-! tintype/edit.Check -/
noncomputable def edit_Check_l1 (a0 : (List T_edit_Step)) (next1 : ((Int) → Option (Int))) (x11_2 : Int) : Option (Int) :=
  cnd (decide (x11_2 < (a0.length : Int))) (bnd (gAt a0 x11_2) fun t13 =>
  bnd (edit_CheckStep t13) fun t16 =>
  cnd (decide (t16 ≠ 0)) (some t16) (bnd (gI (x11_2 + 1)) fun t20 =>
  next1 t20)) (some 0)
noncomputable def edit_Check (a0 : (List T_edit_Step)) : Option (Int) :=
  cnd (decide (50 < (a0.length : Int))) (some 4) (fix (fun next1 s => edit_Check_l1 a0 next1 s) 0)

/-! tintype/edit.NewHistory -/
noncomputable def edit_NewHistory (a0 : (List T_edit_Step)) : Option ((Option T_edit_History) × Int) :=
  bnd (edit_Check a0) fun t6 =>
  cnd (decide (t6 ≠ 0)) (some ((none : Option T_edit_History), t6)) (bnd (slices_Clone_edit_Step a0) fun t11 =>
  some ((some (⟨([t11] : List (List T_edit_Step)), 0⟩ : T_edit_History)), 0))

/-! tintype/tintref2.numbersUsed -/
noncomputable def R_numbersUsed (a0 : Int) : Option (Int) :=
  bnd (gAt ([0, 1, 4, 2, 1, 1, 2, 1, 1, 0] : List Int) a0) fun t5 =>
  some t5

/-! tintype/tintref2.StepFault$1 -/
noncomputable def R_StepFault_1 (a0 : Int) (a1 : Int) (a2 : Int) : Option (Bool) :=
  cnd (decide (a0 < a1)) (some true) (some (decide (a2 < a0)))

/-! tintype/tintref2.StepFault -/
noncomputable def R_StepFault_j2 (a0 : T_edit_Step) (x6 : Bool) : Option (Int) :=
  cnd x6 (some 2) (cnd (decide (a0.Kind = 6)) (cnd (decide (a0.B ≤ a0.A)) (some 5) (some 0)) (some 0))
noncomputable def R_StepFault_j1 (a0 : T_edit_Step) : Option (Int) :=
  cnd (decide (a0.Kind = 1)) (bnd (R_StepFault_1 a0.A 1 8) fun t47 =>
  R_StepFault_j2 a0 t47) (cnd (decide (a0.Kind = 2)) (bnd (R_StepFault_1 a0.A 0 63) fun t53 =>
  cnd t53 (R_StepFault_j2 a0 true) (bnd (R_StepFault_1 a0.B 0 63) fun t58 =>
  cnd t58 (R_StepFault_j2 a0 true) (bnd (R_StepFault_1 a0.C 1 64) fun t64 =>
  cnd t64 (R_StepFault_j2 a0 true) (bnd (R_StepFault_1 a0.D 1 64) fun t70 =>
  R_StepFault_j2 a0 t70)))) (cnd (decide (a0.Kind = 3)) (bnd (R_StepFault_1 a0.A 1 64) fun t77 =>
  cnd t77 (R_StepFault_j2 a0 true) (bnd (R_StepFault_1 a0.B 1 64) fun t82 =>
  R_StepFault_j2 a0 t82)) (cnd (decide (a0.Kind = 4)) (bnd (R_StepFault_1 a0.A (-255) 255) fun t89 =>
  R_StepFault_j2 a0 t89) (cnd (decide (a0.Kind = 5)) (bnd (R_StepFault_1 a0.A 0 400) fun t95 =>
  R_StepFault_j2 a0 t95) (cnd (decide (a0.Kind = 6)) (bnd (R_StepFault_1 a0.A 0 255) fun t101 =>
  cnd t101 (R_StepFault_j2 a0 true) (bnd (R_StepFault_1 a0.B 0 255) fun t106 =>
  R_StepFault_j2 a0 t106)) (cnd (decide (a0.Kind = 7)) (bnd (R_StepFault_1 a0.A (-100) 100) fun t113 =>
  R_StepFault_j2 a0 t113) (cnd (decide (a0.Kind = 8)) (bnd (R_StepFault_1 a0.A 0 100) fun t119 =>
  R_StepFault_j2 a0 t119) (R_StepFault_j2 a0 false))))))))
noncomputable def R_StepFault_j4 (x25_2 : Int) (next3 : ((Int) → Option (Int))) : Option (Int) :=
  bnd (gI (x25_2 + 1)) fun t39 =>
  next3 t39
noncomputable def R_StepFault_l3 (a0 : T_edit_Step) (next3 : ((Int) → Option (Int))) (x25_2 : Int) : Option (Int) :=
  cnd (decide (x25_2 < 4)) (bnd (gAt ([a0.A, a0.B, a0.C, a0.D] : List Int) x25_2) fun t28 =>
  bnd (R_numbersUsed a0.Kind) fun t33 =>
  cnd (decide (t33 ≤ x25_2)) (cnd (decide (t28 ≠ 0)) (some 1) (R_StepFault_j4 x25_2 next3)) (R_StepFault_j4 x25_2 next3)) (R_StepFault_j1 a0)
noncomputable def R_StepFault (a0 : T_edit_Step) : Option (Int) :=
  cnd (decide (a0.Kind < 1)) (some 10) (cnd (decide (9 < a0.Kind)) (some 10) (fix (fun next3 s => R_StepFault_l3 a0 next3 s) 0))

/-! tintype/tintref2.StepsFault -/
noncomputable def R_StepsFault_l1 (a0 : (List T_edit_Step)) (next1 : ((Int) → Option (Int))) (x11_2 : Int) : Option (Int) :=
  cnd (decide (x11_2 < (a0.length : Int))) (bnd (gAt a0 x11_2) fun t13 =>
  bnd (R_StepFault t13) fun t16 =>
  cnd (decide (t16 ≠ 0)) (some t16) (bnd (gI (x11_2 + 1)) fun t20 =>
  next1 t20)) (some 0)
noncomputable def R_StepsFault (a0 : (List T_edit_Step)) : Option (Int) :=
  cnd (decide (50 < (a0.length : Int))) (some 4) (fix (fun next1 s => R_StepsFault_l1 a0 next1 s) 0)

/-! tintype/tintlaw2.first -/
noncomputable def Law_first_l1 (a0 : (List Int)) (next1 : ((Int) → Option (Int))) (x7_2 : Int) : Option (Int) :=
  cnd (decide (x7_2 < (a0.length : Int))) (bnd (gAt a0 x7_2) fun t9 =>
  cnd (decide (t9 ≠ 0)) (some t9) (bnd (gI (x7_2 + 1)) fun t14 =>
  next1 t14)) (some 0)
noncomputable def Law_first (a0 : (List Int)) : Option (Int) :=
  fix (fun next1 s => Law_first_l1 a0 next1 s) 0

/-! tintype/tintlaw2.unless -/
noncomputable def Law_unless (a0 : Bool) (a1 : Int) : Option (Int) :=
  cnd a0 (some 0) (some a1)

/-! (*tintype/edit.History).at -/
noncomputable def edit_History_at (a0 : T_edit_History) (a1 : Int) : Option ((List T_edit_Step)) :=
  bnd (gAt a0.all_ a1) fun t10 =>
  bnd (slices_Clone_edit_Step t10) fun t12 =>
  some t12

/-! (*tintype/edit.History).Now -/
noncomputable def edit_History_Now (a0 : T_edit_History) : Option ((List T_edit_Step)) :=
  bnd (edit_History_at a0 a0.now_) fun t8 =>
  some t8

/-! slices.Delete[[][]tintype/edit.Step,[]tintype/edit.Step] -/
noncomputable def slices_Delete_edit_Step_edit_Step {α : Type} (zr_ : α) (a0 : (List α)) (a1 : Int) (a2 : Int) : Option ((List α)) :=
  bnd (gCut a0 a1 a2) fun t13 =>
  cnd (decide (a1 = a2)) (some a0) (bnd (gCut a0 0 a1) fun t22 =>
  bnd (gCut a0 a2 a0.length) fun t25 =>
  bnd (gApR a0 t22 t25) fun l26 =>
  bnd (gIf ((l26.length : Int) ≤ (a0.length : Int) ∧ (a0.length : Int) ≤ (a0.length : Nat))) fun u31 =>
  some l26)

/-! (*tintype/edit.History).put -/
noncomputable def edit_History_put_j1 (m : Int) (l : (List (List T_edit_Step))) : Option (T_edit_History) :=
  bnd (gI ((l.length : Int) - 1)) fun t48 =>
  some (⟨l, t48⟩ : T_edit_History)
noncomputable def edit_History_put (a0 : T_edit_History) (a1 : (List T_edit_Step)) : Option (T_edit_History) :=
  bnd (gI (a0.now_ + 1)) fun t13 =>
  bnd (gCut a0.all_ 0 t13) fun t14 =>
  bnd (slices_Clone_edit_Step a1) fun t16 =>
  bnd (gApp 24 t14 ([t16] : List (List T_edit_Step))) fun l18 =>
  cnd (decide (101 < (l18.length : Int))) (bnd (gI ((l18.length : Int) - 100)) fun t37 =>
  bnd (gI (t37 - 1)) fun t38 =>
  bnd (slices_Delete_edit_Step_edit_Step ([] : (List T_edit_Step)) l18 0 t38) fun t39 =>
  edit_History_put_j1 a0.now_ t39) (edit_History_put_j1 a0.now_ l18)

/-! (*tintype/edit.History).Add -/
noncomputable def edit_History_Add (a0 : T_edit_History) (a1 : T_edit_Step) : Option (Int × T_edit_History) :=
  bnd (edit_CheckStep a1) fun t8 =>
  cnd (decide (t8 ≠ 0)) (some (t8, a0)) (bnd (edit_History_Now a0) fun t13 =>
  bnd (gApp 40 t13 ([a1] : List T_edit_Step)) fun l16 =>
  cnd (decide (50 < (l16.length : Int))) (some (4, a0)) (bnd (edit_History_put a0 l16) fun t22 =>
  some (0, t22)))

/-! slices.Equal[[]tintype/edit.Step,tintype/edit.Step] -/
noncomputable def slices_Equal_edit_Step_l1 (a0 : (List T_edit_Step)) (a1 : (List T_edit_Step)) (next1 : ((Int) → Option (Bool))) (x13_2 : Int) : Option (Bool) :=
  cnd (decide (x13_2 < (a0.length : Int))) (bnd (gAt a0 x13_2) fun t18 =>
  bnd (gAt a1 x13_2) fun t22 =>
  cnd (!(eq_edit_Step t18 t22)) (some false) (bnd (gI (x13_2 + 1)) fun t25 =>
  next1 t25)) (some true)
noncomputable def slices_Equal_edit_Step (a0 : (List T_edit_Step)) (a1 : (List T_edit_Step)) : Option (Bool) :=
  cnd (decide ((a0.length : Int) ≠ (a1.length : Int))) (some false) (fix (fun next1 s => slices_Equal_edit_Step_l1 a0 a1 next1 s) 0)

/-! tintype/edit.Same -/
noncomputable def edit_Same (a0 : (List T_edit_Step)) (a1 : (List T_edit_Step)) : Option (Bool) :=
  bnd (slices_Equal_edit_Step a0 a1) fun t7 =>
  some t7

/-! (*tintype/edit.History).Set -/
noncomputable def edit_History_Set (a0 : T_edit_History) (a1 : (List T_edit_Step)) : Option (Int × T_edit_History) :=
  bnd (edit_Check a1) fun t7 =>
  cnd (decide (t7 ≠ 0)) (some (t7, a0)) (bnd (gAt a0.all_ a0.now_) fun t20 =>
  bnd (edit_Same a1 t20) fun t22 =>
  cnd t22 (some (11, a0)) (bnd (edit_History_put a0 a1) fun t25 =>
  some (0, t25)))

/-! (*tintype/edit.History).Undo -/
noncomputable def edit_History_Undo (a0 : T_edit_History) : Option (Bool × T_edit_History) :=
  cnd (decide (a0.now_ = 0)) (some (false, a0)) (bnd (gI (a0.now_ - 1)) fun t12 =>
  some (true, (⟨a0.all_, t12⟩ : T_edit_History)))

/-! (*tintype/edit.History).Redo -/
noncomputable def edit_History_Redo (a0 : T_edit_History) : Option (Bool × T_edit_History) :=
  bnd (gI ((a0.all_.length : Int) - 1)) fun t12 =>
  cnd (decide (a0.now_ = t12)) (some (false, a0)) (bnd (gI (a0.now_ + 1)) fun t18 =>
  some (true, (⟨a0.all_, t18⟩ : T_edit_History)))

/-! (*tintype/edit.History).Back -/
noncomputable def edit_History_Back (a0 : T_edit_History) (a1 : Int) : Option ((List T_edit_Step) × Bool) :=
  bnd (edit_outside a1 0 a0.now_) fun t11 =>
  cnd t11 (some (([] : List T_edit_Step), false)) (bnd (gI (a0.now_ - a1)) fun t18 =>
  bnd (edit_History_at a0 t18) fun t19 =>
  some (t19, true))

/-! slices.Clone[[][]tintype/edit.Step,[]tintype/edit.Step] -/
noncomputable def slices_Clone_edit_Step_edit_Step {α : Type} (zr_ : α) (a0 : (List α)) : Option ((List α)) :=
  bnd (gApp 24 ([] : List α) a0) fun l7 =>
  some l7

/-! tintype/tintlaw2.EditHistories -/
noncomputable def Law_EditHistories_j1 (x9 : (List T_edit_Step)) (m : Int) (l : (List (List T_edit_Step))) : Option (Bool) :=
  bnd (edit_History_Now (⟨l, m⟩ : T_edit_History)) fun t208 =>
  bnd (slices_Equal_edit_Step t208 x9) fun t210 =>
  some t210
noncomputable def Law_EditHistories_j3 (x44_2 : Int) (next2 : (((List T_edit_Step) × Int × Int × (List (List T_edit_Step)) × (List (List T_edit_Step)) × (List (List T_edit_Step))) → Option (Bool))) (x9_4 : (List T_edit_Step)) (m_4 : Int) (l_8 : (List (List T_edit_Step))) (l_9 : (List (List T_edit_Step))) (l_10 : (List (List T_edit_Step))) : Option (Bool) :=
  bnd (gI (x44_2 + 1)) fun t206 =>
  next2 (x9_4, t206, m_4, l_8, l_9, l_10)
noncomputable def Law_EditHistories_j5 (x44_2 : Int) (next2 : (((List T_edit_Step) × Int × Int × (List (List T_edit_Step)) × (List (List T_edit_Step)) × (List (List T_edit_Step))) → Option (Bool))) (m_6 : Int) (l_14 : (List (List T_edit_Step))) (x9_6 : (List T_edit_Step)) (l_15 : (List (List T_edit_Step))) (l_16 : (List (List T_edit_Step))) : Option (Bool) :=
  bnd (edit_History_Now (⟨l_14, m_6⟩ : T_edit_History)) fun t202 =>
  bnd (slices_Equal_edit_Step t202 x9_6) fun t204 =>
  cnd (!t204) (some false) (Law_EditHistories_j3 x44_2 next2 x9_6 m_6 l_15 l_16 l_14)
noncomputable def Law_EditHistories_j4 (x44_2 : Int) (l_5 : (List (List T_edit_Step))) (l_6 : (List (List T_edit_Step))) (next2 : (((List T_edit_Step) × Int × Int × (List (List T_edit_Step)) × (List (List T_edit_Step)) × (List (List T_edit_Step))) → Option (Bool))) (x9_5 : (List T_edit_Step)) (x13_2 : (List T_edit_Step)) (x14_2 : Int) (m_6 : Int) (l_14 : (List (List T_edit_Step))) : Option (Bool) :=
  cnd (decide (x14_2 = 0)) (bnd (slices_Clone_edit_Step_edit_Step ([] : (List T_edit_Step)) l_5) fun t191 =>
  bnd (gApp 24 t191 ([x9_5] : List (List T_edit_Step))) fun l194 =>
  cnd (decide (100 < (l194.length : Int))) (bnd (gCut l194 1 l194.length) fun t200 =>
  Law_EditHistories_j5 x44_2 next2 m_6 l_14 x13_2 t200 ([] : List (List T_edit_Step))) (Law_EditHistories_j5 x44_2 next2 m_6 l_14 x13_2 l194 ([] : List (List T_edit_Step)))) (Law_EditHistories_j5 x44_2 next2 m_6 l_14 x9_5 l_5 l_6)
noncomputable def Law_EditHistories_j7 (x9_3 : (List T_edit_Step)) (x44_2 : Int) (m_3 : Int) (l_5 : (List (List T_edit_Step))) (l_6 : (List (List T_edit_Step))) (l_7 : (List (List T_edit_Step))) (next2 : (((List T_edit_Step) × Int × Int × (List (List T_edit_Step)) × (List (List T_edit_Step)) × (List (List T_edit_Step))) → Option (Bool))) (t54 : ((List T_edit_Step) × Bool)) (x20 : Bool) (x19 : (List T_edit_Step)) : Option (Bool) :=
  cnd (decide (t54.2 ≠ x20)) (some false) (bnd (slices_Equal_edit_Step t54.1 x19) fun t91 =>
  cnd (!t91) (some false) (Law_EditHistories_j3 x44_2 next2 x9_3 m_3 l_5 l_6 l_7))
noncomputable def Law_EditHistories_j8 (x9_3 : (List T_edit_Step)) (x44_2 : Int) (m_3 : Int) (l_5 : (List (List T_edit_Step))) (l_6 : (List (List T_edit_Step))) (l_7 : (List (List T_edit_Step))) (next2 : (((List T_edit_Step) × Int × Int × (List (List T_edit_Step)) × (List (List T_edit_Step)) × (List (List T_edit_Step))) → Option (Bool))) (t46 : T_tintlaw2_Move) (t54 : ((List T_edit_Step) × Bool)) (x20 : Bool) (x67 : Bool) : Option (Bool) :=
  cnd x67 (Law_EditHistories_j7 x9_3 x44_2 m_3 l_5 l_6 l_7 next2 t54 x20 x9_3) (cnd x20 (bnd (gI ((l_5.length : Int) - t46.N)) fun t82 =>
  bnd (gAt l_5 t82) fun t83 =>
  Law_EditHistories_j7 x9_3 x44_2 m_3 l_5 l_6 l_7 next2 t54 x20 t83) (Law_EditHistories_j7 x9_3 x44_2 m_3 l_5 l_6 l_7 next2 t54 x20 ([] : (List T_edit_Step))))
noncomputable def Law_EditHistories_j6 (x9_3 : (List T_edit_Step)) (x44_2 : Int) (m_3 : Int) (l_5 : (List (List T_edit_Step))) (l_6 : (List (List T_edit_Step))) (l_7 : (List (List T_edit_Step))) (next2 : (((List T_edit_Step) × Int × Int × (List (List T_edit_Step)) × (List (List T_edit_Step)) × (List (List T_edit_Step))) → Option (Bool))) (t46 : T_tintlaw2_Move) (t54 : ((List T_edit_Step) × Bool)) (x20 : Bool) : Option (Bool) :=
  cnd x20 (Law_EditHistories_j8 x9_3 x44_2 m_3 l_5 l_6 l_7 next2 t46 t54 x20 (decide (t46.N = 0))) (Law_EditHistories_j8 x9_3 x44_2 m_3 l_5 l_6 l_7 next2 t46 t54 x20 false)
noncomputable def Law_EditHistories_l2 (a1 : (List T_tintlaw2_Move)) (next2 : (((List T_edit_Step) × Int × Int × (List (List T_edit_Step)) × (List (List T_edit_Step)) × (List (List T_edit_Step))) → Option (Bool))) (x9_3 : (List T_edit_Step)) (x44_2 : Int) (m_3 : Int) (l_5 : (List (List T_edit_Step))) (l_6 : (List (List T_edit_Step))) (l_7 : (List (List T_edit_Step))) : Option (Bool) :=
  cnd (decide (x44_2 < (a1.length : Int))) (bnd (gAt a1 x44_2) fun t46 =>
  cnd (decide (t46.Kind = 0)) (bnd (slices_Clone_edit_Step x9_3) fun t97 =>
  bnd (gApp 40 t97 ([t46.Step] : List T_edit_Step)) fun l101 =>
  bnd (R_StepFault t46.Step) fun t104 =>
  bnd (Law_unless (decide ((x9_3.length : Int) < 50)) 4) fun t108 =>
  bnd (Law_first ([t104, t108] : List Int)) fun t110 =>
  bnd (edit_History_Add (⟨l_7, m_3⟩ : T_edit_History) t46.Step) fun t114 =>
  cnd (decide (t114.1 ≠ t110)) (some false) (Law_EditHistories_j4 x44_2 l_5 l_6 next2 x9_3 l101 t110 t114.2.now_ t114.2.all_)) (cnd (decide (t46.Kind = 1)) (bnd (R_StepsFault t46.Steps) fun t123 =>
  bnd (slices_Equal_edit_Step t46.Steps x9_3) fun t127 =>
  bnd (Law_unless (!t127) 11) fun t129 =>
  bnd (Law_first ([t123, t129] : List Int)) fun t131 =>
  bnd (edit_History_Set (⟨l_7, m_3⟩ : T_edit_History) t46.Steps) fun t135 =>
  cnd (decide (t135.1 ≠ t131)) (some false) (Law_EditHistories_j4 x44_2 l_5 l_6 next2 x9_3 t46.Steps t131 t135.2.now_ t135.2.all_)) (cnd (decide (t46.Kind = 2)) (bnd (edit_History_Undo (⟨l_7, m_3⟩ : T_edit_History)) fun t141 =>
  cnd (decide (t141.1 ≠ (decide (0 < (l_5.length : Int))))) (some false) (cnd (decide (0 < (l_5.length : Int))) (bnd (gApp 24 l_6 ([x9_3] : List (List T_edit_Step))) fun l153 =>
  bnd (gI ((l_5.length : Int) - 1)) fun t156 =>
  bnd (gAt l_5 t156) fun t157 =>
  bnd (gI ((l_5.length : Int) - 1)) fun t161 =>
  bnd (gCut l_5 0 t161) fun t162 =>
  Law_EditHistories_j3 x44_2 next2 t157 t141.2.now_ t162 l153 t141.2.all_) (Law_EditHistories_j3 x44_2 next2 x9_3 t141.2.now_ l_5 l_6 t141.2.all_))) (cnd (decide (t46.Kind = 3)) (bnd (edit_History_Redo (⟨l_7, m_3⟩ : T_edit_History)) fun t166 =>
  cnd (decide (t166.1 ≠ (decide (0 < (l_6.length : Int))))) (some false) (cnd (decide (0 < (l_6.length : Int))) (bnd (gApp 24 l_5 ([x9_3] : List (List T_edit_Step))) fun l178 =>
  bnd (gI ((l_6.length : Int) - 1)) fun t181 =>
  bnd (gAt l_6 t181) fun t182 =>
  bnd (gI ((l_6.length : Int) - 1)) fun t186 =>
  bnd (gCut l_6 0 t186) fun t187 =>
  Law_EditHistories_j3 x44_2 next2 t182 t166.2.now_ l178 t187 t166.2.all_) (Law_EditHistories_j3 x44_2 next2 x9_3 t166.2.now_ l_5 l_6 t166.2.all_))) (bnd (edit_History_Back (⟨l_7, m_3⟩ : T_edit_History) t46.N) fun t54 =>
  cnd (decide (0 ≤ t46.N)) (Law_EditHistories_j6 x9_3 x44_2 m_3 l_5 l_6 l_7 next2 t46 t54 (decide (t46.N ≤ (l_5.length : Int)))) (Law_EditHistories_j6 x9_3 x44_2 m_3 l_5 l_6 l_7 next2 t46 t54 false)))))) (Law_EditHistories_j1 x9_3 m_3 l_7)
noncomputable def Law_EditHistories (a0 : (List T_edit_Step)) (a1 : (List T_tintlaw2_Move)) : Option (Bool) :=
  bnd (edit_NewHistory a0) fun t23 =>
  bnd (R_StepsFault a0) fun t27 =>
  cnd (decide (t27 ≠ 0)) (cnd (decide (t23.2 = t27)) (some (Option.isNone t23.1)) (some false)) (cnd (decide (t23.2 ≠ 0)) (some false) (bnd (t23.1) fun z =>
  fix (fun next2 s => Law_EditHistories_l2 a1 next2 s.1 s.2.1 s.2.2.1 s.2.2.2.1 s.2.2.2.2.1 s.2.2.2.2.2) (a0, 0, z.now_, ([] : List (List T_edit_Step)), ([] : List (List T_edit_Step)), z.all_)))

end Go.M
