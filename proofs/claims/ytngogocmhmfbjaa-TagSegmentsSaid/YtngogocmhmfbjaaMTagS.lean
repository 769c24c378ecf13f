/- TagSegments: the models, printed by our generator from the compiled program. Conditions: none. -/
import Derived.Test.YtngogocmhmfbjaaMd
namespace Go.M
open Go.Md
set_option maxRecDepth 100000
set_option linter.unusedVariables false

structure T_tag_Segment where
  Kind : Int
  Text : (List UInt8)
instance : Inhabited T_tag_Segment := ⟨⟨0, []⟩⟩

def eq_tag_Segment (x y : T_tag_Segment) : Bool := decide (x.Kind = y.Kind ∧ x.Text = y.Text)

/-! tintype/tag.outside -/
noncomputable def tag_outside (a0 : Int) (a1 : Int) (a2 : Int) : Option (Bool) :=
  cnd (decide (a0 < a1)) (some true) (some (decide (a2 < a0)))

/-! tintype/tag.isKind -/
noncomputable def tag_isKind (a0 : Int) : Option (Bool) :=
  bnd (tag_outside a0 192 254) fun t4 =>
  cnd (!t4) (cnd (decide (a0 ≠ 216)) (some (decide (a0 ≠ 217))) (some false)) (some false)

/-! tintype/tag.Segments -/
noncomputable def tag_Segments_j1 (x0 : (List UInt8)) (l : (List T_tag_Segment)) : Option ((List T_tag_Segment) × Int) :=
  cnd (decide ((x0.length : Int) < 4)) (some (([] : List T_tag_Segment), 8)) (bnd (gI ((x0.length : Int) - 2)) fun t80 =>
  bnd (gCut x0 t80 x0.length) fun t81 =>
  cnd (decide (t81 ≠ [255, 217])) (some (([] : List T_tag_Segment), 8)) (bnd (gI ((x0.length : Int) - 2)) fun t88 =>
  bnd (gCut x0 2 t88) fun t89 =>
  bnd (gApp 24 l ([(⟨218, t89⟩ : T_tag_Segment)] : List T_tag_Segment)) fun l92 =>
  cnd (decide (200 < (l92.length : Int))) (some (([] : List T_tag_Segment), 4)) (some (l92, 0))))
noncomputable def tag_Segments_l2 (next2 : (((List UInt8) × (List T_tag_Segment)) → Option ((List T_tag_Segment) × Int))) (x0_3 : (List UInt8)) (l_3 : (List T_tag_Segment)) : Option ((List T_tag_Segment) × Int) :=
  cnd (decide ((x0_3.length : Int) < 2)) (some (([] : List T_tag_Segment), 8)) (bnd (gOct x0_3 0) fun t25 =>
  cnd (decide (t25 ≠ 255)) (some (([] : List T_tag_Segment), 8)) (bnd (gOct x0_3 1) fun t30 =>
  bnd (gK (-9223372036854775808) 9223372036854775807 t30) fun t31 =>
  bnd (tag_isKind t31) fun t32 =>
  cnd (!t32) (some (([] : List T_tag_Segment), 8)) (bnd (gOct x0_3 1) fun t36 =>
  bnd (gK (-9223372036854775808) 9223372036854775807 t36) fun t37 =>
  cnd (decide (t37 = 218)) (tag_Segments_j1 x0_3 l_3) (cnd (decide ((x0_3.length : Int) < 4)) (some (([] : List T_tag_Segment), 8)) (bnd (gOct x0_3 2) fun t44 =>
  bnd (gK (-9223372036854775808) 9223372036854775807 t44) fun t45 =>
  bnd (gShl t45 8) fun t46 =>
  bnd (gOct x0_3 3) fun t48 =>
  bnd (gK (-9223372036854775808) 9223372036854775807 t48) fun t49 =>
  cnd (decide ((wI64 (bOr 64 t46 t49)) < 2)) (some (([] : List T_tag_Segment), 8)) (bnd (gI ((x0_3.length : Int) - 2)) fun t57 =>
  cnd (decide (t57 < (wI64 (bOr 64 t46 t49)))) (some (([] : List T_tag_Segment), 8)) (bnd (gI (2 + (wI64 (bOr 64 t46 t49)))) fun t64 =>
  bnd (gCut x0_3 4 t64) fun t65 =>
  bnd (gApp 24 l_3 ([(⟨t37, t65⟩ : T_tag_Segment)] : List T_tag_Segment)) fun l68 =>
  bnd (gI (2 + (wI64 (bOr 64 t46 t49)))) fun t71 =>
  bnd (gCut x0_3 t71 x0_3.length) fun t72 =>
  next2 (t72, l68))))))))
noncomputable def tag_Segments (a0 : (List UInt8)) : Option ((List T_tag_Segment) × Int) :=
  cnd (decide (200000 < (a0.length : Int))) (some (([] : List T_tag_Segment), 4)) (cnd (decide ((a0.length : Int) < 2)) (some (([] : List T_tag_Segment), 8)) (bnd (gCut a0 0 2) fun t15 =>
  cnd (decide (t15 ≠ [255, 216])) (some (([] : List T_tag_Segment), 8)) (bnd (gCut a0 2 a0.length) fun t19 =>
  fix (fun next2 s => tag_Segments_l2 next2 s.1 s.2) (t19, ([] : List T_tag_Segment)))))

/-! internal/stringslite.HasPrefix -/
noncomputable def internal_stringslite_HasPrefix (a0 : (List UInt8)) (a1 : (List UInt8)) : Option (Bool) :=
  cnd (decide ((a1.length : Int) ≤ (a0.length : Int))) (bnd (gCut a0 0 (a1.length : Int)) fun t14 =>
  some (decide (t14 = a1))) (some false)

/-! strings.HasPrefix -/
noncomputable def strings_HasPrefix (a0 : (List UInt8)) (a1 : (List UInt8)) : Option (Bool) :=
  bnd (internal_stringslite_HasPrefix a0 a1) fun t7 =>
  some t7

/-! tintype/tintref2.segmentKind -/
noncomputable def R_segmentKind (a0 : Int) : Option (Bool) :=
  cnd (decide (192 ≤ a0)) (cnd (decide (a0 ≤ 254)) (cnd (decide (a0 ≠ 216)) (some (decide (a0 ≠ 217))) (some false)) (some false)) (some false)

/-! tintype/tintref2.SegmentsOf -/
noncomputable def R_SegmentsOf_j1 (l : (List T_tag_Segment)) : Option ((List T_tag_Segment) × Int) :=
  cnd (decide (200 < (l.length : Int))) (some (([] : List T_tag_Segment), 4)) (some (l, 0))
noncomputable def R_SegmentsOf_l2 (a0 : (List UInt8)) (next2 : ((Int × (List T_tag_Segment)) → Option ((List T_tag_Segment) × Int))) (x5_2 : Int) (l_3 : (List T_tag_Segment)) : Option ((List T_tag_Segment) × Int) :=
  bnd (gI ((a0.length : Int) - x5_2)) fun t17 =>
  cnd (decide (t17 < 2)) (some (([] : List T_tag_Segment), 8)) (bnd (gOct a0 x5_2) fun t22 =>
  cnd (decide (t22 ≠ 255)) (some (([] : List T_tag_Segment), 8)) (bnd (gI (x5_2 + 1)) fun t28 =>
  bnd (gOct a0 t28) fun t29 =>
  bnd (gK (-9223372036854775808) 9223372036854775807 t29) fun t30 =>
  bnd (R_segmentKind t30) fun t31 =>
  cnd (!t31) (some (([] : List T_tag_Segment), 8)) (bnd (gI (x5_2 + 1)) fun t36 =>
  bnd (gOct a0 t36) fun t37 =>
  bnd (gK (-9223372036854775808) 9223372036854775807 t37) fun t38 =>
  bnd (gI (x5_2 + 2)) fun t40 =>
  cnd (decide (t38 = 218)) (bnd (gI ((a0.length : Int) - t40)) fun t46 =>
  cnd (decide (t46 < 2)) (some (([] : List T_tag_Segment), 8)) (bnd (gI ((a0.length : Int) - 2)) fun t52 =>
  bnd (gCut a0 t52 a0.length) fun t53 =>
  cnd (decide (t53 ≠ [255, 217])) (some (([] : List T_tag_Segment), 8)) (bnd (gI ((a0.length : Int) - 2)) fun t62 =>
  bnd (gCut a0 t40 t62) fun t63 =>
  bnd (gApp 24 l_3 ([(⟨t38, t63⟩ : T_tag_Segment)] : List T_tag_Segment)) fun l66 =>
  R_SegmentsOf_j1 l66))) (bnd (gI ((a0.length : Int) - t40)) fun t70 =>
  cnd (decide (t70 < 2)) (some (([] : List T_tag_Segment), 8)) (bnd (gOct a0 t40) fun t74 =>
  bnd (gK (-9223372036854775808) 9223372036854775807 t74) fun t75 =>
  bnd (gShl t75 8) fun t76 =>
  bnd (gI (t40 + 1)) fun t79 =>
  bnd (gOct a0 t79) fun t80 =>
  bnd (gK (-9223372036854775808) 9223372036854775807 t80) fun t81 =>
  cnd (decide ((wI64 (bOr 64 t76 t81)) < 2)) (some (([] : List T_tag_Segment), 8)) (bnd (gI ((a0.length : Int) - t40)) fun t90 =>
  cnd (decide (t90 < (wI64 (bOr 64 t76 t81)))) (some (([] : List T_tag_Segment), 8)) (bnd (gI (t40 + 2)) fun t97 =>
  bnd (gI (t40 + (wI64 (bOr 64 t76 t81)))) fun t100 =>
  bnd (gCut a0 t97 t100) fun t101 =>
  bnd (gApp 24 l_3 ([(⟨t38, t101⟩ : T_tag_Segment)] : List T_tag_Segment)) fun l104 =>
  bnd (gI (t40 + (wI64 (bOr 64 t76 t81)))) fun t107 =>
  next2 (t107, l104))))))))
noncomputable def R_SegmentsOf (a0 : (List UInt8)) : Option ((List T_tag_Segment) × Int) :=
  cnd (decide (200000 < (a0.length : Int))) (some (([] : List T_tag_Segment), 4)) (bnd (strings_HasPrefix a0 [255, 216]) fun t12 =>
  cnd (!t12) (some (([] : List T_tag_Segment), 8)) (fix (fun next2 s => R_SegmentsOf_l2 a0 next2 s.1 s.2) (2, ([] : List T_tag_Segment))))

/-! tintype/tag.checkSegment -/
noncomputable def tag_checkSegment (a0 : T_tag_Segment) (a1 : Bool) : Option (Int) :=
  bnd (tag_isKind a0.Kind) fun t8 =>
  cnd (!t8) (some 10) (cnd (decide ((decide (a0.Kind = 218)) ≠ a1)) (some 5) (cnd (decide (a0.Kind ≠ 218)) (cnd (decide (65533 < (a0.Text.length : Int))) (some 4) (some 0)) (some 0)))

/-! tintype/tag.number -/
noncomputable def tag_number_j2 (a1 : Int) (x14_2 : Int) (l_2 : (List Int)) (next1 : ((Int × (List Int)) → Option ((List Int)))) (x9 : Int) : Option ((List Int)) :=
  bnd (gI (8 * x14_2)) fun t27 =>
  bnd (gShr 64 a1 t27) fun t28 =>
  bnd (gAt l_2 x9) fun t30 =>
  bnd (gSet l_2 x9 (wU8 t28)) fun l0 =>
  bnd (gI (x14_2 + 1)) fun t31 =>
  next1 (t31, l0)
noncomputable def tag_number_l1 (a0 : Bool) (a1 : Int) (a2 : Int) (t11 : (List Int)) (next1 : ((Int × (List Int)) → Option ((List Int)))) (x14_2 : Int) (l_2 : (List Int)) : Option ((List Int)) :=
  cnd (decide (x14_2 < (t11.length : Int))) (cnd a0 (bnd (gI (a2 - 1)) fun t20 =>
  bnd (gI (t20 - x14_2)) fun t22 =>
  tag_number_j2 a1 x14_2 l_2 next1 t22) (tag_number_j2 a1 x14_2 l_2 next1 x14_2)) (some l_2)
noncomputable def tag_number (a0 : Bool) (a1 : Int) (a2 : Int) : Option ((List Int)) :=
  bnd (gMake 1 a2 0) fun t11 =>
  fix (fun next1 s => tag_number_l1 a0 a1 a2 t11 next1 s.1 s.2) (0, t11)

/-! tintype/tag.Joined -/
noncomputable def tag_Joined_j1 (l : (List Int)) : Option ((List UInt8) × Int) :=
  bnd (gApL 1 l ([255, 217] : List Int)) fun l61 =>
  cnd (decide (200000 < (l61.length : Int))) (some ([], 4)) (some ((toStr l61), 0))
noncomputable def tag_Joined_j3 (x20_2 : Int) (next2 : ((Int × (List Int)) → Option ((List UInt8) × Int))) (l_4 : (List Int)) : Option ((List UInt8) × Int) :=
  bnd (gI (x20_2 + 1)) fun t58 =>
  next2 (t58, l_4)
noncomputable def tag_Joined_j4 (x20_2 : Int) (next2 : ((Int × (List Int)) → Option ((List UInt8) × Int))) (t23 : T_tag_Segment) (l_5 : (List Int)) : Option ((List UInt8) × Int) :=
  cnd (decide ((l_5.length : Int) ≤ 200000)) (bnd (gApL 1 l_5 (ofStr t23.Text)) fun l57 =>
  tag_Joined_j3 x20_2 next2 l57) (tag_Joined_j3 x20_2 next2 l_5)
noncomputable def tag_Joined_l2 (a0 : (List T_tag_Segment)) (next2 : ((Int × (List Int)) → Option ((List UInt8) × Int))) (x20_2 : Int) (l_3 : (List Int)) : Option ((List UInt8) × Int) :=
  cnd (decide (x20_2 < (a0.length : Int))) (bnd (gAt a0 x20_2) fun t23 =>
  bnd (gI ((a0.length : Int) - 1)) fun t29 =>
  bnd (tag_checkSegment t23 (decide (x20_2 = t29))) fun t31 =>
  cnd (decide (t31 ≠ 0)) (some ([], t31)) (bnd (gApL 1 l_3 ([255, (wU8 t23.Kind)] : List Int)) fun l40 =>
  cnd (decide (t23.Kind ≠ 218)) (bnd (gI ((t23.Text.length : Int) + 2)) fun t48 =>
  bnd (tag_number true t48 2) fun t49 =>
  bnd (gApL 1 l40 t49) fun l50 =>
  tag_Joined_j4 x20_2 next2 t23 l50) (tag_Joined_j4 x20_2 next2 t23 l40))) (tag_Joined_j1 l_3)
noncomputable def tag_Joined (a0 : (List T_tag_Segment)) : Option ((List UInt8) × Int) :=
  cnd (decide (200 < (a0.length : Int))) (some ([], 4)) (cnd (decide ((a0.length : Int) = 0)) (some ([], 5)) (fix (fun next2 s => tag_Joined_l2 a0 next2 s.1 s.2) (0, ([255, 216] : List Int))))

/-! tintype/tintref2.number -/
noncomputable def R_number_j1 (l : (List Int)) : Option ((List UInt8)) :=
  some (toStr l)
noncomputable def R_number_j3 (a1 : Int) (x14_2 : Int) (l_3 : (List Int)) (next2 : ((Int × (List Int)) → Option ((List UInt8)))) (x9 : Int) : Option ((List UInt8)) :=
  bnd (gI (8 * x14_2)) fun t27 =>
  bnd (gShr 64 a1 t27) fun t28 =>
  bnd (gAt l_3 x9) fun t30 =>
  bnd (gSet l_3 x9 (wU8 t28)) fun l0 =>
  bnd (gI (x14_2 + 1)) fun t31 =>
  next2 (t31, l0)
noncomputable def R_number_l2 (a0 : Bool) (a1 : Int) (a2 : Int) (t11 : (List Int)) (next2 : ((Int × (List Int)) → Option ((List UInt8)))) (x14_2 : Int) (l_3 : (List Int)) : Option ((List UInt8)) :=
  cnd (decide (x14_2 < (t11.length : Int))) (cnd a0 (bnd (gI (a2 - 1)) fun t20 =>
  bnd (gI (t20 - x14_2)) fun t22 =>
  R_number_j3 a1 x14_2 l_3 next2 t22) (R_number_j3 a1 x14_2 l_3 next2 x14_2)) (R_number_j1 l_3)
noncomputable def R_number (a0 : Bool) (a1 : Int) (a2 : Int) : Option ((List UInt8)) :=
  bnd (gMake 1 a2 0) fun t11 =>
  fix (fun next2 s => R_number_l2 a0 a1 a2 t11 next2 s.1 s.2) (0, t11)

/-! tintype/tintref2.JoinedOf -/
noncomputable def R_JoinedOf_j1 (x4 : (List UInt8)) : Option ((List UInt8) × Int) :=
  bnd (gCat x4 [255, 217]) fun t69 =>
  cnd (decide (200000 < (t69.length : Int))) (some ([], 4)) (some (t69, 0))
noncomputable def R_JoinedOf_j4 (x16_2 : Int) (next2 : (((List UInt8) × Int) → Option ((List UInt8) × Int))) (t19 : T_tag_Segment) (x4_4 : (List UInt8)) : Option ((List UInt8) × Int) :=
  bnd (gCat x4_4 t19.Text) fun t66 =>
  bnd (gI (x16_2 + 1)) fun t67 =>
  next2 (t66, t67)
noncomputable def R_JoinedOf_j3 (x4_3 : (List UInt8)) (x16_2 : Int) (next2 : (((List UInt8) × Int) → Option ((List UInt8) × Int))) (t19 : T_tag_Segment) : Option ((List UInt8) × Int) :=
  bnd (gCat [255] (toStr ([(wU8 t19.Kind)] : List Int))) fun t52 =>
  bnd (gCat x4_3 t52) fun t53 =>
  cnd (!(decide (t19.Kind = 218))) (bnd (gI ((t19.Text.length : Int) + 2)) fun t60 =>
  bnd (R_number true t60 2) fun t61 =>
  bnd (gCat t53 t61) fun t62 =>
  R_JoinedOf_j4 x16_2 next2 t19 t62) (R_JoinedOf_j4 x16_2 next2 t19 t53)
noncomputable def R_JoinedOf_l2 (a0 : (List T_tag_Segment)) (next2 : (((List UInt8) × Int) → Option ((List UInt8) × Int))) (x4_3 : (List UInt8)) (x16_2 : Int) : Option ((List UInt8) × Int) :=
  cnd (decide (x16_2 < (a0.length : Int))) (bnd (gAt a0 x16_2) fun t19 =>
  bnd (R_segmentKind t19.Kind) fun t27 =>
  cnd (!t27) (some ([], 10)) (bnd (gI ((a0.length : Int) - 1)) fun t34 =>
  cnd (decide ((decide (t19.Kind = 218)) ≠ (decide (x16_2 = t34)))) (some ([], 5)) (cnd (!(decide (t19.Kind = 218))) (cnd (decide (65533 < (t19.Text.length : Int))) (some ([], 4)) (R_JoinedOf_j3 x4_3 x16_2 next2 t19)) (R_JoinedOf_j3 x4_3 x16_2 next2 t19)))) (R_JoinedOf_j1 x4_3)
noncomputable def R_JoinedOf (a0 : (List T_tag_Segment)) : Option ((List UInt8) × Int) :=
  cnd (decide (200 < (a0.length : Int))) (some ([], 4)) (cnd (decide ((a0.length : Int) = 0)) (some ([], 5)) (fix (fun next2 s => R_JoinedOf_l2 a0 next2 s.1 s.2) ([255, 216], 0)))

/-! slices.Equal[[]tintype/tag.Segment,tintype/tag.Segment] -/
noncomputable def slices_Equal_tag_Segment_l1 (a0 : (List T_tag_Segment)) (a1 : (List T_tag_Segment)) (next1 : ((Int) → Option (Bool))) (x13_2 : Int) : Option (Bool) :=
  cnd (decide (x13_2 < (a0.length : Int))) (bnd (gAt a0 x13_2) fun t18 =>
  bnd (gAt a1 x13_2) fun t22 =>
  cnd (!(eq_tag_Segment t18 t22)) (some false) (bnd (gI (x13_2 + 1)) fun t25 =>
  next1 t25)) (some true)
noncomputable def slices_Equal_tag_Segment (a0 : (List T_tag_Segment)) (a1 : (List T_tag_Segment)) : Option (Bool) :=
  cnd (decide ((a0.length : Int) ≠ (a1.length : Int))) (some false) (fix (fun next1 s => slices_Equal_tag_Segment_l1 a0 a1 next1 s) 0)

/-! tintype/tintlaw2.listed[tintype/tag.Segment] -/
noncomputable def Law_listed_tag_Segment_j1 (a0 : (List T_tag_Segment)) (a1 : Int) (a3 : Int) (x2 : (List T_tag_Segment)) : Option (Bool) :=
  bnd (slices_Equal_tag_Segment a0 x2) fun t13 =>
  cnd t13 (some (decide (a1 = a3))) (some false)
noncomputable def Law_listed_tag_Segment (a0 : (List T_tag_Segment)) (a1 : Int) (a2 : (List T_tag_Segment)) (a3 : Int) : Option (Bool) :=
  cnd (decide (a3 ≠ 0)) (Law_listed_tag_Segment_j1 a0 a1 a3 ([] : (List T_tag_Segment))) (Law_listed_tag_Segment_j1 a0 a1 a3 a2)

/-! tintype/tintlaw2.told[string] -/
noncomputable def Law_told_string_j1 (a0 : (List UInt8)) (a1 : Int) (a3 : Int) (x2 : (List UInt8)) : Option (Bool) :=
  cnd (decide (a0 = x2)) (some (decide (a1 = a3))) (some false)
noncomputable def Law_told_string (a0 : (List UInt8)) (a1 : Int) (a2 : (List UInt8)) (a3 : Int) : Option (Bool) :=
  cnd (decide (a3 ≠ 0)) (Law_told_string_j1 a0 a1 a3 []) (Law_told_string_j1 a0 a1 a3 a2)

/-! tintype/tintlaw2.TagSegments -/
noncomputable def Law_TagSegments (a0 : (List UInt8)) (a1 : (List T_tag_Segment)) : Option (Bool) :=
  bnd (tag_Segments a0) fun t15 =>
  bnd (R_SegmentsOf a0) fun t20 =>
  bnd (tag_Joined a1) fun t25 =>
  bnd (R_JoinedOf a1) fun t30 =>
  bnd (Law_listed_tag_Segment t15.1 t15.2 t20.1 t20.2) fun t37 =>
  cnd t37 (bnd (Law_told_string t25.1 t25.2 t30.1 t30.2) fun t43 =>
  some t43) (some false)

end Go.M
