/- TagValues: the models, printed by our generator from the compiled program. Conditions: none. -/
import Derived.Test.YtohdhdiaahiicaaGreatDoorMd7
namespace Go.M
open Go.Md
set_option maxRecDepth 100000
set_option linter.unusedVariables false

structure T_tag_Ratio where
  Num : Int
  Den : Int
instance : Inhabited T_tag_Ratio := ⟨⟨0, 0⟩⟩

mutual
structure T_tag_Entry where
  Tag : Int
  Value : T_tag_Value
structure T_tag_Value where
  Kind : Int
  Text : (List UInt8)
  Ints : (List Int)
  Ratios : (List T_tag_Ratio)
  Entries : (List T_tag_Entry)
end
instance : Inhabited T_tag_Entry := ⟨⟨0, ⟨0, [], [], [], []⟩⟩⟩

instance : Inhabited T_tag_Value := ⟨⟨0, [], [], [], []⟩⟩

def eq_tag_Ratio (x y : T_tag_Ratio) : Bool := decide (x.Num = y.Num ∧ x.Den = y.Den)

/-! tintype/tintref2.wide -/
noncomputable def R_wide_j1 (a0 : Int) (x4 : Bool) : Option (Int) :=
  cnd x4 (some 1) (cnd (decide (a0 = 3)) (some 2) (cnd (decide (a0 = 4)) (cnd (decide (a0 = 4)) (some 4) (cnd (decide (a0 = 5)) (some 8) (some 0))) (cnd (decide (a0 = 9)) (cnd (decide (a0 = 9)) (some 4) (cnd (decide (a0 = 5)) (some 8) (some 0))) (cnd (decide (a0 = 13)) (some 4) (cnd (decide (a0 = 5)) (some 8) (some 0))))))
noncomputable def R_wide (a0 : Int) : Option (Int) :=
  cnd (decide (a0 = 1)) (R_wide_j1 a0 (decide (a0 = 1))) (cnd (decide (a0 = 2)) (R_wide_j1 a0 (decide (a0 = 2))) (R_wide_j1 a0 (decide (a0 = 7))))

/-! tintype/tintref2.limits -/
noncomputable def R_limits (a0 : Int) : Option (Int × Int) :=
  cnd (decide (a0 = 1)) (some (0, 255)) (cnd (decide (a0 = 3)) (some (0, 65535)) (cnd (decide (a0 = 9)) (some ((-2147483648), 2147483647)) (some (0, 4294967295))))

/-! internal/stringslite.IndexByte -/
noncomputable def internal_stringslite_IndexByte (a0 : (List UInt8)) (a1 : Int) : Option (Int) :=
  bnd (gIxB a0 a1) fun t7 =>
  some t7

/-! strings.IndexByte -/
noncomputable def strings_IndexByte (a0 : (List UInt8)) (a1 : Int) : Option (Int) :=
  bnd (internal_stringslite_IndexByte a0 a1) fun t7 =>
  some t7

/-! tintype/tintref2.ValueFault -/
noncomputable def R_ValueFaultp_j5 (a0 : T_tag_Value) : Option (Int) :=
  cnd (decide (a0.Kind = 13)) (none) (some 0)
noncomputable def R_ValueFaultp_j4 (a0 : T_tag_Value) : Option (Int) :=
  cnd (decide (a0.Kind = 2)) (bnd (strings_IndexByte a0.Text 0) fun t130 =>
  cnd (decide (0 ≤ t130)) (some 9) (R_ValueFaultp_j5 a0)) (R_ValueFaultp_j5 a0)
noncomputable def R_ValueFaultp_l6 (a0 : T_tag_Value) (next6 : ((Int) → Option (Int))) (x101_2 : Int) : Option (Int) :=
  cnd (decide (x101_2 < (a0.Ratios.length : Int))) (bnd (gAt a0.Ratios x101_2) fun t103 =>
  cnd (decide (t103.Num < 0)) (some 2) (cnd (decide (4294967295 < t103.Num)) (some 2) (cnd (decide (t103.Den < 0)) (some 2) (cnd (decide (4294967295 < t103.Den)) (some 2) (bnd (gI (x101_2 + 1)) fun t123 =>
  next6 t123))))) (R_ValueFaultp_j4 a0)
noncomputable def R_ValueFaultp_j3 (a0 : T_tag_Value) : Option (Int) :=
  fix (fun next6 s => R_ValueFaultp_l6 a0 next6 s) 0
noncomputable def R_ValueFaultp_l7 (a0 : T_tag_Value) (t79 : (Int × Int)) (next7 : ((Int) → Option (Int))) (x85_2 : Int) : Option (Int) :=
  cnd (decide (x85_2 < (a0.Ints.length : Int))) (bnd (gAt a0.Ints x85_2) fun t87 =>
  cnd (decide (t87 < t79.1)) (some 2) (cnd (decide (t79.2 < t87)) (some 2) (bnd (gI (x85_2 + 1)) fun t97 =>
  next7 t97))) (R_ValueFaultp_j3 a0)
noncomputable def R_ValueFaultp_j2 (a0 : T_tag_Value) : Option (Int) :=
  bnd (R_limits a0.Kind) fun t79 =>
  fix (fun next7 s => R_ValueFaultp_l7 a0 t79 next7 s) 0
noncomputable def R_ValueFaultp_j10 (a0 : T_tag_Value) (x42_3 : Bool) : Option (Int) :=
  cnd x42_3 (cnd x42_3 (some 1) (R_ValueFaultp_j2 a0)) (cnd (decide (0 < (a0.Entries.length : Int))) (cnd (decide (a0.Kind ≠ 13)) (some 1) (R_ValueFaultp_j2 a0)) (R_ValueFaultp_j2 a0))
noncomputable def R_ValueFaultp_j9 (a0 : T_tag_Value) (x42_2 : Bool) : Option (Int) :=
  cnd x42_2 (cnd x42_2 (some 1) (R_ValueFaultp_j2 a0)) (cnd (decide (0 < (a0.Ratios.length : Int))) (R_ValueFaultp_j10 a0 (decide (a0.Kind ≠ 5))) (R_ValueFaultp_j10 a0 false))
noncomputable def R_ValueFaultp_j8 (a0 : T_tag_Value) (x4 : Bool) (x42 : Bool) : Option (Int) :=
  cnd x42 (cnd x42 (some 1) (R_ValueFaultp_j2 a0)) (cnd (decide (0 < (a0.Ints.length : Int))) (R_ValueFaultp_j9 a0 (!x4)) (R_ValueFaultp_j9 a0 false))
noncomputable def R_ValueFaultp_j1 (a0 : T_tag_Value) (x3 : Bool) (x4 : Bool) : Option (Int) :=
  bnd (R_wide a0.Kind) fun t40 =>
  cnd (decide (t40 = 0)) (some 10) (cnd (decide (a0.Text ≠ [])) (R_ValueFaultp_j8 a0 x4 (!x3)) (R_ValueFaultp_j8 a0 x4 false))
noncomputable def R_ValueFaultp (a0 : T_tag_Value) : Option (Int) :=
  cnd (decide (a0.Kind = 2)) (cnd (decide (a0.Kind = 1)) (R_ValueFaultp_j1 a0 true true) (cnd (decide (a0.Kind = 3)) (R_ValueFaultp_j1 a0 true true) (cnd (decide (a0.Kind = 4)) (R_ValueFaultp_j1 a0 true true) (R_ValueFaultp_j1 a0 true (decide (a0.Kind = 9)))))) (cnd (decide (a0.Kind = 1)) (R_ValueFaultp_j1 a0 (decide (a0.Kind = 7)) true) (cnd (decide (a0.Kind = 3)) (R_ValueFaultp_j1 a0 (decide (a0.Kind = 7)) true) (cnd (decide (a0.Kind = 4)) (R_ValueFaultp_j1 a0 (decide (a0.Kind = 7)) true) (R_ValueFaultp_j1 a0 (decide (a0.Kind = 7)) (decide (a0.Kind = 9))))))

/-! tintype/tintref2.dirFault -/
noncomputable def R_dirFault_j2 (x19_2 : Int) (next1 : ((Int) → Option (Int))) (x29 : Int) (x30 : Bool) (m : Int) (m_2 : Int) (m_3 : (List UInt8)) (m_4 : (List Int)) (m_5 : (List T_tag_Ratio)) (m_6 : (List T_tag_Entry)) : Option (Int) :=
  bnd (gI (x19_2 + 1)) fun t78 =>
  next1 t78
noncomputable def R_dirFault_j3 (a1 : Int) (self : ((List T_tag_Entry) × Int) → Option (Int)) (x19_2 : Int) (next1 : ((Int) → Option (Int))) (t22 : T_tag_Entry) : Option (Int) :=
  cnd (decide (t22.Value.Kind ≠ 13)) (bnd (R_ValueFaultp t22.Value) fun t51 =>
  cnd (decide (t51 ≠ 0)) (some t51) (R_dirFault_j2 x19_2 next1 t22.Tag (decide (65535 < t22.Tag)) t22.Tag t22.Value.Kind t22.Value.Text t22.Value.Ints t22.Value.Ratios t22.Value.Entries)) (cnd (decide (t22.Value.Text ≠ [])) (some 1) (cnd (decide (0 < (t22.Value.Ints.length : Int))) (some 1) (cnd (decide (0 < (t22.Value.Ratios.length : Int))) (some 1) (bnd (gI (a1 + 1)) fun t73 =>
  bnd (self (t22.Value.Entries, t73)) fun t74 =>
  cnd (decide (t74 ≠ 0)) (some t74) (R_dirFault_j2 x19_2 next1 t22.Tag (decide (65535 < t22.Tag)) t22.Tag t22.Value.Kind t22.Value.Text t22.Value.Ints t22.Value.Ratios t22.Value.Entries)))))
noncomputable def R_dirFault_l1 (a0 : (List T_tag_Entry)) (a1 : Int) (self : ((List T_tag_Entry) × Int) → Option (Int)) (next1 : ((Int) → Option (Int))) (x19_2 : Int) : Option (Int) :=
  cnd (decide (x19_2 < (a0.length : Int))) (bnd (gAt a0 x19_2) fun t22 =>
  cnd (decide (t22.Tag < 0)) (some 2) (cnd (decide (65535 < t22.Tag)) (some 2) (cnd (decide (0 < x19_2)) (bnd (gI (x19_2 - 1)) fun t39 =>
  bnd (gAt a0 t39) fun t40 =>
  cnd (decide (t22.Tag ≤ t40.Tag)) (some 5) (R_dirFault_j3 a1 self x19_2 next1 t22)) (R_dirFault_j3 a1 self x19_2 next1 t22)))) (some 0)
noncomputable def R_dirFault_body (self : ((List T_tag_Entry) × Int) → Option (Int)) (a0 : (List T_tag_Entry)) (a1 : Int) : Option (Int) :=
  cnd (decide (5 < a1)) (some 4) (cnd (decide (200 < (a0.length : Int))) (some 4) (fix (fun next1 s => R_dirFault_l1 a0 a1 self next1 s) 0))
noncomputable def R_dirFault (a0 : (List T_tag_Entry)) (a1 : Int) : Option (Int) :=
  fix (fun (self : ((List T_tag_Entry) × Int) → Option (Int)) (s : (List T_tag_Entry) × Int) => R_dirFault_body self s.1 s.2) (a0, a1)

/-! tintype/tintref2.ValueFault -/
noncomputable def R_ValueFault_j5 (a0 : T_tag_Value) : Option (Int) :=
  cnd (decide (a0.Kind = 13)) (bnd (R_dirFault a0.Entries 1) fun t138 =>
  some t138) (some 0)
noncomputable def R_ValueFault_j4 (a0 : T_tag_Value) : Option (Int) :=
  cnd (decide (a0.Kind = 2)) (bnd (strings_IndexByte a0.Text 0) fun t130 =>
  cnd (decide (0 ≤ t130)) (some 9) (R_ValueFault_j5 a0)) (R_ValueFault_j5 a0)
noncomputable def R_ValueFault_l6 (a0 : T_tag_Value) (next6 : ((Int) → Option (Int))) (x101_2 : Int) : Option (Int) :=
  cnd (decide (x101_2 < (a0.Ratios.length : Int))) (bnd (gAt a0.Ratios x101_2) fun t103 =>
  cnd (decide (t103.Num < 0)) (some 2) (cnd (decide (4294967295 < t103.Num)) (some 2) (cnd (decide (t103.Den < 0)) (some 2) (cnd (decide (4294967295 < t103.Den)) (some 2) (bnd (gI (x101_2 + 1)) fun t123 =>
  next6 t123))))) (R_ValueFault_j4 a0)
noncomputable def R_ValueFault_j3 (a0 : T_tag_Value) : Option (Int) :=
  fix (fun next6 s => R_ValueFault_l6 a0 next6 s) 0
noncomputable def R_ValueFault_l7 (a0 : T_tag_Value) (t79 : (Int × Int)) (next7 : ((Int) → Option (Int))) (x85_2 : Int) : Option (Int) :=
  cnd (decide (x85_2 < (a0.Ints.length : Int))) (bnd (gAt a0.Ints x85_2) fun t87 =>
  cnd (decide (t87 < t79.1)) (some 2) (cnd (decide (t79.2 < t87)) (some 2) (bnd (gI (x85_2 + 1)) fun t97 =>
  next7 t97))) (R_ValueFault_j3 a0)
noncomputable def R_ValueFault_j2 (a0 : T_tag_Value) : Option (Int) :=
  bnd (R_limits a0.Kind) fun t79 =>
  fix (fun next7 s => R_ValueFault_l7 a0 t79 next7 s) 0
noncomputable def R_ValueFault_j10 (a0 : T_tag_Value) (x42_3 : Bool) : Option (Int) :=
  cnd x42_3 (cnd x42_3 (some 1) (R_ValueFault_j2 a0)) (cnd (decide (0 < (a0.Entries.length : Int))) (cnd (decide (a0.Kind ≠ 13)) (some 1) (R_ValueFault_j2 a0)) (R_ValueFault_j2 a0))
noncomputable def R_ValueFault_j9 (a0 : T_tag_Value) (x42_2 : Bool) : Option (Int) :=
  cnd x42_2 (cnd x42_2 (some 1) (R_ValueFault_j2 a0)) (cnd (decide (0 < (a0.Ratios.length : Int))) (R_ValueFault_j10 a0 (decide (a0.Kind ≠ 5))) (R_ValueFault_j10 a0 false))
noncomputable def R_ValueFault_j8 (a0 : T_tag_Value) (x4 : Bool) (x42 : Bool) : Option (Int) :=
  cnd x42 (cnd x42 (some 1) (R_ValueFault_j2 a0)) (cnd (decide (0 < (a0.Ints.length : Int))) (R_ValueFault_j9 a0 (!x4)) (R_ValueFault_j9 a0 false))
noncomputable def R_ValueFault_j1 (a0 : T_tag_Value) (x3 : Bool) (x4 : Bool) : Option (Int) :=
  bnd (R_wide a0.Kind) fun t40 =>
  cnd (decide (t40 = 0)) (some 10) (cnd (decide (a0.Text ≠ [])) (R_ValueFault_j8 a0 x4 (!x3)) (R_ValueFault_j8 a0 x4 false))
noncomputable def R_ValueFault (a0 : T_tag_Value) : Option (Int) :=
  cnd (decide (a0.Kind = 2)) (cnd (decide (a0.Kind = 1)) (R_ValueFault_j1 a0 true true) (cnd (decide (a0.Kind = 3)) (R_ValueFault_j1 a0 true true) (cnd (decide (a0.Kind = 4)) (R_ValueFault_j1 a0 true true) (R_ValueFault_j1 a0 true (decide (a0.Kind = 9)))))) (cnd (decide (a0.Kind = 1)) (R_ValueFault_j1 a0 (decide (a0.Kind = 7)) true) (cnd (decide (a0.Kind = 3)) (R_ValueFault_j1 a0 (decide (a0.Kind = 7)) true) (cnd (decide (a0.Kind = 4)) (R_ValueFault_j1 a0 (decide (a0.Kind = 7)) true) (R_ValueFault_j1 a0 (decide (a0.Kind = 7)) (decide (a0.Kind = 9))))))

/-! tintype/tag.sizeOf -/
noncomputable def tag_sizeOf_j1 (a0 : Int) (x4 : Bool) : Option (Int) :=
  cnd x4 (some 1) (cnd (decide (a0 = 3)) (some 2) (cnd (decide (a0 = 4)) (cnd (decide (a0 = 4)) (some 4) (cnd (decide (a0 = 5)) (some 8) (some 0))) (cnd (decide (a0 = 9)) (some 4) (cnd (decide (a0 = 5)) (some 8) (some 0)))))
noncomputable def tag_sizeOf (a0 : Int) : Option (Int) :=
  cnd (decide (a0 = 1)) (tag_sizeOf_j1 a0 (decide (a0 = 1))) (cnd (decide (a0 = 2)) (tag_sizeOf_j1 a0 (decide (a0 = 2))) (cnd (decide (a0 = 7)) (tag_sizeOf_j1 a0 (decide (a0 = 7))) (tag_sizeOf_j1 a0 (decide (a0 = 13)))))

/-! tintype/tag.isInts -/
noncomputable def tag_isInts (a0 : Int) : Option (Bool) :=
  cnd (decide (a0 = 1)) (some true) (cnd (decide (a0 = 3)) (some true) (cnd (decide (a0 = 4)) (some true) (some (decide (a0 = 9)))))

/-! tintype/tag.isText -/
noncomputable def tag_isText (a0 : Int) : Option (Bool) :=
  cnd (decide (a0 = 2)) (some true) (some (decide (a0 = 7)))

/-! tintype/tag.checkFields -/
noncomputable def tag_checkFields_j3 (a0 : T_tag_Value) (x8_3 : Bool) : Option (Int) :=
  cnd x8_3 (cnd x8_3 (some 1) (some 0)) (cnd (decide (a0.Kind ≠ 13)) (cnd (decide (0 < (a0.Entries.length : Int))) (some 1) (some 0)) (some 0))
noncomputable def tag_checkFields_j2 (a0 : T_tag_Value) (x8_2 : Bool) : Option (Int) :=
  cnd x8_2 (cnd x8_2 (some 1) (some 0)) (cnd (decide (a0.Kind ≠ 5)) (tag_checkFields_j3 a0 (decide (0 < (a0.Ratios.length : Int)))) (tag_checkFields_j3 a0 false))
noncomputable def tag_checkFields_j1 (a0 : T_tag_Value) (x8 : Bool) : Option (Int) :=
  cnd x8 (cnd x8 (some 1) (some 0)) (bnd (tag_isText a0.Kind) fun t21 =>
  cnd (!t21) (tag_checkFields_j2 a0 (decide (a0.Text ≠ []))) (tag_checkFields_j2 a0 false))
noncomputable def tag_checkFields (a0 : T_tag_Value) : Option (Int) :=
  bnd (tag_sizeOf a0.Kind) fun t6 =>
  cnd (decide (t6 = 0)) (some 10) (bnd (tag_isInts a0.Kind) fun t11 =>
  cnd (!t11) (tag_checkFields_j1 a0 (decide (0 < (a0.Ints.length : Int)))) (tag_checkFields_j1 a0 false))

/-! tintype/tag.bounds -/
noncomputable def tag_bounds (a0 : Int) : Option (Int × Int) :=
  cnd (decide (a0 = 1)) (some (0, 255)) (cnd (decide (a0 = 3)) (some (0, 65535)) (cnd (decide (a0 = 9)) (some ((-2147483648), 2147483647)) (some (0, 4294967295))))

/-! tintype/tag.outside -/
noncomputable def tag_outside (a0 : Int) (a1 : Int) (a2 : Int) : Option (Bool) :=
  cnd (decide (a0 < a1)) (some true) (some (decide (a2 < a0)))

/-! tintype/tag.checkPlain -/
noncomputable def tag_checkPlain_l3 (a0 : T_tag_Value) (next3 : ((Int) → Option (Int))) (x56_2 : Int) : Option (Int) :=
  cnd (decide (x56_2 < (a0.Text.length : Int))) (bnd (gOct a0.Text x56_2) fun t62 =>
  cnd (decide (t62 = 0)) (some 9) (bnd (gI (x56_2 + 1)) fun t64 =>
  next3 t64)) (some 0)
noncomputable def tag_checkPlain_j2 (a0 : T_tag_Value) : Option (Int) :=
  cnd (decide (a0.Kind = 2)) (fix (fun next3 s => tag_checkPlain_l3 a0 next3 s) 0) (some 0)
noncomputable def tag_checkPlain_l4 (a0 : T_tag_Value) (next4 : ((Int) → Option (Int))) (x37_2 : Int) : Option (Int) :=
  cnd (decide (x37_2 < (a0.Ratios.length : Int))) (bnd (gAt a0.Ratios x37_2) fun t39 =>
  bnd (tag_outside t39.Num 0 4294967295) fun t43 =>
  cnd t43 (some 2) (bnd (tag_outside t39.Den 0 4294967295) fun t47 =>
  cnd t47 (some 2) (bnd (gI (x37_2 + 1)) fun t49 =>
  next4 t49))) (tag_checkPlain_j2 a0)
noncomputable def tag_checkPlain_j1 (a0 : T_tag_Value) : Option (Int) :=
  fix (fun next4 s => tag_checkPlain_l4 a0 next4 s) 0
noncomputable def tag_checkPlain_l5 (a0 : T_tag_Value) (t19 : (Int × Int)) (next5 : ((Int) → Option (Int))) (x25_2 : Int) : Option (Int) :=
  cnd (decide (x25_2 < (a0.Ints.length : Int))) (bnd (gAt a0.Ints x25_2) fun t27 =>
  bnd (tag_outside t27 t19.1 t19.2) fun t32 =>
  cnd t32 (some 2) (bnd (gI (x25_2 + 1)) fun t33 =>
  next5 t33)) (tag_checkPlain_j1 a0)
noncomputable def tag_checkPlain (a0 : T_tag_Value) : Option (Int) :=
  bnd (tag_checkFields a0) fun t12 =>
  cnd (decide (t12 ≠ 0)) (some t12) (bnd (tag_bounds a0.Kind) fun t19 =>
  fix (fun next5 s => tag_checkPlain_l5 a0 t19 next5 s) 0)

/-! tintype/tag.checkDir -/
noncomputable def tag_checkDir_j3 (x17_2 : Int) (next1 : ((Int) → Option (Int))) (x7 : Int) : Option (Int) :=
  cnd (decide (x7 ≠ 0)) (some x7) (bnd (gI (x17_2 + 1)) fun t61 =>
  next1 t61)
noncomputable def tag_checkDir_j2 (a1 : Int) (self : ((List T_tag_Entry) × Int) → Option (Int)) (x17_2 : Int) (next1 : ((Int) → Option (Int))) (t20 : T_tag_Entry) : Option (Int) :=
  cnd (decide (t20.Value.Kind ≠ 13)) (bnd (tag_checkPlain t20.Value) fun t46 =>
  tag_checkDir_j3 x17_2 next1 t46) (bnd (tag_checkFields t20.Value) fun t49 =>
  cnd (decide (t49 = 0)) (bnd (gI (a1 + 1)) fun t56 =>
  bnd (self (t20.Value.Entries, t56)) fun t57 =>
  tag_checkDir_j3 x17_2 next1 t57) (tag_checkDir_j3 x17_2 next1 t49))
noncomputable def tag_checkDir_l1 (a0 : (List T_tag_Entry)) (a1 : Int) (self : ((List T_tag_Entry) × Int) → Option (Int)) (next1 : ((Int) → Option (Int))) (x17_2 : Int) : Option (Int) :=
  cnd (decide (x17_2 < (a0.length : Int))) (bnd (gAt a0 x17_2) fun t20 =>
  bnd (tag_outside t20.Tag 0 65535) fun t25 =>
  cnd t25 (some 2) (cnd (decide (0 < x17_2)) (bnd (gI (x17_2 - 1)) fun t34 =>
  bnd (gAt a0 t34) fun t35 =>
  cnd (decide (t20.Tag ≤ t35.Tag)) (some 5) (tag_checkDir_j2 a1 self x17_2 next1 t20)) (tag_checkDir_j2 a1 self x17_2 next1 t20))) (some 0)
noncomputable def tag_checkDir_body (self : ((List T_tag_Entry) × Int) → Option (Int)) (a0 : (List T_tag_Entry)) (a1 : Int) : Option (Int) :=
  cnd (decide (5 < a1)) (some 4) (cnd (decide (200 < (a0.length : Int))) (some 4) (fix (fun next1 s => tag_checkDir_l1 a0 a1 self next1 s) 0))
noncomputable def tag_checkDir (a0 : (List T_tag_Entry)) (a1 : Int) : Option (Int) :=
  fix (fun (self : ((List T_tag_Entry) × Int) → Option (Int)) (s : (List T_tag_Entry) × Int) => tag_checkDir_body self s.1 s.2) (a0, a1)

/-! tintype/tag.CheckValue -/
noncomputable def tag_CheckValue (a0 : T_tag_Value) : Option (Int) :=
  cnd (decide (a0.Kind ≠ 13)) (bnd (tag_checkPlain a0) fun t8 =>
  some t8) (bnd (tag_checkFields a0) fun t10 =>
  cnd (decide (t10 ≠ 0)) (some t10) (bnd (tag_checkDir a0.Entries 1) fun t16 =>
  some t16))

/-! tintype/tintref2.kindWords -/
noncomputable def R_kindWords  : Option ((List (Int × (List UInt8)))) :=
  some (mSet (mSet (mSet (mSet (mSet (mSet (mSet ([] : (List (Int × (List UInt8)))) 1 [98, 121, 116, 101]) 2 [97, 115, 99, 105, 105]) 3 [115, 104, 111, 114, 116]) 4 [108, 111, 110, 103]) 5 [114, 97, 116, 105, 111]) 7 [111, 112, 97, 113, 117, 101]) 9 [115, 105, 103, 110, 101, 100])

/-! tintype/tintref2.base16 -/
noncomputable def R_base16_l1 (a0 : (List UInt8)) (next1 : (((List UInt8) × Int) → Option ((List UInt8)))) (x3_2 : (List UInt8)) (x7_2 : Int) : Option ((List UInt8)) :=
  cnd (decide (x7_2 < (a0.length : Int))) (bnd (gOct a0 x7_2) fun t13 =>
  bnd (gShr 8 t13 4) fun t14 =>
  bnd (gOct a0 x7_2) fun t17 =>
  bnd (gShr 8 t17 4) fun t18 =>
  bnd (gCut [48, 49, 50, 51, 52, 53, 54, 55, 56, 57, 97, 98, 99, 100, 101, 102] t14 (wU8 (t18 + 1))) fun t20 =>
  bnd (gOct a0 x7_2) fun t23 =>
  bnd (gOct a0 x7_2) fun t27 =>
  bnd (gCut [48, 49, 50, 51, 52, 53, 54, 55, 56, 57, 97, 98, 99, 100, 101, 102] (wU8 (bAnd 8 t23 15)) (wU8 ((wU8 (bAnd 8 t27 15)) + 1))) fun t30 =>
  bnd (gCat t20 t30) fun t31 =>
  bnd (gCat x3_2 t31) fun t32 =>
  bnd (gI (x7_2 + 1)) fun t33 =>
  next1 (t32, t33)) (some x3_2)
noncomputable def R_base16 (a0 : (List UInt8)) : Option ((List UInt8)) :=
  fix (fun next1 s => R_base16_l1 a0 next1 s.1 s.2) ([], 0)

/-! tintype/tintref2.ValueTextOf -/
noncomputable def R_ValueTextOf_j3 (l_3 : (List (List UInt8))) : Option ((List UInt8)) :=
  bnd (gJoin l_3 [32]) fun t55 =>
  some t55
noncomputable def R_ValueTextOf_l4 (a0 : T_tag_Value) (next4 : ((Int × (List (List UInt8))) → Option ((List UInt8)))) (x38_2 : Int) (l_5 : (List (List UInt8))) : Option ((List UInt8)) :=
  cnd (decide (x38_2 < (a0.Ratios.length : Int))) (bnd (gAt a0.Ratios x38_2) fun t40 =>
  bnd (gItoa t40.Num) fun t45 =>
  bnd (gCat t45 [47]) fun t46 =>
  bnd (gItoa t40.Den) fun t49 =>
  bnd (gCat t46 t49) fun t50 =>
  bnd (gApp 16 l_5 ([t50] : List (List UInt8))) fun l52 =>
  bnd (gI (x38_2 + 1)) fun t53 =>
  next4 (t53, l52)) (R_ValueTextOf_j3 l_5)
noncomputable def R_ValueTextOf_j2 (a0 : T_tag_Value) (l_2 : (List (List UInt8))) : Option ((List UInt8)) :=
  fix (fun next4 s => R_ValueTextOf_l4 a0 next4 s.1 s.2) (0, l_2)
noncomputable def R_ValueTextOf_l5 (a0 : T_tag_Value) (next5 : ((Int × (List (List UInt8))) → Option ((List UInt8)))) (x25_2 : Int) (l_7 : (List (List UInt8))) : Option ((List UInt8)) :=
  cnd (decide (x25_2 < (a0.Ints.length : Int))) (bnd (gAt a0.Ints x25_2) fun t27 =>
  bnd (gItoa t27) fun t31 =>
  bnd (gApp 16 l_7 ([t31] : List (List UInt8))) fun l33 =>
  bnd (gI (x25_2 + 1)) fun t34 =>
  next5 (t34, l33)) (R_ValueTextOf_j2 a0 l_7)
noncomputable def R_ValueTextOf_j1 (a0 : T_tag_Value) (l : (List (List UInt8))) : Option ((List UInt8)) :=
  fix (fun next5 s => R_ValueTextOf_l5 a0 next5 s.1 s.2) (0, l)
noncomputable def R_ValueTextOf (a0 : T_tag_Value) : Option ((List UInt8)) :=
  bnd (R_kindWords) fun t8 =>
  cnd (decide (a0.Text ≠ [])) (bnd (R_base16 a0.Text) fun t19 =>
  bnd (gApp 16 ([((mGet t8 a0.Kind).getD [])] : List (List UInt8)) ([t19] : List (List UInt8))) fun l21 =>
  R_ValueTextOf_j1 a0 l21) (R_ValueTextOf_j1 a0 ([((mGet t8 a0.Kind).getD [])] : List (List UInt8)))

/-! tintype/tag.word -/
noncomputable def tag_word (a0 : Int) : Option ((List UInt8)) :=
  cnd (decide (a0 = 1)) (some [98, 121, 116, 101]) (cnd (decide (a0 = 2)) (some [97, 115, 99, 105, 105]) (cnd (decide (a0 = 3)) (some [115, 104, 111, 114, 116]) (cnd (decide (a0 = 4)) (some [108, 111, 110, 103]) (cnd (decide (a0 = 5)) (some [114, 97, 116, 105, 111]) (cnd (decide (a0 = 7)) (some [111, 112, 97, 113, 117, 101]) (some [115, 105, 103, 110, 101, 100]))))))

/-! tintype/tag.hex -/
noncomputable def tag_hex_j1 (m : (List UInt8)) : Option ((List UInt8)) :=
  some m
noncomputable def tag_hex_l2 (a0 : (List UInt8)) (next2 : ((Int × (List UInt8)) → Option ((List UInt8)))) (x7_2 : Int) (m_3 : (List UInt8)) : Option ((List UInt8)) :=
  cnd (decide (x7_2 < (a0.length : Int))) (bnd (gOct a0 x7_2) fun t12 =>
  bnd (gShr 8 t12 4) fun t13 =>
  bnd (gOct [48, 49, 50, 51, 52, 53, 54, 55, 56, 57, 97, 98, 99, 100, 101, 102] t13) fun t14 =>
  bnd (gBldB m_3 t14) fun t15 =>
  bnd (gOct a0 x7_2) fun t18 =>
  bnd (gOct [48, 49, 50, 51, 52, 53, 54, 55, 56, 57, 97, 98, 99, 100, 101, 102] (wU8 (bAnd 8 t18 15))) fun t20 =>
  bnd (gBldB t15 t20) fun t21 =>
  bnd (gI (x7_2 + 1)) fun t22 =>
  next2 (t22, t21)) (tag_hex_j1 m_3)
noncomputable def tag_hex (a0 : (List UInt8)) : Option ((List UInt8)) :=
  fix (fun next2 s => tag_hex_l2 a0 next2 s.1 s.2) (0, [])

/-! tintype/tag.valueText -/
noncomputable def tag_valueText_j3 (l_3 : (List (List UInt8))) : Option ((List UInt8)) :=
  bnd (gJoin l_3 [32]) fun t54 =>
  some t54
noncomputable def tag_valueText_j2 (a0 : T_tag_Value) (l_2 : (List (List UInt8))) : Option ((List UInt8)) :=
  cnd (decide (a0.Text ≠ [])) (bnd (tag_hex a0.Text) fun t50 =>
  bnd (gApp 16 l_2 ([t50] : List (List UInt8))) fun l52 =>
  tag_valueText_j3 l52) (tag_valueText_j3 l_2)
noncomputable def tag_valueText_l4 (a0 : T_tag_Value) (next4 : ((Int × (List (List UInt8))) → Option ((List UInt8)))) (x28_2 : Int) (l_5 : (List (List UInt8))) : Option ((List UInt8)) :=
  cnd (decide (x28_2 < (a0.Ratios.length : Int))) (bnd (gAt a0.Ratios x28_2) fun t30 =>
  bnd (gItoa t30.Num) fun t35 =>
  bnd (gCat t35 [47]) fun t36 =>
  bnd (gItoa t30.Den) fun t39 =>
  bnd (gCat t36 t39) fun t40 =>
  bnd (gApp 16 l_5 ([t40] : List (List UInt8))) fun l42 =>
  bnd (gI (x28_2 + 1)) fun t43 =>
  next4 (t43, l42)) (tag_valueText_j2 a0 l_5)
noncomputable def tag_valueText_j1 (a0 : T_tag_Value) (l : (List (List UInt8))) : Option ((List UInt8)) :=
  fix (fun next4 s => tag_valueText_l4 a0 next4 s.1 s.2) (0, l)
noncomputable def tag_valueText_l5 (a0 : T_tag_Value) (next5 : ((Int × (List (List UInt8))) → Option ((List UInt8)))) (x15_2 : Int) (l_7 : (List (List UInt8))) : Option ((List UInt8)) :=
  cnd (decide (x15_2 < (a0.Ints.length : Int))) (bnd (gAt a0.Ints x15_2) fun t17 =>
  bnd (gItoa t17) fun t21 =>
  bnd (gApp 16 l_7 ([t21] : List (List UInt8))) fun l23 =>
  bnd (gI (x15_2 + 1)) fun t24 =>
  next5 (t24, l23)) (tag_valueText_j1 a0 l_7)
noncomputable def tag_valueText (a0 : T_tag_Value) : Option ((List UInt8)) :=
  bnd (tag_word a0.Kind) fun t10 =>
  fix (fun next5 s => tag_valueText_l5 a0 next5 s.1 s.2) (0, ([t10] : List (List UInt8)))

/-! tintype/tag.ValueText -/
noncomputable def tag_ValueText (a0 : T_tag_Value) : Option ((List UInt8) × Int) :=
  bnd (tag_CheckValue a0) fun t7 =>
  cnd (decide (t7 ≠ 0)) (some ([], t7)) (cnd (decide (a0.Kind = 13)) (some ([], 10)) (bnd (tag_valueText a0) fun t15 =>
  cnd (decide (1000000 < (t15.length : Int))) (some ([], 4)) (some (t15, 0))))

/-! tintype/tintlaw2.told[string] -/
noncomputable def Law_told_string_j1 (a0 : (List UInt8)) (a1 : Int) (a3 : Int) (x2 : (List UInt8)) : Option (Bool) :=
  cnd (decide (a0 = x2)) (some (decide (a1 = a3))) (some false)
noncomputable def Law_told_string (a0 : (List UInt8)) (a1 : Int) (a2 : (List UInt8)) (a3 : Int) : Option (Bool) :=
  cnd (decide (a3 ≠ 0)) (Law_told_string_j1 a0 a1 a3 []) (Law_told_string_j1 a0 a1 a3 a2)

/-! unicode/utf8.RuneCountInString -/
noncomputable def unicode_utf8_RuneCountInString_l1 (a0 : (List UInt8)) (next1 : ((Int × Nat) → Option (Int))) (x2_2 : Int) (k_2 : Nat) : Option (Int) :=
  cnd (decide (k_2 < a0.length)) (bnd (gNx a0 k_2) fun t5 =>
  bnd (gI (x2_2 + 1)) fun t8 =>
  next1 (t8, (k_2 + 1))) (some x2_2)
noncomputable def unicode_utf8_RuneCountInString (a0 : (List UInt8)) : Option (Int) :=
  fix (fun next1 s => unicode_utf8_RuneCountInString_l1 a0 next1 s.1 s.2) (0, 0)

/-! unicode/utf8.decodeRuneInStringSlow -/
noncomputable def unicode_utf8_decodeRuneInStringSlow (a0 : (List UInt8)) : Option (Int × Int) :=
  cnd (decide ((a0.length : Int) < 1)) (some (65533, 0)) (none)

/-! unicode/utf8.DecodeRuneInString -/
noncomputable def unicode_utf8_DecodeRuneInString_j1 (a0 : (List UInt8)) (x10 : Bool) : Option (Int × Int) :=
  cnd x10 (bnd (gOct a0 0) fun t12 =>
  bnd (gK (-2147483648) 2147483647 t12) fun t13 =>
  some (t13, 1)) (bnd (unicode_utf8_decodeRuneInStringSlow a0) fun t16 =>
  some (t16.1, t16.2))
noncomputable def unicode_utf8_DecodeRuneInString (a0 : (List UInt8)) : Option (Int × Int) :=
  cnd (decide (a0 ≠ [])) (bnd (gOct a0 0) fun t8 =>
  unicode_utf8_DecodeRuneInString_j1 a0 (decide (t8 < 128))) (unicode_utf8_DecodeRuneInString_j1 a0 false)

/-! strings.explode -/
noncomputable def strings_explode_j2 (x1 : Int) (x0 : (List UInt8)) (l : (List (List UInt8))) : Option ((List (List UInt8))) :=
  cnd (decide (0 < x1)) (bnd (gI (x1 - 1)) fun t46 =>
  bnd (gAt l t46) fun t48 =>
  bnd (gSet l t46 x0) fun l0 =>
  some l0) (some l)
noncomputable def strings_explode_l3 (x1 : Int) (next3 : (((List UInt8) × Int × (List (List UInt8))) → Option ((List (List UInt8))))) (x0_3 : (List UInt8)) (x7_2 : Int) (l_3 : (List (List UInt8))) : Option ((List (List UInt8))) :=
  bnd (gI (x1 - 1)) fun t24 =>
  cnd (decide (x7_2 < t24)) (bnd (unicode_utf8_DecodeRuneInString x0_3) fun t30 =>
  bnd (gCut x0_3 0 t30.2) fun t37 =>
  bnd (gAt l_3 x7_2) fun t38 =>
  bnd (gSet l_3 x7_2 t37) fun l0_2 =>
  bnd (gCut x0_3 t30.2 x0_3.length) fun t41 =>
  bnd (gI (x7_2 + 1)) fun t27 =>
  next3 (t41, t27, l0_2)) (strings_explode_j2 x1 x0_3 l_3)
noncomputable def strings_explode_j1 (a0 : (List UInt8)) (x1 : Int) : Option ((List (List UInt8))) :=
  bnd (gMake 16 x1 []) fun t21 =>
  fix (fun next3 s => strings_explode_l3 x1 next3 s.1 s.2.1 s.2.2) (a0, 0, t21)
noncomputable def strings_explode (a0 : (List UInt8)) (a1 : Int) : Option ((List (List UInt8))) :=
  bnd (unicode_utf8_RuneCountInString a0) fun t11 =>
  cnd (decide (a1 < 0)) (strings_explode_j1 a0 t11) (cnd (decide (t11 < a1)) (strings_explode_j1 a0 t11) (strings_explode_j1 a0 a1))

/-! internal/bytealg.Cutover -/
noncomputable def internal_bytealg_Cutover (a0 : Int) : Option (Int) :=
  bnd (gI (a0 + 16)) fun t4 =>
  bnd (gQuo t4 8) fun t5 =>
  some t5

/-! internal/bytealg.hashStr[string] -/
noncomputable def internal_bytealg_hashStr_string_j2 (x4 : Int) (x6 : Int) : Option (Int × Int) :=
  some (x4, x6)
noncomputable def internal_bytealg_hashStr_string_j4 (x7_2 : Int) (x8_2 : Int) (next3 : ((Int × Int × Int) → Option (Int × Int))) (x6_4 : Int) : Option (Int × Int) :=
  bnd (gShr 64 x8_2 1) fun t27 =>
  next3 (x6_4, (wU32 (x7_2 * x7_2)), t27)
noncomputable def internal_bytealg_hashStr_string_l3 (x4 : Int) (next3 : ((Int × Int × Int) → Option (Int × Int))) (x6_3 : Int) (x7_2 : Int) (x8_2 : Int) : Option (Int × Int) :=
  cnd (decide (0 < x8_2)) (cnd (decide ((wI64 (bAnd 64 x8_2 1)) ≠ 0)) (internal_bytealg_hashStr_string_j4 x7_2 x8_2 next3 (wU32 (x6_3 * x7_2))) (internal_bytealg_hashStr_string_j4 x7_2 x8_2 next3 x6_3)) (internal_bytealg_hashStr_string_j2 x4 x6_3)
noncomputable def internal_bytealg_hashStr_string_j1 (a0 : (List UInt8)) (x4 : Int) : Option (Int × Int) :=
  fix (fun next3 s => internal_bytealg_hashStr_string_l3 x4 next3 s.1 s.2.1 s.2.2) (1, 16777619, (a0.length : Int))
noncomputable def internal_bytealg_hashStr_string_l5 (a0 : (List UInt8)) (next5 : ((Int × Int) → Option (Int × Int))) (x4_3 : Int) (x5_2 : Int) : Option (Int × Int) :=
  cnd (decide (x5_2 < (a0.length : Int))) (bnd (gOct a0 x5_2) fun t19 =>
  bnd (gK 0 4294967295 t19) fun t20 =>
  bnd (gI (x5_2 + 1)) fun t14 =>
  next5 ((wU32 ((wU32 (x4_3 * 16777619)) + t20)), t14)) (internal_bytealg_hashStr_string_j1 a0 x4_3)
noncomputable def internal_bytealg_hashStr_string (a0 : (List UInt8)) : Option (Int × Int) :=
  fix (fun next5 s => internal_bytealg_hashStr_string_l5 a0 next5 s.1 s.2) (0, 0)

/-! internal/bytealg.IndexRabinKarp[string] -/
noncomputable def internal_bytealg_IndexRabinKarp_string_l3 (a0 : (List UInt8)) (a1 : (List UInt8)) (t13 : (Int × Int)) (next3 : ((Int × Int) → Option (Int))) (x8_3 : Int) (x10_2 : Int) : Option (Int) :=
  cnd (decide (x10_2 < (a0.length : Int))) (bnd (gOct a0 x10_2) fun t50 =>
  bnd (gK 0 4294967295 t50) fun t51 =>
  bnd (gI (x10_2 - (a1.length : Int))) fun t58 =>
  bnd (gOct a0 t58) fun t59 =>
  bnd (gK 0 4294967295 t59) fun t60 =>
  bnd (gI (x10_2 + 1)) fun t64 =>
  cnd (decide ((wU32 ((wU32 ((wU32 (x8_3 * 16777619)) + t51)) - (wU32 (t13.2 * t60)))) = t13.1)) (bnd (gI (t64 - (a1.length : Int))) fun t72 =>
  bnd (gCut a0 t72 t64) fun t74 =>
  cnd (decide (t74 = a1)) (bnd (gI (t64 - (a1.length : Int))) fun t80 =>
  some t80) (next3 ((wU32 ((wU32 ((wU32 (x8_3 * 16777619)) + t51)) - (wU32 (t13.2 * t60)))), t64))) (next3 ((wU32 ((wU32 ((wU32 (x8_3 * 16777619)) + t51)) - (wU32 (t13.2 * t60)))), t64))) (some (-1))
noncomputable def internal_bytealg_IndexRabinKarp_string_j2 (a0 : (List UInt8)) (a1 : (List UInt8)) (t13 : (Int × Int)) (x8 : Int) : Option (Int) :=
  fix (fun next3 s => internal_bytealg_IndexRabinKarp_string_l3 a0 a1 t13 next3 s.1 s.2) (x8, (a1.length : Int))
noncomputable def internal_bytealg_IndexRabinKarp_string_j1 (a0 : (List UInt8)) (a1 : (List UInt8)) (t13 : (Int × Int)) (x8 : Int) : Option (Int) :=
  cnd (decide (x8 = t13.1)) (bnd (gCut a0 0 (a1.length : Int)) fun t36 =>
  cnd (decide (t36 = a1)) (some 0) (internal_bytealg_IndexRabinKarp_string_j2 a0 a1 t13 x8)) (internal_bytealg_IndexRabinKarp_string_j2 a0 a1 t13 x8)
noncomputable def internal_bytealg_IndexRabinKarp_string_l4 (a0 : (List UInt8)) (a1 : (List UInt8)) (t13 : (Int × Int)) (next4 : ((Int × Int) → Option (Int))) (x8_5 : Int) (x9_2 : Int) : Option (Int) :=
  cnd (decide (x9_2 < (a1.length : Int))) (bnd (gOct a0 x9_2) fun t27 =>
  bnd (gK 0 4294967295 t27) fun t28 =>
  bnd (gI (x9_2 + 1)) fun t22 =>
  next4 ((wU32 ((wU32 (x8_5 * 16777619)) + t28)), t22)) (internal_bytealg_IndexRabinKarp_string_j1 a0 a1 t13 x8_5)
noncomputable def internal_bytealg_IndexRabinKarp_string (a0 : (List UInt8)) (a1 : (List UInt8)) : Option (Int) :=
  bnd (internal_bytealg_hashStr_string a1) fun t13 =>
  fix (fun next4 s => internal_bytealg_IndexRabinKarp_string_l4 a0 a1 t13 next4 s.1 s.2) (0, 0)

/-! internal/stringslite.Index -/
noncomputable def internal_stringslite_Index (a0 : (List UInt8)) (a1 : (List UInt8)) : Option (Int) :=
  cnd (decide ((a1.length : Int) = 0)) (some 0) (cnd (decide (a1 = a0)) (some 0) (cnd (decide ((a1.length : Int) = 1)) (bnd (gOct a1 0) fun t29 =>
  bnd (internal_stringslite_IndexByte a0 t29) fun t30 =>
  some t30) (cnd (decide ((a0.length : Int) ≤ (a1.length : Int))) (some (-1)) (none))))

/-! strings.Index -/
noncomputable def strings_Index (a0 : (List UInt8)) (a1 : (List UInt8)) : Option (Int) :=
  bnd (internal_stringslite_Index a0 a1) fun t7 =>
  some t7

/-! strings.Count -/
noncomputable def strings_Count_l1 (a1 : (List UInt8)) (next1 : (((List UInt8) × Int) → Option (Int))) (x0_2 : (List UInt8)) (x5_2 : Int) : Option (Int) :=
  bnd (strings_Index x0_2 a1) fun t22 =>
  cnd (decide (t22 = (-1))) (some x5_2) (bnd (gI (x5_2 + 1)) fun t27 =>
  bnd (gI (t22 + (a1.length : Int))) fun t32 =>
  bnd (gCut x0_2 t32 x0_2.length) fun t33 =>
  next1 (t33, t27))
noncomputable def strings_Count (a0 : (List UInt8)) (a1 : (List UInt8)) : Option (Int) :=
  cnd (decide ((a1.length : Int) = 0)) (bnd (unicode_utf8_RuneCountInString a0) fun t11 =>
  bnd (gI (t11 + 1)) fun t12 =>
  some t12) (cnd (decide ((a1.length : Int) = 1)) (bnd (gOct a1 0) fun t18 =>
  bnd (gCnB a0 t18) fun t19 =>
  some t19) (fix (fun next1 s => strings_Count_l1 a1 next1 s.1 s.2) (a0, 0)))

/-! strings.genSplit -/
noncomputable def strings_genSplit_j2 (x0 : (List UInt8)) (x10 : Int) (l : (List (List UInt8))) : Option ((List (List UInt8))) :=
  bnd (gAt l x10) fun t61 =>
  bnd (gSet l x10 x0) fun l0 =>
  bnd (gI (x10 + 1)) fun t64 =>
  bnd (gCut l0 0 t64) fun t65 =>
  some t65
noncomputable def strings_genSplit_l3 (a1 : (List UInt8)) (a2 : Int) (t33 : Int) (next3 : (((List UInt8) × Int × (List (List UInt8))) → Option ((List (List UInt8))))) (x0_3 : (List UInt8)) (x10_3 : Int) (l_3 : (List (List UInt8))) : Option ((List (List UInt8))) :=
  cnd (decide (x10_3 < t33)) (bnd (strings_Index x0_3 a1) fun t39 =>
  cnd (decide (t39 < 0)) (strings_genSplit_j2 x0_3 x10_3 l_3) (bnd (gI (t39 + a2)) fun t47 =>
  bnd (gCut x0_3 0 t47) fun t48 =>
  bnd (gAt l_3 x10_3) fun t49 =>
  bnd (gSet l_3 x10_3 t48) fun l0_2 =>
  bnd (gI (t39 + (a1.length : Int))) fun t54 =>
  bnd (gCut x0_3 t54 x0_3.length) fun t55 =>
  bnd (gI (x10_3 + 1)) fun t57 =>
  next3 (t55, t57, l0_2))) (strings_genSplit_j2 x0_3 x10_3 l_3)
noncomputable def strings_genSplit_j1 (a0 : (List UInt8)) (a1 : (List UInt8)) (a2 : Int) (x3 : Int) : Option ((List (List UInt8))) :=
  bnd (gI ((a0.length : Int) + 1)) fun t28 =>
  bnd (gMake 16 (min x3 t28) []) fun t31 =>
  bnd (gI ((min x3 t28) - 1)) fun t33 =>
  fix (fun next3 s => strings_genSplit_l3 a1 a2 t33 next3 s.1 s.2.1 s.2.2) (a0, 0, t31)
noncomputable def strings_genSplit (a0 : (List UInt8)) (a1 : (List UInt8)) (a2 : Int) (a3 : Int) : Option ((List (List UInt8))) :=
  cnd (decide (a3 = 0)) (some ([] : List (List UInt8))) (cnd (decide (a1 = [])) (bnd (strings_explode a0 a3) fun t18 =>
  some t18) (cnd (decide (a3 < 0)) (bnd (strings_Count a0 a1) fun t23 =>
  bnd (gI (t23 + 1)) fun t24 =>
  strings_genSplit_j1 a0 a1 a2 t24) (strings_genSplit_j1 a0 a1 a2 a3)))

/-! strings.Split -/
noncomputable def strings_Split (a0 : (List UInt8)) (a1 : (List UInt8)) : Option ((List (List UInt8))) :=
  bnd (strings_genSplit a0 a1 0 (-1)) fun t7 =>
  some t7

/-! tintype/tag.kindOf -/
noncomputable def tag_kindOf_l1 (a0 : (List UInt8)) (next1 : ((Int) → Option (Int))) (x7_2 : Int) : Option (Int) :=
  cnd (decide (x7_2 < 7)) (bnd (gAt ([1, 2, 3, 4, 5, 7, 9] : List Int) x7_2) fun t9 =>
  bnd (tag_word t9) fun t12 =>
  cnd (decide (t12 = a0)) (some t9) (bnd (gI (x7_2 + 1)) fun t16 =>
  next1 t16)) (some 0)
noncomputable def tag_kindOf (a0 : (List UInt8)) : Option (Int) :=
  fix (fun next1 s => tag_kindOf_l1 a0 next1 s) 0

/-! tintype/tag.unhex -/
noncomputable def tag_unhex_j1 (x0 : (List UInt8)) (l : (List Int)) : Option ((List UInt8) × Bool) :=
  some ((toStr l), (decide (x0 = [])))
noncomputable def tag_unhex_l2 (next2 : (((List UInt8) × (List Int)) → Option ((List UInt8) × Bool))) (x0_3 : (List UInt8)) (l_3 : (List Int)) : Option ((List UInt8) × Bool) :=
  cnd (decide (2 ≤ (x0_3.length : Int))) (bnd (gOct x0_3 0) fun t13 =>
  bnd (strings_IndexByte [48, 49, 50, 51, 52, 53, 54, 55, 56, 57, 97, 98, 99, 100, 101, 102] t13) fun t14 =>
  bnd (gOct x0_3 1) fun t16 =>
  bnd (strings_IndexByte [48, 49, 50, 51, 52, 53, 54, 55, 56, 57, 97, 98, 99, 100, 101, 102] t16) fun t17 =>
  cnd (decide (t14 < 0)) (some ([], false)) (cnd (decide (t17 < 0)) (some ([], false)) (bnd (gShl t14 4) fun t26 =>
  bnd (gApp 1 l_3 ([(wU8 (wI64 (bOr 64 t26 t17)))] : List Int)) fun l31 =>
  bnd (gCut x0_3 2 x0_3.length) fun t11 =>
  next2 (t11, l31)))) (tag_unhex_j1 x0_3 l_3)
noncomputable def tag_unhex (a0 : (List UInt8)) : Option ((List UInt8) × Bool) :=
  fix (fun next2 s => tag_unhex_l2 next2 s.1 s.2) (a0, ([] : List Int))

/-! internal/stringslite.Cut -/
noncomputable def internal_stringslite_Cut (a0 : (List UInt8)) (a1 : (List UInt8)) : Option ((List UInt8) × (List UInt8) × Bool) :=
  bnd (internal_stringslite_Index a0 a1) fun t10 =>
  cnd (decide (0 ≤ t10)) (bnd (gCut a0 0 t10) fun t15 =>
  bnd (gI (t10 + (a1.length : Int))) fun t20 =>
  bnd (gCut a0 t20 a0.length) fun t21 =>
  some (t15, t21, true)) (some (a0, [], false))

/-! strings.Cut -/
noncomputable def strings_Cut (a0 : (List UInt8)) (a1 : (List UInt8)) : Option ((List UInt8) × (List UInt8) × Bool) :=
  bnd (internal_stringslite_Cut a0 a1) fun t9 =>
  some (t9.1, t9.2.1, t9.2.2)

/-! internal/stringslite.HasPrefix -/
noncomputable def internal_stringslite_HasPrefix (a0 : (List UInt8)) (a1 : (List UInt8)) : Option (Bool) :=
  cnd (decide ((a1.length : Int) ≤ (a0.length : Int))) (bnd (gCut a0 0 (a1.length : Int)) fun t14 =>
  some (decide (t14 = a1))) (some false)

/-! internal/stringslite.TrimPrefix -/
noncomputable def internal_stringslite_TrimPrefix (a0 : (List UInt8)) (a1 : (List UInt8)) : Option ((List UInt8)) :=
  bnd (internal_stringslite_HasPrefix a0 a1) fun t7 =>
  cnd t7 (bnd (gCut a0 (a1.length : Int) a0.length) fun t11 =>
  some t11) (some a0)

/-! strings.TrimPrefix -/
noncomputable def strings_TrimPrefix (a0 : (List UInt8)) (a1 : (List UInt8)) : Option ((List UInt8)) :=
  bnd (internal_stringslite_TrimPrefix a0 a1) fun t7 =>
  some t7

/-! strings.trimLeftByte -/
noncomputable def strings_trimLeftByte_l1 (a1 : Int) (next1 : (((List UInt8)) → Option ((List UInt8)))) (x0_2 : (List UInt8)) : Option ((List UInt8)) :=
  cnd (decide (0 < (x0_2.length : Int))) (bnd (gOct x0_2 0) fun t10 =>
  cnd (decide (t10 = a1)) (bnd (gCut x0_2 1 x0_2.length) fun t15 =>
  next1 t15) (some x0_2)) (some x0_2)
noncomputable def strings_trimLeftByte (a0 : (List UInt8)) (a1 : Int) : Option ((List UInt8)) :=
  fix (fun next1 s => strings_trimLeftByte_l1 a1 next1 s) a0

/-! strings.trimRightByte -/
noncomputable def strings_trimRightByte_l1 (a1 : Int) (next1 : (((List UInt8)) → Option ((List UInt8)))) (x0_2 : (List UInt8)) : Option ((List UInt8)) :=
  cnd (decide (0 < (x0_2.length : Int))) (bnd (gI ((x0_2.length : Int) - 1)) fun t12 =>
  bnd (gOct x0_2 t12) fun t13 =>
  cnd (decide (t13 = a1)) (bnd (gI ((x0_2.length : Int) - 1)) fun t20 =>
  bnd (gCut x0_2 0 t20) fun t21 =>
  next1 t21) (some x0_2)) (some x0_2)
noncomputable def strings_trimRightByte (a0 : (List UInt8)) (a1 : Int) : Option ((List UInt8)) :=
  fix (fun next1 s => strings_trimRightByte_l1 a1 next1 s) a0

/-! strings.makeASCIISet -/
noncomputable def strings_makeASCIISet_j1 (m : (Nat → Bool)) : Option ((Nat → Bool) × Bool) :=
  some (m, true)
noncomputable def strings_makeASCIISet_l2 (a0 : (List UInt8)) (next2 : ((Int × (Nat → Bool)) → Option ((Nat → Bool) × Bool))) (x4_2 : Int) (m_3 : (Nat → Bool)) : Option ((Nat → Bool) × Bool) :=
  cnd (decide (x4_2 < (a0.length : Int))) (bnd (gOct a0 x4_2) fun t14 =>
  cnd (decide (128 ≤ t14)) (some (m_3, false)) (bnd (gIx 256 t14) fun k19 =>
  bnd (gI (x4_2 + 1)) fun t11 =>
  next2 (t11, (setA m_3 k19 true)))) (strings_makeASCIISet_j1 m_3)
noncomputable def strings_makeASCIISet (a0 : (List UInt8)) : Option ((Nat → Bool) × Bool) :=
  fix (fun next2 s => strings_makeASCIISet_l2 a0 next2 s.1 s.2) (0, (fun _ => false))

/-! (*strings.asciiSet).contains -/
noncomputable def strings_asciiSet_contains (a0 : (Nat → Bool)) (a1 : Int) : Option (Bool × (Nat → Bool)) :=
  bnd (gIx 256 a1) fun k8 =>
  some ((a0 k8), a0)

/-! strings.trimLeftASCII -/
noncomputable def strings_trimLeftASCII_l1 (next1 : (((List UInt8) × (Nat → Bool)) → Option ((List UInt8) × (Nat → Bool)))) (x0_2 : (List UInt8)) (m_2 : (Nat → Bool)) : Option ((List UInt8) × (Nat → Bool)) :=
  cnd (decide (0 < (x0_2.length : Int))) (bnd (gOct x0_2 0) fun t10 =>
  bnd (strings_asciiSet_contains m_2 t10) fun t11 =>
  cnd (!t11.1) (some (x0_2, t11.2)) (bnd (gCut x0_2 1 x0_2.length) fun t14 =>
  next1 (t14, t11.2))) (some (x0_2, m_2))
noncomputable def strings_trimLeftASCII (a0 : (List UInt8)) (a1 : (Nat → Bool)) : Option ((List UInt8) × (Nat → Bool)) :=
  fix (fun next1 s => strings_trimLeftASCII_l1 next1 s.1 s.2) (a0, a1)

/-! strings.trimRightASCII -/
noncomputable def strings_trimRightASCII_l1 (next1 : (((List UInt8) × (Nat → Bool)) → Option ((List UInt8) × (Nat → Bool)))) (x0_2 : (List UInt8)) (m_2 : (Nat → Bool)) : Option ((List UInt8) × (Nat → Bool)) :=
  cnd (decide (0 < (x0_2.length : Int))) (bnd (gI ((x0_2.length : Int) - 1)) fun t12 =>
  bnd (gOct x0_2 t12) fun t13 =>
  bnd (strings_asciiSet_contains m_2 t13) fun t14 =>
  cnd (!t14.1) (some (x0_2, t14.2)) (bnd (gI ((x0_2.length : Int) - 1)) fun t19 =>
  bnd (gCut x0_2 0 t19) fun t20 =>
  next1 (t20, t14.2))) (some (x0_2, m_2))
noncomputable def strings_trimRightASCII (a0 : (List UInt8)) (a1 : (Nat → Bool)) : Option ((List UInt8) × (Nat → Bool)) :=
  fix (fun next1 s => strings_trimRightASCII_l1 next1 s.1 s.2) (a0, a1)

/-! unicode/utf8.ValidRune -/
noncomputable def unicode_utf8_ValidRune_j1 (a0 : Int) (x3 : Bool) : Option (Bool) :=
  cnd x3 (some true) (cnd (decide (57343 < a0)) (cnd (decide (a0 ≤ 1114111)) (some true) (some false)) (some false))
noncomputable def unicode_utf8_ValidRune (a0 : Int) : Option (Bool) :=
  cnd (decide (0 ≤ a0)) (unicode_utf8_ValidRune_j1 a0 (decide (a0 < 55296))) (unicode_utf8_ValidRune_j1 a0 false)

/-! strings.IndexRune -/
noncomputable def strings_IndexRune_l2 (a0 : (List UInt8)) (next2 : ((Nat) → Option (Int))) (k_2 : Nat) : Option (Int) :=
  cnd (decide (k_2 < a0.length)) (bnd (gNx a0 k_2) fun t176 =>
  cnd (decide (t176 = 65533)) (some ((k_2 : Nat) : Int)) (next2 (k_2 + 1))) (some (-1))
noncomputable def strings_IndexRune_j1 (a0 : (List UInt8)) (a1 : Int) (x160 : Bool) : Option (Int) :=
  cnd x160 (bnd (strings_IndexByte a0 (wU8 a1)) fun t170 =>
  some t170) (cnd (decide (a1 = 65533)) (fix (fun next2 s => strings_IndexRune_l2 a0 next2 s) 0) (bnd (unicode_utf8_ValidRune a1) fun t185 =>
  cnd (!t185) (some (-1)) (none)))
noncomputable def strings_IndexRune (a0 : (List UInt8)) (a1 : Int) : Option (Int) :=
  cnd (decide (0 ≤ a1)) (strings_IndexRune_j1 a0 a1 (decide (a1 < 128))) (strings_IndexRune_j1 a0 a1 false)

/-! strings.ContainsRune -/
noncomputable def strings_ContainsRune (a0 : (List UInt8)) (a1 : Int) : Option (Bool) :=
  bnd (strings_IndexRune a0 a1) fun t7 =>
  some (decide (0 ≤ t7))

/-! strings.trimLeftUnicode -/
noncomputable def strings_trimLeftUnicode_l1 (a1 : (List UInt8)) (next1 : (((List UInt8)) → Option ((List UInt8)))) (x0_2 : (List UInt8)) : Option ((List UInt8)) :=
  cnd (decide (0 < (x0_2.length : Int))) (bnd (unicode_utf8_DecodeRuneInString x0_2) fun t12 =>
  bnd (strings_ContainsRune a1 t12.1) fun t17 =>
  cnd (!t17) (some x0_2) (bnd (gCut x0_2 t12.2 x0_2.length) fun t21 =>
  next1 t21)) (some x0_2)
noncomputable def strings_trimLeftUnicode (a0 : (List UInt8)) (a1 : (List UInt8)) : Option ((List UInt8)) :=
  fix (fun next1 s => strings_trimLeftUnicode_l1 a1 next1 s) a0

/-! unicode/utf8.RuneStart -/
noncomputable def unicode_utf8_RuneStart (a0 : Int) : Option (Bool) :=
  some (decide ((wU8 (bAnd 8 a0 192)) ≠ 128))

/-! unicode/utf8.DecodeLastRuneInString -/
noncomputable def unicode_utf8_DecodeLastRuneInString_j2 (a0 : (List UInt8)) (x5_2 : Int) : Option (Int × Int) :=
  bnd (gCut a0 x5_2 (a0.length : Int)) fun t40 =>
  bnd (unicode_utf8_DecodeRuneInString t40) fun t41 =>
  bnd (gI (x5_2 + t41.2)) fun t46 =>
  cnd (decide (t46 ≠ (a0.length : Int))) (some (65533, 1)) (some (t41.1, t41.2))
noncomputable def unicode_utf8_DecodeLastRuneInString_j1 (a0 : (List UInt8)) (x5 : Int) : Option (Int × Int) :=
  cnd (decide (x5 < 0)) (unicode_utf8_DecodeLastRuneInString_j2 a0 0) (unicode_utf8_DecodeLastRuneInString_j2 a0 x5)
noncomputable def unicode_utf8_DecodeLastRuneInString_l3 (a0 : (List UInt8)) (t21 : Int) (next3 : ((Int) → Option (Int × Int))) (x5_4 : Int) : Option (Int × Int) :=
  cnd (decide ((max t21 0) ≤ x5_4)) (bnd (gOct a0 x5_4) fun t32 =>
  bnd (unicode_utf8_RuneStart t32) fun t33 =>
  cnd t33 (unicode_utf8_DecodeLastRuneInString_j1 a0 x5_4) (bnd (gI (x5_4 - 1)) fun t29 =>
  next3 t29)) (unicode_utf8_DecodeLastRuneInString_j1 a0 x5_4)
noncomputable def unicode_utf8_DecodeLastRuneInString (a0 : (List UInt8)) : Option (Int × Int) :=
  cnd (decide ((a0.length : Int) = 0)) (some (65533, 0)) (bnd (gI ((a0.length : Int) - 1)) fun t12 =>
  bnd (gOct a0 t12) fun t15 =>
  bnd (gK (-2147483648) 2147483647 t15) fun t16 =>
  cnd (decide (t16 < 128)) (some (t16, 1)) (bnd (gI ((a0.length : Int) - 4)) fun t21 =>
  bnd (gI (t12 - 1)) fun t24 =>
  fix (fun next3 s => unicode_utf8_DecodeLastRuneInString_l3 a0 t21 next3 s) t24))

/-! strings.trimRightUnicode -/
noncomputable def strings_trimRightUnicode_j2 (a1 : (List UInt8)) (x0_2 : (List UInt8)) (next1 : (((List UInt8)) → Option ((List UInt8)))) (x5 : Int) (x6 : Int) : Option ((List UInt8)) :=
  bnd (strings_ContainsRune a1 x5) fun t25 =>
  cnd (!t25) (some x0_2) (bnd (gI ((x0_2.length : Int) - x6)) fun t31 =>
  bnd (gCut x0_2 0 t31) fun t32 =>
  next1 t32)
noncomputable def strings_trimRightUnicode_l1 (a1 : (List UInt8)) (next1 : (((List UInt8)) → Option ((List UInt8)))) (x0_2 : (List UInt8)) : Option ((List UInt8)) :=
  cnd (decide (0 < (x0_2.length : Int))) (bnd (gI ((x0_2.length : Int) - 1)) fun t13 =>
  bnd (gOct x0_2 t13) fun t14 =>
  bnd (gK (-2147483648) 2147483647 t14) fun t15 =>
  cnd (decide (128 ≤ t15)) (bnd (unicode_utf8_DecodeLastRuneInString x0_2) fun t20 =>
  strings_trimRightUnicode_j2 a1 x0_2 next1 t20.1 t20.2) (strings_trimRightUnicode_j2 a1 x0_2 next1 t15 1)) (some x0_2)
noncomputable def strings_trimRightUnicode (a0 : (List UInt8)) (a1 : (List UInt8)) : Option ((List UInt8)) :=
  fix (fun next1 s => strings_trimRightUnicode_l1 a1 next1 s) a0

/-! strings.Trim -/
noncomputable def strings_Trim_j1 (a0 : (List UInt8)) (a1 : (List UInt8)) : Option ((List UInt8)) :=
  bnd (strings_makeASCIISet a1) fun t31 =>
  cnd t31.2 (bnd (strings_trimRightASCII a0 t31.1) fun t36 =>
  bnd (strings_trimLeftASCII t36.1 t36.2) fun t37 =>
  some t37.1) (bnd (strings_trimRightUnicode a0 a1) fun t40 =>
  bnd (strings_trimLeftUnicode t40 a1) fun t42 =>
  some t42)
noncomputable def strings_Trim (a0 : (List UInt8)) (a1 : (List UInt8)) : Option ((List UInt8)) :=
  cnd (decide (a0 = [])) (some a0) (cnd (decide (a1 = [])) (some a0) (cnd (decide ((a1.length : Int) = 1)) (bnd (gOct a1 0) fun t19 =>
  cnd (decide (t19 < 128)) (bnd (gOct a1 0) fun t24 =>
  bnd (strings_trimRightByte a0 t24) fun t25 =>
  bnd (gOct a1 0) fun t27 =>
  bnd (strings_trimLeftByte t25 t27) fun t28 =>
  some t28) (strings_Trim_j1 a0 a1)) (strings_Trim_j1 a0 a1)))

/-! tintype/tag.plainNumber -/
noncomputable def tag_plainNumber_j1 (a0 : (List UInt8)) (x6 : (List UInt8)) : Option (Int × Bool) :=
  cnd (decide (x6 = [])) (some (0, false)) (cnd (decide (10 < (x6.length : Int))) (some (0, false)) (bnd (strings_Trim x6 [48, 49, 50, 51, 52, 53, 54, 55, 56, 57]) fun t22 =>
  cnd (decide (t22 ≠ [])) (some (0, false)) (bnd (gAtoi a0) fun t27 =>
  bnd (gItoa t27) fun t35 =>
  some (t27, (decide (t35 = a0))))))
noncomputable def tag_plainNumber (a0 : (List UInt8)) (a1 : Bool) : Option (Int × Bool) :=
  cnd a1 (bnd (strings_TrimPrefix a0 [45]) fun t12 =>
  tag_plainNumber_j1 a0 t12) (tag_plainNumber_j1 a0 a0)

/-! tintype/tag.readRatio -/
noncomputable def tag_readRatio (a0 : (List UInt8)) : Option (T_tag_Ratio × Bool) :=
  bnd (strings_Cut a0 [47]) fun t13 =>
  bnd (tag_plainNumber t13.1 false) fun t19 =>
  bnd (tag_plainNumber t13.2.1 false) fun t24 =>
  cnd t13.2.2 (cnd t19.2 (some ((⟨t19.1, t24.1⟩ : T_tag_Ratio), t24.2)) (some ((⟨t19.1, t24.1⟩ : T_tag_Ratio), false))) (some ((⟨t19.1, t24.1⟩ : T_tag_Ratio), false))

/-! tintype/tag.readWords -/
noncomputable def tag_readWords_j1 (a0 : Int) (a1 : (List (List UInt8))) : Option (T_tag_Value × Bool) :=
  bnd (gJoin a1 []) fun t35 =>
  bnd (tag_unhex t35) fun t36 =>
  some ((⟨a0, t36.1, ([] : List Int), ([] : List T_tag_Ratio), ([] : List T_tag_Entry)⟩ : T_tag_Value), t36.2)
noncomputable def tag_readWords_j2 (a0 : Int) (l : (List Int)) (l_2 : (List T_tag_Ratio)) : Option (T_tag_Value × Bool) :=
  some ((⟨a0, [], l, l_2, ([] : List T_tag_Entry)⟩ : T_tag_Value), true)
noncomputable def tag_readWords_j4 (x45_2 : Int) (next3 : ((Int × (List Int) × (List T_tag_Ratio)) → Option (T_tag_Value × Bool))) (x11 : Bool) (l_7 : (List Int)) (l_8 : (List T_tag_Ratio)) : Option (T_tag_Value × Bool) :=
  cnd (!x11) (some ((⟨0, [], ([] : List Int), ([] : List T_tag_Ratio), ([] : List T_tag_Entry)⟩ : T_tag_Value), false)) (bnd (gI (x45_2 + 1)) fun t78 =>
  next3 (t78, l_7, l_8))
noncomputable def tag_readWords_l3 (a0 : Int) (a1 : (List (List UInt8))) (next3 : ((Int × (List Int) × (List T_tag_Ratio)) → Option (T_tag_Value × Bool))) (x45_2 : Int) (l_5 : (List Int)) (l_6 : (List T_tag_Ratio)) : Option (T_tag_Value × Bool) :=
  cnd (decide (x45_2 < (a1.length : Int))) (bnd (gAt a1 x45_2) fun t47 =>
  cnd (decide (a0 = 5)) (bnd (tag_readRatio t47) fun t53 =>
  bnd (gApp 16 l_6 ([t53.1] : List T_tag_Ratio)) fun l60 =>
  tag_readWords_j4 x45_2 next3 t53.2 l_5 l60) (bnd (tag_plainNumber t47 (decide (a0 = 9))) fun t66 =>
  bnd (gApp 8 l_5 ([t66.1] : List Int)) fun l73 =>
  tag_readWords_j4 x45_2 next3 t66.2 l73 l_6)) (tag_readWords_j2 a0 l_5 l_6)
noncomputable def tag_readWords (a0 : Int) (a1 : (List (List UInt8))) : Option (T_tag_Value × Bool) :=
  bnd (tag_isText a0) fun t17 =>
  cnd t17 (cnd (decide (1 < (a1.length : Int))) (some ((⟨0, [], ([] : List Int), ([] : List T_tag_Ratio), ([] : List T_tag_Entry)⟩ : T_tag_Value), false)) (cnd (decide ((a1.length : Int) = 1)) (bnd (gAt a1 0) fun t27 =>
  cnd (decide (t27 = [])) (some ((⟨0, [], ([] : List Int), ([] : List T_tag_Ratio), ([] : List T_tag_Entry)⟩ : T_tag_Value), false)) (tag_readWords_j1 a0 a1)) (tag_readWords_j1 a0 a1))) (fix (fun next3 s => tag_readWords_l3 a0 a1 next3 s.1 s.2.1 s.2.2) (0, ([] : List Int), ([] : List T_tag_Ratio)))

/-! slices.Clone[[]int,int] -/
noncomputable def slices_Clone_int (a0 : (List Int)) : Option ((List Int)) :=
  bnd (gApp 8 ([] : List Int) a0) fun l7 =>
  some l7

/-! slices.Clone[[]tintype/tag.Ratio,tintype/tag.Ratio] -/
noncomputable def slices_Clone_tag_Ratio (a0 : (List T_tag_Ratio)) : Option ((List T_tag_Ratio)) :=
  bnd (gApp 16 ([] : List T_tag_Ratio) a0) fun l7 =>
  some l7

/-! tintype/tag.copyEntries -/
noncomputable def tag_copyEntries (a0 : (List T_tag_Entry)) : Option ((List T_tag_Entry)) :=
  cnd (decide ((a0.length : Int) = 0)) (some ([] : List T_tag_Entry)) (none)

/-! tintype/tag.copyValue -/
noncomputable def tag_copyValue (a0 : T_tag_Value) : Option (T_tag_Value) :=
  bnd (slices_Clone_int a0.Ints) fun t5 =>
  bnd (slices_Clone_tag_Ratio a0.Ratios) fun t10 =>
  bnd (tag_copyEntries a0.Entries) fun t15 =>
  some (⟨a0.Kind, a0.Text, t5, t10, t15⟩ : T_tag_Value)

/-! tintype/tag.ReadValue -/
noncomputable def tag_ReadValue (a0 : (List UInt8)) : Option (T_tag_Value × Int) :=
  cnd (decide (1000000 < (a0.length : Int))) (some ((⟨0, [], ([] : List Int), ([] : List T_tag_Ratio), ([] : List T_tag_Entry)⟩ : T_tag_Value), 4)) (bnd (strings_Split a0 [32]) fun t14 =>
  bnd (gAt t14 0) fun t16 =>
  bnd (tag_kindOf t16) fun t18 =>
  cnd (decide (t18 = 0)) (some ((⟨0, [], ([] : List Int), ([] : List T_tag_Ratio), ([] : List T_tag_Entry)⟩ : T_tag_Value), 8)) (bnd (gCut t14 1 t14.length) fun t25 =>
  bnd (tag_readWords t18 t25) fun t26 =>
  cnd (!t26.2) (some ((⟨0, [], ([] : List Int), ([] : List T_tag_Ratio), ([] : List T_tag_Entry)⟩ : T_tag_Value), 8)) (bnd (tag_CheckValue t26.1) fun t33 =>
  cnd (decide (t33 ≠ 0)) (some ((⟨0, [], ([] : List Int), ([] : List T_tag_Ratio), ([] : List T_tag_Entry)⟩ : T_tag_Value), t33)) (bnd (tag_copyValue t26.1) fun t39 =>
  some (t39, 0)))))

/-! tintype/tintref2.octets16 -/
noncomputable def R_octets16_j1 (x0 : (List UInt8)) (l : (List Int)) : Option ((List UInt8) × Bool) :=
  some ((toStr l), (decide (x0 = [])))
noncomputable def R_octets16_l2 (next2 : (((List UInt8) × (List Int)) → Option ((List UInt8) × Bool))) (x0_3 : (List UInt8)) (l_3 : (List Int)) : Option ((List UInt8) × Bool) :=
  cnd (decide (2 ≤ (x0_3.length : Int))) (bnd (gOct x0_3 0) fun t13 =>
  bnd (strings_IndexByte [48, 49, 50, 51, 52, 53, 54, 55, 56, 57, 97, 98, 99, 100, 101, 102] t13) fun t14 =>
  bnd (gOct x0_3 1) fun t16 =>
  bnd (strings_IndexByte [48, 49, 50, 51, 52, 53, 54, 55, 56, 57, 97, 98, 99, 100, 101, 102] t16) fun t17 =>
  cnd (decide (t14 < 0)) (some ([], false)) (cnd (decide (t17 < 0)) (some ([], false)) (bnd (gI (16 * t14)) fun t26 =>
  bnd (gI (t26 + t17)) fun t28 =>
  bnd (gApp 1 l_3 ([(wU8 t28)] : List Int)) fun l31 =>
  bnd (gCut x0_3 2 x0_3.length) fun t11 =>
  next2 (t11, l31)))) (R_octets16_j1 x0_3 l_3)
noncomputable def R_octets16 (a0 : (List UInt8)) : Option ((List UInt8) × Bool) :=
  fix (fun next2 s => R_octets16_l2 next2 s.1 s.2) (a0, ([] : List Int))

/-! tintype/tintref2.Whole -/
noncomputable def R_Whole_j2 (a0 : (List UInt8)) : Option (Int × Bool) :=
  bnd (gAtoi a0) fun t39 =>
  some (t39, true)
noncomputable def R_Whole_j1 (a0 : (List UInt8)) (a1 : Int) (x8 : (List UInt8)) : Option (Int × Bool) :=
  cnd (decide (x8 = [])) (some (0, false)) (cnd (decide (a1 < (x8.length : Int))) (some (0, false)) (bnd (strings_Trim x8 [48, 49, 50, 51, 52, 53, 54, 55, 56, 57]) fun t25 =>
  cnd (decide (t25 ≠ [])) (some (0, false)) (bnd (gOct x8 0) fun t30 =>
  cnd (decide (t30 = 48)) (cnd (decide (a0 ≠ [48])) (some (0, false)) (R_Whole_j2 a0)) (R_Whole_j2 a0))))
noncomputable def R_Whole (a0 : (List UInt8)) (a1 : Int) (a2 : Bool) : Option (Int × Bool) :=
  cnd a2 (bnd (strings_TrimPrefix a0 [45]) fun t14 =>
  R_Whole_j1 a0 a1 t14) (R_Whole_j1 a0 a1 a0)

/-! tintype/tintref2.ValueRead -/
noncomputable def R_ValueRead_j2 (m : Int) (x7 : Bool) (m_2 : (List UInt8)) (l : (List Int)) (l_2 : (List T_tag_Ratio)) : Option (T_tag_Value × Int) :=
  cnd (!x7) (some ((⟨0, [], ([] : List Int), ([] : List T_tag_Ratio), ([] : List T_tag_Entry)⟩ : T_tag_Value), 8)) (bnd (R_ValueFault (⟨m, m_2, l, l_2, ([] : (List T_tag_Entry))⟩ : T_tag_Value)) fun t148 =>
  cnd (decide (t148 ≠ 0)) (some ((⟨0, [], ([] : List Int), ([] : List T_tag_Ratio), ([] : List T_tag_Entry)⟩ : T_tag_Value), t148)) (some ((⟨m, m_2, l, l_2, ([] : List T_tag_Entry)⟩ : T_tag_Value), 0)))
noncomputable def R_ValueRead_j5 (x105_2 : Int) (l_4 : (List T_tag_Ratio)) (next4 : ((Bool × Int × (List T_tag_Ratio)) → Option (T_tag_Value × Int))) (t117 : (Int × Bool)) (t122 : (Int × Bool)) (x7_4 : Bool) : Option (T_tag_Value × Int) :=
  bnd (gApp 16 l_4 ([(⟨t117.1, t122.1⟩ : T_tag_Ratio)] : List T_tag_Ratio)) fun l141 =>
  bnd (gI (x105_2 + 1)) fun t143 =>
  next4 (x7_4, t143, l141)
noncomputable def R_ValueRead_l4 (m : Int) (t44 : (List (List UInt8))) (next4 : ((Bool × Int × (List T_tag_Ratio)) → Option (T_tag_Value × Int))) (x7_3 : Bool) (x105_2 : Int) (l_4 : (List T_tag_Ratio)) : Option (T_tag_Value × Int) :=
  cnd (decide (x105_2 < (t44.length : Int))) (bnd (gAt t44 x105_2) fun t107 =>
  bnd (strings_Cut t107 [47]) fun t111 =>
  bnd (R_Whole t111.1 10 false) fun t117 =>
  bnd (R_Whole t111.2.1 10 false) fun t122 =>
  cnd x7_3 (cnd t111.2.2 (cnd t117.2 (R_ValueRead_j5 x105_2 l_4 next4 t117 t122 t122.2) (R_ValueRead_j5 x105_2 l_4 next4 t117 t122 false)) (R_ValueRead_j5 x105_2 l_4 next4 t117 t122 false)) (R_ValueRead_j5 x105_2 l_4 next4 t117 t122 false)) (R_ValueRead_j2 m x7_3 [] ([] : List Int) l_4)
noncomputable def R_ValueRead_j7 (x52_2 : Int) (l_6 : (List Int)) (next6 : ((Bool × Int × (List Int)) → Option (T_tag_Value × Int))) (t61 : (Int × Bool)) (x7_7 : Bool) : Option (T_tag_Value × Int) :=
  bnd (gApp 8 l_6 ([t61.1] : List Int)) fun l72 =>
  bnd (gI (x52_2 + 1)) fun t74 =>
  next6 (x7_7, t74, l72)
noncomputable def R_ValueRead_l6 (m : Int) (t44 : (List (List UInt8))) (next6 : ((Bool × Int × (List Int)) → Option (T_tag_Value × Int))) (x7_6 : Bool) (x52_2 : Int) (l_6 : (List Int)) : Option (T_tag_Value × Int) :=
  cnd (decide (x52_2 < (t44.length : Int))) (bnd (gAt t44 x52_2) fun t54 =>
  bnd (R_Whole t54 10 (decide (m = 9))) fun t61 =>
  cnd x7_6 (R_ValueRead_j7 x52_2 l_6 next6 t61 t61.2) (R_ValueRead_j7 x52_2 l_6 next6 t61 false)) (R_ValueRead_j2 m x7_6 [] l_6 ([] : List T_tag_Ratio))
noncomputable def R_ValueRead_j3 (m : Int) (t44 : (List (List UInt8))) (x75 : Bool) : Option (T_tag_Value × Int) :=
  cnd x75 (cnd (decide (0 < (t44.length : Int))) (bnd (gAt t44 0) fun t83 =>
  bnd (R_octets16 t83) fun t85 =>
  cnd t85.2 (cnd (decide ((t44.length : Int) = 1)) (bnd (gAt t44 0) fun t97 =>
  R_ValueRead_j2 m (decide (t97 ≠ [])) t85.1 ([] : List Int) ([] : List T_tag_Ratio)) (R_ValueRead_j2 m false t85.1 ([] : List Int) ([] : List T_tag_Ratio))) (R_ValueRead_j2 m false t85.1 ([] : List Int) ([] : List T_tag_Ratio))) (R_ValueRead_j2 m (decide (0 < m)) [] ([] : List Int) ([] : List T_tag_Ratio))) (cnd (decide (m = 5)) (fix (fun next4 s => R_ValueRead_l4 m t44 next4 s.1 s.2.1 s.2.2) ((decide (0 < m)), 0, ([] : List T_tag_Ratio))) (fix (fun next6 s => R_ValueRead_l6 m t44 next6 s.1 s.2.1 s.2.2) ((decide (0 < m)), 0, ([] : List Int))))
noncomputable def R_ValueRead_j1 (t28 : ((List (List UInt8)))) (m : Int) : Option (T_tag_Value × Int) :=
  bnd (gCut t28 1 t28.length) fun t44 =>
  cnd (decide (m = 2)) (R_ValueRead_j3 m t44 (decide (m = 2))) (R_ValueRead_j3 m t44 (decide (m = 7)))
noncomputable def R_ValueRead_l8 (t28 : ((List (List UInt8)))) (next8 : ((Int × (List (Int × (List UInt8)))) → Option (T_tag_Value × Int))) (m_4 : Int) (rs_2 : (List (Int × (List UInt8)))) : Option (T_tag_Value × Int) :=
  cnd (!rs_2.isEmpty) (gAll rs_2 fun pe rs_3 =>
  bnd (gAt t28 0) fun t38 =>
  cnd (decide (pe.2 = t38)) (next8 (pe.1, rs_3)) (next8 (m_4, rs_3))) (R_ValueRead_j1 t28 m_4)
noncomputable def R_ValueRead (a0 : (List UInt8)) : Option (T_tag_Value × Int) :=
  cnd (decide (1000000 < (a0.length : Int))) (some ((⟨0, [], ([] : List Int), ([] : List T_tag_Ratio), ([] : List T_tag_Entry)⟩ : T_tag_Value), 4)) (bnd (strings_Split a0 [32]) fun t28 =>
  bnd (R_kindWords) fun t29 =>
  fix (fun next8 s => R_ValueRead_l8 t28 next8 s.1 s.2) (0, t29))

/-! slices.Equal[[]int,int] -/
noncomputable def slices_Equal_int_l1 (a0 : (List Int)) (a1 : (List Int)) (next1 : ((Int) → Option (Bool))) (x13_2 : Int) : Option (Bool) :=
  cnd (decide (x13_2 < (a0.length : Int))) (bnd (gAt a0 x13_2) fun t18 =>
  bnd (gAt a1 x13_2) fun t22 =>
  cnd (decide (t18 ≠ t22)) (some false) (bnd (gI (x13_2 + 1)) fun t25 =>
  next1 t25)) (some true)
noncomputable def slices_Equal_int (a0 : (List Int)) (a1 : (List Int)) : Option (Bool) :=
  cnd (decide ((a0.length : Int) ≠ (a1.length : Int))) (some false) (fix (fun next1 s => slices_Equal_int_l1 a0 a1 next1 s) 0)

/-! slices.Equal[[]tintype/tag.Ratio,tintype/tag.Ratio] -/
noncomputable def slices_Equal_tag_Ratio_l1 (a0 : (List T_tag_Ratio)) (a1 : (List T_tag_Ratio)) (next1 : ((Int) → Option (Bool))) (x13_2 : Int) : Option (Bool) :=
  cnd (decide (x13_2 < (a0.length : Int))) (bnd (gAt a0 x13_2) fun t18 =>
  bnd (gAt a1 x13_2) fun t22 =>
  cnd (!(eq_tag_Ratio t18 t22)) (some false) (bnd (gI (x13_2 + 1)) fun t25 =>
  next1 t25)) (some true)
noncomputable def slices_Equal_tag_Ratio (a0 : (List T_tag_Ratio)) (a1 : (List T_tag_Ratio)) : Option (Bool) :=
  cnd (decide ((a0.length : Int) ≠ (a1.length : Int))) (some false) (fix (fun next1 s => slices_Equal_tag_Ratio_l1 a0 a1 next1 s) 0)

/-! slices.EqualFunc[[]tintype/tag.Entry,[]tintype/tag.Entry,tintype/tag.Entry,tintype/tag.Entry] -/
noncomputable def slices_EqualFunc_tag_Entry_tag_Entry_tag_Entry_l1 (a0 : (List T_tag_Entry)) (a1 : (List T_tag_Entry)) (a2 : (T_tag_Entry → T_tag_Entry → Option (Bool))) (next1 : ((Int) → Option (Bool))) (x17_2 : Int) : Option (Bool) :=
  cnd (decide (x17_2 < (a0.length : Int))) (bnd (gAt a0 x17_2) fun t20 =>
  bnd (gAt a1 x17_2) fun t24 =>
  bnd (a2 t20 t24) fun t29 =>
  cnd (!t29) (some false) (bnd (gI (x17_2 + 1)) fun t31 =>
  next1 t31)) (some true)
noncomputable def slices_EqualFunc_tag_Entry_tag_Entry_tag_Entry (a0 : (List T_tag_Entry)) (a1 : (List T_tag_Entry)) (a2 : (T_tag_Entry → T_tag_Entry → Option (Bool))) : Option (Bool) :=
  cnd (decide ((a0.length : Int) ≠ (a1.length : Int))) (some false) (fix (fun next1 s => slices_EqualFunc_tag_Entry_tag_Entry_tag_Entry_l1 a0 a1 a2 next1 s) 0)

/-! tintype/tintref2.SameDir$1 -/
noncomputable def R_SameDir_1 (a0 : T_tag_Entry) (a1 : T_tag_Entry) : Option (Bool) :=
  cnd (decide (a0.Tag = a1.Tag)) (none) (some false)

/-! tintype/tintref2.SameDir -/
noncomputable def R_SameDir (a0 : (List T_tag_Entry)) (a1 : (List T_tag_Entry)) : Option (Bool) :=
  bnd (slices_EqualFunc_tag_Entry_tag_Entry_tag_Entry a0 a1 R_SameDir_1) fun t7 =>
  some t7

/-! tintype/tintref2.SameValue -/
noncomputable def R_SameValue (a0 : T_tag_Value) (a1 : T_tag_Value) : Option (Bool) :=
  cnd (decide (a0.Kind = a1.Kind)) (cnd (decide (a0.Text = a1.Text)) (bnd (slices_Equal_int a0.Ints a1.Ints) fun t22 =>
  cnd t22 (bnd (slices_Equal_tag_Ratio a0.Ratios a1.Ratios) fun t29 =>
  cnd t29 (bnd (R_SameDir a0.Entries a1.Entries) fun t36 =>
  some t36) (some false)) (some false)) (some false)) (some false)

/-! tintype/tintlaw2.TagValues -/
noncomputable def Law_TagValues_l3 (a1 : (List UInt8)) (x6 : (List UInt8)) (next3 : ((Int) → Option (Bool))) (x50_2 : Int) : Option (Bool) :=
  cnd (decide (x50_2 < 2)) (bnd (gAt ([a1, x6] : List (List UInt8)) x50_2) fun t52 =>
  bnd (tag_ReadValue t52) fun t56 =>
  bnd (R_ValueRead t52) fun t61 =>
  cnd (decide (t56.2 ≠ t61.2)) (some false) (bnd (R_SameValue t56.1 t61.1) fun t70 =>
  cnd (!t70) (some false) (bnd (gI (x50_2 + 1)) fun t73 =>
  next3 t73))) (some true)
noncomputable def Law_TagValues_j2 (a0 : T_tag_Value) (a1 : (List UInt8)) (x5_2 : Int) (x6 : (List UInt8)) : Option (Bool) :=
  bnd (tag_ValueText a0) fun t37 =>
  bnd (Law_told_string t37.1 t37.2 x6 x5_2) fun t44 =>
  cnd (!t44) (some false) (fix (fun next3 s => Law_TagValues_l3 a1 x6 next3 s) 0)
noncomputable def Law_TagValues_j1 (a0 : T_tag_Value) (a1 : (List UInt8)) (x5 : Int) : Option (Bool) :=
  cnd (decide (x5 = 0)) (bnd (R_ValueTextOf a0) fun t31 =>
  cnd (decide (1000000 < (t31.length : Int))) (Law_TagValues_j2 a0 a1 4 t31) (Law_TagValues_j2 a0 a1 x5 t31)) (Law_TagValues_j2 a0 a1 x5 [])
noncomputable def Law_TagValues (a0 : T_tag_Value) (a1 : (List UInt8)) : Option (Bool) :=
  bnd (R_ValueFault a0) fun t16 =>
  bnd (tag_CheckValue a0) fun t18 =>
  cnd (decide (t18 ≠ t16)) (some false) (cnd (decide (t16 = 0)) (cnd (decide (a0.Kind = 13)) (Law_TagValues_j1 a0 a1 10) (Law_TagValues_j1 a0 a1 t16)) (Law_TagValues_j1 a0 a1 t16))

end Go.M
