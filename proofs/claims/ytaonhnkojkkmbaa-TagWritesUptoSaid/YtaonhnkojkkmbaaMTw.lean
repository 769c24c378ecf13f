/- TagWrites: the models, printed by our generator from the compiled program. Conditions: none. -/
import Derived.Test.YtaonhnkojkkmbaaMd6
namespace Go.M
open Go.Md
set_option maxRecDepth 100000
set_option linter.unusedVariables false

structure T_tintref2_written where
  s_ : (List UInt8)
  big_ : Bool
instance : Inhabited T_tintref2_written := ⟨⟨[], false⟩⟩

structure T_tag_Ratio where
  Num : Int
  Den : Int
instance : Inhabited T_tag_Ratio := ⟨⟨0, 0⟩⟩

mutual
structure T_tag_Entry where
  Tag : Int
  Value : T_tag_Value
structure T_tag_Value where
  Kind : Int
  Text : (List UInt8)
  Ints : (List Int)
  Ratios : (List T_tag_Ratio)
  Entries : (List T_tag_Entry)
end
instance : Inhabited T_tag_Entry := ⟨⟨0, ⟨0, [], [], [], []⟩⟩⟩

instance : Inhabited T_tag_Value := ⟨⟨0, [], [], [], []⟩⟩

structure T_tag_File where
  Big : Bool
  Dirs : (List (List T_tag_Entry))
instance : Inhabited T_tag_File := ⟨⟨false, []⟩⟩

structure T_tag_writer where
  big_ : Bool
  out_ : (List Int)
instance : Inhabited T_tag_writer := ⟨⟨false, []⟩⟩


/-! tintype/tintref2.number -/
noncomputable def R_number_j1 (l : (List Int)) : Option ((List UInt8)) :=
  some (toStr l)
noncomputable def R_number_j3 (a1 : Int) (x14_2 : Int) (l_3 : (List Int)) (next2 : ((Int × (List Int)) → Option ((List UInt8)))) (x9 : Int) : Option ((List UInt8)) :=
  bnd (gI (8 * x14_2)) fun t27 =>
  bnd (gShr 64 a1 t27) fun t28 =>
  bnd (gAt l_3 x9) fun t30 =>
  bnd (gSet l_3 x9 (wU8 t28)) fun l0 =>
  bnd (gI (x14_2 + 1)) fun t31 =>
  next2 (t31, l0)
noncomputable def R_number_l2 (a0 : Bool) (a1 : Int) (a2 : Int) (t11 : (List Int)) (next2 : ((Int × (List Int)) → Option ((List UInt8)))) (x14_2 : Int) (l_3 : (List Int)) : Option ((List UInt8)) :=
  cnd (decide (x14_2 < (t11.length : Int))) (cnd a0 (bnd (gI (a2 - 1)) fun t20 =>
  bnd (gI (t20 - x14_2)) fun t22 =>
  R_number_j3 a1 x14_2 l_3 next2 t22) (R_number_j3 a1 x14_2 l_3 next2 x14_2)) (R_number_j1 l_3)
noncomputable def R_number (a0 : Bool) (a1 : Int) (a2 : Int) : Option ((List UInt8)) :=
  bnd (gMake 1 a2 0) fun t11 =>
  fix (fun next2 s => R_number_l2 a0 a1 a2 t11 next2 s.1 s.2) (0, t11)

/-! (*tintype/tintref2.written).set -/
noncomputable def R_written_set (a0 : T_tintref2_written) (a1 : Int) (a2 : Int) (a3 : Int) : Option (T_tintref2_written) :=
  bnd (gCut a0.s_ 0 a1) fun t14 =>
  bnd (R_number a0.big_ a2 a3) fun t21 =>
  bnd (gCat t14 t21) fun t22 =>
  bnd (gI (a1 + a3)) fun t29 =>
  bnd (gCut a0.s_ t29 a0.s_.length) fun t30 =>
  bnd (gCat t22 t30) fun t31 =>
  some (⟨t31, a0.big_⟩ : T_tintref2_written)

/-! (*tintype/tintref2.written).add -/
noncomputable def R_written_add_j1 (a0 : T_tintref2_written) (a1 : (List UInt8)) (m : (List UInt8)) : Option (Int × T_tintref2_written) :=
  bnd (gCat m a1) fun t30 =>
  some ((m.length : Int), (⟨t30, a0.big_⟩ : T_tintref2_written))
noncomputable def R_written_add (a0 : T_tintref2_written) (a1 : (List UInt8)) : Option (Int × T_tintref2_written) :=
  bnd (gRem (a0.s_.length : Int) 2) fun t11 =>
  cnd (decide (t11 = 1)) (bnd (gCat a0.s_ [0]) fun t17 =>
  R_written_add_j1 a0 a1 t17) (R_written_add_j1 a0 a1 a0.s_)

/-! tintype/tintref2.wide -/
noncomputable def R_wide_j1 (a0 : Int) (x4 : Bool) : Option (Int) :=
  cnd x4 (some 1) (cnd (decide (a0 = 3)) (some 2) (cnd (decide (a0 = 4)) (cnd (decide (a0 = 4)) (some 4) (cnd (decide (a0 = 5)) (some 8) (some 0))) (cnd (decide (a0 = 9)) (cnd (decide (a0 = 9)) (some 4) (cnd (decide (a0 = 5)) (some 8) (some 0))) (cnd (decide (a0 = 13)) (some 4) (cnd (decide (a0 = 5)) (some 8) (some 0))))))
noncomputable def R_wide (a0 : Int) : Option (Int) :=
  cnd (decide (a0 = 1)) (R_wide_j1 a0 (decide (a0 = 1))) (cnd (decide (a0 = 2)) (R_wide_j1 a0 (decide (a0 = 2))) (R_wide_j1 a0 (decide (a0 = 7))))

/-! tintype/tintref2.octets -/
noncomputable def R_octets_l3 (a0 : Bool) (a1 : T_tag_Value) (next3 : (((List UInt8) × Int) → Option ((List UInt8)))) (x5_4 : (List UInt8)) (x36_2 : Int) : Option ((List UInt8)) :=
  cnd (decide (x36_2 < (a1.Ratios.length : Int))) (bnd (gAt a1.Ratios x36_2) fun t38 =>
  bnd (R_number a0 t38.Num 4) fun t44 =>
  bnd (R_number a0 t38.Den 4) fun t48 =>
  bnd (gCat t44 t48) fun t49 =>
  bnd (gCat x5_4 t49) fun t50 =>
  bnd (gI (x36_2 + 1)) fun t51 =>
  next3 (t50, t51)) (some x5_4)
noncomputable def R_octets_j2 (a0 : Bool) (a1 : T_tag_Value) (x5_2 : (List UInt8)) : Option ((List UInt8)) :=
  fix (fun next3 s => R_octets_l3 a0 a1 next3 s.1 s.2) (x5_2, 0)
noncomputable def R_octets_l4 (a0 : Bool) (a1 : T_tag_Value) (next4 : (((List UInt8) × Int) → Option ((List UInt8)))) (x5_6 : (List UInt8)) (x20_2 : Int) : Option ((List UInt8)) :=
  cnd (decide (x20_2 < (a1.Ints.length : Int))) (bnd (gAt a1.Ints x20_2) fun t22 =>
  bnd (R_wide a1.Kind) fun t29 =>
  bnd (R_number a0 t22 t29) fun t30 =>
  bnd (gCat x5_6 t30) fun t31 =>
  bnd (gI (x20_2 + 1)) fun t32 =>
  next4 (t31, t32)) (R_octets_j2 a0 a1 x5_6)
noncomputable def R_octets_j1 (a0 : Bool) (a1 : T_tag_Value) (x5 : (List UInt8)) : Option ((List UInt8)) :=
  fix (fun next4 s => R_octets_l4 a0 a1 next4 s.1 s.2) (x5, 0)
noncomputable def R_octets (a0 : Bool) (a1 : T_tag_Value) : Option ((List UInt8)) :=
  cnd (decide (a1.Kind = 2)) (bnd (gCat a1.Text [0]) fun t16 =>
  R_octets_j1 a0 a1 t16) (R_octets_j1 a0 a1 a1.Text)

/-! tintype/tintref2.count -/
noncomputable def R_count (a0 : T_tag_Value) : Option (Int) :=
  cnd (decide (a0.Kind = 13)) (some 1) (bnd (R_octets false a0) fun t7 =>
  bnd (R_wide a0.Kind) fun t11 =>
  bnd (gQuo (t7.length : Int) t11) fun t12 =>
  some t12)

/-! (*tintype/tintref2.written).dir -/
noncomputable def R_written_dir_j2 (x25_2 : Int) (next1 : ((Int × (List UInt8) × Bool) → Option (Int × T_tintref2_written))) (m_5 : (List UInt8)) (m_6 : Bool) : Option (Int × T_tintref2_written) :=
  bnd (gI (x25_2 + 1)) fun t107 =>
  next1 (t107, m_5, m_6)
noncomputable def R_written_dir_l1 (a1 : (List T_tag_Entry)) (self : (T_tintref2_written × (List T_tag_Entry)) → Option (Int × T_tintref2_written)) (t17 : (Int × T_tintref2_written)) (next1 : ((Int × (List UInt8) × Bool) → Option (Int × T_tintref2_written))) (x25_2 : Int) (m_3 : (List UInt8)) (m_4 : Bool) : Option (Int × T_tintref2_written) :=
  cnd (decide (x25_2 < (a1.length : Int))) (bnd (gAt a1 x25_2) fun t28 =>
  bnd (gI (t17.1 + 2)) fun t31 =>
  bnd (gI (12 * x25_2)) fun t33 =>
  bnd (gI (t31 + t33)) fun t34 =>
  bnd (R_written_set (⟨m_3, m_4⟩ : T_tintref2_written) t34 t28.Tag 2) fun t39 =>
  bnd (gI (t34 + 2)) fun t42 =>
  bnd (R_written_set t39 t42 t28.Value.Kind 2) fun t46 =>
  bnd (gI (t34 + 4)) fun t49 =>
  bnd (R_count t28.Value) fun t52 =>
  bnd (R_written_set t46 t49 t52 4) fun t53 =>
  cnd (decide (t28.Value.Kind = 13)) (bnd (gI (t34 + 8)) fun t60 =>
  bnd (self (t53, t28.Value.Entries)) fun t65 =>
  bnd (R_written_set t65.2 t60 t65.1 4) fun t66 =>
  R_written_dir_j2 x25_2 next1 t66.s_ t66.big_) (bnd (R_octets t53.big_ t28.Value) fun t73 =>
  cnd (decide (4 < (t73.length : Int))) (bnd (gI (t34 + 8)) fun t79 =>
  bnd (R_written_add t53 t73) fun t82 =>
  bnd (R_written_set t82.2 t79 t82.1 4) fun t83 =>
  R_written_dir_j2 x25_2 next1 t83.s_ t83.big_) (bnd (gI (t34 + 8)) fun t90 =>
  bnd (gCut t53.s_ 0 t90) fun t91 =>
  bnd (gCat t91 t73) fun t93 =>
  bnd (gI (t34 + 8)) fun t99 =>
  bnd (gI (t99 + (t73.length : Int))) fun t102 =>
  bnd (gCut t53.s_ t102 t53.s_.length) fun t103 =>
  bnd (gCat t93 t103) fun t104 =>
  R_written_dir_j2 x25_2 next1 t104 t53.big_))) (some (t17.1, (⟨m_3, m_4⟩ : T_tintref2_written)))
noncomputable def R_written_dir_body (self : (T_tintref2_written × (List T_tag_Entry)) → Option (Int × T_tintref2_written)) (a0 : T_tintref2_written) (a1 : (List T_tag_Entry)) : Option (Int × T_tintref2_written) :=
  bnd (gI (12 * (a1.length : Int))) fun t13 =>
  bnd (gI (2 + t13)) fun t14 =>
  bnd (gI (t14 + 4)) fun t15 =>
  bnd (gRep [0] t15) fun t16 =>
  bnd (R_written_add a0 t16) fun t17 =>
  bnd (R_written_set t17.2 t17.1 (a1.length : Int) 2) fun t22 =>
  fix (fun next1 s => R_written_dir_l1 a1 self t17 next1 s.1 s.2.1 s.2.2) (0, t22.s_, t22.big_)
noncomputable def R_written_dir (a0 : T_tintref2_written) (a1 : (List T_tag_Entry)) : Option (Int × T_tintref2_written) :=
  fix (fun (self : (T_tintref2_written × (List T_tag_Entry)) → Option (Int × T_tintref2_written)) (s : T_tintref2_written × (List T_tag_Entry)) => R_written_dir_body self s.1 s.2) (a0, a1)

/-! tintype/tintref2.Octets -/
noncomputable def R_Octets_j2 (m_2 : (List UInt8)) (m_3 : Bool) : Option ((List UInt8)) :=
  some m_2
noncomputable def R_Octets_l3 (a0 : T_tag_File) (next3 : ((Int × Int × (List UInt8) × Bool) → Option ((List UInt8)))) (x4_2 : Int) (x37_2 : Int) (m_6 : (List UInt8)) (m_7 : Bool) : Option ((List UInt8)) :=
  cnd (decide (x37_2 < (a0.Dirs.length : Int))) (bnd (gAt a0.Dirs x37_2) fun t39 =>
  bnd (R_written_dir (⟨m_6, m_7⟩ : T_tintref2_written) t39) fun t43 =>
  bnd (R_written_set t43.2 x4_2 t43.1 4) fun t47 =>
  bnd (gI (t43.1 + 2)) fun t49 =>
  bnd (gI (12 * (t39.length : Int))) fun t52 =>
  bnd (gI (t49 + t52)) fun t53 =>
  bnd (gI (x37_2 + 1)) fun t54 =>
  next3 (t53, t54, t47.s_, t47.big_)) (R_Octets_j2 m_6 m_7)
noncomputable def R_Octets_j1 (a0 : T_tag_File) (m : (List UInt8)) : Option ((List UInt8)) :=
  bnd (R_number a0.Big 42 2) fun t26 =>
  bnd (R_number a0.Big 0 4) fun t29 =>
  bnd (gCat t26 t29) fun t30 =>
  bnd (gCat m t30) fun t31 =>
  fix (fun next3 s => R_Octets_l3 a0 next3 s.1 s.2.1 s.2.2.1 s.2.2.2) (4, 0, t31, a0.Big)
noncomputable def R_Octets (a0 : T_tag_File) : Option ((List UInt8)) :=
  cnd a0.Big (R_Octets_j1 a0 [77, 77]) (R_Octets_j1 a0 [73, 73])

/-! tintype/tintref2.limits -/
noncomputable def R_limits (a0 : Int) : Option (Int × Int) :=
  cnd (decide (a0 = 1)) (some (0, 255)) (cnd (decide (a0 = 3)) (some (0, 65535)) (cnd (decide (a0 = 9)) (some ((-2147483648), 2147483647)) (some (0, 4294967295))))

/-! internal/stringslite.IndexByte -/
noncomputable def internal_stringslite_IndexByte (a0 : (List UInt8)) (a1 : Int) : Option (Int) :=
  bnd (gIxB a0 a1) fun t7 =>
  some t7

/-! strings.IndexByte -/
noncomputable def strings_IndexByte (a0 : (List UInt8)) (a1 : Int) : Option (Int) :=
  bnd (internal_stringslite_IndexByte a0 a1) fun t7 =>
  some t7

/-! tintype/tintref2.ValueFault -/
noncomputable def R_ValueFault_j5 (a0 : T_tag_Value) : Option (Int) :=
  cnd (decide (a0.Kind = 13)) (none) (some 0)
noncomputable def R_ValueFault_j4 (a0 : T_tag_Value) : Option (Int) :=
  cnd (decide (a0.Kind = 2)) (bnd (strings_IndexByte a0.Text 0) fun t130 =>
  cnd (decide (0 ≤ t130)) (some 9) (R_ValueFault_j5 a0)) (R_ValueFault_j5 a0)
noncomputable def R_ValueFault_l6 (a0 : T_tag_Value) (next6 : ((Int) → Option (Int))) (x101_2 : Int) : Option (Int) :=
  cnd (decide (x101_2 < (a0.Ratios.length : Int))) (bnd (gAt a0.Ratios x101_2) fun t103 =>
  cnd (decide (t103.Num < 0)) (some 2) (cnd (decide (4294967295 < t103.Num)) (some 2) (cnd (decide (t103.Den < 0)) (some 2) (cnd (decide (4294967295 < t103.Den)) (some 2) (bnd (gI (x101_2 + 1)) fun t123 =>
  next6 t123))))) (R_ValueFault_j4 a0)
noncomputable def R_ValueFault_j3 (a0 : T_tag_Value) : Option (Int) :=
  fix (fun next6 s => R_ValueFault_l6 a0 next6 s) 0
noncomputable def R_ValueFault_l7 (a0 : T_tag_Value) (t79 : (Int × Int)) (next7 : ((Int) → Option (Int))) (x85_2 : Int) : Option (Int) :=
  cnd (decide (x85_2 < (a0.Ints.length : Int))) (bnd (gAt a0.Ints x85_2) fun t87 =>
  cnd (decide (t87 < t79.1)) (some 2) (cnd (decide (t79.2 < t87)) (some 2) (bnd (gI (x85_2 + 1)) fun t97 =>
  next7 t97))) (R_ValueFault_j3 a0)
noncomputable def R_ValueFault_j2 (a0 : T_tag_Value) : Option (Int) :=
  bnd (R_limits a0.Kind) fun t79 =>
  fix (fun next7 s => R_ValueFault_l7 a0 t79 next7 s) 0
noncomputable def R_ValueFault_j10 (a0 : T_tag_Value) (x42_3 : Bool) : Option (Int) :=
  cnd x42_3 (cnd x42_3 (some 1) (R_ValueFault_j2 a0)) (cnd (decide (0 < (a0.Entries.length : Int))) (cnd (decide (a0.Kind ≠ 13)) (some 1) (R_ValueFault_j2 a0)) (R_ValueFault_j2 a0))
noncomputable def R_ValueFault_j9 (a0 : T_tag_Value) (x42_2 : Bool) : Option (Int) :=
  cnd x42_2 (cnd x42_2 (some 1) (R_ValueFault_j2 a0)) (cnd (decide (0 < (a0.Ratios.length : Int))) (R_ValueFault_j10 a0 (decide (a0.Kind ≠ 5))) (R_ValueFault_j10 a0 false))
noncomputable def R_ValueFault_j8 (a0 : T_tag_Value) (x4 : Bool) (x42 : Bool) : Option (Int) :=
  cnd x42 (cnd x42 (some 1) (R_ValueFault_j2 a0)) (cnd (decide (0 < (a0.Ints.length : Int))) (R_ValueFault_j9 a0 (!x4)) (R_ValueFault_j9 a0 false))
noncomputable def R_ValueFault_j1 (a0 : T_tag_Value) (x3 : Bool) (x4 : Bool) : Option (Int) :=
  bnd (R_wide a0.Kind) fun t40 =>
  cnd (decide (t40 = 0)) (some 10) (cnd (decide (a0.Text ≠ [])) (R_ValueFault_j8 a0 x4 (!x3)) (R_ValueFault_j8 a0 x4 false))
noncomputable def R_ValueFault (a0 : T_tag_Value) : Option (Int) :=
  cnd (decide (a0.Kind = 2)) (cnd (decide (a0.Kind = 1)) (R_ValueFault_j1 a0 true true) (cnd (decide (a0.Kind = 3)) (R_ValueFault_j1 a0 true true) (cnd (decide (a0.Kind = 4)) (R_ValueFault_j1 a0 true true) (R_ValueFault_j1 a0 true (decide (a0.Kind = 9)))))) (cnd (decide (a0.Kind = 1)) (R_ValueFault_j1 a0 (decide (a0.Kind = 7)) true) (cnd (decide (a0.Kind = 3)) (R_ValueFault_j1 a0 (decide (a0.Kind = 7)) true) (cnd (decide (a0.Kind = 4)) (R_ValueFault_j1 a0 (decide (a0.Kind = 7)) true) (R_ValueFault_j1 a0 (decide (a0.Kind = 7)) (decide (a0.Kind = 9))))))

/-! tintype/tintref2.dirFault -/
noncomputable def R_dirFault_j2 (x19_2 : Int) (next1 : ((Int) → Option (Int))) (x29 : Int) (x30 : Bool) (m : Int) (m_2 : Int) (m_3 : (List UInt8)) (m_4 : (List Int)) (m_5 : (List T_tag_Ratio)) (m_6 : (List T_tag_Entry)) : Option (Int) :=
  bnd (gI (x19_2 + 1)) fun t78 =>
  next1 t78
noncomputable def R_dirFault_j3 (a1 : Int) (self : ((List T_tag_Entry) × Int) → Option (Int)) (x19_2 : Int) (next1 : ((Int) → Option (Int))) (t22 : T_tag_Entry) : Option (Int) :=
  cnd (decide (t22.Value.Kind ≠ 13)) (bnd (R_ValueFault t22.Value) fun t51 =>
  cnd (decide (t51 ≠ 0)) (some t51) (R_dirFault_j2 x19_2 next1 t22.Tag (decide (65535 < t22.Tag)) t22.Tag t22.Value.Kind t22.Value.Text t22.Value.Ints t22.Value.Ratios t22.Value.Entries)) (cnd (decide (t22.Value.Text ≠ [])) (some 1) (cnd (decide (0 < (t22.Value.Ints.length : Int))) (some 1) (cnd (decide (0 < (t22.Value.Ratios.length : Int))) (some 1) (bnd (gI (a1 + 1)) fun t73 =>
  bnd (self (t22.Value.Entries, t73)) fun t74 =>
  cnd (decide (t74 ≠ 0)) (some t74) (R_dirFault_j2 x19_2 next1 t22.Tag (decide (65535 < t22.Tag)) t22.Tag t22.Value.Kind t22.Value.Text t22.Value.Ints t22.Value.Ratios t22.Value.Entries)))))
noncomputable def R_dirFault_l1 (a0 : (List T_tag_Entry)) (a1 : Int) (self : ((List T_tag_Entry) × Int) → Option (Int)) (next1 : ((Int) → Option (Int))) (x19_2 : Int) : Option (Int) :=
  cnd (decide (x19_2 < (a0.length : Int))) (bnd (gAt a0 x19_2) fun t22 =>
  cnd (decide (t22.Tag < 0)) (some 2) (cnd (decide (65535 < t22.Tag)) (some 2) (cnd (decide (0 < x19_2)) (bnd (gI (x19_2 - 1)) fun t39 =>
  bnd (gAt a0 t39) fun t40 =>
  cnd (decide (t22.Tag ≤ t40.Tag)) (some 5) (R_dirFault_j3 a1 self x19_2 next1 t22)) (R_dirFault_j3 a1 self x19_2 next1 t22)))) (some 0)
noncomputable def R_dirFault_body (self : ((List T_tag_Entry) × Int) → Option (Int)) (a0 : (List T_tag_Entry)) (a1 : Int) : Option (Int) :=
  cnd (decide (5 < a1)) (some 4) (cnd (decide (200 < (a0.length : Int))) (some 4) (fix (fun next1 s => R_dirFault_l1 a0 a1 self next1 s) 0))
noncomputable def R_dirFault (a0 : (List T_tag_Entry)) (a1 : Int) : Option (Int) :=
  fix (fun (self : ((List T_tag_Entry) × Int) → Option (Int)) (s : (List T_tag_Entry) × Int) => R_dirFault_body self s.1 s.2) (a0, a1)

/-! tintype/tintref2.FileFault -/
noncomputable def R_FileFault_j1 (a0 : T_tag_File) : Option (Int) :=
  bnd (R_Octets a0) fun t24 =>
  cnd (decide (65000 < (t24.length : Int))) (some 4) (some 0)
noncomputable def R_FileFault_l2 (a0 : T_tag_File) (next2 : ((Int) → Option (Int))) (x13_2 : Int) : Option (Int) :=
  cnd (decide (x13_2 < (a0.Dirs.length : Int))) (bnd (gAt a0.Dirs x13_2) fun t15 =>
  bnd (R_dirFault t15 1) fun t18 =>
  cnd (decide (t18 ≠ 0)) (some t18) (bnd (gI (x13_2 + 1)) fun t22 =>
  next2 t22)) (R_FileFault_j1 a0)
noncomputable def R_FileFault (a0 : T_tag_File) : Option (Int) :=
  cnd (decide (20 < (a0.Dirs.length : Int))) (some 4) (fix (fun next2 s => R_FileFault_l2 a0 next2 s) 0)

/-! tintype/tag.even -/
noncomputable def tag_even (a0 : Int) : Option (Int) :=
  bnd (gRem a0 2) fun t5 =>
  bnd (gI (a0 + t5)) fun t6 =>
  some t6

/-! tintype/tag.count -/
noncomputable def tag_count (a0 : T_tag_Value) : Option (Int) :=
  cnd (decide (a0.Kind = 2)) (bnd (gI ((a0.Text.length : Int) + 1)) fun t10 =>
  some t10) (cnd (decide (a0.Kind = 7)) (some (a0.Text.length : Int)) (cnd (decide (a0.Kind = 5)) (some (a0.Ratios.length : Int)) (cnd (decide (a0.Kind = 13)) (some 1) (some (a0.Ints.length : Int)))))

/-! tintype/tag.sizeOf -/
noncomputable def tag_sizeOf_j1 (a0 : Int) (x4 : Bool) : Option (Int) :=
  cnd x4 (some 1) (cnd (decide (a0 = 3)) (some 2) (cnd (decide (a0 = 4)) (cnd (decide (a0 = 4)) (some 4) (cnd (decide (a0 = 5)) (some 8) (some 0))) (cnd (decide (a0 = 9)) (some 4) (cnd (decide (a0 = 5)) (some 8) (some 0)))))
noncomputable def tag_sizeOf (a0 : Int) : Option (Int) :=
  cnd (decide (a0 = 1)) (tag_sizeOf_j1 a0 (decide (a0 = 1))) (cnd (decide (a0 = 2)) (tag_sizeOf_j1 a0 (decide (a0 = 2))) (cnd (decide (a0 = 7)) (tag_sizeOf_j1 a0 (decide (a0 = 7))) (tag_sizeOf_j1 a0 (decide (a0 = 13)))))

/-! tintype/tag.octetsOf -/
noncomputable def tag_octetsOf (a0 : T_tag_Value) : Option (Int) :=
  bnd (tag_count a0) fun t4 =>
  bnd (tag_sizeOf a0.Kind) fun t7 =>
  bnd (gI (t4 * t7)) fun t8 =>
  some t8

/-! tintype/tag.dirEnd -/
noncomputable def tag_dirEnd_j2 (x17_2 : Int) (next1 : ((Int × Int) → Option (Int))) (x1_3 : Int) : Option (Int) :=
  bnd (gI (x17_2 + 1)) fun t42 =>
  next1 (x1_3, t42)
noncomputable def tag_dirEnd_l1 (a0 : (List T_tag_Entry)) (self : ((List T_tag_Entry) × Int) → Option (Int)) (next1 : ((Int × Int) → Option (Int))) (x1_2 : Int) (x17_2 : Int) : Option (Int) :=
  cnd (decide (x17_2 < (a0.length : Int))) (bnd (gAt a0 x17_2) fun t19 =>
  cnd (decide (t19.Value.Kind = 13)) (bnd (self (t19.Value.Entries, x1_2)) fun t30 =>
  tag_dirEnd_j2 x17_2 next1 t30) (bnd (tag_octetsOf t19.Value) fun t34 =>
  cnd (decide (4 < t34)) (bnd (tag_even x1_2) fun t37 =>
  bnd (tag_octetsOf t19.Value) fun t40 =>
  bnd (gI (t37 + t40)) fun t41 =>
  tag_dirEnd_j2 x17_2 next1 t41) (tag_dirEnd_j2 x17_2 next1 x1_2))) (some x1_2)
noncomputable def tag_dirEnd_body (self : ((List T_tag_Entry) × Int) → Option (Int)) (a0 : (List T_tag_Entry)) (a1 : Int) : Option (Int) :=
  bnd (tag_even a1) fun t8 =>
  bnd (gI (t8 + 2)) fun t9 =>
  bnd (gI (12 * (a0.length : Int))) fun t12 =>
  bnd (gI (t9 + t12)) fun t13 =>
  bnd (gI (t13 + 4)) fun t14 =>
  fix (fun next1 s => tag_dirEnd_l1 a0 self next1 s.1 s.2) (t14, 0)
noncomputable def tag_dirEnd (a0 : (List T_tag_Entry)) (a1 : Int) : Option (Int) :=
  fix (fun (self : ((List T_tag_Entry) × Int) → Option (Int)) (s : (List T_tag_Entry) × Int) => tag_dirEnd_body self s.1 s.2) (a0, a1)

/-! tintype/tag.size -/
noncomputable def tag_size_l1 (a0 : T_tag_File) (next1 : ((Int × Int) → Option (Int))) (x3_2 : Int) (x9_2 : Int) : Option (Int) :=
  cnd (decide (x9_2 < (a0.Dirs.length : Int))) (bnd (gAt a0.Dirs x9_2) fun t11 =>
  bnd (tag_dirEnd t11 x3_2) fun t15 =>
  bnd (gI (x9_2 + 1)) fun t16 =>
  next1 (t15, t16)) (some x3_2)
noncomputable def tag_size (a0 : T_tag_File) : Option (Int) :=
  fix (fun next1 s => tag_size_l1 a0 next1 s.1 s.2) (8, 0)

/-! tintype/tag.outside -/
noncomputable def tag_outside (a0 : Int) (a1 : Int) (a2 : Int) : Option (Bool) :=
  cnd (decide (a0 < a1)) (some true) (some (decide (a2 < a0)))

/-! tintype/tag.isInts -/
noncomputable def tag_isInts (a0 : Int) : Option (Bool) :=
  cnd (decide (a0 = 1)) (some true) (cnd (decide (a0 = 3)) (some true) (cnd (decide (a0 = 4)) (some true) (some (decide (a0 = 9)))))

/-! tintype/tag.isText -/
noncomputable def tag_isText (a0 : Int) : Option (Bool) :=
  cnd (decide (a0 = 2)) (some true) (some (decide (a0 = 7)))

/-! tintype/tag.checkFields -/
noncomputable def tag_checkFields_j3 (a0 : T_tag_Value) (x8_3 : Bool) : Option (Int) :=
  cnd x8_3 (cnd x8_3 (some 1) (some 0)) (cnd (decide (a0.Kind ≠ 13)) (cnd (decide (0 < (a0.Entries.length : Int))) (some 1) (some 0)) (some 0))
noncomputable def tag_checkFields_j2 (a0 : T_tag_Value) (x8_2 : Bool) : Option (Int) :=
  cnd x8_2 (cnd x8_2 (some 1) (some 0)) (cnd (decide (a0.Kind ≠ 5)) (tag_checkFields_j3 a0 (decide (0 < (a0.Ratios.length : Int)))) (tag_checkFields_j3 a0 false))
noncomputable def tag_checkFields_j1 (a0 : T_tag_Value) (x8 : Bool) : Option (Int) :=
  cnd x8 (cnd x8 (some 1) (some 0)) (bnd (tag_isText a0.Kind) fun t21 =>
  cnd (!t21) (tag_checkFields_j2 a0 (decide (a0.Text ≠ []))) (tag_checkFields_j2 a0 false))
noncomputable def tag_checkFields (a0 : T_tag_Value) : Option (Int) :=
  bnd (tag_sizeOf a0.Kind) fun t6 =>
  cnd (decide (t6 = 0)) (some 10) (bnd (tag_isInts a0.Kind) fun t11 =>
  cnd (!t11) (tag_checkFields_j1 a0 (decide (0 < (a0.Ints.length : Int)))) (tag_checkFields_j1 a0 false))

/-! tintype/tag.bounds -/
noncomputable def tag_bounds (a0 : Int) : Option (Int × Int) :=
  cnd (decide (a0 = 1)) (some (0, 255)) (cnd (decide (a0 = 3)) (some (0, 65535)) (cnd (decide (a0 = 9)) (some ((-2147483648), 2147483647)) (some (0, 4294967295))))

/-! tintype/tag.checkPlain -/
noncomputable def tag_checkPlain_l3 (a0 : T_tag_Value) (next3 : ((Int) → Option (Int))) (x56_2 : Int) : Option (Int) :=
  cnd (decide (x56_2 < (a0.Text.length : Int))) (bnd (gOct a0.Text x56_2) fun t62 =>
  cnd (decide (t62 = 0)) (some 9) (bnd (gI (x56_2 + 1)) fun t64 =>
  next3 t64)) (some 0)
noncomputable def tag_checkPlain_j2 (a0 : T_tag_Value) : Option (Int) :=
  cnd (decide (a0.Kind = 2)) (fix (fun next3 s => tag_checkPlain_l3 a0 next3 s) 0) (some 0)
noncomputable def tag_checkPlain_l4 (a0 : T_tag_Value) (next4 : ((Int) → Option (Int))) (x37_2 : Int) : Option (Int) :=
  cnd (decide (x37_2 < (a0.Ratios.length : Int))) (bnd (gAt a0.Ratios x37_2) fun t39 =>
  bnd (tag_outside t39.Num 0 4294967295) fun t43 =>
  cnd t43 (some 2) (bnd (tag_outside t39.Den 0 4294967295) fun t47 =>
  cnd t47 (some 2) (bnd (gI (x37_2 + 1)) fun t49 =>
  next4 t49))) (tag_checkPlain_j2 a0)
noncomputable def tag_checkPlain_j1 (a0 : T_tag_Value) : Option (Int) :=
  fix (fun next4 s => tag_checkPlain_l4 a0 next4 s) 0
noncomputable def tag_checkPlain_l5 (a0 : T_tag_Value) (t19 : (Int × Int)) (next5 : ((Int) → Option (Int))) (x25_2 : Int) : Option (Int) :=
  cnd (decide (x25_2 < (a0.Ints.length : Int))) (bnd (gAt a0.Ints x25_2) fun t27 =>
  bnd (tag_outside t27 t19.1 t19.2) fun t32 =>
  cnd t32 (some 2) (bnd (gI (x25_2 + 1)) fun t33 =>
  next5 t33)) (tag_checkPlain_j1 a0)
noncomputable def tag_checkPlain (a0 : T_tag_Value) : Option (Int) :=
  bnd (tag_checkFields a0) fun t12 =>
  cnd (decide (t12 ≠ 0)) (some t12) (bnd (tag_bounds a0.Kind) fun t19 =>
  fix (fun next5 s => tag_checkPlain_l5 a0 t19 next5 s) 0)

/-! tintype/tag.checkDir -/
noncomputable def tag_checkDir_j3 (x17_2 : Int) (next1 : ((Int) → Option (Int))) (x7 : Int) : Option (Int) :=
  cnd (decide (x7 ≠ 0)) (some x7) (bnd (gI (x17_2 + 1)) fun t61 =>
  next1 t61)
noncomputable def tag_checkDir_j2 (a1 : Int) (self : ((List T_tag_Entry) × Int) → Option (Int)) (x17_2 : Int) (next1 : ((Int) → Option (Int))) (t20 : T_tag_Entry) : Option (Int) :=
  cnd (decide (t20.Value.Kind ≠ 13)) (bnd (tag_checkPlain t20.Value) fun t46 =>
  tag_checkDir_j3 x17_2 next1 t46) (bnd (tag_checkFields t20.Value) fun t49 =>
  cnd (decide (t49 = 0)) (bnd (gI (a1 + 1)) fun t56 =>
  bnd (self (t20.Value.Entries, t56)) fun t57 =>
  tag_checkDir_j3 x17_2 next1 t57) (tag_checkDir_j3 x17_2 next1 t49))
noncomputable def tag_checkDir_l1 (a0 : (List T_tag_Entry)) (a1 : Int) (self : ((List T_tag_Entry) × Int) → Option (Int)) (next1 : ((Int) → Option (Int))) (x17_2 : Int) : Option (Int) :=
  cnd (decide (x17_2 < (a0.length : Int))) (bnd (gAt a0 x17_2) fun t20 =>
  bnd (tag_outside t20.Tag 0 65535) fun t25 =>
  cnd t25 (some 2) (cnd (decide (0 < x17_2)) (bnd (gI (x17_2 - 1)) fun t34 =>
  bnd (gAt a0 t34) fun t35 =>
  cnd (decide (t20.Tag ≤ t35.Tag)) (some 5) (tag_checkDir_j2 a1 self x17_2 next1 t20)) (tag_checkDir_j2 a1 self x17_2 next1 t20))) (some 0)
noncomputable def tag_checkDir_body (self : ((List T_tag_Entry) × Int) → Option (Int)) (a0 : (List T_tag_Entry)) (a1 : Int) : Option (Int) :=
  cnd (decide (5 < a1)) (some 4) (cnd (decide (200 < (a0.length : Int))) (some 4) (fix (fun next1 s => tag_checkDir_l1 a0 a1 self next1 s) 0))
noncomputable def tag_checkDir (a0 : (List T_tag_Entry)) (a1 : Int) : Option (Int) :=
  fix (fun (self : ((List T_tag_Entry) × Int) → Option (Int)) (s : (List T_tag_Entry) × Int) => tag_checkDir_body self s.1 s.2) (a0, a1)

/-! tintype/tag.Check -/
noncomputable def tag_Check_j1 (a0 : T_tag_File) : Option (Int) :=
  bnd (tag_size a0) fun t24 =>
  cnd (decide (65000 < t24)) (some 4) (some 0)
noncomputable def tag_Check_l2 (a0 : T_tag_File) (next2 : ((Int) → Option (Int))) (x13_2 : Int) : Option (Int) :=
  cnd (decide (x13_2 < (a0.Dirs.length : Int))) (bnd (gAt a0.Dirs x13_2) fun t15 =>
  bnd (tag_checkDir t15 1) fun t18 =>
  cnd (decide (t18 ≠ 0)) (some t18) (bnd (gI (x13_2 + 1)) fun t22 =>
  next2 t22)) (tag_Check_j1 a0)
noncomputable def tag_Check (a0 : T_tag_File) : Option (Int) :=
  cnd (decide (20 < (a0.Dirs.length : Int))) (some 4) (fix (fun next2 s => tag_Check_l2 a0 next2 s) 0)

/-! tintype/tag.Size -/
noncomputable def tag_Size (a0 : T_tag_File) : Option (Int × Int) :=
  bnd (tag_Check a0) fun t6 =>
  cnd (decide (t6 ≠ 0)) (some (0, t6)) (bnd (tag_size a0) fun t11 =>
  some (t11, 0))

/-! tintype/tag.number -/
noncomputable def tag_number_j2 (a1 : Int) (x14_2 : Int) (l_2 : (List Int)) (next1 : ((Int × (List Int)) → Option ((List Int)))) (x9 : Int) : Option ((List Int)) :=
  bnd (gI (8 * x14_2)) fun t27 =>
  bnd (gShr 64 a1 t27) fun t28 =>
  bnd (gAt l_2 x9) fun t30 =>
  bnd (gSet l_2 x9 (wU8 t28)) fun l0 =>
  bnd (gI (x14_2 + 1)) fun t31 =>
  next1 (t31, l0)
noncomputable def tag_number_l1 (a0 : Bool) (a1 : Int) (a2 : Int) (t11 : (List Int)) (next1 : ((Int × (List Int)) → Option ((List Int)))) (x14_2 : Int) (l_2 : (List Int)) : Option ((List Int)) :=
  cnd (decide (x14_2 < (t11.length : Int))) (cnd a0 (bnd (gI (a2 - 1)) fun t20 =>
  bnd (gI (t20 - x14_2)) fun t22 =>
  tag_number_j2 a1 x14_2 l_2 next1 t22) (tag_number_j2 a1 x14_2 l_2 next1 x14_2)) (some l_2)
noncomputable def tag_number (a0 : Bool) (a1 : Int) (a2 : Int) : Option ((List Int)) :=
  bnd (gMake 1 a2 0) fun t11 =>
  fix (fun next1 s => tag_number_l1 a0 a1 a2 t11 next1 s.1 s.2) (0, t11)

/-! (*tintype/tag.writer).set -/
noncomputable def tag_writer_set (a0 : T_tag_writer) (a1 : Int) (a2 : Int) : Option (T_tag_writer) :=
  bnd (gCut a0.out_ a1 a0.out_.length) fun t11 =>
  bnd (tag_number a0.big_ a2 4) fun t17 =>
  some (⟨a0.big_, (cpyL a0.out_ a1 t11.length t17)⟩ : T_tag_writer)

/-! (*tintype/tag.writer).begin -/
noncomputable def tag_writer_begin_j1 (a0 : T_tag_writer) (l : (List Int)) : Option (Int × T_tag_writer) :=
  some ((l.length : Int), (⟨a0.big_, l⟩ : T_tag_writer))
noncomputable def tag_writer_begin (a0 : T_tag_writer) : Option (Int × T_tag_writer) :=
  bnd (gRem (a0.out_.length : Int) 2) fun t8 =>
  cnd (decide (t8 ≠ 0)) (bnd (gApp 1 a0.out_ ([0] : List Int)) fun l16 =>
  tag_writer_begin_j1 a0 l16) (tag_writer_begin_j1 a0 a0.out_)

/-! tintype/tag.octets -/
noncomputable def tag_octets_l2 (a0 : Bool) (a1 : T_tag_Value) (next2 : ((Int × (List Int)) → Option ((List Int)))) (x43_2 : Int) (l_3 : (List Int)) : Option ((List Int)) :=
  cnd (decide (x43_2 < (a1.Ratios.length : Int))) (bnd (gAt a1.Ratios x43_2) fun t45 =>
  bnd (tag_number a0 t45.Num 4) fun t51 =>
  bnd (gApp 1 l_3 t51) fun l52 =>
  bnd (tag_number a0 t45.Den 4) fun t57 =>
  bnd (gApp 1 l52 t57) fun l58 =>
  bnd (gI (x43_2 + 1)) fun t59 =>
  next2 (t59, l58)) (some l_3)
noncomputable def tag_octets_j1 (a0 : Bool) (a1 : T_tag_Value) (l : (List Int)) : Option ((List Int)) :=
  fix (fun next2 s => tag_octets_l2 a0 a1 next2 s.1 s.2) (0, l)
noncomputable def tag_octets_l3 (a0 : Bool) (a1 : T_tag_Value) (next3 : ((Int × (List Int)) → Option ((List Int)))) (x27_2 : Int) (l_5 : (List Int)) : Option ((List Int)) :=
  cnd (decide (x27_2 < (a1.Ints.length : Int))) (bnd (gAt a1.Ints x27_2) fun t29 =>
  bnd (tag_sizeOf a1.Kind) fun t36 =>
  bnd (tag_number a0 t29 t36) fun t37 =>
  bnd (gApp 1 l_5 t37) fun l38 =>
  bnd (gI (x27_2 + 1)) fun t39 =>
  next3 (t39, l38)) (tag_octets_j1 a0 a1 l_5)
noncomputable def tag_octets (a0 : Bool) (a1 : T_tag_Value) : Option ((List Int)) :=
  cnd (decide (a1.Kind = 2)) (bnd (gByt a1.Text) fun t16 =>
  bnd (gApL 1 t16 ([0] : List Int)) fun l18 =>
  some l18) (cnd (decide (a1.Kind = 7)) (bnd (gByt a1.Text) fun t23 =>
  some t23) (fix (fun next3 s => tag_octets_l3 a0 a1 next3 s.1 s.2) (0, ([] : List Int))))

/-! (*tintype/tag.writer).dir -/
noncomputable def tag_writer_dir_j2 (t15 : (Int × T_tag_writer)) (l : (List Int)) (m : Bool) (l_2 : (List Int)) : Option (Int × Int × T_tag_writer) :=
  some (t15.1, (l.length : Int), (⟨m, l_2⟩ : T_tag_writer))
noncomputable def tag_writer_dir_j4 (x110_2 : Int) (next3 : ((Int × Bool × (List Int)) → Option (Int × Int × T_tag_writer))) (m_4 : Bool) (l_5 : (List Int)) : Option (Int × Int × T_tag_writer) :=
  bnd (gI (x110_2 + 1)) fun t169 =>
  next3 (t169, m_4, l_5)
noncomputable def tag_writer_dir_l3 (a1 : (List T_tag_Entry)) (self : (T_tag_writer × (List T_tag_Entry)) → Option (Int × Int × T_tag_writer)) (t15 : (Int × T_tag_writer)) (l : (List Int)) (next3 : ((Int × Bool × (List Int)) → Option (Int × Int × T_tag_writer))) (x110_2 : Int) (m_3 : Bool) (l_4 : (List Int)) : Option (Int × Int × T_tag_writer) :=
  cnd (decide (x110_2 < (a1.length : Int))) (bnd (gAt a1 x110_2) fun t113 =>
  bnd (gI (t15.1 + 2)) fun t116 =>
  bnd (gI (12 * x110_2)) fun t118 =>
  bnd (gI (t116 + t118)) fun t119 =>
  bnd (gI (t119 + 8)) fun t120 =>
  cnd (decide (t113.Value.Kind = 13)) (bnd (self ((⟨m_3, l_4⟩ : T_tag_writer), t113.Value.Entries)) fun t130 =>
  bnd (tag_writer_set t130.2.2 t120 t130.1) fun t136 =>
  tag_writer_dir_j4 x110_2 next3 t136.big_ t136.out_) (bnd (tag_octets m_3 t113.Value) fun t143 =>
  cnd (decide ((t143.length : Int) ≤ 4)) (bnd (gCut l_4 t120 l_4.length) fun t152 =>
  tag_writer_dir_j4 x110_2 next3 m_3 (cpyL l_4 t120 t152.length t143)) (bnd (tag_writer_begin (⟨m_3, l_4⟩ : T_tag_writer)) fun t158 =>
  bnd (tag_writer_set t158.2 t120 t158.1) fun t159 =>
  bnd (gApp 1 t159.out_ t143) fun l166 =>
  tag_writer_dir_j4 x110_2 next3 t159.big_ l166))) (tag_writer_dir_j2 t15 l m_3 l_4)
noncomputable def tag_writer_dir_j1 (a1 : (List T_tag_Entry)) (self : (T_tag_writer × (List T_tag_Entry)) → Option (Int × Int × T_tag_writer)) (t15 : (Int × T_tag_writer)) (l : (List Int)) : Option (Int × Int × T_tag_writer) :=
  bnd (gApp 1 l ([0, 0, 0, 0] : List Int)) fun l105 =>
  fix (fun next3 s => tag_writer_dir_l3 a1 self t15 l next3 s.1 s.2.1 s.2.2) (0, t15.2.big_, l105)
noncomputable def tag_writer_dir_l5 (a1 : (List T_tag_Entry)) (self : (T_tag_writer × (List T_tag_Entry)) → Option (Int × Int × T_tag_writer)) (t15 : (Int × T_tag_writer)) (next5 : ((Int × (List Int)) → Option (Int × Int × T_tag_writer))) (x33_2 : Int) (l_7 : (List Int)) : Option (Int × Int × T_tag_writer) :=
  cnd (decide (x33_2 < (a1.length : Int))) (bnd (gAt a1 x33_2) fun t35 =>
  bnd (tag_number t15.2.big_ t35.Tag 2) fun t48 =>
  bnd (gApp 1 l_7 t48) fun l49 =>
  bnd (tag_number t15.2.big_ t35.Value.Kind 2) fun t64 =>
  bnd (gApp 1 l49 t64) fun l65 =>
  bnd (tag_count t35.Value) fun t79 =>
  bnd (tag_number t15.2.big_ t79 4) fun t80 =>
  bnd (gApp 1 l65 t80) fun l81 =>
  bnd (gApp 1 l81 ([0, 0, 0, 0] : List Int)) fun l90 =>
  bnd (gI (x33_2 + 1)) fun t93 =>
  next5 (t93, l90)) (tag_writer_dir_j1 a1 self t15 l_7)
noncomputable def tag_writer_dir_body (self : (T_tag_writer × (List T_tag_Entry)) → Option (Int × Int × T_tag_writer)) (a0 : T_tag_writer) (a1 : (List T_tag_Entry)) : Option (Int × Int × T_tag_writer) :=
  bnd (tag_writer_begin a0) fun t15 =>
  bnd (tag_number t15.2.big_ (a1.length : Int) 2) fun t27 =>
  bnd (gApp 1 t15.2.out_ t27) fun l28 =>
  fix (fun next5 s => tag_writer_dir_l5 a1 self t15 next5 s.1 s.2) (0, l28)
noncomputable def tag_writer_dir (a0 : T_tag_writer) (a1 : (List T_tag_Entry)) : Option (Int × Int × T_tag_writer) :=
  fix (fun (self : (T_tag_writer × (List T_tag_Entry)) → Option (Int × Int × T_tag_writer)) (s : T_tag_writer × (List T_tag_Entry)) => tag_writer_dir_body self s.1 s.2) (a0, a1)

/-! tintype/tag.written -/
noncomputable def tag_written_j2 (m : Bool) (l_2 : (List Int)) : Option ((List UInt8)) :=
  some (toStr l_2)
noncomputable def tag_written_l3 (a0 : T_tag_File) (next3 : ((Int × Int × Bool × (List Int)) → Option ((List UInt8)))) (x4_2 : Int) (x50_2 : Int) (m_3 : Bool) (l_4 : (List Int)) : Option ((List UInt8)) :=
  cnd (decide (x50_2 < (a0.Dirs.length : Int))) (bnd (gAt a0.Dirs x50_2) fun t52 =>
  bnd (tag_writer_dir (⟨m_3, l_4⟩ : T_tag_writer) t52) fun t57 =>
  bnd (tag_writer_set t57.2.2 x4_2 t57.1) fun t63 =>
  bnd (gI (x50_2 + 1)) fun t65 =>
  next3 (t57.2.1, t65, t63.big_, t63.out_)) (tag_written_j2 m_3 l_4)
noncomputable def tag_written_j1 (a0 : T_tag_File) (l : (List Int)) : Option ((List UInt8)) :=
  bnd (tag_number a0.Big 42 2) fun t29 =>
  bnd (gApN 1 l t29) fun l30 =>
  bnd (gApp 1 l30 ([0, 0, 0, 0] : List Int)) fun l44 =>
  fix (fun next3 s => tag_written_l3 a0 next3 s.1 s.2.1 s.2.2.1 s.2.2.2) ((l30.length : Int), 0, a0.Big, l44)
noncomputable def tag_written (a0 : T_tag_File) : Option ((List UInt8)) :=
  cnd a0.Big (tag_written_j1 a0 ([77, 77] : List Int)) (tag_written_j1 a0 ([73, 73] : List Int))

/-! tintype/tag.Write -/
noncomputable def tag_Write (a0 : T_tag_File) : Option ((List UInt8) × Int) :=
  bnd (tag_Check a0) fun t6 =>
  cnd (decide (t6 ≠ 0)) (some ([], t6)) (bnd (tag_written a0) fun t11 =>
  some (t11, 0))

/-! tintype/tintlaw2.told[int] -/
noncomputable def Law_told_int_j1 (a0 : Int) (a1 : Int) (a3 : Int) (x2 : Int) : Option (Bool) :=
  cnd (decide (a0 = x2)) (some (decide (a1 = a3))) (some false)
noncomputable def Law_told_int (a0 : Int) (a1 : Int) (a2 : Int) (a3 : Int) : Option (Bool) :=
  cnd (decide (a3 ≠ 0)) (Law_told_int_j1 a0 a1 a3 0) (Law_told_int_j1 a0 a1 a3 a2)

/-! tintype/tintlaw2.told[string] -/
noncomputable def Law_told_string_j1 (a0 : (List UInt8)) (a1 : Int) (a3 : Int) (x2 : (List UInt8)) : Option (Bool) :=
  cnd (decide (a0 = x2)) (some (decide (a1 = a3))) (some false)
noncomputable def Law_told_string (a0 : (List UInt8)) (a1 : Int) (a2 : (List UInt8)) (a3 : Int) : Option (Bool) :=
  cnd (decide (a3 ≠ 0)) (Law_told_string_j1 a0 a1 a3 []) (Law_told_string_j1 a0 a1 a3 a2)

/-! tintype/tintlaw2.TagWrites -/
noncomputable def Law_TagWrites_j1 (a0 : T_tag_File) (t10 : (Int)) (x4 : (List UInt8)) : Option (Bool) :=
  bnd (tag_Size a0) fun t17 =>
  bnd (tag_Write a0) fun t22 =>
  bnd (tag_Check a0) fun t26 =>
  cnd (decide (t26 = t10)) (bnd (Law_told_int t17.1 t17.2 (x4.length : Int) t10) fun t35 =>
  cnd t35 (bnd (Law_told_string t22.1 t22.2 x4 t10) fun t42 =>
  some t42) (some false)) (some false)
noncomputable def Law_TagWrites (a0 : T_tag_File) : Option (Bool) :=
  bnd (R_FileFault a0) fun t10 =>
  cnd (decide (t10 = 0)) (bnd (R_Octets a0) fun t14 =>
  Law_TagWrites_j1 a0 t10 t14) (Law_TagWrites_j1 a0 t10 [])

end Go.M
