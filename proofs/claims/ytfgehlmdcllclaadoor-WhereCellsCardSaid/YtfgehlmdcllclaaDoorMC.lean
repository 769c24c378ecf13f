/- WhereCells: the models, printed by our generator from the compiled program. Conditions: none. -/
import Derived.Test.YtfgehlmdcllclaaDoorMd2
namespace Go.M
open Go.Md
set_option maxRecDepth 100000
set_option linter.unusedVariables false

structure T_api_Place where
  Lat : Int
  Lon : Int
instance : Inhabited T_api_Place := ⟨⟨0, 0⟩⟩

structure T_where_Box where
  South : Int
  West : Int
  North : Int
  East : Int
instance : Inhabited T_where_Box := ⟨⟨0, 0, 0, 0⟩⟩

def eq_where_Box (x y : T_where_Box) : Bool := decide (x.South = y.South ∧ x.West = y.West ∧ x.North = y.North ∧ x.East = y.East)

/-! tintype/tintlaw2.told[string] -/
noncomputable def Law_told_string_j1 (a0 : (List UInt8)) (a1 : Int) (a3 : Int) (x2 : (List UInt8)) : Option (Bool) :=
  cnd (decide (a0 = x2)) (some (decide (a1 = a3))) (some false)
noncomputable def Law_told_string (a0 : (List UInt8)) (a1 : Int) (a2 : (List UInt8)) (a3 : Int) : Option (Bool) :=
  cnd (decide (a3 ≠ 0)) (Law_told_string_j1 a0 a1 a3 []) (Law_told_string_j1 a0 a1 a3 a2)

/-! tintype/where.outside -/
noncomputable def where_outside (a0 : Int) (a1 : Int) (a2 : Int) : Option (Bool) :=
  cnd (decide (a0 < a1)) (some true) (some (decide (a2 < a0)))

/-! tintype/where.isLat -/
noncomputable def where_isLat (a0 : Int) : Option (Bool) :=
  bnd (where_outside a0 (-90000000) 90000000) fun t4 =>
  some (!t4)

/-! tintype/where.isLon -/
noncomputable def where_isLon (a0 : Int) : Option (Bool) :=
  bnd (where_outside a0 (-180000000) 179999999) fun t4 =>
  some (!t4)

/-! tintype/where.CheckPlace -/
noncomputable def where_CheckPlace (a0 : T_api_Place) : Option (Int) :=
  bnd (where_isLat a0.Lat) fun t5 =>
  cnd (!t5) (some 2) (bnd (where_isLon a0.Lon) fun t10 =>
  cnd (!t10) (some 2) (some 0))

/-! tintype/where.whole -/
noncomputable def where_whole  : Option (T_where_Box) :=
  some (⟨(-90000000), (-180000000), 90000000, 179999999⟩ : T_where_Box)

/-! (tintype/where.Box).quarter -/
noncomputable def where_Box_quarter_j2 (m : Int) (m_2 : Int) (m_3 : Int) (m_4 : Int) : Option (T_where_Box) :=
  some (⟨m, m_3, m_2, m_4⟩ : T_where_Box)
noncomputable def where_Box_quarter_j1 (a0 : T_where_Box) (a1 : Int) (t26 : Int) (m : Int) (m_2 : Int) : Option (T_where_Box) :=
  bnd (gRem a1 2) fun t35 =>
  cnd (decide (t35 = 1)) (where_Box_quarter_j2 m m_2 t26 a0.East) (bnd (gI (t26 - 1)) fun t40 =>
  where_Box_quarter_j2 m m_2 a0.West t40)
noncomputable def where_Box_quarter (a0 : T_where_Box) (a1 : Int) : Option (T_where_Box) :=
  bnd (gI (a0.North - a0.South)) fun t13 =>
  bnd (gI (t13 + 1)) fun t14 =>
  bnd (gQuo t14 2) fun t15 =>
  bnd (gI (a0.South + t15)) fun t16 =>
  bnd (gI (a0.East - a0.West)) fun t23 =>
  bnd (gI (t23 + 1)) fun t24 =>
  bnd (gQuo t24 2) fun t25 =>
  bnd (gI (a0.West + t25)) fun t26 =>
  cnd (decide (2 ≤ a1)) (where_Box_quarter_j1 a0 a1 t26 t16 a0.North) (bnd (gI (t16 - 1)) fun t32 =>
  where_Box_quarter_j1 a0 a1 t26 a0.South t32)

/-! tintype/where.Cell -/
noncomputable def where_Cell_j1 (a1 : Int) (m : (Nat → Int)) : Option ((List UInt8) × Int) :=
  bnd (gCutA 24 m a1) fun t57 =>
  some ((toStr t57), 0)
noncomputable def where_Cell_j3 (x21_2 : Int) (next2 : ((Int × (Nat → Int) × Int × Int × Int × Int) → Option ((List UInt8) × Int))) (m_12 : (Nat → Int)) (m_13 : Int) (m_14 : Int) (m_15 : Int) (m_16 : Int) : Option ((List UInt8) × Int) :=
  bnd (gI (x21_2 + 1)) fun t55 =>
  next2 (t55, m_12, m_13, m_14, m_15, m_16)
noncomputable def where_Cell_j5 (x24_2 : Int) (next4 : ((Int) → Option ((List UInt8) × Int))) : Option ((List UInt8) × Int) :=
  bnd (gI (x24_2 + 1)) fun t54 =>
  next4 t54
noncomputable def where_Cell_l4 (a0 : T_api_Place) (x21_2 : Int) (m_7 : (Nat → Int)) (m_8 : Int) (m_9 : Int) (m_10 : Int) (m_11 : Int) (next2 : ((Int × (Nat → Int) × Int × Int × Int × Int) → Option ((List UInt8) × Int))) (next4 : ((Int) → Option ((List UInt8) × Int))) (x24_2 : Int) : Option ((List UInt8) × Int) :=
  cnd (decide (x24_2 < 4)) (bnd (where_Box_quarter (⟨m_8, m_9, m_10, m_11⟩ : T_where_Box) x24_2) fun t29 =>
  bnd (where_outside a0.Lat t29.South t29.North) fun t36 =>
  cnd (!t36) (bnd (where_outside a0.Lon t29.West t29.East) fun t45 =>
  cnd (!t45) (bnd (gI (48 + x24_2)) fun t50 =>
  bnd (gIx 24 x21_2) fun k53 =>
  where_Cell_j3 x21_2 next2 (setA m_7 k53 (wU8 t50)) t29.South t29.West t29.North t29.East) (where_Cell_j5 x24_2 next4)) (where_Cell_j5 x24_2 next4)) (where_Cell_j3 x21_2 next2 m_7 m_8 m_9 m_10 m_11)
noncomputable def where_Cell_l2 (a0 : T_api_Place) (a1 : Int) (next2 : ((Int × (Nat → Int) × Int × Int × Int × Int) → Option ((List UInt8) × Int))) (x21_2 : Int) (m_7 : (Nat → Int)) (m_8 : Int) (m_9 : Int) (m_10 : Int) (m_11 : Int) : Option ((List UInt8) × Int) :=
  cnd (decide (x21_2 < a1)) (fix (fun next4 s => where_Cell_l4 a0 x21_2 m_7 m_8 m_9 m_10 m_11 next2 next4 s) 0) (where_Cell_j1 a1 m_7)
noncomputable def where_Cell (a0 : T_api_Place) (a1 : Int) : Option ((List UInt8) × Int) :=
  bnd (where_CheckPlace a0) fun t13 =>
  cnd (decide (t13 ≠ 0)) (some ([], t13)) (bnd (where_outside a1 0 24) fun t18 =>
  cnd t18 (some ([], 2)) (bnd (where_whole) fun t19 =>
  fix (fun next2 s => where_Cell_l2 a0 a1 next2 s.1 s.2.1 s.2.2.1 s.2.2.2.1 s.2.2.2.2.1 s.2.2.2.2.2) (0, (fun _ => 0), t19.South, t19.West, t19.North, t19.East)))

/-! tintype/tintlaw2.first -/
noncomputable def Law_first_l1 (a0 : (List Int)) (next1 : ((Int) → Option (Int))) (x7_2 : Int) : Option (Int) :=
  cnd (decide (x7_2 < (a0.length : Int))) (bnd (gAt a0 x7_2) fun t9 =>
  cnd (decide (t9 ≠ 0)) (some t9) (bnd (gI (x7_2 + 1)) fun t14 =>
  next1 t14)) (some 0)
noncomputable def Law_first (a0 : (List Int)) : Option (Int) :=
  fix (fun next1 s => Law_first_l1 a0 next1 s) 0

/-! tintype/tintref2.PlaceFault -/
noncomputable def R_PlaceFault (a0 : T_api_Place) : Option (Int) :=
  cnd (decide (a0.Lat < (-90000000))) (some 2) (cnd (decide (90000000 < a0.Lat)) (some 2) (cnd (decide (a0.Lon < (-180000000))) (some 2) (cnd (decide (179999999 < a0.Lon)) (some 2) (some 0))))

/-! tintype/tintlaw2.unless -/
noncomputable def Law_unless (a0 : Bool) (a1 : Int) : Option (Int) :=
  cnd a0 (some 0) (some a1)

/-! tintype/tintref2.part -/
noncomputable def R_part_j2 (m : Int) (m_2 : Int) (m_3 : Int) (m_4 : Int) : Option (T_where_Box) :=
  some (⟨m, m_3, m_2, m_4⟩ : T_where_Box)
noncomputable def R_part_j1 (a0 : T_where_Box) (a1 : Int) (t26 : Int) (m : Int) (m_2 : Int) : Option (T_where_Box) :=
  cnd (decide (a1 = 48)) (bnd (gI (t26 - 1)) fun t45 =>
  R_part_j2 m m_2 a0.West t45) (cnd (decide (a1 = 50)) (bnd (gI (t26 - 1)) fun t45_2 =>
  R_part_j2 m m_2 a0.West t45_2) (R_part_j2 m m_2 t26 a0.East))
noncomputable def R_part (a0 : T_where_Box) (a1 : Int) : Option (T_where_Box) :=
  bnd (gI (a0.North - a0.South)) fun t13 =>
  bnd (gI (t13 + 1)) fun t14 =>
  bnd (gQuo t14 2) fun t15 =>
  bnd (gI (a0.South + t15)) fun t16 =>
  bnd (gI (a0.East - a0.West)) fun t23 =>
  bnd (gI (t23 + 1)) fun t24 =>
  bnd (gQuo t24 2) fun t25 =>
  bnd (gI (a0.West + t25)) fun t26 =>
  cnd (decide (a1 = 48)) (bnd (gI (t16 - 1)) fun t34 =>
  R_part_j1 a0 a1 t26 a0.South t34) (cnd (decide (a1 = 49)) (bnd (gI (t16 - 1)) fun t34_2 =>
  R_part_j1 a0 a1 t26 a0.South t34_2) (R_part_j1 a0 a1 t26 t16 a0.North))

/-! tintype/tintref2.CellOf -/
noncomputable def R_CellOf_j2 (x12_2 : Int) (next1 : (((List UInt8) × Int × Int × Int × Int × Int) → Option ((List UInt8)))) (x6_3 : (List UInt8)) (m_9 : Int) (m_10 : Int) (m_11 : Int) (m_12 : Int) : Option ((List UInt8)) :=
  bnd (gI (x12_2 + 1)) fun t57 =>
  next1 (x6_3, t57, m_9, m_10, m_11, m_12)
noncomputable def R_CellOf_j4 (x17_2 : Int) (next3 : ((Int) → Option ((List UInt8)))) : Option ((List UInt8)) :=
  bnd (gI (x17_2 + 1)) fun t56 =>
  next3 t56
noncomputable def R_CellOf_l3 (a0 : T_api_Place) (x6_2 : (List UInt8)) (x12_2 : Int) (m_5 : Int) (m_6 : Int) (m_7 : Int) (m_8 : Int) (next1 : (((List UInt8) × Int × Int × Int × Int × Int) → Option ((List UInt8)))) (next3 : ((Int) → Option ((List UInt8)))) (x17_2 : Int) : Option ((List UInt8)) :=
  cnd (decide (x17_2 < (4 : Int))) (bnd (gAt ([48, 49, 50, 51] : List Int) x17_2) fun t19 =>
  bnd (R_part (⟨m_5, m_6, m_7, m_8⟩ : T_where_Box) t19) fun t23 =>
  cnd (decide (t23.South ≤ a0.Lat)) (cnd (decide (a0.Lat ≤ t23.North)) (cnd (decide (t23.West ≤ a0.Lon)) (cnd (decide (a0.Lon ≤ t23.East)) (bnd (gCat x6_2 (toStr ([t19] : List Int))) fun t54 =>
  R_CellOf_j2 x12_2 next1 t54 t23.South t23.West t23.North t23.East) (R_CellOf_j4 x17_2 next3)) (R_CellOf_j4 x17_2 next3)) (R_CellOf_j4 x17_2 next3)) (R_CellOf_j4 x17_2 next3)) (R_CellOf_j2 x12_2 next1 x6_2 m_5 m_6 m_7 m_8)
noncomputable def R_CellOf_l1 (a0 : T_api_Place) (a1 : Int) (next1 : (((List UInt8) × Int × Int × Int × Int × Int) → Option ((List UInt8)))) (x6_2 : (List UInt8)) (x12_2 : Int) (m_5 : Int) (m_6 : Int) (m_7 : Int) (m_8 : Int) : Option ((List UInt8)) :=
  cnd (decide (x12_2 < a1)) (fix (fun next3 s => R_CellOf_l3 a0 x6_2 x12_2 m_5 m_6 m_7 m_8 next1 next3 s) 0) (some x6_2)
noncomputable def R_CellOf (a0 : T_api_Place) (a1 : Int) : Option ((List UInt8)) :=
  fix (fun next1 s => R_CellOf_l1 a0 a1 next1 s.1 s.2.1 s.2.2.1 s.2.2.2.1 s.2.2.2.2.1 s.2.2.2.2.2) ([], 0, (-90000000), (-180000000), 90000000, 179999999)

/-! strings.trimLeftByte -/
noncomputable def strings_trimLeftByte_l1 (a1 : Int) (next1 : (((List UInt8)) → Option ((List UInt8)))) (x0_2 : (List UInt8)) : Option ((List UInt8)) :=
  cnd (decide (0 < (x0_2.length : Int))) (bnd (gOct x0_2 0) fun t10 =>
  cnd (decide (t10 = a1)) (bnd (gCut x0_2 1 x0_2.length) fun t15 =>
  next1 t15) (some x0_2)) (some x0_2)
noncomputable def strings_trimLeftByte (a0 : (List UInt8)) (a1 : Int) : Option ((List UInt8)) :=
  fix (fun next1 s => strings_trimLeftByte_l1 a1 next1 s) a0

/-! strings.trimRightByte -/
noncomputable def strings_trimRightByte_l1 (a1 : Int) (next1 : (((List UInt8)) → Option ((List UInt8)))) (x0_2 : (List UInt8)) : Option ((List UInt8)) :=
  cnd (decide (0 < (x0_2.length : Int))) (bnd (gI ((x0_2.length : Int) - 1)) fun t12 =>
  bnd (gOct x0_2 t12) fun t13 =>
  cnd (decide (t13 = a1)) (bnd (gI ((x0_2.length : Int) - 1)) fun t20 =>
  bnd (gCut x0_2 0 t20) fun t21 =>
  next1 t21) (some x0_2)) (some x0_2)
noncomputable def strings_trimRightByte (a0 : (List UInt8)) (a1 : Int) : Option ((List UInt8)) :=
  fix (fun next1 s => strings_trimRightByte_l1 a1 next1 s) a0

/-! strings.makeASCIISet -/
noncomputable def strings_makeASCIISet_j1 (m : (Nat → Bool)) : Option ((Nat → Bool) × Bool) :=
  some (m, true)
noncomputable def strings_makeASCIISet_l2 (a0 : (List UInt8)) (next2 : ((Int × (Nat → Bool)) → Option ((Nat → Bool) × Bool))) (x4_2 : Int) (m_3 : (Nat → Bool)) : Option ((Nat → Bool) × Bool) :=
  cnd (decide (x4_2 < (a0.length : Int))) (bnd (gOct a0 x4_2) fun t14 =>
  cnd (decide (128 ≤ t14)) (some (m_3, false)) (bnd (gIx 256 t14) fun k19 =>
  bnd (gI (x4_2 + 1)) fun t11 =>
  next2 (t11, (setA m_3 k19 true)))) (strings_makeASCIISet_j1 m_3)
noncomputable def strings_makeASCIISet (a0 : (List UInt8)) : Option ((Nat → Bool) × Bool) :=
  fix (fun next2 s => strings_makeASCIISet_l2 a0 next2 s.1 s.2) (0, (fun _ => false))

/-! (*strings.asciiSet).contains -/
noncomputable def strings_asciiSet_contains (a0 : (Nat → Bool)) (a1 : Int) : Option (Bool × (Nat → Bool)) :=
  bnd (gIx 256 a1) fun k8 =>
  some ((a0 k8), a0)

/-! strings.trimLeftASCII -/
noncomputable def strings_trimLeftASCII_l1 (next1 : (((List UInt8) × (Nat → Bool)) → Option ((List UInt8) × (Nat → Bool)))) (x0_2 : (List UInt8)) (m_2 : (Nat → Bool)) : Option ((List UInt8) × (Nat → Bool)) :=
  cnd (decide (0 < (x0_2.length : Int))) (bnd (gOct x0_2 0) fun t10 =>
  bnd (strings_asciiSet_contains m_2 t10) fun t11 =>
  cnd (!t11.1) (some (x0_2, t11.2)) (bnd (gCut x0_2 1 x0_2.length) fun t14 =>
  next1 (t14, t11.2))) (some (x0_2, m_2))
noncomputable def strings_trimLeftASCII (a0 : (List UInt8)) (a1 : (Nat → Bool)) : Option ((List UInt8) × (Nat → Bool)) :=
  fix (fun next1 s => strings_trimLeftASCII_l1 next1 s.1 s.2) (a0, a1)

/-! strings.trimRightASCII -/
noncomputable def strings_trimRightASCII_l1 (next1 : (((List UInt8) × (Nat → Bool)) → Option ((List UInt8) × (Nat → Bool)))) (x0_2 : (List UInt8)) (m_2 : (Nat → Bool)) : Option ((List UInt8) × (Nat → Bool)) :=
  cnd (decide (0 < (x0_2.length : Int))) (bnd (gI ((x0_2.length : Int) - 1)) fun t12 =>
  bnd (gOct x0_2 t12) fun t13 =>
  bnd (strings_asciiSet_contains m_2 t13) fun t14 =>
  cnd (!t14.1) (some (x0_2, t14.2)) (bnd (gI ((x0_2.length : Int) - 1)) fun t19 =>
  bnd (gCut x0_2 0 t19) fun t20 =>
  next1 (t20, t14.2))) (some (x0_2, m_2))
noncomputable def strings_trimRightASCII (a0 : (List UInt8)) (a1 : (Nat → Bool)) : Option ((List UInt8) × (Nat → Bool)) :=
  fix (fun next1 s => strings_trimRightASCII_l1 next1 s.1 s.2) (a0, a1)

/-! unicode/utf8.decodeRuneInStringSlow -/
noncomputable def unicode_utf8_decodeRuneInStringSlow (a0 : (List UInt8)) : Option (Int × Int) :=
  cnd (decide ((a0.length : Int) < 1)) (some (65533, 0)) (none)

/-! unicode/utf8.DecodeRuneInString -/
noncomputable def unicode_utf8_DecodeRuneInString_j1 (a0 : (List UInt8)) (x10 : Bool) : Option (Int × Int) :=
  cnd x10 (bnd (gOct a0 0) fun t12 =>
  bnd (gK (-2147483648) 2147483647 t12) fun t13 =>
  some (t13, 1)) (bnd (unicode_utf8_decodeRuneInStringSlow a0) fun t16 =>
  some (t16.1, t16.2))
noncomputable def unicode_utf8_DecodeRuneInString (a0 : (List UInt8)) : Option (Int × Int) :=
  cnd (decide (a0 ≠ [])) (bnd (gOct a0 0) fun t8 =>
  unicode_utf8_DecodeRuneInString_j1 a0 (decide (t8 < 128))) (unicode_utf8_DecodeRuneInString_j1 a0 false)

/-! unicode/utf8.ValidRune -/
noncomputable def unicode_utf8_ValidRune_j1 (a0 : Int) (x3 : Bool) : Option (Bool) :=
  cnd x3 (some true) (cnd (decide (57343 < a0)) (cnd (decide (a0 ≤ 1114111)) (some true) (some false)) (some false))
noncomputable def unicode_utf8_ValidRune (a0 : Int) : Option (Bool) :=
  cnd (decide (0 ≤ a0)) (unicode_utf8_ValidRune_j1 a0 (decide (a0 < 55296))) (unicode_utf8_ValidRune_j1 a0 false)

/-! internal/bytealg.Cutover -/
noncomputable def internal_bytealg_Cutover (a0 : Int) : Option (Int) :=
  bnd (gI (a0 + 16)) fun t4 =>
  bnd (gQuo t4 8) fun t5 =>
  some t5

/-! strings.IndexRune -/
noncomputable def strings_IndexRune_l2 (a0 : (List UInt8)) (next2 : ((Nat) → Option (Int))) (k_2 : Nat) : Option (Int) :=
  cnd (decide (k_2 < a0.length)) (bnd (gNx a0 k_2) fun t176 =>
  cnd (decide (t176 = 65533)) (some ((k_2 : Nat) : Int)) (next2 (k_2 + 1))) (some (-1))
noncomputable def strings_IndexRune_j1 (a0 : (List UInt8)) (a1 : Int) (x160 : Bool) : Option (Int) :=
  cnd x160 (none) (cnd (decide (a1 = 65533)) (fix (fun next2 s => strings_IndexRune_l2 a0 next2 s) 0) (bnd (unicode_utf8_ValidRune a1) fun t185 =>
  cnd (!t185) (some (-1)) (none)))
noncomputable def strings_IndexRune (a0 : (List UInt8)) (a1 : Int) : Option (Int) :=
  cnd (decide (0 ≤ a1)) (strings_IndexRune_j1 a0 a1 (decide (a1 < 128))) (strings_IndexRune_j1 a0 a1 false)

/-! strings.ContainsRune -/
noncomputable def strings_ContainsRune (a0 : (List UInt8)) (a1 : Int) : Option (Bool) :=
  bnd (strings_IndexRune a0 a1) fun t7 =>
  some (decide (0 ≤ t7))

/-! strings.trimLeftUnicode -/
noncomputable def strings_trimLeftUnicode_l1 (a1 : (List UInt8)) (next1 : (((List UInt8)) → Option ((List UInt8)))) (x0_2 : (List UInt8)) : Option ((List UInt8)) :=
  cnd (decide (0 < (x0_2.length : Int))) (bnd (unicode_utf8_DecodeRuneInString x0_2) fun t12 =>
  bnd (strings_ContainsRune a1 t12.1) fun t17 =>
  cnd (!t17) (some x0_2) (bnd (gCut x0_2 t12.2 x0_2.length) fun t21 =>
  next1 t21)) (some x0_2)
noncomputable def strings_trimLeftUnicode (a0 : (List UInt8)) (a1 : (List UInt8)) : Option ((List UInt8)) :=
  fix (fun next1 s => strings_trimLeftUnicode_l1 a1 next1 s) a0

/-! unicode/utf8.RuneStart -/
noncomputable def unicode_utf8_RuneStart (a0 : Int) : Option (Bool) :=
  some (decide ((wU8 (bAnd 8 a0 192)) ≠ 128))

/-! unicode/utf8.DecodeLastRuneInString -/
noncomputable def unicode_utf8_DecodeLastRuneInString_j2 (a0 : (List UInt8)) (x5_2 : Int) : Option (Int × Int) :=
  bnd (gCut a0 x5_2 (a0.length : Int)) fun t40 =>
  bnd (unicode_utf8_DecodeRuneInString t40) fun t41 =>
  bnd (gI (x5_2 + t41.2)) fun t46 =>
  cnd (decide (t46 ≠ (a0.length : Int))) (some (65533, 1)) (some (t41.1, t41.2))
noncomputable def unicode_utf8_DecodeLastRuneInString_j1 (a0 : (List UInt8)) (x5 : Int) : Option (Int × Int) :=
  cnd (decide (x5 < 0)) (unicode_utf8_DecodeLastRuneInString_j2 a0 0) (unicode_utf8_DecodeLastRuneInString_j2 a0 x5)
noncomputable def unicode_utf8_DecodeLastRuneInString_l3 (a0 : (List UInt8)) (t21 : Int) (next3 : ((Int) → Option (Int × Int))) (x5_4 : Int) : Option (Int × Int) :=
  cnd (decide ((max t21 0) ≤ x5_4)) (bnd (gOct a0 x5_4) fun t32 =>
  bnd (unicode_utf8_RuneStart t32) fun t33 =>
  cnd t33 (unicode_utf8_DecodeLastRuneInString_j1 a0 x5_4) (bnd (gI (x5_4 - 1)) fun t29 =>
  next3 t29)) (unicode_utf8_DecodeLastRuneInString_j1 a0 x5_4)
noncomputable def unicode_utf8_DecodeLastRuneInString (a0 : (List UInt8)) : Option (Int × Int) :=
  cnd (decide ((a0.length : Int) = 0)) (some (65533, 0)) (bnd (gI ((a0.length : Int) - 1)) fun t12 =>
  bnd (gOct a0 t12) fun t15 =>
  bnd (gK (-2147483648) 2147483647 t15) fun t16 =>
  cnd (decide (t16 < 128)) (some (t16, 1)) (bnd (gI ((a0.length : Int) - 4)) fun t21 =>
  bnd (gI (t12 - 1)) fun t24 =>
  fix (fun next3 s => unicode_utf8_DecodeLastRuneInString_l3 a0 t21 next3 s) t24))

/-! strings.trimRightUnicode -/
noncomputable def strings_trimRightUnicode_j2 (a1 : (List UInt8)) (x0_2 : (List UInt8)) (next1 : (((List UInt8)) → Option ((List UInt8)))) (x5 : Int) (x6 : Int) : Option ((List UInt8)) :=
  bnd (strings_ContainsRune a1 x5) fun t25 =>
  cnd (!t25) (some x0_2) (bnd (gI ((x0_2.length : Int) - x6)) fun t31 =>
  bnd (gCut x0_2 0 t31) fun t32 =>
  next1 t32)
noncomputable def strings_trimRightUnicode_l1 (a1 : (List UInt8)) (next1 : (((List UInt8)) → Option ((List UInt8)))) (x0_2 : (List UInt8)) : Option ((List UInt8)) :=
  cnd (decide (0 < (x0_2.length : Int))) (bnd (gI ((x0_2.length : Int) - 1)) fun t13 =>
  bnd (gOct x0_2 t13) fun t14 =>
  bnd (gK (-2147483648) 2147483647 t14) fun t15 =>
  cnd (decide (128 ≤ t15)) (bnd (unicode_utf8_DecodeLastRuneInString x0_2) fun t20 =>
  strings_trimRightUnicode_j2 a1 x0_2 next1 t20.1 t20.2) (strings_trimRightUnicode_j2 a1 x0_2 next1 t15 1)) (some x0_2)
noncomputable def strings_trimRightUnicode (a0 : (List UInt8)) (a1 : (List UInt8)) : Option ((List UInt8)) :=
  fix (fun next1 s => strings_trimRightUnicode_l1 a1 next1 s) a0

/-! strings.Trim -/
noncomputable def strings_Trim_j1 (a0 : (List UInt8)) (a1 : (List UInt8)) : Option ((List UInt8)) :=
  bnd (strings_makeASCIISet a1) fun t31 =>
  cnd t31.2 (bnd (strings_trimRightASCII a0 t31.1) fun t36 =>
  bnd (strings_trimLeftASCII t36.1 t36.2) fun t37 =>
  some t37.1) (bnd (strings_trimRightUnicode a0 a1) fun t40 =>
  bnd (strings_trimLeftUnicode t40 a1) fun t42 =>
  some t42)
noncomputable def strings_Trim (a0 : (List UInt8)) (a1 : (List UInt8)) : Option ((List UInt8)) :=
  cnd (decide (a0 = [])) (some a0) (cnd (decide (a1 = [])) (some a0) (cnd (decide ((a1.length : Int) = 1)) (bnd (gOct a1 0) fun t19 =>
  cnd (decide (t19 < 128)) (bnd (gOct a1 0) fun t24 =>
  bnd (strings_trimRightByte a0 t24) fun t25 =>
  bnd (gOct a1 0) fun t27 =>
  bnd (strings_trimLeftByte t25 t27) fun t28 =>
  some t28) (strings_Trim_j1 a0 a1)) (strings_Trim_j1 a0 a1)))

/-! tintype/where.checkCell -/
noncomputable def where_checkCell (a0 : (List UInt8)) : Option (Int) :=
  cnd (decide (24 < (a0.length : Int))) (some 4) (bnd (strings_Trim a0 [48, 49, 50, 51]) fun t9 =>
  cnd (decide (t9 ≠ [])) (some 8) (some 0))

/-! tintype/where.BoxOf -/
noncomputable def where_BoxOf_j1 (m : Int) (m_2 : Int) (m_3 : Int) (m_4 : Int) : Option (T_where_Box × Int) :=
  some ((⟨m, m_2, m_3, m_4⟩ : T_where_Box), 0)
noncomputable def where_BoxOf_l2 (a0 : (List UInt8)) (next2 : ((Int × Int × Int × Int × Int) → Option (T_where_Box × Int))) (x16_2 : Int) (m_9 : Int) (m_10 : Int) (m_11 : Int) (m_12 : Int) : Option (T_where_Box × Int) :=
  cnd (decide (x16_2 < (a0.length : Int))) (bnd (gOct a0 x16_2) fun t22 =>
  bnd (gK (-9223372036854775808) 9223372036854775807 (wU8 (t22 - 48))) fun t24 =>
  bnd (where_Box_quarter (⟨m_9, m_10, m_11, m_12⟩ : T_where_Box) t24) fun t25 =>
  bnd (gI (x16_2 + 1)) fun t26 =>
  next2 (t26, t25.South, t25.West, t25.North, t25.East)) (where_BoxOf_j1 m_9 m_10 m_11 m_12)
noncomputable def where_BoxOf (a0 : (List UInt8)) : Option (T_where_Box × Int) :=
  bnd (where_checkCell a0) fun t8 =>
  cnd (decide (t8 ≠ 0)) (some ((⟨0, 0, 0, 0⟩ : T_where_Box), t8)) (bnd (where_whole) fun t13 =>
  fix (fun next2 s => where_BoxOf_l2 a0 next2 s.1 s.2.1 s.2.2.1 s.2.2.2.1 s.2.2.2.2) (0, t13.South, t13.West, t13.North, t13.East))

/-! tintype/where.Beside -/
noncomputable def where_Beside_j2 (a0 : (List UInt8)) (m : (Nat → Int)) : Option ((List UInt8) × Bool × Int) :=
  bnd (gCutA 24 m (a0.length : Int)) fun t96 =>
  some ((toStr t96), true, 0)
noncomputable def where_Beside_l3 (a0 : (List UInt8)) (t55 : Int) (t64 : Int) (next3 : ((Int × (Nat → Int)) → Option ((List UInt8) × Bool × Int))) (x71_2 : Int) (m_3 : (Nat → Int)) : Option ((List UInt8) × Bool × Int) :=
  cnd (decide (x71_2 < (a0.length : Int))) (bnd (gI ((a0.length : Int) - 1)) fun t76 =>
  bnd (gI (t76 - x71_2)) fun t78 =>
  bnd (gShr 64 t55 t78) fun t82 =>
  bnd (gI (2 * (wI64 (bAnd 64 t82 1)))) fun t84 =>
  bnd (gI (48 + t84)) fun t85 =>
  bnd (gShr 64 t64 t78) fun t88 =>
  bnd (gI (t85 + (wI64 (bAnd 64 t88 1)))) fun t90 =>
  bnd (gIx 24 x71_2) fun k92 =>
  bnd (gI (x71_2 + 1)) fun t93 =>
  next3 (t93, (setA m_3 k92 (wU8 t90)))) (where_Beside_j2 a0 m_3)
noncomputable def where_Beside_j1 (a0 : (List UInt8)) (a1 : Int) (a2 : Int) (x10 : Int) (x11 : Int) : Option ((List UInt8) × Bool × Int) :=
  bnd (gShl 1 (a0.length : Int)) fun t52 =>
  bnd (gI (x10 + a1)) fun t55 =>
  bnd (gI (x11 + a2)) fun t58 =>
  bnd (gRem t58 t52) fun t60 =>
  bnd (gI (t60 + t52)) fun t62 =>
  bnd (gRem t62 t52) fun t64 =>
  bnd (gI (t52 - 1)) fun t67 =>
  bnd (where_outside t55 0 t67) fun t68 =>
  cnd t68 (some ([], false, 0)) (fix (fun next3 s => where_Beside_l3 a0 t55 t64 next3 s.1 s.2) (0, (fun _ => 0)))
noncomputable def where_Beside_l4 (a0 : (List UInt8)) (a1 : Int) (a2 : Int) (next4 : ((Int × Int × Int) → Option ((List UInt8) × Bool × Int))) (x10_3 : Int) (x11_3 : Int) (x31_2 : Int) : Option ((List UInt8) × Bool × Int) :=
  cnd (decide (x31_2 < (a0.length : Int))) (bnd (gOct a0 x31_2) fun t36 =>
  bnd (gK (-9223372036854775808) 9223372036854775807 (wU8 (t36 - 48))) fun t38 =>
  bnd (gI (2 * x10_3)) fun t40 =>
  bnd (gQuo t38 2) fun t42 =>
  bnd (gI (t40 + t42)) fun t43 =>
  bnd (gI (2 * x11_3)) fun t45 =>
  bnd (gRem t38 2) fun t47 =>
  bnd (gI (t45 + t47)) fun t48 =>
  bnd (gI (x31_2 + 1)) fun t49 =>
  next4 (t43, t48, t49)) (where_Beside_j1 a0 a1 a2 x10_3 x11_3)
noncomputable def where_Beside (a0 : (List UInt8)) (a1 : Int) (a2 : Int) : Option ((List UInt8) × Bool × Int) :=
  bnd (where_checkCell a0) fun t19 =>
  cnd (decide (t19 ≠ 0)) (some ([], false, t19)) (bnd (where_outside a1 (-100) 100) fun t24 =>
  cnd t24 (some ([], false, 2)) (bnd (where_outside a2 (-100) 100) fun t27 =>
  cnd t27 (some ([], false, 2)) (fix (fun next4 s => where_Beside_l4 a0 a1 a2 next4 s.1 s.2.1 s.2.2) (0, 0, 0))))

/-! tintype/tintref2.CellFault -/
noncomputable def R_CellFault (a0 : (List UInt8)) : Option (Int) :=
  cnd (decide (24 < (a0.length : Int))) (some 4) (bnd (strings_Trim a0 [48, 49, 50, 51]) fun t9 =>
  cnd (decide (t9 ≠ [])) (some 8) (some 0))

/-! tintype/tintref2.BoxOfCell -/
noncomputable def R_BoxOfCell_j1 (m : Int) (m_2 : Int) (m_3 : Int) (m_4 : Int) : Option (T_where_Box) :=
  some (⟨m, m_2, m_3, m_4⟩ : T_where_Box)
noncomputable def R_BoxOfCell_l2 (a0 : (List UInt8)) (next2 : ((Int × Int × Int × Int × Int) → Option (T_where_Box))) (x8_2 : Int) (m_9 : Int) (m_10 : Int) (m_11 : Int) (m_12 : Int) : Option (T_where_Box) :=
  cnd (decide (x8_2 < (a0.length : Int))) (bnd (gOct a0 x8_2) fun t14 =>
  bnd (R_part (⟨m_9, m_10, m_11, m_12⟩ : T_where_Box) t14) fun t15 =>
  bnd (gI (x8_2 + 1)) fun t16 =>
  next2 (t16, t15.South, t15.West, t15.North, t15.East)) (R_BoxOfCell_j1 m_9 m_10 m_11 m_12)
noncomputable def R_BoxOfCell (a0 : (List UInt8)) : Option (T_where_Box) :=
  fix (fun next2 s => R_BoxOfCell_l2 a0 next2 s.1 s.2.1 s.2.2.1 s.2.2.2.1 s.2.2.2.2) (0, (-90000000), (-180000000), 90000000, 179999999)

/-! tintype/tintref2.BesideOf -/
noncomputable def R_BesideOf_l2 (a0 : (List UInt8)) (next2 : ((Int × Int × (List UInt8) × Nat) → Option ((List UInt8) × Bool))) (x8_3 : Int) (x9_3 : Int) (x13_2 : (List UInt8)) (k_2 : Nat) : Option ((List UInt8) × Bool) :=
  cnd (decide (k_2 < a0.length)) (bnd (gNx a0 k_2) fun t58 =>
  bnd (gRem x8_3 2) fun t61 =>
  bnd (gI (t61 * 2)) fun t62 =>
  bnd (gI (48 + t62)) fun t63 =>
  bnd (gRem x9_3 2) fun t65 =>
  bnd (gI (t63 + t65)) fun t66 =>
  bnd (gCat (toStr ([(wU8 t66)] : List Int)) x13_2) fun t71 =>
  bnd (gQuo x8_3 2) fun t73 =>
  bnd (gQuo x9_3 2) fun t75 =>
  next2 (t73, t75, t71, (k_2 + 1))) (some (x13_2, true))
noncomputable def R_BesideOf_j1 (a0 : (List UInt8)) (a1 : Int) (a2 : Int) (x8 : Int) (x9 : Int) (x10 : Int) : Option ((List UInt8) × Bool) :=
  bnd (gI (x8 + a1)) fun t39 =>
  bnd (gI (x9 + a2)) fun t42 =>
  bnd (gRem t42 x10) fun t44 =>
  bnd (gI (t44 + x10)) fun t46 =>
  bnd (gRem t46 x10) fun t48 =>
  cnd (decide (t39 < 0)) (some ([], false)) (cnd (decide (x10 ≤ t39)) (some ([], false)) (fix (fun next2 s => R_BesideOf_l2 a0 next2 s.1 s.2.1 s.2.2.1 s.2.2.2) (t39, t48, [], 0)))
noncomputable def R_BesideOf_l3 (a0 : (List UInt8)) (a1 : Int) (a2 : Int) (next3 : ((Int × Int × Int × Int) → Option ((List UInt8) × Bool))) (x8_5 : Int) (x9_5 : Int) (x10_3 : Int) (x16_2 : Int) : Option ((List UInt8) × Bool) :=
  cnd (decide (x16_2 < (a0.length : Int))) (bnd (gOct a0 x16_2) fun t21 =>
  bnd (gK (-9223372036854775808) 9223372036854775807 (wU8 (t21 - 48))) fun t23 =>
  bnd (gI (2 * x8_5)) fun t25 =>
  bnd (gQuo t23 2) fun t27 =>
  bnd (gI (t25 + t27)) fun t28 =>
  bnd (gI (2 * x9_5)) fun t30 =>
  bnd (gRem t23 2) fun t32 =>
  bnd (gI (t30 + t32)) fun t33 =>
  bnd (gI (2 * x10_3)) fun t35 =>
  bnd (gI (x16_2 + 1)) fun t36 =>
  next3 (t28, t33, t35, t36)) (R_BesideOf_j1 a0 a1 a2 x8_5 x9_5 x10_3)
noncomputable def R_BesideOf (a0 : (List UInt8)) (a1 : Int) (a2 : Int) : Option ((List UInt8) × Bool) :=
  fix (fun next3 s => R_BesideOf_l3 a0 a1 a2 next3 s.1 s.2.1 s.2.2.1 s.2.2.2) (0, 0, 1, 0)

/-! tintype/tintlaw2.told[tintype/where.Box] -/
noncomputable def Law_told_where_Box_j1 (a0 : T_where_Box) (a1 : Int) (a3 : Int) (m : Int) (m_2 : Int) (m_3 : Int) (m_4 : Int) : Option (Bool) :=
  cnd (eq_where_Box a0 (⟨m, m_2, m_3, m_4⟩ : T_where_Box)) (some (decide (a1 = a3))) (some false)
noncomputable def Law_told_where_Box (a0 : T_where_Box) (a1 : Int) (a2 : T_where_Box) (a3 : Int) : Option (Bool) :=
  cnd (decide (a3 ≠ 0)) (Law_told_where_Box_j1 a0 a1 a3 0 0 0 0) (Law_told_where_Box_j1 a0 a1 a3 a2.South a2.West a2.North a2.East)

/-! tintype/tintlaw2.WhereCells -/
noncomputable def Law_WhereCells_j5 (t28 : ((List UInt8) × Int)) (x13 : Int) (x14 : (List UInt8)) (t49 : (T_where_Box × Int)) (t56 : ((List UInt8) × Bool × Int)) (t61 : (Int)) (x21 : Int) (m : Int) (m_2 : Int) (m_3 : Int) (m_4 : Int) (x23 : (List UInt8)) (x24 : Bool) : Option (Bool) :=
  bnd (Law_told_string t28.1 t28.2 x14 x13) fun t97 =>
  cnd t97 (bnd (Law_told_where_Box t49.1 t49.2 (⟨m, m_2, m_3, m_4⟩ : T_where_Box) t61) fun t103 =>
  cnd t103 (bnd (Law_told_string t56.1 t56.2.2 x23 x21) fun t110 =>
  cnd t110 (some (decide (t56.2.1 = x24))) (some false)) (some false)) (some false)
noncomputable def Law_WhereCells_j4 (a2 : (List UInt8)) (a3 : Int) (a4 : Int) (t28 : ((List UInt8) × Int)) (x13 : Int) (x14 : (List UInt8)) (t49 : (T_where_Box × Int)) (t56 : ((List UInt8) × Bool × Int)) (t61 : (Int)) (x21 : Int) (m : Int) (m_2 : Int) (m_3 : Int) (m_4 : Int) : Option (Bool) :=
  cnd (decide (x21 = 0)) (bnd (R_BesideOf a2 a3 a4) fun t90 =>
  Law_WhereCells_j5 t28 x13 x14 t49 t56 t61 x21 m m_2 m_3 m_4 t90.1 t90.2) (Law_WhereCells_j5 t28 x13 x14 t49 t56 t61 x21 m m_2 m_3 m_4 [] false)
noncomputable def Law_WhereCells_j3 (a2 : (List UInt8)) (a3 : Int) (a4 : Int) (t28 : ((List UInt8) × Int)) (x13 : Int) (x14 : (List UInt8)) (t49 : (T_where_Box × Int)) (t56 : ((List UInt8) × Bool × Int)) (t61 : (Int)) (x21 : Int) : Option (Bool) :=
  cnd (decide (t61 = 0)) (bnd (R_BoxOfCell a2) fun t83 =>
  Law_WhereCells_j4 a2 a3 a4 t28 x13 x14 t49 t56 t61 x21 t83.South t83.West t83.North t83.East) (Law_WhereCells_j4 a2 a3 a4 t28 x13 x14 t49 t56 t61 x21 0 0 0 0)
noncomputable def Law_WhereCells_j2 (a2 : (List UInt8)) (a3 : Int) (a4 : Int) (t28 : ((List UInt8) × Int)) (x13 : Int) (x14 : (List UInt8)) : Option (Bool) :=
  bnd (where_BoxOf a2) fun t49 =>
  bnd (where_Beside a2 a3 a4) fun t56 =>
  bnd (R_CellFault a2) fun t61 =>
  cnd (decide ((-100) ≤ a3)) (cnd (decide (a3 ≤ 100)) (cnd (decide ((-100) ≤ a4)) (bnd (Law_unless (decide (a4 ≤ 100)) 2) fun t77 =>
  bnd (Law_first ([t61, t77] : List Int)) fun t79 =>
  Law_WhereCells_j3 a2 a3 a4 t28 x13 x14 t49 t56 t61 t79) (bnd (Law_unless false 2) fun t77_2 =>
  bnd (Law_first ([t61, t77_2] : List Int)) fun t79_2 =>
  Law_WhereCells_j3 a2 a3 a4 t28 x13 x14 t49 t56 t61 t79_2)) (bnd (Law_unless false 2) fun t77_3 =>
  bnd (Law_first ([t61, t77_3] : List Int)) fun t79_3 =>
  Law_WhereCells_j3 a2 a3 a4 t28 x13 x14 t49 t56 t61 t79_3)) (bnd (Law_unless false 2) fun t77_4 =>
  bnd (Law_first ([t61, t77_4] : List Int)) fun t79_4 =>
  Law_WhereCells_j3 a2 a3 a4 t28 x13 x14 t49 t56 t61 t79_4)
noncomputable def Law_WhereCells_j1 (a0 : T_api_Place) (a1 : Int) (a2 : (List UInt8)) (a3 : Int) (a4 : Int) (t28 : ((List UInt8) × Int)) (x13 : Int) : Option (Bool) :=
  cnd (decide (x13 = 0)) (bnd (R_CellOf a0 a1) fun t46 =>
  Law_WhereCells_j2 a2 a3 a4 t28 x13 t46) (Law_WhereCells_j2 a2 a3 a4 t28 x13 [])
noncomputable def Law_WhereCells (a0 : T_api_Place) (a1 : Int) (a2 : (List UInt8)) (a3 : Int) (a4 : Int) : Option (Bool) :=
  bnd (where_Cell a0 a1) fun t28 =>
  bnd (R_PlaceFault a0) fun t32 =>
  cnd (decide (0 ≤ a1)) (bnd (Law_unless (decide (a1 ≤ 24)) 2) fun t39 =>
  bnd (Law_first ([t32, t39] : List Int)) fun t41 =>
  Law_WhereCells_j1 a0 a1 a2 a3 a4 t28 t41) (bnd (Law_unless false 2) fun t39_2 =>
  bnd (Law_first ([t32, t39_2] : List Int)) fun t41_2 =>
  Law_WhereCells_j1 a0 a1 a2 a3 a4 t28 t41_2)

end Go.M
