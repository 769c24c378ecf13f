/- WhereAreas: the models, printed by our generator from the compiled program. Conditions: none. -/
import Derived.Test.YtilhbkglchppjaaDoorMd5
namespace Go.M
open Go.Md
set_option maxRecDepth 100000
set_option linter.unusedVariables false

structure T_api_Place where
  Lat : Int
  Lon : Int
instance : Inhabited T_api_Place := ⟨⟨0, 0⟩⟩

structure T_where_Area where
  Name : (List UInt8)
  Ring : (List T_api_Place)
instance : Inhabited T_where_Area := ⟨⟨[], []⟩⟩


/-! tintype/tintlaw2.first -/
noncomputable def Law_first_l1 (a0 : (List Int)) (next1 : ((Int) → Option (Int))) (x7_2 : Int) : Option (Int) :=
  cnd (decide (x7_2 < (a0.length : Int))) (bnd (gAt a0 x7_2) fun t9 =>
  cnd (decide (t9 ≠ 0)) (some t9) (bnd (gI (x7_2 + 1)) fun t14 =>
  next1 t14)) (some 0)
noncomputable def Law_first (a0 : (List Int)) : Option (Int) :=
  fix (fun next1 s => Law_first_l1 a0 next1 s) 0

/-! tintype/tintlaw2.unless -/
noncomputable def Law_unless (a0 : Bool) (a1 : Int) : Option (Int) :=
  cnd a0 (some 0) (some a1)

/-! slices.Equal[[]string,string] -/
noncomputable def slices_Equal_string_l1 (a0 : (List (List UInt8))) (a1 : (List (List UInt8))) (next1 : ((Int) → Option (Bool))) (x13_2 : Int) : Option (Bool) :=
  cnd (decide (x13_2 < (a0.length : Int))) (bnd (gAt a0 x13_2) fun t18 =>
  bnd (gAt a1 x13_2) fun t22 =>
  cnd (decide (t18 ≠ t22)) (some false) (bnd (gI (x13_2 + 1)) fun t25 =>
  next1 t25)) (some true)
noncomputable def slices_Equal_string (a0 : (List (List UInt8))) (a1 : (List (List UInt8))) : Option (Bool) :=
  cnd (decide ((a0.length : Int) ≠ (a1.length : Int))) (some false) (fix (fun next1 s => slices_Equal_string_l1 a0 a1 next1 s) 0)

/-! tintype/tintlaw2.listed[string] -/
noncomputable def Law_listed_string_j1 (a0 : (List (List UInt8))) (a1 : Int) (a3 : Int) (x2 : (List (List UInt8))) : Option (Bool) :=
  bnd (slices_Equal_string a0 x2) fun t13 =>
  cnd t13 (some (decide (a1 = a3))) (some false)
noncomputable def Law_listed_string (a0 : (List (List UInt8))) (a1 : Int) (a2 : (List (List UInt8))) (a3 : Int) : Option (Bool) :=
  cnd (decide (a3 ≠ 0)) (Law_listed_string_j1 a0 a1 a3 ([] : (List (List UInt8)))) (Law_listed_string_j1 a0 a1 a3 a2)

/-! tintype/where.IsName -/
noncomputable def where_IsName_j2 (x24_2 : Int) (next1 : ((Int) → Option (Bool))) : Option (Bool) :=
  bnd (gI (x24_2 + 1)) fun t49 =>
  next1 t49
noncomputable def where_IsName_l1 (a0 : (List UInt8)) (next1 : ((Int) → Option (Bool))) (x24_2 : Int) : Option (Bool) :=
  cnd (decide (x24_2 < (a0.length : Int))) (bnd (gOct a0 x24_2) fun t29 =>
  cnd (decide (97 ≤ t29)) (cnd (decide (t29 ≤ 122)) (where_IsName_j2 x24_2 next1) (cnd (decide (48 ≤ t29)) (cnd (decide (t29 ≤ 57)) (where_IsName_j2 x24_2 next1) (cnd (!(decide (t29 = 45))) (some false) (where_IsName_j2 x24_2 next1))) (cnd (!(decide (t29 = 45))) (some false) (where_IsName_j2 x24_2 next1)))) (cnd (decide (48 ≤ t29)) (cnd (decide (t29 ≤ 57)) (where_IsName_j2 x24_2 next1) (cnd (!(decide (t29 = 45))) (some false) (where_IsName_j2 x24_2 next1))) (cnd (!(decide (t29 = 45))) (some false) (where_IsName_j2 x24_2 next1)))) (some true)
noncomputable def where_IsName (a0 : (List UInt8)) : Option (Bool) :=
  cnd (decide (a0 = [])) (some false) (cnd (decide (40 < (a0.length : Int))) (some false) (bnd (gOct a0 0) fun t14 =>
  cnd (decide (t14 < 97)) (some false) (bnd (gOct a0 0) fun t19 =>
  cnd (decide (122 < t19)) (some false) (fix (fun next1 s => where_IsName_l1 a0 next1 s) 0))))

/-! tintype/where.outside -/
noncomputable def where_outside (a0 : Int) (a1 : Int) (a2 : Int) : Option (Bool) :=
  cnd (decide (a0 < a1)) (some true) (some (decide (a2 < a0)))

/-! tintype/where.isLat -/
noncomputable def where_isLat (a0 : Int) : Option (Bool) :=
  bnd (where_outside a0 (-90000000) 90000000) fun t4 =>
  some (!t4)

/-! tintype/where.isLon -/
noncomputable def where_isLon (a0 : Int) : Option (Bool) :=
  bnd (where_outside a0 (-180000000) 179999999) fun t4 =>
  some (!t4)

/-! tintype/where.CheckPlace -/
noncomputable def where_CheckPlace (a0 : T_api_Place) : Option (Int) :=
  bnd (where_isLat a0.Lat) fun t5 =>
  cnd (!t5) (some 2) (bnd (where_isLon a0.Lon) fun t10 =>
  cnd (!t10) (some 2) (some 0))

/-! tintype/where.checkPlaces -/
noncomputable def where_checkPlaces_l1 (a0 : (List T_api_Place)) (next1 : ((Int) → Option (Int))) (x8_2 : Int) : Option (Int) :=
  cnd (decide (x8_2 < (a0.length : Int))) (bnd (gAt a0 x8_2) fun t10 =>
  bnd (where_CheckPlace t10) fun t13 =>
  cnd (decide (t13 ≠ 0)) (some t13) (bnd (gI (x8_2 + 1)) fun t17 =>
  next1 t17)) (some 0)
noncomputable def where_checkPlaces (a0 : (List T_api_Place)) : Option (Int) :=
  fix (fun next1 s => where_checkPlaces_l1 a0 next1 s) 0

/-! tintype/where.CheckArea -/
noncomputable def where_CheckArea (a0 : T_where_Area) : Option (Int) :=
  bnd (where_IsName a0.Name) fun t5 =>
  cnd (!t5) (some 3) (bnd (where_outside (a0.Ring.length : Int) 3 100) fun t10 =>
  cnd t10 (some 1) (bnd (where_checkPlaces a0.Ring) fun t13 =>
  some t13))

/-! tintype/where.eastward -/
noncomputable def where_eastward (a0 : Int) (a1 : Int) : Option (Int) :=
  bnd (gI (a1 - a0)) fun t7 =>
  bnd (gRem t7 360000000) fun t8 =>
  bnd (gI (t8 + 360000000)) fun t9 =>
  bnd (gRem t9 360000000) fun t10 =>
  some t10

/-! tintype/where.short -/
noncomputable def where_short (a0 : Int) (a1 : Int) : Option (Int) :=
  bnd (where_eastward a0 a1) fun t8 =>
  cnd (decide (180000000 ≤ t8)) (bnd (gI (t8 - 360000000)) fun t12 =>
  some t12) (some t8)

/-! tintype/where.within -/
noncomputable def where_within_j2 (x27_2 : Int) (next1 : ((Bool × Int) → Option (Bool))) (x5_3 : Bool) : Option (Bool) :=
  bnd (gI (x27_2 + 1)) fun t107 =>
  next1 (x5_3, t107)
noncomputable def where_within_l1 (a0 : T_where_Area) (a1 : T_api_Place) (t17 : T_api_Place) (t23 : (Int)) (next1 : ((Bool × Int) → Option (Bool))) (x5_2 : Bool) (x27_2 : Int) : Option (Bool) :=
  cnd (decide (x27_2 < (a0.Ring.length : Int))) (bnd (gAt a0.Ring x27_2) fun t30 =>
  bnd (gI (x27_2 + (a0.Ring.length : Int))) fun t38 =>
  bnd (gI (t38 - 1)) fun t39 =>
  bnd (gRem t39 (a0.Ring.length : Int)) fun t43 =>
  bnd (gAt a0.Ring t43) fun t44 =>
  cnd (decide ((decide (a1.Lat < t44.Lat)) = (decide (a1.Lat < t30.Lat)))) (where_within_j2 x27_2 next1 x5_2) (bnd (where_short t17.Lon t44.Lon) fun t60 =>
  bnd (where_short t17.Lon t30.Lon) fun t64 =>
  bnd (gI (t23 - t60)) fun t67 =>
  bnd (gI (t30.Lat - t44.Lat)) fun t72 =>
  bnd (gI (t67 * t72)) fun t73 =>
  bnd (gI (t64 - t60)) fun t76 =>
  bnd (gI (a1.Lat - t44.Lat)) fun t81 =>
  bnd (gI (t76 * t81)) fun t82 =>
  cnd (decide (t44.Lat < t30.Lat)) (cnd (decide (t73 < t82)) (where_within_j2 x27_2 next1 (!x5_2)) (cnd (decide (t30.Lat < t44.Lat)) (cnd (decide (t82 < t73)) (where_within_j2 x27_2 next1 (!x5_2)) (where_within_j2 x27_2 next1 x5_2)) (where_within_j2 x27_2 next1 x5_2))) (cnd (decide (t30.Lat < t44.Lat)) (cnd (decide (t82 < t73)) (where_within_j2 x27_2 next1 (!x5_2)) (where_within_j2 x27_2 next1 x5_2)) (where_within_j2 x27_2 next1 x5_2)))) (some x5_2)
noncomputable def where_within (a0 : T_where_Area) (a1 : T_api_Place) : Option (Bool) :=
  bnd (gAt a0.Ring 0) fun t17 =>
  bnd (where_short t17.Lon a1.Lon) fun t23 =>
  fix (fun next1 s => where_within_l1 a0 a1 t17 t23 next1 s.1 s.2) (false, 0)

/-! tintype/where.Names -/
noncomputable def where_Names_j1 (l : (List (List UInt8))) : Option ((List (List UInt8)) × Int) :=
  bnd (gSortS l) fun t40 =>
  bnd (gCmpS t40) fun t42 =>
  some (t42, 0)
noncomputable def where_Names_j3 (x21_2 : Int) (next2 : ((Int × (List (List UInt8))) → Option ((List (List UInt8)) × Int))) (l_4 : (List (List UInt8))) : Option ((List (List UInt8)) × Int) :=
  bnd (gI (x21_2 + 1)) fun t38 =>
  next2 (t38, l_4)
noncomputable def where_Names_l2 (a0 : (List T_where_Area)) (a1 : T_api_Place) (next2 : ((Int × (List (List UInt8))) → Option ((List (List UInt8)) × Int))) (x21_2 : Int) (l_3 : (List (List UInt8))) : Option ((List (List UInt8)) × Int) :=
  cnd (decide (x21_2 < (a0.length : Int))) (bnd (gAt a0 x21_2) fun t23 =>
  bnd (where_CheckArea t23) fun t26 =>
  cnd (decide (t26 ≠ 0)) (some (([] : List (List UInt8)), t26)) (bnd (where_within t23 a1) fun t32 =>
  cnd t32 (bnd (gApp 16 l_3 ([t23.Name] : List (List UInt8))) fun l37 =>
  where_Names_j3 x21_2 next2 l37) (where_Names_j3 x21_2 next2 l_3))) (where_Names_j1 l_3)
noncomputable def where_Names (a0 : (List T_where_Area)) (a1 : T_api_Place) : Option ((List (List UInt8)) × Int) :=
  bnd (where_CheckPlace a1) fun t12 =>
  cnd (decide (t12 ≠ 0)) (some (([] : List (List UInt8)), t12)) (cnd (decide (100 < (a0.length : Int))) (some (([] : List (List UInt8)), 4)) (fix (fun next2 s => where_Names_l2 a0 a1 next2 s.1 s.2) (0, ([] : List (List UInt8)))))

/-! tintype/tintref2.PlaceFault -/
noncomputable def R_PlaceFault (a0 : T_api_Place) : Option (Int) :=
  cnd (decide (a0.Lat < (-90000000))) (some 2) (cnd (decide (90000000 < a0.Lat)) (some 2) (cnd (decide (a0.Lon < (-180000000))) (some 2) (cnd (decide (179999999 < a0.Lon)) (some 2) (some 0))))

/-! strings.trimLeftByte -/
noncomputable def strings_trimLeftByte_l1 (a1 : Int) (next1 : (((List UInt8)) → Option ((List UInt8)))) (x0_2 : (List UInt8)) : Option ((List UInt8)) :=
  cnd (decide (0 < (x0_2.length : Int))) (bnd (gOct x0_2 0) fun t10 =>
  cnd (decide (t10 = a1)) (bnd (gCut x0_2 1 x0_2.length) fun t15 =>
  next1 t15) (some x0_2)) (some x0_2)
noncomputable def strings_trimLeftByte (a0 : (List UInt8)) (a1 : Int) : Option ((List UInt8)) :=
  fix (fun next1 s => strings_trimLeftByte_l1 a1 next1 s) a0

/-! strings.trimRightByte -/
noncomputable def strings_trimRightByte_l1 (a1 : Int) (next1 : (((List UInt8)) → Option ((List UInt8)))) (x0_2 : (List UInt8)) : Option ((List UInt8)) :=
  cnd (decide (0 < (x0_2.length : Int))) (bnd (gI ((x0_2.length : Int) - 1)) fun t12 =>
  bnd (gOct x0_2 t12) fun t13 =>
  cnd (decide (t13 = a1)) (bnd (gI ((x0_2.length : Int) - 1)) fun t20 =>
  bnd (gCut x0_2 0 t20) fun t21 =>
  next1 t21) (some x0_2)) (some x0_2)
noncomputable def strings_trimRightByte (a0 : (List UInt8)) (a1 : Int) : Option ((List UInt8)) :=
  fix (fun next1 s => strings_trimRightByte_l1 a1 next1 s) a0

/-! strings.makeASCIISet -/
noncomputable def strings_makeASCIISet_j1 (m : (Nat → Bool)) : Option ((Nat → Bool) × Bool) :=
  some (m, true)
noncomputable def strings_makeASCIISet_l2 (a0 : (List UInt8)) (next2 : ((Int × (Nat → Bool)) → Option ((Nat → Bool) × Bool))) (x4_2 : Int) (m_3 : (Nat → Bool)) : Option ((Nat → Bool) × Bool) :=
  cnd (decide (x4_2 < (a0.length : Int))) (bnd (gOct a0 x4_2) fun t14 =>
  cnd (decide (128 ≤ t14)) (some (m_3, false)) (bnd (gIx 256 t14) fun k19 =>
  bnd (gI (x4_2 + 1)) fun t11 =>
  next2 (t11, (setA m_3 k19 true)))) (strings_makeASCIISet_j1 m_3)
noncomputable def strings_makeASCIISet (a0 : (List UInt8)) : Option ((Nat → Bool) × Bool) :=
  fix (fun next2 s => strings_makeASCIISet_l2 a0 next2 s.1 s.2) (0, (fun _ => false))

/-! (*strings.asciiSet).contains -/
noncomputable def strings_asciiSet_contains (a0 : (Nat → Bool)) (a1 : Int) : Option (Bool × (Nat → Bool)) :=
  bnd (gIx 256 a1) fun k8 =>
  some ((a0 k8), a0)

/-! strings.trimLeftASCII -/
noncomputable def strings_trimLeftASCII_l1 (next1 : (((List UInt8) × (Nat → Bool)) → Option ((List UInt8) × (Nat → Bool)))) (x0_2 : (List UInt8)) (m_2 : (Nat → Bool)) : Option ((List UInt8) × (Nat → Bool)) :=
  cnd (decide (0 < (x0_2.length : Int))) (bnd (gOct x0_2 0) fun t10 =>
  bnd (strings_asciiSet_contains m_2 t10) fun t11 =>
  cnd (!t11.1) (some (x0_2, t11.2)) (bnd (gCut x0_2 1 x0_2.length) fun t14 =>
  next1 (t14, t11.2))) (some (x0_2, m_2))
noncomputable def strings_trimLeftASCII (a0 : (List UInt8)) (a1 : (Nat → Bool)) : Option ((List UInt8) × (Nat → Bool)) :=
  fix (fun next1 s => strings_trimLeftASCII_l1 next1 s.1 s.2) (a0, a1)

/-! strings.trimRightASCII -/
noncomputable def strings_trimRightASCII_l1 (next1 : (((List UInt8) × (Nat → Bool)) → Option ((List UInt8) × (Nat → Bool)))) (x0_2 : (List UInt8)) (m_2 : (Nat → Bool)) : Option ((List UInt8) × (Nat → Bool)) :=
  cnd (decide (0 < (x0_2.length : Int))) (bnd (gI ((x0_2.length : Int) - 1)) fun t12 =>
  bnd (gOct x0_2 t12) fun t13 =>
  bnd (strings_asciiSet_contains m_2 t13) fun t14 =>
  cnd (!t14.1) (some (x0_2, t14.2)) (bnd (gI ((x0_2.length : Int) - 1)) fun t19 =>
  bnd (gCut x0_2 0 t19) fun t20 =>
  next1 (t20, t14.2))) (some (x0_2, m_2))
noncomputable def strings_trimRightASCII (a0 : (List UInt8)) (a1 : (Nat → Bool)) : Option ((List UInt8) × (Nat → Bool)) :=
  fix (fun next1 s => strings_trimRightASCII_l1 next1 s.1 s.2) (a0, a1)

/-! unicode/utf8.decodeRuneInStringSlow -/
noncomputable def unicode_utf8_decodeRuneInStringSlow (a0 : (List UInt8)) : Option (Int × Int) :=
  cnd (decide ((a0.length : Int) < 1)) (some (65533, 0)) (none)

/-! unicode/utf8.DecodeRuneInString -/
noncomputable def unicode_utf8_DecodeRuneInString_j1 (a0 : (List UInt8)) (x10 : Bool) : Option (Int × Int) :=
  cnd x10 (bnd (gOct a0 0) fun t12 =>
  bnd (gK (-2147483648) 2147483647 t12) fun t13 =>
  some (t13, 1)) (bnd (unicode_utf8_decodeRuneInStringSlow a0) fun t16 =>
  some (t16.1, t16.2))
noncomputable def unicode_utf8_DecodeRuneInString (a0 : (List UInt8)) : Option (Int × Int) :=
  cnd (decide (a0 ≠ [])) (bnd (gOct a0 0) fun t8 =>
  unicode_utf8_DecodeRuneInString_j1 a0 (decide (t8 < 128))) (unicode_utf8_DecodeRuneInString_j1 a0 false)

/-! internal/stringslite.IndexByte -/
noncomputable def internal_stringslite_IndexByte (a0 : (List UInt8)) (a1 : Int) : Option (Int) :=
  bnd (gIxB a0 a1) fun t7 =>
  some t7

/-! strings.IndexByte -/
noncomputable def strings_IndexByte (a0 : (List UInt8)) (a1 : Int) : Option (Int) :=
  bnd (internal_stringslite_IndexByte a0 a1) fun t7 =>
  some t7

/-! unicode/utf8.ValidRune -/
noncomputable def unicode_utf8_ValidRune_j1 (a0 : Int) (x3 : Bool) : Option (Bool) :=
  cnd x3 (some true) (cnd (decide (57343 < a0)) (cnd (decide (a0 ≤ 1114111)) (some true) (some false)) (some false))
noncomputable def unicode_utf8_ValidRune (a0 : Int) : Option (Bool) :=
  cnd (decide (0 ≤ a0)) (unicode_utf8_ValidRune_j1 a0 (decide (a0 < 55296))) (unicode_utf8_ValidRune_j1 a0 false)

/-! internal/bytealg.Cutover -/
noncomputable def internal_bytealg_Cutover (a0 : Int) : Option (Int) :=
  bnd (gI (a0 + 16)) fun t4 =>
  bnd (gQuo t4 8) fun t5 =>
  some t5

/-! strings.IndexRune -/
noncomputable def strings_IndexRune_l2 (a0 : (List UInt8)) (next2 : ((Nat) → Option (Int))) (k_2 : Nat) : Option (Int) :=
  cnd (decide (k_2 < a0.length)) (bnd (gNx a0 k_2) fun t176 =>
  cnd (decide (t176 = 65533)) (some ((k_2 : Nat) : Int)) (next2 (k_2 + 1))) (some (-1))
noncomputable def strings_IndexRune_j1 (a0 : (List UInt8)) (a1 : Int) (x160 : Bool) : Option (Int) :=
  cnd x160 (bnd (strings_IndexByte a0 (wU8 a1)) fun t170 =>
  some t170) (cnd (decide (a1 = 65533)) (fix (fun next2 s => strings_IndexRune_l2 a0 next2 s) 0) (bnd (unicode_utf8_ValidRune a1) fun t185 =>
  cnd (!t185) (some (-1)) (none)))
noncomputable def strings_IndexRune (a0 : (List UInt8)) (a1 : Int) : Option (Int) :=
  cnd (decide (0 ≤ a1)) (strings_IndexRune_j1 a0 a1 (decide (a1 < 128))) (strings_IndexRune_j1 a0 a1 false)

/-! strings.ContainsRune -/
noncomputable def strings_ContainsRune (a0 : (List UInt8)) (a1 : Int) : Option (Bool) :=
  bnd (strings_IndexRune a0 a1) fun t7 =>
  some (decide (0 ≤ t7))

/-! strings.trimLeftUnicode -/
noncomputable def strings_trimLeftUnicode_l1 (a1 : (List UInt8)) (next1 : (((List UInt8)) → Option ((List UInt8)))) (x0_2 : (List UInt8)) : Option ((List UInt8)) :=
  cnd (decide (0 < (x0_2.length : Int))) (bnd (unicode_utf8_DecodeRuneInString x0_2) fun t12 =>
  bnd (strings_ContainsRune a1 t12.1) fun t17 =>
  cnd (!t17) (some x0_2) (bnd (gCut x0_2 t12.2 x0_2.length) fun t21 =>
  next1 t21)) (some x0_2)
noncomputable def strings_trimLeftUnicode (a0 : (List UInt8)) (a1 : (List UInt8)) : Option ((List UInt8)) :=
  fix (fun next1 s => strings_trimLeftUnicode_l1 a1 next1 s) a0

/-! unicode/utf8.RuneStart -/
noncomputable def unicode_utf8_RuneStart (a0 : Int) : Option (Bool) :=
  some (decide ((wU8 (bAnd 8 a0 192)) ≠ 128))

/-! unicode/utf8.DecodeLastRuneInString -/
noncomputable def unicode_utf8_DecodeLastRuneInString_j2 (a0 : (List UInt8)) (x5_2 : Int) : Option (Int × Int) :=
  bnd (gCut a0 x5_2 (a0.length : Int)) fun t40 =>
  bnd (unicode_utf8_DecodeRuneInString t40) fun t41 =>
  bnd (gI (x5_2 + t41.2)) fun t46 =>
  cnd (decide (t46 ≠ (a0.length : Int))) (some (65533, 1)) (some (t41.1, t41.2))
noncomputable def unicode_utf8_DecodeLastRuneInString_j1 (a0 : (List UInt8)) (x5 : Int) : Option (Int × Int) :=
  cnd (decide (x5 < 0)) (unicode_utf8_DecodeLastRuneInString_j2 a0 0) (unicode_utf8_DecodeLastRuneInString_j2 a0 x5)
noncomputable def unicode_utf8_DecodeLastRuneInString_l3 (a0 : (List UInt8)) (t21 : Int) (next3 : ((Int) → Option (Int × Int))) (x5_4 : Int) : Option (Int × Int) :=
  cnd (decide ((max t21 0) ≤ x5_4)) (bnd (gOct a0 x5_4) fun t32 =>
  bnd (unicode_utf8_RuneStart t32) fun t33 =>
  cnd t33 (unicode_utf8_DecodeLastRuneInString_j1 a0 x5_4) (bnd (gI (x5_4 - 1)) fun t29 =>
  next3 t29)) (unicode_utf8_DecodeLastRuneInString_j1 a0 x5_4)
noncomputable def unicode_utf8_DecodeLastRuneInString (a0 : (List UInt8)) : Option (Int × Int) :=
  cnd (decide ((a0.length : Int) = 0)) (some (65533, 0)) (bnd (gI ((a0.length : Int) - 1)) fun t12 =>
  bnd (gOct a0 t12) fun t15 =>
  bnd (gK (-2147483648) 2147483647 t15) fun t16 =>
  cnd (decide (t16 < 128)) (some (t16, 1)) (bnd (gI ((a0.length : Int) - 4)) fun t21 =>
  bnd (gI (t12 - 1)) fun t24 =>
  fix (fun next3 s => unicode_utf8_DecodeLastRuneInString_l3 a0 t21 next3 s) t24))

/-! strings.trimRightUnicode -/
noncomputable def strings_trimRightUnicode_j2 (a1 : (List UInt8)) (x0_2 : (List UInt8)) (next1 : (((List UInt8)) → Option ((List UInt8)))) (x5 : Int) (x6 : Int) : Option ((List UInt8)) :=
  bnd (strings_ContainsRune a1 x5) fun t25 =>
  cnd (!t25) (some x0_2) (bnd (gI ((x0_2.length : Int) - x6)) fun t31 =>
  bnd (gCut x0_2 0 t31) fun t32 =>
  next1 t32)
noncomputable def strings_trimRightUnicode_l1 (a1 : (List UInt8)) (next1 : (((List UInt8)) → Option ((List UInt8)))) (x0_2 : (List UInt8)) : Option ((List UInt8)) :=
  cnd (decide (0 < (x0_2.length : Int))) (bnd (gI ((x0_2.length : Int) - 1)) fun t13 =>
  bnd (gOct x0_2 t13) fun t14 =>
  bnd (gK (-2147483648) 2147483647 t14) fun t15 =>
  cnd (decide (128 ≤ t15)) (bnd (unicode_utf8_DecodeLastRuneInString x0_2) fun t20 =>
  strings_trimRightUnicode_j2 a1 x0_2 next1 t20.1 t20.2) (strings_trimRightUnicode_j2 a1 x0_2 next1 t15 1)) (some x0_2)
noncomputable def strings_trimRightUnicode (a0 : (List UInt8)) (a1 : (List UInt8)) : Option ((List UInt8)) :=
  fix (fun next1 s => strings_trimRightUnicode_l1 a1 next1 s) a0

/-! strings.Trim -/
noncomputable def strings_Trim_j1 (a0 : (List UInt8)) (a1 : (List UInt8)) : Option ((List UInt8)) :=
  bnd (strings_makeASCIISet a1) fun t31 =>
  cnd t31.2 (bnd (strings_trimRightASCII a0 t31.1) fun t36 =>
  bnd (strings_trimLeftASCII t36.1 t36.2) fun t37 =>
  some t37.1) (bnd (strings_trimRightUnicode a0 a1) fun t40 =>
  bnd (strings_trimLeftUnicode t40 a1) fun t42 =>
  some t42)
noncomputable def strings_Trim (a0 : (List UInt8)) (a1 : (List UInt8)) : Option ((List UInt8)) :=
  cnd (decide (a0 = [])) (some a0) (cnd (decide (a1 = [])) (some a0) (cnd (decide ((a1.length : Int) = 1)) (bnd (gOct a1 0) fun t19 =>
  cnd (decide (t19 < 128)) (bnd (gOct a1 0) fun t24 =>
  bnd (strings_trimRightByte a0 t24) fun t25 =>
  bnd (gOct a1 0) fun t27 =>
  bnd (strings_trimLeftByte t25 t27) fun t28 =>
  some t28) (strings_Trim_j1 a0 a1)) (strings_Trim_j1 a0 a1)))

/-! tintype/tintref2.NameOk -/
noncomputable def R_NameOk (a0 : (List UInt8)) : Option (Bool) :=
  cnd (decide (a0 ≠ [])) (cnd (decide ((a0.length : Int) ≤ 40)) (bnd (gOct a0 0) fun t12 =>
  cnd (decide (97 ≤ t12)) (bnd (gOct a0 0) fun t17 =>
  cnd (decide (t17 ≤ 122)) (bnd (strings_Trim a0 [97, 98, 99, 100, 101, 102, 103, 104, 105, 106, 107, 108, 109, 110, 111, 112, 113, 114, 115, 116, 117, 118, 119, 120, 121, 122, 48, 49, 50, 51, 52, 53, 54, 55, 56, 57, 45]) fun t22 =>
  some (decide (t22 = []))) (some false)) (some false)) (some false)) (some false)

/-! tintype/tintref2.placesFault -/
noncomputable def R_placesFault_l1 (a0 : (List T_api_Place)) (next1 : ((Int) → Option (Int))) (x8_2 : Int) : Option (Int) :=
  cnd (decide (x8_2 < (a0.length : Int))) (bnd (gAt a0 x8_2) fun t10 =>
  bnd (R_PlaceFault t10) fun t13 =>
  cnd (decide (t13 ≠ 0)) (some t13) (bnd (gI (x8_2 + 1)) fun t17 =>
  next1 t17)) (some 0)
noncomputable def R_placesFault (a0 : (List T_api_Place)) : Option (Int) :=
  fix (fun next1 s => R_placesFault_l1 a0 next1 s) 0

/-! tintype/tintref2.AreaFault -/
noncomputable def R_AreaFault (a0 : T_where_Area) : Option (Int) :=
  bnd (R_NameOk a0.Name) fun t6 =>
  cnd (!t6) (some 3) (cnd (decide ((a0.Ring.length : Int) < 3)) (some 1) (cnd (decide (100 < (a0.Ring.length : Int))) (some 1) (bnd (R_placesFault a0.Ring) fun t21 =>
  some t21)))

/-! tintype/where.Within -/
noncomputable def where_Within (a0 : T_where_Area) (a1 : T_api_Place) : Option (Bool × Int) :=
  bnd (where_CheckArea a0) fun t9 =>
  cnd (decide (t9 ≠ 0)) (some (false, t9)) (bnd (where_CheckPlace a1) fun t14 =>
  cnd (decide (t14 ≠ 0)) (some (false, t14)) (bnd (where_within a0 a1) fun t20 =>
  some (t20, 0)))

/-! tintype/tintref2.eastward -/
noncomputable def R_eastward (a0 : Int) (a1 : Int) : Option (Int) :=
  bnd (gI (a1 - a0)) fun t8 =>
  cnd (decide (t8 < 0)) (bnd (gI (t8 + 360000000)) fun t12 =>
  some t12) (some t8)

/-! tintype/tintref2.short -/
noncomputable def R_short (a0 : Int) (a1 : Int) : Option (Int) :=
  bnd (R_eastward a0 a1) fun t8 =>
  cnd (decide (180000000 ≤ t8)) (bnd (gI (t8 - 360000000)) fun t12 =>
  some t12) (some t8)

/-! tintype/tintref2.WithinOf$1 -/
noncomputable def R_WithinOf_1 (q0 : T_where_Area) (a0 : T_api_Place) : Option (Int) :=
  bnd (gAt q0.Ring 0) fun t6 =>
  bnd (R_short t6.Lon a0.Lon) fun t11 =>
  some t11

/-! tintype/tintref2.WithinOf -/
noncomputable def R_WithinOf_j1 (x6 : Int) : Option (Bool) :=
  bnd (gRem x6 2) fun t94 =>
  some (decide (t94 = 1))
noncomputable def R_WithinOf_j3 (x16_2 : Int) (next2 : ((Int × Int) → Option (Bool))) (x6_4 : Int) : Option (Bool) :=
  bnd (gI (x16_2 + 1)) fun t92 =>
  next2 (x6_4, t92)
noncomputable def R_WithinOf_l2 (a0 : T_where_Area) (a1 : T_api_Place) (next2 : ((Int × Int) → Option (Bool))) (x6_3 : Int) (x16_2 : Int) : Option (Bool) :=
  cnd (decide (x16_2 < (a0.Ring.length : Int))) (bnd (gAt a0.Ring x16_2) fun t19 =>
  bnd (gI (x16_2 + 1)) fun t24 =>
  bnd (gRem t24 (a0.Ring.length : Int)) fun t28 =>
  bnd (gAt a0.Ring t28) fun t29 =>
  cnd (decide ((decide (a1.Lat < t19.Lat)) = (decide (a1.Lat < t29.Lat)))) (R_WithinOf_j3 x16_2 next2 x6_3) (bnd ((R_WithinOf_1 a0) a1) fun t44 =>
  bnd ((R_WithinOf_1 a0) t19) fun t47 =>
  bnd (gI (t44 - t47)) fun t48 =>
  bnd (gI (t29.Lat - t19.Lat)) fun t53 =>
  bnd (gI (t48 * t53)) fun t54 =>
  bnd ((R_WithinOf_1 a0) t29) fun t57 =>
  bnd ((R_WithinOf_1 a0) t19) fun t60 =>
  bnd (gI (t57 - t60)) fun t61 =>
  bnd (gI (a1.Lat - t19.Lat)) fun t66 =>
  bnd (gI (t61 * t66)) fun t67 =>
  cnd (decide (t19.Lat < t29.Lat)) (cnd (decide (t54 < t67)) (bnd (gI (x6_3 + 1)) fun t91 =>
  R_WithinOf_j3 x16_2 next2 t91) (cnd (decide (t29.Lat < t19.Lat)) (cnd (decide (t67 < t54)) (bnd (gI (x6_3 + 1)) fun t91_2 =>
  R_WithinOf_j3 x16_2 next2 t91_2) (R_WithinOf_j3 x16_2 next2 x6_3)) (R_WithinOf_j3 x16_2 next2 x6_3))) (cnd (decide (t29.Lat < t19.Lat)) (cnd (decide (t67 < t54)) (bnd (gI (x6_3 + 1)) fun t91_3 =>
  R_WithinOf_j3 x16_2 next2 t91_3) (R_WithinOf_j3 x16_2 next2 x6_3)) (R_WithinOf_j3 x16_2 next2 x6_3)))) (R_WithinOf_j1 x6_3)
noncomputable def R_WithinOf (a0 : T_where_Area) (a1 : T_api_Place) : Option (Bool) :=
  fix (fun next2 s => R_WithinOf_l2 a0 a1 next2 s.1 s.2) (0, 0)

/-! tintype/tintlaw2.told[bool] -/
noncomputable def Law_told_bool_j1 (a0 : Bool) (a1 : Int) (a3 : Int) (x2 : Bool) : Option (Bool) :=
  cnd (decide (a0 = x2)) (some (decide (a1 = a3))) (some false)
noncomputable def Law_told_bool (a0 : Bool) (a1 : Int) (a2 : Bool) (a3 : Int) : Option (Bool) :=
  cnd (decide (a3 ≠ 0)) (Law_told_bool_j1 a0 a1 a3 false) (Law_told_bool_j1 a0 a1 a3 a2)

/-! tintype/tintlaw2.WhereAreas -/
noncomputable def Law_WhereAreas_j1 (t19 : ((List (List UInt8)) × Int)) (x7 : Int) (l : (List (List UInt8))) : Option (Bool) :=
  bnd (gSortS l) fun t78 =>
  bnd (gCmpS t78) fun t82 =>
  bnd (Law_listed_string t19.1 t19.2 t82 x7) fun t84 =>
  some t84
noncomputable def Law_WhereAreas_j3 (x32_2 : Int) (next2 : ((Int × Int × (List (List UInt8))) → Option (Bool))) (x7_4 : Int) (l_4 : (List (List UInt8))) : Option (Bool) :=
  bnd (gI (x32_2 + 1)) fun t76 =>
  next2 (x7_4, t76, l_4)
noncomputable def Law_WhereAreas_j4 (x32_2 : Int) (l_3 : (List (List UInt8))) (next2 : ((Int × Int × (List (List UInt8))) → Option (Bool))) (t34 : T_where_Area) (t41 : (Int)) (t49 : (Bool × Int)) (t56 : (Int)) (x15 : Bool) : Option (Bool) :=
  bnd (Law_told_bool t49.1 t49.2 x15 t56) fun t68 =>
  cnd (!t68) (some false) (cnd x15 (bnd (gApp 16 l_3 ([t34.Name] : List (List UInt8))) fun l75 =>
  Law_WhereAreas_j3 x32_2 next2 t41 l75) (Law_WhereAreas_j3 x32_2 next2 t41 l_3))
noncomputable def Law_WhereAreas_l2 (a0 : (List T_where_Area)) (a1 : T_api_Place) (t19 : ((List (List UInt8)) × Int)) (next2 : ((Int × Int × (List (List UInt8))) → Option (Bool))) (x7_3 : Int) (x32_2 : Int) (l_3 : (List (List UInt8))) : Option (Bool) :=
  cnd (decide (x32_2 < (a0.length : Int))) (bnd (gAt a0 x32_2) fun t34 =>
  bnd (R_AreaFault t34) fun t37 =>
  bnd (Law_first ([x7_3, t37] : List Int)) fun t41 =>
  bnd (where_CheckArea t34) fun t43 =>
  cnd (decide (t43 ≠ t37)) (some false) (bnd (where_Within t34 a1) fun t49 =>
  bnd (R_PlaceFault a1) fun t54 =>
  bnd (Law_first ([t37, t54] : List Int)) fun t56 =>
  cnd (decide (t56 = 0)) (bnd (R_WithinOf t34 a1) fun t62 =>
  Law_WhereAreas_j4 x32_2 l_3 next2 t34 t41 t49 t56 t62) (Law_WhereAreas_j4 x32_2 l_3 next2 t34 t41 t49 t56 false))) (Law_WhereAreas_j1 t19 x7_3 l_3)
noncomputable def Law_WhereAreas (a0 : (List T_where_Area)) (a1 : T_api_Place) : Option (Bool) :=
  bnd (where_Names a0 a1) fun t19 =>
  bnd (R_PlaceFault a1) fun t23 =>
  bnd (Law_unless (decide ((a0.length : Int) ≤ 100)) 4) fun t27 =>
  bnd (Law_first ([t23, t27] : List Int)) fun t29 =>
  fix (fun next2 s => Law_WhereAreas_l2 a0 a1 t19 next2 s.1 s.2.1 s.2.2) (t29, 0, ([] : List (List UInt8)))

end Go.M
