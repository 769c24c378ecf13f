/- Places: the models, printed by our generator from the compiled program. Conditions: none. -/
import Derived.Test.YtamacljplianfaaDoorMd5
namespace Go.M
open Go.Md
set_option maxRecDepth 100000
set_option linter.unusedVariables false

structure T_api_Place where
  Lat : Int
  Lon : Int
instance : Inhabited T_api_Place := ⟨⟨0, 0⟩⟩

def eq_api_Place (x y : T_api_Place) : Bool := decide (x.Lat = y.Lat ∧ x.Lon = y.Lon)

/-! tintype/tintref2.PlaceFault -/
noncomputable def R_PlaceFault (a0 : T_api_Place) : Option (Int) :=
  cnd (decide (a0.Lat < (-90000000))) (some 2) (cnd (decide (90000000 < a0.Lat)) (some 2) (cnd (decide (a0.Lon < (-180000000))) (some 2) (cnd (decide (179999999 < a0.Lon)) (some 2) (some 0))))

/-! tintype/where.outside -/
noncomputable def where_outside (a0 : Int) (a1 : Int) (a2 : Int) : Option (Bool) :=
  cnd (decide (a0 < a1)) (some true) (some (decide (a2 < a0)))

/-! tintype/where.isLat -/
noncomputable def where_isLat (a0 : Int) : Option (Bool) :=
  bnd (where_outside a0 (-90000000) 90000000) fun t4 =>
  some (!t4)

/-! tintype/where.isLon -/
noncomputable def where_isLon (a0 : Int) : Option (Bool) :=
  bnd (where_outside a0 (-180000000) 179999999) fun t4 =>
  some (!t4)

/-! tintype/where.CheckPlace -/
noncomputable def where_CheckPlace (a0 : T_api_Place) : Option (Int) :=
  bnd (where_isLat a0.Lat) fun t5 =>
  cnd (!t5) (some 2) (bnd (where_isLon a0.Lon) fun t10 =>
  cnd (!t10) (some 2) (some 0))

/-! tintype/where.degrees -/
noncomputable def where_degrees_j1 (x0 : Int) (x3 : (List UInt8)) : Option ((List UInt8)) :=
  bnd (gRem x0 1000000) fun t10 =>
  bnd (gItoa t10) fun t11 =>
  bnd (gQuo x0 1000000) fun t14 =>
  bnd (gItoa t14) fun t15 =>
  bnd (gCat x3 t15) fun t16 =>
  bnd (gCat t16 [46]) fun t17 =>
  bnd (gI (6 - (t11.length : Int))) fun t20 =>
  bnd (gRep [48] t20) fun t21 =>
  bnd (gCat t17 t21) fun t22 =>
  bnd (gCat t22 t11) fun t24 =>
  some t24
noncomputable def where_degrees (a0 : Int) : Option ((List UInt8)) :=
  cnd (decide (a0 < 0)) (bnd (gI (-a0)) fun t8 =>
  where_degrees_j1 t8 [45]) (where_degrees_j1 a0 [])

/-! tintype/where.PlaceText -/
noncomputable def where_PlaceText (a0 : T_api_Place) : Option ((List UInt8) × Int) :=
  bnd (where_CheckPlace a0) fun t6 =>
  cnd (decide (t6 ≠ 0)) (some ([], t6)) (bnd (where_degrees a0.Lat) fun t12 =>
  bnd (gCat t12 [32]) fun t13 =>
  bnd (where_degrees a0.Lon) fun t16 =>
  bnd (gCat t13 t16) fun t17 =>
  some (t17, 0))

/-! internal/stringslite.IndexByte -/
noncomputable def internal_stringslite_IndexByte (a0 : (List UInt8)) (a1 : Int) : Option (Int) :=
  bnd (gIxB a0 a1) fun t7 =>
  some t7

/-! internal/bytealg.Cutover -/
noncomputable def internal_bytealg_Cutover (a0 : Int) : Option (Int) :=
  bnd (gI (a0 + 16)) fun t4 =>
  bnd (gQuo t4 8) fun t5 =>
  some t5

/-! internal/bytealg.hashStr[string] -/
noncomputable def internal_bytealg_hashStr_string_j2 (x4 : Int) (x6 : Int) : Option (Int × Int) :=
  some (x4, x6)
noncomputable def internal_bytealg_hashStr_string_j4 (x7_2 : Int) (x8_2 : Int) (next3 : ((Int × Int × Int) → Option (Int × Int))) (x6_4 : Int) : Option (Int × Int) :=
  bnd (gShr 64 x8_2 1) fun t27 =>
  next3 (x6_4, (wU32 (x7_2 * x7_2)), t27)
noncomputable def internal_bytealg_hashStr_string_l3 (x4 : Int) (next3 : ((Int × Int × Int) → Option (Int × Int))) (x6_3 : Int) (x7_2 : Int) (x8_2 : Int) : Option (Int × Int) :=
  cnd (decide (0 < x8_2)) (cnd (decide ((wI64 (bAnd 64 x8_2 1)) ≠ 0)) (internal_bytealg_hashStr_string_j4 x7_2 x8_2 next3 (wU32 (x6_3 * x7_2))) (internal_bytealg_hashStr_string_j4 x7_2 x8_2 next3 x6_3)) (internal_bytealg_hashStr_string_j2 x4 x6_3)
noncomputable def internal_bytealg_hashStr_string_j1 (a0 : (List UInt8)) (x4 : Int) : Option (Int × Int) :=
  fix (fun next3 s => internal_bytealg_hashStr_string_l3 x4 next3 s.1 s.2.1 s.2.2) (1, 16777619, (a0.length : Int))
noncomputable def internal_bytealg_hashStr_string_l5 (a0 : (List UInt8)) (next5 : ((Int × Int) → Option (Int × Int))) (x4_3 : Int) (x5_2 : Int) : Option (Int × Int) :=
  cnd (decide (x5_2 < (a0.length : Int))) (bnd (gOct a0 x5_2) fun t19 =>
  bnd (gK 0 4294967295 t19) fun t20 =>
  bnd (gI (x5_2 + 1)) fun t14 =>
  next5 ((wU32 ((wU32 (x4_3 * 16777619)) + t20)), t14)) (internal_bytealg_hashStr_string_j1 a0 x4_3)
noncomputable def internal_bytealg_hashStr_string (a0 : (List UInt8)) : Option (Int × Int) :=
  fix (fun next5 s => internal_bytealg_hashStr_string_l5 a0 next5 s.1 s.2) (0, 0)

/-! internal/bytealg.IndexRabinKarp[string] -/
noncomputable def internal_bytealg_IndexRabinKarp_string_l3 (a0 : (List UInt8)) (a1 : (List UInt8)) (t13 : (Int × Int)) (next3 : ((Int × Int) → Option (Int))) (x8_3 : Int) (x10_2 : Int) : Option (Int) :=
  cnd (decide (x10_2 < (a0.length : Int))) (bnd (gOct a0 x10_2) fun t50 =>
  bnd (gK 0 4294967295 t50) fun t51 =>
  bnd (gI (x10_2 - (a1.length : Int))) fun t58 =>
  bnd (gOct a0 t58) fun t59 =>
  bnd (gK 0 4294967295 t59) fun t60 =>
  bnd (gI (x10_2 + 1)) fun t64 =>
  cnd (decide ((wU32 ((wU32 ((wU32 (x8_3 * 16777619)) + t51)) - (wU32 (t13.2 * t60)))) = t13.1)) (bnd (gI (t64 - (a1.length : Int))) fun t72 =>
  bnd (gCut a0 t72 t64) fun t74 =>
  cnd (decide (t74 = a1)) (bnd (gI (t64 - (a1.length : Int))) fun t80 =>
  some t80) (next3 ((wU32 ((wU32 ((wU32 (x8_3 * 16777619)) + t51)) - (wU32 (t13.2 * t60)))), t64))) (next3 ((wU32 ((wU32 ((wU32 (x8_3 * 16777619)) + t51)) - (wU32 (t13.2 * t60)))), t64))) (some (-1))
noncomputable def internal_bytealg_IndexRabinKarp_string_j2 (a0 : (List UInt8)) (a1 : (List UInt8)) (t13 : (Int × Int)) (x8 : Int) : Option (Int) :=
  fix (fun next3 s => internal_bytealg_IndexRabinKarp_string_l3 a0 a1 t13 next3 s.1 s.2) (x8, (a1.length : Int))
noncomputable def internal_bytealg_IndexRabinKarp_string_j1 (a0 : (List UInt8)) (a1 : (List UInt8)) (t13 : (Int × Int)) (x8 : Int) : Option (Int) :=
  cnd (decide (x8 = t13.1)) (bnd (gCut a0 0 (a1.length : Int)) fun t36 =>
  cnd (decide (t36 = a1)) (some 0) (internal_bytealg_IndexRabinKarp_string_j2 a0 a1 t13 x8)) (internal_bytealg_IndexRabinKarp_string_j2 a0 a1 t13 x8)
noncomputable def internal_bytealg_IndexRabinKarp_string_l4 (a0 : (List UInt8)) (a1 : (List UInt8)) (t13 : (Int × Int)) (next4 : ((Int × Int) → Option (Int))) (x8_5 : Int) (x9_2 : Int) : Option (Int) :=
  cnd (decide (x9_2 < (a1.length : Int))) (bnd (gOct a0 x9_2) fun t27 =>
  bnd (gK 0 4294967295 t27) fun t28 =>
  bnd (gI (x9_2 + 1)) fun t22 =>
  next4 ((wU32 ((wU32 (x8_5 * 16777619)) + t28)), t22)) (internal_bytealg_IndexRabinKarp_string_j1 a0 a1 t13 x8_5)
noncomputable def internal_bytealg_IndexRabinKarp_string (a0 : (List UInt8)) (a1 : (List UInt8)) : Option (Int) :=
  bnd (internal_bytealg_hashStr_string a1) fun t13 =>
  fix (fun next4 s => internal_bytealg_IndexRabinKarp_string_l4 a0 a1 t13 next4 s.1 s.2) (0, 0)

/-! internal/stringslite.Index -/
noncomputable def internal_stringslite_Index (a0 : (List UInt8)) (a1 : (List UInt8)) : Option (Int) :=
  cnd (decide ((a1.length : Int) = 0)) (some 0) (cnd (decide (a1 = a0)) (some 0) (cnd (decide ((a1.length : Int) = 1)) (bnd (gOct a1 0) fun t29 =>
  bnd (internal_stringslite_IndexByte a0 t29) fun t30 =>
  some t30) (cnd (decide ((a0.length : Int) ≤ (a1.length : Int))) (some (-1)) (none))))

/-! internal/stringslite.Cut -/
noncomputable def internal_stringslite_Cut (a0 : (List UInt8)) (a1 : (List UInt8)) : Option ((List UInt8) × (List UInt8) × Bool) :=
  bnd (internal_stringslite_Index a0 a1) fun t10 =>
  cnd (decide (0 ≤ t10)) (bnd (gCut a0 0 t10) fun t15 =>
  bnd (gI (t10 + (a1.length : Int))) fun t20 =>
  bnd (gCut a0 t20 a0.length) fun t21 =>
  some (t15, t21, true)) (some (a0, [], false))

/-! strings.Cut -/
noncomputable def strings_Cut (a0 : (List UInt8)) (a1 : (List UInt8)) : Option ((List UInt8) × (List UInt8) × Bool) :=
  bnd (internal_stringslite_Cut a0 a1) fun t9 =>
  some (t9.1, t9.2.1, t9.2.2)

/-! strings.trimLeftByte -/
noncomputable def strings_trimLeftByte_l1 (a1 : Int) (next1 : (((List UInt8)) → Option ((List UInt8)))) (x0_2 : (List UInt8)) : Option ((List UInt8)) :=
  cnd (decide (0 < (x0_2.length : Int))) (bnd (gOct x0_2 0) fun t10 =>
  cnd (decide (t10 = a1)) (bnd (gCut x0_2 1 x0_2.length) fun t15 =>
  next1 t15) (some x0_2)) (some x0_2)
noncomputable def strings_trimLeftByte (a0 : (List UInt8)) (a1 : Int) : Option ((List UInt8)) :=
  fix (fun next1 s => strings_trimLeftByte_l1 a1 next1 s) a0

/-! strings.trimRightByte -/
noncomputable def strings_trimRightByte_l1 (a1 : Int) (next1 : (((List UInt8)) → Option ((List UInt8)))) (x0_2 : (List UInt8)) : Option ((List UInt8)) :=
  cnd (decide (0 < (x0_2.length : Int))) (bnd (gI ((x0_2.length : Int) - 1)) fun t12 =>
  bnd (gOct x0_2 t12) fun t13 =>
  cnd (decide (t13 = a1)) (bnd (gI ((x0_2.length : Int) - 1)) fun t20 =>
  bnd (gCut x0_2 0 t20) fun t21 =>
  next1 t21) (some x0_2)) (some x0_2)
noncomputable def strings_trimRightByte (a0 : (List UInt8)) (a1 : Int) : Option ((List UInt8)) :=
  fix (fun next1 s => strings_trimRightByte_l1 a1 next1 s) a0

/-! strings.makeASCIISet -/
noncomputable def strings_makeASCIISet_j1 (m : (Nat → Bool)) : Option ((Nat → Bool) × Bool) :=
  some (m, true)
noncomputable def strings_makeASCIISet_l2 (a0 : (List UInt8)) (next2 : ((Int × (Nat → Bool)) → Option ((Nat → Bool) × Bool))) (x4_2 : Int) (m_3 : (Nat → Bool)) : Option ((Nat → Bool) × Bool) :=
  cnd (decide (x4_2 < (a0.length : Int))) (bnd (gOct a0 x4_2) fun t14 =>
  cnd (decide (128 ≤ t14)) (some (m_3, false)) (bnd (gIx 256 t14) fun k19 =>
  bnd (gI (x4_2 + 1)) fun t11 =>
  next2 (t11, (setA m_3 k19 true)))) (strings_makeASCIISet_j1 m_3)
noncomputable def strings_makeASCIISet (a0 : (List UInt8)) : Option ((Nat → Bool) × Bool) :=
  fix (fun next2 s => strings_makeASCIISet_l2 a0 next2 s.1 s.2) (0, (fun _ => false))

/-! (*strings.asciiSet).contains -/
noncomputable def strings_asciiSet_contains (a0 : (Nat → Bool)) (a1 : Int) : Option (Bool × (Nat → Bool)) :=
  bnd (gIx 256 a1) fun k8 =>
  some ((a0 k8), a0)

/-! strings.trimLeftASCII -/
noncomputable def strings_trimLeftASCII_l1 (next1 : (((List UInt8) × (Nat → Bool)) → Option ((List UInt8) × (Nat → Bool)))) (x0_2 : (List UInt8)) (m_2 : (Nat → Bool)) : Option ((List UInt8) × (Nat → Bool)) :=
  cnd (decide (0 < (x0_2.length : Int))) (bnd (gOct x0_2 0) fun t10 =>
  bnd (strings_asciiSet_contains m_2 t10) fun t11 =>
  cnd (!t11.1) (some (x0_2, t11.2)) (bnd (gCut x0_2 1 x0_2.length) fun t14 =>
  next1 (t14, t11.2))) (some (x0_2, m_2))
noncomputable def strings_trimLeftASCII (a0 : (List UInt8)) (a1 : (Nat → Bool)) : Option ((List UInt8) × (Nat → Bool)) :=
  fix (fun next1 s => strings_trimLeftASCII_l1 next1 s.1 s.2) (a0, a1)

/-! strings.trimRightASCII -/
noncomputable def strings_trimRightASCII_l1 (next1 : (((List UInt8) × (Nat → Bool)) → Option ((List UInt8) × (Nat → Bool)))) (x0_2 : (List UInt8)) (m_2 : (Nat → Bool)) : Option ((List UInt8) × (Nat → Bool)) :=
  cnd (decide (0 < (x0_2.length : Int))) (bnd (gI ((x0_2.length : Int) - 1)) fun t12 =>
  bnd (gOct x0_2 t12) fun t13 =>
  bnd (strings_asciiSet_contains m_2 t13) fun t14 =>
  cnd (!t14.1) (some (x0_2, t14.2)) (bnd (gI ((x0_2.length : Int) - 1)) fun t19 =>
  bnd (gCut x0_2 0 t19) fun t20 =>
  next1 (t20, t14.2))) (some (x0_2, m_2))
noncomputable def strings_trimRightASCII (a0 : (List UInt8)) (a1 : (Nat → Bool)) : Option ((List UInt8) × (Nat → Bool)) :=
  fix (fun next1 s => strings_trimRightASCII_l1 next1 s.1 s.2) (a0, a1)

/-! unicode/utf8.decodeRuneInStringSlow -/
noncomputable def unicode_utf8_decodeRuneInStringSlow (a0 : (List UInt8)) : Option (Int × Int) :=
  cnd (decide ((a0.length : Int) < 1)) (some (65533, 0)) (none)

/-! unicode/utf8.DecodeRuneInString -/
noncomputable def unicode_utf8_DecodeRuneInString_j1 (a0 : (List UInt8)) (x10 : Bool) : Option (Int × Int) :=
  cnd x10 (bnd (gOct a0 0) fun t12 =>
  bnd (gK (-2147483648) 2147483647 t12) fun t13 =>
  some (t13, 1)) (bnd (unicode_utf8_decodeRuneInStringSlow a0) fun t16 =>
  some (t16.1, t16.2))
noncomputable def unicode_utf8_DecodeRuneInString (a0 : (List UInt8)) : Option (Int × Int) :=
  cnd (decide (a0 ≠ [])) (bnd (gOct a0 0) fun t8 =>
  unicode_utf8_DecodeRuneInString_j1 a0 (decide (t8 < 128))) (unicode_utf8_DecodeRuneInString_j1 a0 false)

/-! strings.IndexByte -/
noncomputable def strings_IndexByte (a0 : (List UInt8)) (a1 : Int) : Option (Int) :=
  bnd (internal_stringslite_IndexByte a0 a1) fun t7 =>
  some t7

/-! unicode/utf8.ValidRune -/
noncomputable def unicode_utf8_ValidRune_j1 (a0 : Int) (x3 : Bool) : Option (Bool) :=
  cnd x3 (some true) (cnd (decide (57343 < a0)) (cnd (decide (a0 ≤ 1114111)) (some true) (some false)) (some false))
noncomputable def unicode_utf8_ValidRune (a0 : Int) : Option (Bool) :=
  cnd (decide (0 ≤ a0)) (unicode_utf8_ValidRune_j1 a0 (decide (a0 < 55296))) (unicode_utf8_ValidRune_j1 a0 false)

/-! strings.IndexRune -/
noncomputable def strings_IndexRune_l2 (a0 : (List UInt8)) (next2 : ((Nat) → Option (Int))) (k_2 : Nat) : Option (Int) :=
  cnd (decide (k_2 < a0.length)) (bnd (gNx a0 k_2) fun t176 =>
  cnd (decide (t176 = 65533)) (some ((k_2 : Nat) : Int)) (next2 (k_2 + 1))) (some (-1))
noncomputable def strings_IndexRune_j1 (a0 : (List UInt8)) (a1 : Int) (x160 : Bool) : Option (Int) :=
  cnd x160 (bnd (strings_IndexByte a0 (wU8 a1)) fun t170 =>
  some t170) (cnd (decide (a1 = 65533)) (fix (fun next2 s => strings_IndexRune_l2 a0 next2 s) 0) (bnd (unicode_utf8_ValidRune a1) fun t185 =>
  cnd (!t185) (some (-1)) (none)))
noncomputable def strings_IndexRune (a0 : (List UInt8)) (a1 : Int) : Option (Int) :=
  cnd (decide (0 ≤ a1)) (strings_IndexRune_j1 a0 a1 (decide (a1 < 128))) (strings_IndexRune_j1 a0 a1 false)

/-! strings.ContainsRune -/
noncomputable def strings_ContainsRune (a0 : (List UInt8)) (a1 : Int) : Option (Bool) :=
  bnd (strings_IndexRune a0 a1) fun t7 =>
  some (decide (0 ≤ t7))

/-! strings.trimLeftUnicode -/
noncomputable def strings_trimLeftUnicode_l1 (a1 : (List UInt8)) (next1 : (((List UInt8)) → Option ((List UInt8)))) (x0_2 : (List UInt8)) : Option ((List UInt8)) :=
  cnd (decide (0 < (x0_2.length : Int))) (bnd (unicode_utf8_DecodeRuneInString x0_2) fun t12 =>
  bnd (strings_ContainsRune a1 t12.1) fun t17 =>
  cnd (!t17) (some x0_2) (bnd (gCut x0_2 t12.2 x0_2.length) fun t21 =>
  next1 t21)) (some x0_2)
noncomputable def strings_trimLeftUnicode (a0 : (List UInt8)) (a1 : (List UInt8)) : Option ((List UInt8)) :=
  fix (fun next1 s => strings_trimLeftUnicode_l1 a1 next1 s) a0

/-! unicode/utf8.RuneStart -/
noncomputable def unicode_utf8_RuneStart (a0 : Int) : Option (Bool) :=
  some (decide ((wU8 (bAnd 8 a0 192)) ≠ 128))

/-! unicode/utf8.DecodeLastRuneInString -/
noncomputable def unicode_utf8_DecodeLastRuneInString_j2 (a0 : (List UInt8)) (x5_2 : Int) : Option (Int × Int) :=
  bnd (gCut a0 x5_2 (a0.length : Int)) fun t40 =>
  bnd (unicode_utf8_DecodeRuneInString t40) fun t41 =>
  bnd (gI (x5_2 + t41.2)) fun t46 =>
  cnd (decide (t46 ≠ (a0.length : Int))) (some (65533, 1)) (some (t41.1, t41.2))
noncomputable def unicode_utf8_DecodeLastRuneInString_j1 (a0 : (List UInt8)) (x5 : Int) : Option (Int × Int) :=
  cnd (decide (x5 < 0)) (unicode_utf8_DecodeLastRuneInString_j2 a0 0) (unicode_utf8_DecodeLastRuneInString_j2 a0 x5)
noncomputable def unicode_utf8_DecodeLastRuneInString_l3 (a0 : (List UInt8)) (t21 : Int) (next3 : ((Int) → Option (Int × Int))) (x5_4 : Int) : Option (Int × Int) :=
  cnd (decide ((max t21 0) ≤ x5_4)) (bnd (gOct a0 x5_4) fun t32 =>
  bnd (unicode_utf8_RuneStart t32) fun t33 =>
  cnd t33 (unicode_utf8_DecodeLastRuneInString_j1 a0 x5_4) (bnd (gI (x5_4 - 1)) fun t29 =>
  next3 t29)) (unicode_utf8_DecodeLastRuneInString_j1 a0 x5_4)
noncomputable def unicode_utf8_DecodeLastRuneInString (a0 : (List UInt8)) : Option (Int × Int) :=
  cnd (decide ((a0.length : Int) = 0)) (some (65533, 0)) (bnd (gI ((a0.length : Int) - 1)) fun t12 =>
  bnd (gOct a0 t12) fun t15 =>
  bnd (gK (-2147483648) 2147483647 t15) fun t16 =>
  cnd (decide (t16 < 128)) (some (t16, 1)) (bnd (gI ((a0.length : Int) - 4)) fun t21 =>
  bnd (gI (t12 - 1)) fun t24 =>
  fix (fun next3 s => unicode_utf8_DecodeLastRuneInString_l3 a0 t21 next3 s) t24))

/-! strings.trimRightUnicode -/
noncomputable def strings_trimRightUnicode_j2 (a1 : (List UInt8)) (x0_2 : (List UInt8)) (next1 : (((List UInt8)) → Option ((List UInt8)))) (x5 : Int) (x6 : Int) : Option ((List UInt8)) :=
  bnd (strings_ContainsRune a1 x5) fun t25 =>
  cnd (!t25) (some x0_2) (bnd (gI ((x0_2.length : Int) - x6)) fun t31 =>
  bnd (gCut x0_2 0 t31) fun t32 =>
  next1 t32)
noncomputable def strings_trimRightUnicode_l1 (a1 : (List UInt8)) (next1 : (((List UInt8)) → Option ((List UInt8)))) (x0_2 : (List UInt8)) : Option ((List UInt8)) :=
  cnd (decide (0 < (x0_2.length : Int))) (bnd (gI ((x0_2.length : Int) - 1)) fun t13 =>
  bnd (gOct x0_2 t13) fun t14 =>
  bnd (gK (-2147483648) 2147483647 t14) fun t15 =>
  cnd (decide (128 ≤ t15)) (bnd (unicode_utf8_DecodeLastRuneInString x0_2) fun t20 =>
  strings_trimRightUnicode_j2 a1 x0_2 next1 t20.1 t20.2) (strings_trimRightUnicode_j2 a1 x0_2 next1 t15 1)) (some x0_2)
noncomputable def strings_trimRightUnicode (a0 : (List UInt8)) (a1 : (List UInt8)) : Option ((List UInt8)) :=
  fix (fun next1 s => strings_trimRightUnicode_l1 a1 next1 s) a0

/-! strings.Trim -/
noncomputable def strings_Trim_j1 (a0 : (List UInt8)) (a1 : (List UInt8)) : Option ((List UInt8)) :=
  bnd (strings_makeASCIISet a1) fun t31 =>
  cnd t31.2 (bnd (strings_trimRightASCII a0 t31.1) fun t36 =>
  bnd (strings_trimLeftASCII t36.1 t36.2) fun t37 =>
  some t37.1) (bnd (strings_trimRightUnicode a0 a1) fun t40 =>
  bnd (strings_trimLeftUnicode t40 a1) fun t42 =>
  some t42)
noncomputable def strings_Trim (a0 : (List UInt8)) (a1 : (List UInt8)) : Option ((List UInt8)) :=
  cnd (decide (a0 = [])) (some a0) (cnd (decide (a1 = [])) (some a0) (cnd (decide ((a1.length : Int) = 1)) (bnd (gOct a1 0) fun t19 =>
  cnd (decide (t19 < 128)) (bnd (gOct a1 0) fun t24 =>
  bnd (strings_trimRightByte a0 t24) fun t25 =>
  bnd (gOct a1 0) fun t27 =>
  bnd (strings_trimLeftByte t25 t27) fun t28 =>
  some t28) (strings_Trim_j1 a0 a1)) (strings_Trim_j1 a0 a1)))

/-! internal/stringslite.HasPrefix -/
noncomputable def internal_stringslite_HasPrefix (a0 : (List UInt8)) (a1 : (List UInt8)) : Option (Bool) :=
  cnd (decide ((a1.length : Int) ≤ (a0.length : Int))) (bnd (gCut a0 0 (a1.length : Int)) fun t14 =>
  some (decide (t14 = a1))) (some false)

/-! internal/stringslite.TrimPrefix -/
noncomputable def internal_stringslite_TrimPrefix (a0 : (List UInt8)) (a1 : (List UInt8)) : Option ((List UInt8)) :=
  bnd (internal_stringslite_HasPrefix a0 a1) fun t7 =>
  cnd t7 (bnd (gCut a0 (a1.length : Int) a0.length) fun t11 =>
  some t11) (some a0)

/-! strings.TrimPrefix -/
noncomputable def strings_TrimPrefix (a0 : (List UInt8)) (a1 : (List UInt8)) : Option ((List UInt8)) :=
  bnd (internal_stringslite_TrimPrefix a0 a1) fun t7 =>
  some t7

/-! tintype/where.readDegrees -/
noncomputable def where_readDegrees_j1 (a0 : (List UInt8)) (t11 : ((List UInt8))) (t14 : ((List UInt8) × (List UInt8) × Bool)) : Option (Int × Bool) :=
  bnd (gCat t14.1 t14.2.1) fun t54 =>
  bnd (gAtoi t54) fun t55 =>
  cnd (decide ((t11.length : Int) < (a0.length : Int))) (bnd (gI (-t55)) fun t64 =>
  some (t64, (decide (0 < t55)))) (some (t55, true))
noncomputable def where_readDegrees (a0 : (List UInt8)) : Option (Int × Bool) :=
  bnd (strings_TrimPrefix a0 [45]) fun t11 =>
  bnd (strings_Cut t11 [46]) fun t14 =>
  cnd (!t14.2.2) (some (0, false)) (cnd (decide (t14.1 = [])) (some (0, false)) (cnd (decide (3 < (t14.1.length : Int))) (some (0, false)) (cnd (decide ((t14.2.1.length : Int) ≠ 6)) (some (0, false)) (bnd (gCat t14.1 t14.2.1) fun t37 =>
  bnd (strings_Trim t37 [48, 49, 50, 51, 52, 53, 54, 55, 56, 57]) fun t38 =>
  cnd (decide (t38 ≠ [])) (some (0, false)) (cnd (decide (1 < (t14.1.length : Int))) (bnd (gOct t14.1 0) fun t47 =>
  cnd (decide (t47 = 48)) (some (0, false)) (where_readDegrees_j1 a0 t11 t14)) (where_readDegrees_j1 a0 t11 t14))))))

/-! tintype/where.ReadPlace -/
noncomputable def where_ReadPlace (a0 : (List UInt8)) : Option (T_api_Place × Int) :=
  bnd (strings_Cut a0 [32]) fun t15 =>
  bnd (where_readDegrees t15.1) fun t21 =>
  bnd (where_readDegrees t15.2.1) fun t26 =>
  cnd (!t15.2.2) (some ((⟨0, 0⟩ : T_api_Place), 8)) (cnd (!t21.2) (some ((⟨0, 0⟩ : T_api_Place), 8)) (cnd (!t26.2) (some ((⟨0, 0⟩ : T_api_Place), 8)) (bnd (where_CheckPlace (⟨t21.1, t26.1⟩ : T_api_Place)) fun t44 =>
  cnd (decide (t44 ≠ 0)) (some ((⟨0, 0⟩ : T_api_Place), t44)) (some ((⟨t21.1, t26.1⟩ : T_api_Place), 0)))))

/-! tintype/tintref2.Whole -/
noncomputable def R_Whole_j2 (a0 : (List UInt8)) : Option (Int × Bool) :=
  bnd (gAtoi a0) fun t39 =>
  some (t39, true)
noncomputable def R_Whole_j1 (a0 : (List UInt8)) (a1 : Int) (x8 : (List UInt8)) : Option (Int × Bool) :=
  cnd (decide (x8 = [])) (some (0, false)) (cnd (decide (a1 < (x8.length : Int))) (some (0, false)) (bnd (strings_Trim x8 [48, 49, 50, 51, 52, 53, 54, 55, 56, 57]) fun t25 =>
  cnd (decide (t25 ≠ [])) (some (0, false)) (bnd (gOct x8 0) fun t30 =>
  cnd (decide (t30 = 48)) (cnd (decide (a0 ≠ [48])) (some (0, false)) (R_Whole_j2 a0)) (R_Whole_j2 a0))))
noncomputable def R_Whole (a0 : (List UInt8)) (a1 : Int) (a2 : Bool) : Option (Int × Bool) :=
  cnd a2 (bnd (strings_TrimPrefix a0 [45]) fun t14 =>
  R_Whole_j1 a0 a1 t14) (R_Whole_j1 a0 a1 a0)

/-! strings.HasPrefix -/
noncomputable def strings_HasPrefix (a0 : (List UInt8)) (a1 : (List UInt8)) : Option (Bool) :=
  bnd (internal_stringslite_HasPrefix a0 a1) fun t7 =>
  some t7

/-! tintype/tintref2.PlaceRead -/
noncomputable def R_PlaceRead_j1 (m : Int) (m_2 : Int) : Option (T_api_Place × Int) :=
  bnd (R_PlaceFault (⟨m, m_2⟩ : T_api_Place)) fun t92 =>
  cnd (decide (t92 ≠ 0)) (some ((⟨0, 0⟩ : T_api_Place), t92)) (some ((⟨m, m_2⟩ : T_api_Place), 0))
noncomputable def R_PlaceRead_j3 (x27_2 : Int) (next2 : ((Int × Int × Int) → Option (T_api_Place × Int))) (x54 : Bool) (x55 : Bool) (x58 : (List UInt8)) (x59 : Int) (x60 : Bool) (x63 : (List UInt8)) (x64 : (List UInt8)) (x65 : Bool) (m_7 : Int) (m_8 : Int) : Option (T_api_Place × Int) :=
  bnd (gI (x27_2 + 1)) fun t90 =>
  next2 (t90, m_7, m_8)
noncomputable def R_PlaceRead_j5 (x27_2 : Int) (m_5 : Int) (m_6 : Int) (next2 : ((Int × Int × Int) → Option (T_api_Place × Int))) (t34 : ((List UInt8) × (List UInt8) × Bool)) (x13 : Bool) (t64 : ((List UInt8))) (x12_2 : Int) : Option (T_api_Place × Int) :=
  cnd (decide (x27_2 = 0)) (R_PlaceRead_j3 x27_2 next2 x13 (!x13) t34.2.1 (t34.2.1.length : Int) (decide ((t34.2.1.length : Int) ≠ 6)) t34.2.1 t64 (decide (t64 ≠ [])) x12_2 m_6) (R_PlaceRead_j3 x27_2 next2 x13 (!x13) t34.2.1 (t34.2.1.length : Int) (decide ((t34.2.1.length : Int) ≠ 6)) t34.2.1 t64 (decide (t64 ≠ [])) m_5 x12_2)
noncomputable def R_PlaceRead_j4 (x27_2 : Int) (m_5 : Int) (m_6 : Int) (next2 : ((Int × Int × Int) → Option (T_api_Place × Int))) (t34 : ((List UInt8) × (List UInt8) × Bool)) (x12 : Int) (x13 : Bool) : Option (T_api_Place × Int) :=
  cnd (!t34.2.2) (some ((⟨0, 0⟩ : T_api_Place), 8)) (cnd (!x13) (some ((⟨0, 0⟩ : T_api_Place), 8)) (cnd (decide ((t34.2.1.length : Int) ≠ 6)) (some ((⟨0, 0⟩ : T_api_Place), 8)) (bnd (strings_Trim t34.2.1 [48, 49, 50, 51, 52, 53, 54, 55, 56, 57]) fun t64 =>
  cnd (decide (t64 ≠ [])) (some ((⟨0, 0⟩ : T_api_Place), 8)) (bnd (gAtoi t34.2.1) fun t70 =>
  bnd (gI (x12 * 1000000)) fun t74 =>
  bnd (gI (t74 + t70)) fun t76 =>
  bnd (strings_HasPrefix t34.1 [45]) fun t78 =>
  cnd t78 (bnd (gI (-t76)) fun t80 =>
  cnd (decide (t80 = 0)) (some ((⟨0, 0⟩ : T_api_Place), 8)) (R_PlaceRead_j5 x27_2 m_5 m_6 next2 t34 x13 t64 t80)) (R_PlaceRead_j5 x27_2 m_5 m_6 next2 t34 x13 t64 t76)))))
noncomputable def R_PlaceRead_l2 (t19 : ((List UInt8) × (List UInt8) × Bool)) (next2 : ((Int × Int × Int) → Option (T_api_Place × Int))) (x27_2 : Int) (m_5 : Int) (m_6 : Int) : Option (T_api_Place × Int) :=
  cnd (decide (x27_2 < 2)) (bnd (gAt ([t19.1, t19.2.1] : List (List UInt8)) x27_2) fun t30 =>
  bnd (strings_Cut t30 [46]) fun t34 =>
  bnd (R_Whole t34.1 3 false) fun t40 =>
  bnd (strings_HasPrefix t34.1 [45]) fun t44 =>
  cnd t44 (bnd (gCut t34.1 1 t34.1.length) fun t47 =>
  bnd (R_Whole t47 3 false) fun t48 =>
  R_PlaceRead_j4 x27_2 m_5 m_6 next2 t34 t48.1 t48.2) (R_PlaceRead_j4 x27_2 m_5 m_6 next2 t34 t40.1 t40.2)) (R_PlaceRead_j1 m_5 m_6)
noncomputable def R_PlaceRead (a0 : (List UInt8)) : Option (T_api_Place × Int) :=
  bnd (strings_Cut a0 [32]) fun t19 =>
  fix (fun next2 s => R_PlaceRead_l2 t19 next2 s.1 s.2.1 s.2.2) (0, 0, 0)

/-! tintype/where.cosine -/
noncomputable def where_cosine (a0 : Int) : Option (Int) :=
  bnd (gQuo a0 100) fun t5 =>
  bnd (gI (4 * t5)) fun t7 =>
  bnd (gI (t7 * t5)) fun t9 =>
  bnd (gI (3240000000000 - t9)) fun t10 =>
  bnd (gI (t10 * 1000000)) fun t11 =>
  bnd (gI (t5 * t5)) fun t14 =>
  bnd (gI (3240000000000 + t14)) fun t15 =>
  bnd (gQuo t11 t15) fun t16 =>
  some t16

/-! tintype/where.Cosine -/
noncomputable def where_Cosine (a0 : Int) : Option (Int × Int) :=
  bnd (where_isLat a0) fun t5 =>
  cnd (!t5) (some (0, 2)) (bnd (where_cosine a0) fun t8 =>
  some (t8, 0))

/-! tintype/tintlaw2.unless -/
noncomputable def Law_unless (a0 : Bool) (a1 : Int) : Option (Int) :=
  cnd a0 (some 0) (some a1)

/-! tintype/tintref2.CosineOf -/
noncomputable def R_CosineOf (a0 : Int) : Option (Int) :=
  bnd (gQuo a0 100) fun t5 =>
  bnd (gI (4 * t5)) fun t7 =>
  bnd (gI (t7 * t5)) fun t9 =>
  bnd (gI (3240000000000 - t9)) fun t10 =>
  bnd (gI (t10 * 1000000)) fun t11 =>
  bnd (gI (t5 * t5)) fun t14 =>
  bnd (gI (3240000000000 + t14)) fun t15 =>
  bnd (gQuo t11 t15) fun t16 =>
  some t16

/-! tintype/tintref2.degrees -/
noncomputable def R_degrees_j1 (x0 : Int) (x3 : (List UInt8)) : Option ((List UInt8)) :=
  bnd (gRem x0 1000000) fun t10 =>
  bnd (gItoa t10) fun t11 =>
  bnd (gQuo x0 1000000) fun t14 =>
  bnd (gItoa t14) fun t15 =>
  bnd (gCat x3 t15) fun t16 =>
  bnd (gCat t16 [46]) fun t17 =>
  bnd (gCut [48, 48, 48, 48, 48, 48] (t11.length : Int) ([48, 48, 48, 48, 48, 48].length)) fun t20 =>
  bnd (gCat t17 t20) fun t21 =>
  bnd (gCat t21 t11) fun t23 =>
  some t23
noncomputable def R_degrees (a0 : Int) : Option ((List UInt8)) :=
  cnd (decide (a0 < 0)) (bnd (gI (-a0)) fun t8 =>
  R_degrees_j1 t8 [45]) (R_degrees_j1 a0 [])

/-! tintype/tintref2.PlaceWords -/
noncomputable def R_PlaceWords (a0 : T_api_Place) : Option ((List UInt8)) :=
  bnd (R_degrees a0.Lat) fun t5 =>
  bnd (gCat t5 [32]) fun t6 =>
  bnd (R_degrees a0.Lon) fun t9 =>
  bnd (gCat t6 t9) fun t10 =>
  some t10

/-! tintype/tintlaw2.told[string] -/
noncomputable def Law_told_string_j1 (a0 : (List UInt8)) (a1 : Int) (a3 : Int) (x2 : (List UInt8)) : Option (Bool) :=
  cnd (decide (a0 = x2)) (some (decide (a1 = a3))) (some false)
noncomputable def Law_told_string (a0 : (List UInt8)) (a1 : Int) (a2 : (List UInt8)) (a3 : Int) : Option (Bool) :=
  cnd (decide (a3 ≠ 0)) (Law_told_string_j1 a0 a1 a3 []) (Law_told_string_j1 a0 a1 a3 a2)

/-! tintype/tintlaw2.told[tintype/api.Place] -/
noncomputable def Law_told_api_Place_j1 (a0 : T_api_Place) (a1 : Int) (a3 : Int) (m : Int) (m_2 : Int) : Option (Bool) :=
  cnd (eq_api_Place a0 (⟨m, m_2⟩ : T_api_Place)) (some (decide (a1 = a3))) (some false)
noncomputable def Law_told_api_Place (a0 : T_api_Place) (a1 : Int) (a2 : T_api_Place) (a3 : Int) : Option (Bool) :=
  cnd (decide (a3 ≠ 0)) (Law_told_api_Place_j1 a0 a1 a3 0 0) (Law_told_api_Place_j1 a0 a1 a3 a2.Lat a2.Lon)

/-! tintype/tintlaw2.told[int] -/
noncomputable def Law_told_int_j1 (a0 : Int) (a1 : Int) (a3 : Int) (x2 : Int) : Option (Bool) :=
  cnd (decide (a0 = x2)) (some (decide (a1 = a3))) (some false)
noncomputable def Law_told_int (a0 : Int) (a1 : Int) (a2 : Int) (a3 : Int) : Option (Bool) :=
  cnd (decide (a3 ≠ 0)) (Law_told_int_j1 a0 a1 a3 0) (Law_told_int_j1 a0 a1 a3 a2)

/-! tintype/tintlaw2.WherePlaces -/
noncomputable def Law_WherePlaces_j3 (a0 : T_api_Place) (t20 : (Int)) (t23 : ((List UInt8) × Int)) (t28 : (T_api_Place × Int)) (t33 : (T_api_Place × Int)) (t38 : (Int × Int)) (x16 : Int) (x17 : Int) (x18 : (List UInt8)) : Option (Bool) :=
  bnd (where_CheckPlace a0) fun t57 =>
  cnd (decide (t57 = t20)) (bnd (Law_told_string t23.1 t23.2 x18 t20) fun t65 =>
  cnd t65 (bnd (Law_told_api_Place t28.1 t28.2 t33.1 t33.2) fun t72 =>
  cnd t72 (bnd (Law_told_int t38.1 t38.2 x17 x16) fun t79 =>
  some t79) (some false)) (some false)) (some false)
noncomputable def Law_WherePlaces_j2 (a0 : T_api_Place) (t20 : (Int)) (t23 : ((List UInt8) × Int)) (t28 : (T_api_Place × Int)) (t33 : (T_api_Place × Int)) (t38 : (Int × Int)) (x16 : Int) (x17 : Int) : Option (Bool) :=
  cnd (decide (t20 = 0)) (bnd (R_PlaceWords a0) fun t55 =>
  Law_WherePlaces_j3 a0 t20 t23 t28 t33 t38 x16 x17 t55) (Law_WherePlaces_j3 a0 t20 t23 t28 t33 t38 x16 x17 [])
noncomputable def Law_WherePlaces_j1 (a0 : T_api_Place) (a2 : Int) (t20 : (Int)) (t23 : ((List UInt8) × Int)) (t28 : (T_api_Place × Int)) (t33 : (T_api_Place × Int)) (t38 : (Int × Int)) (x16 : Int) : Option (Bool) :=
  cnd (decide (x16 = 0)) (bnd (R_CosineOf a2) fun t51 =>
  Law_WherePlaces_j2 a0 t20 t23 t28 t33 t38 x16 t51) (Law_WherePlaces_j2 a0 t20 t23 t28 t33 t38 x16 0)
noncomputable def Law_WherePlaces (a0 : T_api_Place) (a1 : (List UInt8)) (a2 : Int) : Option (Bool) :=
  bnd (R_PlaceFault a0) fun t20 =>
  bnd (where_PlaceText a0) fun t23 =>
  bnd (where_ReadPlace a1) fun t28 =>
  bnd (R_PlaceRead a1) fun t33 =>
  bnd (where_Cosine a2) fun t38 =>
  cnd (decide ((-90000000) ≤ a2)) (bnd (Law_unless (decide (a2 ≤ 90000000)) 2) fun t47 =>
  Law_WherePlaces_j1 a0 a2 t20 t23 t28 t33 t38 t47) (bnd (Law_unless false 2) fun t47_2 =>
  Law_WherePlaces_j1 a0 a2 t20 t23 t28 t33 t38 t47_2)

/-! tintype/tintkeep2.awakeWhere -/
noncomputable def Keep_awakeWhere  : Option (Bool) :=
  bnd (where_PlaceText (⟨0, 0⟩ : T_api_Place)) fun t5 =>
  cnd (decide (t5.2 = 0)) (some (decide (t5.1 = [48, 46, 48, 48, 48, 48, 48, 48, 32, 48, 46, 48, 48, 48, 48, 48, 48]))) (some false)

/-! tintype/where.checkPlaces -/
noncomputable def where_checkPlaces_l1 (a0 : (List T_api_Place)) (next1 : ((Int) → Option (Int))) (x8_2 : Int) : Option (Int) :=
  cnd (decide (x8_2 < (a0.length : Int))) (bnd (gAt a0 x8_2) fun t10 =>
  bnd (where_CheckPlace t10) fun t13 =>
  cnd (decide (t13 ≠ 0)) (some t13) (bnd (gI (x8_2 + 1)) fun t17 =>
  next1 t17)) (some 0)
noncomputable def where_checkPlaces (a0 : (List T_api_Place)) : Option (Int) :=
  fix (fun next1 s => where_checkPlaces_l1 a0 next1 s) 0

/-! tintype/where.eastward -/
noncomputable def where_eastward (a0 : Int) (a1 : Int) : Option (Int) :=
  bnd (gI (a1 - a0)) fun t7 =>
  bnd (gRem t7 360000000) fun t8 =>
  bnd (gI (t8 + 360000000)) fun t9 =>
  bnd (gRem t9 360000000) fun t10 =>
  some t10

/-! tintype/where.short -/
noncomputable def where_short (a0 : Int) (a1 : Int) : Option (Int) :=
  bnd (where_eastward a0 a1) fun t8 =>
  cnd (decide (180000000 ≤ t8)) (bnd (gI (t8 - 360000000)) fun t12 =>
  some t12) (some t8)

/-! tintype/where.floor -/
noncomputable def where_floor (a0 : Int) (a1 : Int) : Option (Int) :=
  bnd (gQuo a0 a1) fun t8 =>
  bnd (gRem a0 a1) fun t11 =>
  cnd (decide (t11 < 0)) (bnd (gI (t8 - 1)) fun t14 =>
  some t14) (some t8)

/-! math.Sqrt -/
noncomputable def math_Sqrt (a0 : Nat) : Option (Nat) :=
  bnd (gSqrt a0) fun t4 =>
  some t4

/-! tintype/where.root -/
noncomputable def where_root_l2 (a0 : Int) (next2 : ((Int) → Option (Int))) (x3_3 : Int) : Option (Int) :=
  bnd (gI (x3_3 + 1)) fun t16 =>
  bnd (gI (x3_3 + 1)) fun t18 =>
  bnd (gI (t16 * t18)) fun t19 =>
  cnd (decide (t19 ≤ a0)) (bnd (gI (x3_3 + 1)) fun t23 =>
  next2 t23) (some x3_3)
noncomputable def where_root_j1 (a0 : Int) (x3 : Int) : Option (Int) :=
  fix (fun next2 s => where_root_l2 a0 next2 s) x3
noncomputable def where_root_l3 (a0 : Int) (next3 : ((Int) → Option (Int))) (x3_5 : Int) : Option (Int) :=
  bnd (gI (x3_5 * x3_5)) fun t10 =>
  cnd (decide (a0 < t10)) (bnd (gI (x3_5 - 1)) fun t14 =>
  next3 t14) (where_root_j1 a0 x3_5)
noncomputable def where_root (a0 : Int) : Option (Int) :=
  bnd (gIF a0) fun t5 =>
  bnd (math_Sqrt t5) fun t6 =>
  bnd (gFI t6) fun t7 =>
  fix (fun next3 s => where_root_l3 a0 next3 s) t7

/-! tintype/where.distance -/
noncomputable def where_distance (a0 : T_api_Place) (a1 : T_api_Place) : Option (Int) :=
  bnd (gI (a1.Lat - a0.Lat)) fun t11 =>
  bnd (where_short a0.Lon a1.Lon) fun t16 =>
  bnd (gI (a0.Lat + a1.Lat)) fun t21 =>
  bnd (where_floor t21 2) fun t22 =>
  bnd (where_cosine t22) fun t23 =>
  bnd (gI (t16 * t23)) fun t24 =>
  bnd (gQuo t24 1000000) fun t25 =>
  bnd (gI (t11 * t11)) fun t28 =>
  bnd (gI (t25 * t25)) fun t31 =>
  bnd (gI (t28 + t31)) fun t32 =>
  bnd (where_root t32) fun t33 =>
  bnd (gI (t33 * 111195)) fun t34 =>
  bnd (gQuo t34 1000000) fun t35 =>
  some t35

/-! tintype/where.Distance -/
noncomputable def where_Distance (a0 : T_api_Place) (a1 : T_api_Place) : Option (Int × Int) :=
  bnd (where_checkPlaces ([a0, a1] : List T_api_Place)) fun t10 =>
  cnd (decide (t10 ≠ 0)) (some (0, t10)) (bnd (where_distance a0 a1) fun t16 =>
  some (t16, 0))

/-! tintype/where.wrap -/
noncomputable def where_wrap (a0 : Int) : Option (Int) :=
  bnd (where_eastward (-180000000) a0) fun t4 =>
  bnd (gI (t4 - 180000000)) fun t5 =>
  some t5

/-! tintype/where.between -/
noncomputable def where_between (a0 : T_api_Place) (a1 : T_api_Place) (a2 : Int) (a3 : Int) : Option (T_api_Place) :=
  bnd (gI (a1.Lat - a0.Lat)) fun t15 =>
  bnd (gI (t15 * a2)) fun t17 =>
  bnd (where_floor t17 a3) fun t19 =>
  bnd (gI (a0.Lat + t19)) fun t20 =>
  bnd (where_short a0.Lon a1.Lon) fun t27 =>
  bnd (gI (t27 * a2)) fun t29 =>
  bnd (where_floor t29 a3) fun t31 =>
  bnd (gI (a0.Lon + t31)) fun t32 =>
  bnd (where_wrap t32) fun t33 =>
  some (⟨t20, t33⟩ : T_api_Place)

/-! tintype/where.Between -/
noncomputable def where_Between (a0 : T_api_Place) (a1 : T_api_Place) (a2 : Int) (a3 : Int) : Option (T_api_Place × Int) :=
  bnd (where_checkPlaces ([a0, a1] : List T_api_Place)) fun t14 =>
  cnd (decide (t14 ≠ 0)) (some ((⟨0, 0⟩ : T_api_Place), t14)) (bnd (where_outside a3 1 6311433599) fun t20 =>
  cnd t20 (some ((⟨0, 0⟩ : T_api_Place), 2)) (bnd (where_outside a2 0 a3) fun t24 =>
  cnd t24 (some ((⟨0, 0⟩ : T_api_Place), 2)) (bnd (where_between a0 a1 a2 a3) fun t31 =>
  some (t31, 0))))

/-! tintype/tintkeep2.WhereEnds -/
noncomputable def Keep_WhereEnds (a0 : T_api_Place) (a1 : T_api_Place) (a2 : Int) : Option (Bool) :=
  bnd (Keep_awakeWhere) fun t18 =>
  cnd (!t18) (some false) (bnd (where_Distance a0 a1) fun t23 =>
  cnd (decide (t23.2 ≠ 0)) (some true) (bnd (where_Distance a1 a0) fun t31 =>
  bnd (where_Distance a0 a0) fun t37 =>
  cnd (decide (t31.2 ≠ 0)) (some false) (cnd (decide (t37.2 ≠ 0)) (some false) (cnd (decide (t31.1 ≠ t23.1)) (some false) (cnd (decide (t37.1 ≠ 0)) (some false) (bnd (where_Between a0 a1 0 a2) fun t59 =>
  bnd (where_Between a0 a1 a2 a2) fun t67 =>
  cnd (decide (t59.2 ≠ 0)) (some (decide (t67.2 = t59.2))) (bnd (where_PlaceText a0) fun t77 =>
  bnd (where_ReadPlace t77.1) fun t82 =>
  cnd (decide (t67.2 = 0)) (cnd (eq_api_Place t59.1 a0) (cnd (eq_api_Place t67.1 a1) (cnd (decide (t77.2 = 0)) (cnd (decide (t82.2 = 0)) (some (eq_api_Place t82.1 a0)) (some false)) (some false)) (some false)) (some false)) (some false))))))))

end Go.M
