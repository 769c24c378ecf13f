/- SyncFacts: the models, printed by our generator from the compiled program. Conditions: none. -/
import Derived.Test.YtaonhnkojkkmbaaDoorMd6
namespace Go.M
open Go.Md
set_option maxRecDepth 100000
set_option linter.unusedVariables false

structure T_sync_Dot where
  Device : Int
  N : Int
instance : Inhabited T_sync_Dot := ⟨⟨0, 0⟩⟩

structure T_sync_Fact where
  Dot : T_sync_Dot
  Time : Int
  Kind : Int
  Id : Int
  Name : (List UInt8)
  Num : Int
  Text : (List UInt8)
instance : Inhabited T_sync_Fact := ⟨⟨default, 0, 0, 0, [], 0, []⟩⟩

structure T_sync_Replica where
  device_ : Int
  knows_ : (Nat → Int)
  facts_ : (List T_sync_Fact)
instance : Inhabited T_sync_Replica := ⟨⟨0, fun _ => 0, []⟩⟩

def eq_sync_Fact (x y : T_sync_Fact) : Bool := decide ((x.Dot.Device = y.Dot.Device ∧ x.Dot.N = y.Dot.N) ∧ x.Time = y.Time ∧ x.Kind = y.Kind ∧ x.Id = y.Id ∧ x.Name = y.Name ∧ x.Num = y.Num ∧ x.Text = y.Text)
def eq_sync_Knows (x y : (Nat → Int)) : Bool := decide ((List.range 16).map x = (List.range 16).map y)

/-! tintype/sync.outside -/
noncomputable def sync_outside (a0 : Int) (a1 : Int) (a2 : Int) : Option (Bool) :=
  cnd (decide (a0 < a1)) (some true) (some (decide (a2 < a0)))

/-! tintype/sync.New -/
noncomputable def sync_New (a0 : Int) : Option ((Option T_sync_Replica) × Int) :=
  bnd (sync_outside a0 0 15) fun t5 =>
  cnd t5 (some ((none : Option T_sync_Replica), 2)) (some ((some (⟨a0, (fun _ => 0), ([] : List T_sync_Fact)⟩ : T_sync_Replica)), 0))

/-! tintype/tintlaw2.unless -/
noncomputable def Law_unless (a0 : Bool) (a1 : Int) : Option (Int) :=
  cnd a0 (some 0) (some a1)

/-! strings.trimLeftByte -/
noncomputable def strings_trimLeftByte_l1 (a1 : Int) (next1 : (((List UInt8)) → Option ((List UInt8)))) (x0_2 : (List UInt8)) : Option ((List UInt8)) :=
  cnd (decide (0 < (x0_2.length : Int))) (bnd (gOct x0_2 0) fun t10 =>
  cnd (decide (t10 = a1)) (bnd (gCut x0_2 1 x0_2.length) fun t15 =>
  next1 t15) (some x0_2)) (some x0_2)
noncomputable def strings_trimLeftByte (a0 : (List UInt8)) (a1 : Int) : Option ((List UInt8)) :=
  fix (fun next1 s => strings_trimLeftByte_l1 a1 next1 s) a0

/-! strings.trimRightByte -/
noncomputable def strings_trimRightByte_l1 (a1 : Int) (next1 : (((List UInt8)) → Option ((List UInt8)))) (x0_2 : (List UInt8)) : Option ((List UInt8)) :=
  cnd (decide (0 < (x0_2.length : Int))) (bnd (gI ((x0_2.length : Int) - 1)) fun t12 =>
  bnd (gOct x0_2 t12) fun t13 =>
  cnd (decide (t13 = a1)) (bnd (gI ((x0_2.length : Int) - 1)) fun t20 =>
  bnd (gCut x0_2 0 t20) fun t21 =>
  next1 t21) (some x0_2)) (some x0_2)
noncomputable def strings_trimRightByte (a0 : (List UInt8)) (a1 : Int) : Option ((List UInt8)) :=
  fix (fun next1 s => strings_trimRightByte_l1 a1 next1 s) a0

/-! strings.makeASCIISet -/
noncomputable def strings_makeASCIISet_j1 (m : (Nat → Bool)) : Option ((Nat → Bool) × Bool) :=
  some (m, true)
noncomputable def strings_makeASCIISet_l2 (a0 : (List UInt8)) (next2 : ((Int × (Nat → Bool)) → Option ((Nat → Bool) × Bool))) (x4_2 : Int) (m_3 : (Nat → Bool)) : Option ((Nat → Bool) × Bool) :=
  cnd (decide (x4_2 < (a0.length : Int))) (bnd (gOct a0 x4_2) fun t14 =>
  cnd (decide (128 ≤ t14)) (some (m_3, false)) (bnd (gIx 256 t14) fun k19 =>
  bnd (gI (x4_2 + 1)) fun t11 =>
  next2 (t11, (setA m_3 k19 true)))) (strings_makeASCIISet_j1 m_3)
noncomputable def strings_makeASCIISet (a0 : (List UInt8)) : Option ((Nat → Bool) × Bool) :=
  fix (fun next2 s => strings_makeASCIISet_l2 a0 next2 s.1 s.2) (0, (fun _ => false))

/-! (*strings.asciiSet).contains -/
noncomputable def strings_asciiSet_contains (a0 : (Nat → Bool)) (a1 : Int) : Option (Bool × (Nat → Bool)) :=
  bnd (gIx 256 a1) fun k8 =>
  some ((a0 k8), a0)

/-! strings.trimLeftASCII -/
noncomputable def strings_trimLeftASCII_l1 (next1 : (((List UInt8) × (Nat → Bool)) → Option ((List UInt8) × (Nat → Bool)))) (x0_2 : (List UInt8)) (m_2 : (Nat → Bool)) : Option ((List UInt8) × (Nat → Bool)) :=
  cnd (decide (0 < (x0_2.length : Int))) (bnd (gOct x0_2 0) fun t10 =>
  bnd (strings_asciiSet_contains m_2 t10) fun t11 =>
  cnd (!t11.1) (some (x0_2, t11.2)) (bnd (gCut x0_2 1 x0_2.length) fun t14 =>
  next1 (t14, t11.2))) (some (x0_2, m_2))
noncomputable def strings_trimLeftASCII (a0 : (List UInt8)) (a1 : (Nat → Bool)) : Option ((List UInt8) × (Nat → Bool)) :=
  fix (fun next1 s => strings_trimLeftASCII_l1 next1 s.1 s.2) (a0, a1)

/-! strings.trimRightASCII -/
noncomputable def strings_trimRightASCII_l1 (next1 : (((List UInt8) × (Nat → Bool)) → Option ((List UInt8) × (Nat → Bool)))) (x0_2 : (List UInt8)) (m_2 : (Nat → Bool)) : Option ((List UInt8) × (Nat → Bool)) :=
  cnd (decide (0 < (x0_2.length : Int))) (bnd (gI ((x0_2.length : Int) - 1)) fun t12 =>
  bnd (gOct x0_2 t12) fun t13 =>
  bnd (strings_asciiSet_contains m_2 t13) fun t14 =>
  cnd (!t14.1) (some (x0_2, t14.2)) (bnd (gI ((x0_2.length : Int) - 1)) fun t19 =>
  bnd (gCut x0_2 0 t19) fun t20 =>
  next1 (t20, t14.2))) (some (x0_2, m_2))
noncomputable def strings_trimRightASCII (a0 : (List UInt8)) (a1 : (Nat → Bool)) : Option ((List UInt8) × (Nat → Bool)) :=
  fix (fun next1 s => strings_trimRightASCII_l1 next1 s.1 s.2) (a0, a1)

/-! unicode/utf8.decodeRuneInStringSlow -/
noncomputable def unicode_utf8_decodeRuneInStringSlow (a0 : (List UInt8)) : Option (Int × Int) :=
  cnd (decide ((a0.length : Int) < 1)) (some (65533, 0)) (none)

/-! unicode/utf8.DecodeRuneInString -/
noncomputable def unicode_utf8_DecodeRuneInString_j1 (a0 : (List UInt8)) (x10 : Bool) : Option (Int × Int) :=
  cnd x10 (bnd (gOct a0 0) fun t12 =>
  bnd (gK (-2147483648) 2147483647 t12) fun t13 =>
  some (t13, 1)) (bnd (unicode_utf8_decodeRuneInStringSlow a0) fun t16 =>
  some (t16.1, t16.2))
noncomputable def unicode_utf8_DecodeRuneInString (a0 : (List UInt8)) : Option (Int × Int) :=
  cnd (decide (a0 ≠ [])) (bnd (gOct a0 0) fun t8 =>
  unicode_utf8_DecodeRuneInString_j1 a0 (decide (t8 < 128))) (unicode_utf8_DecodeRuneInString_j1 a0 false)

/-! internal/bytealg.Cutover -/
noncomputable def internal_bytealg_Cutover (a0 : Int) : Option (Int) :=
  bnd (gI (a0 + 16)) fun t4 =>
  bnd (gQuo t4 8) fun t5 =>
  some t5

/-! internal/stringslite.IndexByte -/
noncomputable def internal_stringslite_IndexByte (a0 : (List UInt8)) (a1 : Int) : Option (Int) :=
  bnd (gIxB a0 a1) fun t7 =>
  some t7

/-! strings.IndexByte -/
noncomputable def strings_IndexByte (a0 : (List UInt8)) (a1 : Int) : Option (Int) :=
  bnd (internal_stringslite_IndexByte a0 a1) fun t7 =>
  some t7

/-! unicode/utf8.ValidRune -/
noncomputable def unicode_utf8_ValidRune_j1 (a0 : Int) (x3 : Bool) : Option (Bool) :=
  cnd x3 (some true) (cnd (decide (57343 < a0)) (cnd (decide (a0 ≤ 1114111)) (some true) (some false)) (some false))
noncomputable def unicode_utf8_ValidRune (a0 : Int) : Option (Bool) :=
  cnd (decide (0 ≤ a0)) (unicode_utf8_ValidRune_j1 a0 (decide (a0 < 55296))) (unicode_utf8_ValidRune_j1 a0 false)

/-! strings.IndexRune -/
noncomputable def strings_IndexRune_l2 (a0 : (List UInt8)) (next2 : ((Nat) → Option (Int))) (k_2 : Nat) : Option (Int) :=
  cnd (decide (k_2 < a0.length)) (bnd (gNx a0 k_2) fun t176 =>
  cnd (decide (t176 = 65533)) (some ((k_2 : Nat) : Int)) (next2 (k_2 + 1))) (some (-1))
noncomputable def strings_IndexRune_j1 (a0 : (List UInt8)) (a1 : Int) (x160 : Bool) : Option (Int) :=
  cnd x160 (bnd (strings_IndexByte a0 (wU8 a1)) fun t170 =>
  some t170) (cnd (decide (a1 = 65533)) (fix (fun next2 s => strings_IndexRune_l2 a0 next2 s) 0) (bnd (unicode_utf8_ValidRune a1) fun t185 =>
  cnd (!t185) (some (-1)) (none)))
noncomputable def strings_IndexRune (a0 : (List UInt8)) (a1 : Int) : Option (Int) :=
  cnd (decide (0 ≤ a1)) (strings_IndexRune_j1 a0 a1 (decide (a1 < 128))) (strings_IndexRune_j1 a0 a1 false)

/-! strings.ContainsRune -/
noncomputable def strings_ContainsRune (a0 : (List UInt8)) (a1 : Int) : Option (Bool) :=
  bnd (strings_IndexRune a0 a1) fun t7 =>
  some (decide (0 ≤ t7))

/-! strings.trimLeftUnicode -/
noncomputable def strings_trimLeftUnicode_l1 (a1 : (List UInt8)) (next1 : (((List UInt8)) → Option ((List UInt8)))) (x0_2 : (List UInt8)) : Option ((List UInt8)) :=
  cnd (decide (0 < (x0_2.length : Int))) (bnd (unicode_utf8_DecodeRuneInString x0_2) fun t12 =>
  bnd (strings_ContainsRune a1 t12.1) fun t17 =>
  cnd (!t17) (some x0_2) (bnd (gCut x0_2 t12.2 x0_2.length) fun t21 =>
  next1 t21)) (some x0_2)
noncomputable def strings_trimLeftUnicode (a0 : (List UInt8)) (a1 : (List UInt8)) : Option ((List UInt8)) :=
  fix (fun next1 s => strings_trimLeftUnicode_l1 a1 next1 s) a0

/-! unicode/utf8.RuneStart -/
noncomputable def unicode_utf8_RuneStart (a0 : Int) : Option (Bool) :=
  some (decide ((wU8 (bAnd 8 a0 192)) ≠ 128))

/-! unicode/utf8.DecodeLastRuneInString -/
noncomputable def unicode_utf8_DecodeLastRuneInString_j2 (a0 : (List UInt8)) (x5_2 : Int) : Option (Int × Int) :=
  bnd (gCut a0 x5_2 (a0.length : Int)) fun t40 =>
  bnd (unicode_utf8_DecodeRuneInString t40) fun t41 =>
  bnd (gI (x5_2 + t41.2)) fun t46 =>
  cnd (decide (t46 ≠ (a0.length : Int))) (some (65533, 1)) (some (t41.1, t41.2))
noncomputable def unicode_utf8_DecodeLastRuneInString_j1 (a0 : (List UInt8)) (x5 : Int) : Option (Int × Int) :=
  cnd (decide (x5 < 0)) (unicode_utf8_DecodeLastRuneInString_j2 a0 0) (unicode_utf8_DecodeLastRuneInString_j2 a0 x5)
noncomputable def unicode_utf8_DecodeLastRuneInString_l3 (a0 : (List UInt8)) (t21 : Int) (next3 : ((Int) → Option (Int × Int))) (x5_4 : Int) : Option (Int × Int) :=
  cnd (decide ((max t21 0) ≤ x5_4)) (bnd (gOct a0 x5_4) fun t32 =>
  bnd (unicode_utf8_RuneStart t32) fun t33 =>
  cnd t33 (unicode_utf8_DecodeLastRuneInString_j1 a0 x5_4) (bnd (gI (x5_4 - 1)) fun t29 =>
  next3 t29)) (unicode_utf8_DecodeLastRuneInString_j1 a0 x5_4)
noncomputable def unicode_utf8_DecodeLastRuneInString (a0 : (List UInt8)) : Option (Int × Int) :=
  cnd (decide ((a0.length : Int) = 0)) (some (65533, 0)) (bnd (gI ((a0.length : Int) - 1)) fun t12 =>
  bnd (gOct a0 t12) fun t15 =>
  bnd (gK (-2147483648) 2147483647 t15) fun t16 =>
  cnd (decide (t16 < 128)) (some (t16, 1)) (bnd (gI ((a0.length : Int) - 4)) fun t21 =>
  bnd (gI (t12 - 1)) fun t24 =>
  fix (fun next3 s => unicode_utf8_DecodeLastRuneInString_l3 a0 t21 next3 s) t24))

/-! strings.trimRightUnicode -/
noncomputable def strings_trimRightUnicode_j2 (a1 : (List UInt8)) (x0_2 : (List UInt8)) (next1 : (((List UInt8)) → Option ((List UInt8)))) (x5 : Int) (x6 : Int) : Option ((List UInt8)) :=
  bnd (strings_ContainsRune a1 x5) fun t25 =>
  cnd (!t25) (some x0_2) (bnd (gI ((x0_2.length : Int) - x6)) fun t31 =>
  bnd (gCut x0_2 0 t31) fun t32 =>
  next1 t32)
noncomputable def strings_trimRightUnicode_l1 (a1 : (List UInt8)) (next1 : (((List UInt8)) → Option ((List UInt8)))) (x0_2 : (List UInt8)) : Option ((List UInt8)) :=
  cnd (decide (0 < (x0_2.length : Int))) (bnd (gI ((x0_2.length : Int) - 1)) fun t13 =>
  bnd (gOct x0_2 t13) fun t14 =>
  bnd (gK (-2147483648) 2147483647 t14) fun t15 =>
  cnd (decide (128 ≤ t15)) (bnd (unicode_utf8_DecodeLastRuneInString x0_2) fun t20 =>
  strings_trimRightUnicode_j2 a1 x0_2 next1 t20.1 t20.2) (strings_trimRightUnicode_j2 a1 x0_2 next1 t15 1)) (some x0_2)
noncomputable def strings_trimRightUnicode (a0 : (List UInt8)) (a1 : (List UInt8)) : Option ((List UInt8)) :=
  fix (fun next1 s => strings_trimRightUnicode_l1 a1 next1 s) a0

/-! strings.Trim -/
noncomputable def strings_Trim_j1 (a0 : (List UInt8)) (a1 : (List UInt8)) : Option ((List UInt8)) :=
  bnd (strings_makeASCIISet a1) fun t31 =>
  cnd t31.2 (bnd (strings_trimRightASCII a0 t31.1) fun t36 =>
  bnd (strings_trimLeftASCII t36.1 t36.2) fun t37 =>
  some t37.1) (bnd (strings_trimRightUnicode a0 a1) fun t40 =>
  bnd (strings_trimLeftUnicode t40 a1) fun t42 =>
  some t42)
noncomputable def strings_Trim (a0 : (List UInt8)) (a1 : (List UInt8)) : Option ((List UInt8)) :=
  cnd (decide (a0 = [])) (some a0) (cnd (decide (a1 = [])) (some a0) (cnd (decide ((a1.length : Int) = 1)) (bnd (gOct a1 0) fun t19 =>
  cnd (decide (t19 < 128)) (bnd (gOct a1 0) fun t24 =>
  bnd (strings_trimRightByte a0 t24) fun t25 =>
  bnd (gOct a1 0) fun t27 =>
  bnd (strings_trimLeftByte t25 t27) fun t28 =>
  some t28) (strings_Trim_j1 a0 a1)) (strings_Trim_j1 a0 a1)))

/-! tintype/sync.isFile -/
noncomputable def sync_isFile (a0 : (List UInt8)) : Option (Bool) :=
  cnd (decide ((a0.length : Int) = 16)) (bnd (strings_Trim a0 [48, 49, 50, 51, 52, 53, 54, 55, 56, 57, 97, 98, 99, 100, 101, 102]) fun t8 =>
  some (decide (t8 = []))) (some false)

/-! slices.IndexFunc[[]byte,byte] -/
noncomputable def slices_IndexFunc_byte_l1 (a0 : (List Int)) (a1 : (Int → Option (Bool))) (next1 : ((Int) → Option (Int))) (x8_2 : Int) : Option (Int) :=
  cnd (decide (x8_2 < (a0.length : Int))) (bnd (gAt a0 x8_2) fun t14 =>
  bnd (a1 t14) fun t16 =>
  cnd t16 (some x8_2) (bnd (gI (x8_2 + 1)) fun t18 =>
  next1 t18)) (some (-1))
noncomputable def slices_IndexFunc_byte (a0 : (List Int)) (a1 : (Int → Option (Bool))) : Option (Int) :=
  fix (fun next1 s => slices_IndexFunc_byte_l1 a0 a1 next1 s) 0

/-! slices.ContainsFunc[[]byte,byte] -/
noncomputable def slices_ContainsFunc_byte (a0 : (List Int)) (a1 : (Int → Option (Bool))) : Option (Bool) :=
  bnd (slices_IndexFunc_byte a0 a1) fun t7 =>
  some (decide (0 ≤ t7))

/-! tintype/sync.checkCaption$1 -/
noncomputable def sync_checkCaption_1 (a0 : Int) : Option (Bool) :=
  some (decide (a0 < 32))

/-! tintype/sync.checkCaption -/
noncomputable def sync_checkCaption (a0 : (List UInt8)) : Option (Int) :=
  cnd (decide (200 < (a0.length : Int))) (some 4) (bnd (gByt a0) fun t9 =>
  bnd (slices_ContainsFunc_byte t9 sync_checkCaption_1) fun t10 =>
  cnd t10 (some 9) (some 0))

/-! tintype/where.IsName -/
noncomputable def where_IsName_j2 (x24_2 : Int) (next1 : ((Int) → Option (Bool))) : Option (Bool) :=
  bnd (gI (x24_2 + 1)) fun t49 =>
  next1 t49
noncomputable def where_IsName_l1 (a0 : (List UInt8)) (next1 : ((Int) → Option (Bool))) (x24_2 : Int) : Option (Bool) :=
  cnd (decide (x24_2 < (a0.length : Int))) (bnd (gOct a0 x24_2) fun t29 =>
  cnd (decide (97 ≤ t29)) (cnd (decide (t29 ≤ 122)) (where_IsName_j2 x24_2 next1) (cnd (decide (48 ≤ t29)) (cnd (decide (t29 ≤ 57)) (where_IsName_j2 x24_2 next1) (cnd (!(decide (t29 = 45))) (some false) (where_IsName_j2 x24_2 next1))) (cnd (!(decide (t29 = 45))) (some false) (where_IsName_j2 x24_2 next1)))) (cnd (decide (48 ≤ t29)) (cnd (decide (t29 ≤ 57)) (where_IsName_j2 x24_2 next1) (cnd (!(decide (t29 = 45))) (some false) (where_IsName_j2 x24_2 next1))) (cnd (!(decide (t29 = 45))) (some false) (where_IsName_j2 x24_2 next1)))) (some true)
noncomputable def where_IsName (a0 : (List UInt8)) : Option (Bool) :=
  cnd (decide (a0 = [])) (some false) (cnd (decide (40 < (a0.length : Int))) (some false) (bnd (gOct a0 0) fun t14 =>
  cnd (decide (t14 < 97)) (some false) (bnd (gOct a0 0) fun t19 =>
  cnd (decide (122 < t19)) (some false) (fix (fun next1 s => where_IsName_l1 a0 next1 s) 0))))

/-! tintype/sync.checkValue -/
noncomputable def sync_checkValue_j8 (a0 : T_sync_Fact) (x104 : Bool) : Option (Int) :=
  cnd x104 (some 3) (cnd (decide (a0.Kind = 6)) (bnd (sync_outside a0.Num 0 6311433599) fun t119 =>
  cnd t119 (some 2) (some 0)) (some 0))
noncomputable def sync_checkValue_j7 (a0 : T_sync_Fact) (x4 : Bool) (x95 : Bool) : Option (Int) :=
  cnd x95 (some 2) (cnd x4 (bnd (where_IsName a0.Name) fun t109 =>
  sync_checkValue_j8 a0 (!t109)) (sync_checkValue_j8 a0 false))
noncomputable def sync_checkValue_j6 (a0 : T_sync_Fact) (x4 : Bool) (x79 : Bool) : Option (Int) :=
  cnd x79 (some 2) (cnd (decide (a0.Kind = 3)) (bnd (sync_checkCaption a0.Text) fun t94 =>
  some t94) (cnd (decide (a0.Kind = 4)) (bnd (sync_outside a0.Num 0 1) fun t102 =>
  sync_checkValue_j7 a0 x4 t102) (sync_checkValue_j7 a0 x4 false)))
noncomputable def sync_checkValue_j5 (a0 : T_sync_Fact) (x4 : Bool) (x69 : Bool) : Option (Int) :=
  cnd x69 (some 1) (cnd (decide (a0.Kind = 2)) (bnd (sync_outside a0.Num 0 5) fun t86 =>
  sync_checkValue_j6 a0 x4 t86) (sync_checkValue_j6 a0 x4 false))
noncomputable def sync_checkValue_j4 (a0 : T_sync_Fact) (x4 : Bool) (x39 : Bool) : Option (Int) :=
  cnd x39 (some 1) (bnd (sync_outside a0.Id 1 1000000) fun t68 =>
  cnd t68 (some 2) (cnd (decide (a0.Kind = 1)) (bnd (sync_isFile a0.Text) fun t76 =>
  sync_checkValue_j5 a0 x4 (!t76)) (sync_checkValue_j5 a0 x4 false)))
noncomputable def sync_checkValue_j3 (a0 : T_sync_Fact) (x3 : Bool) (x4 : Bool) (x5 : Bool) : Option (Int) :=
  bnd (sync_outside a0.Kind 1 6) fun t38 =>
  cnd t38 (some 10) (cnd (!x3) (cnd (decide (a0.Num ≠ 0)) (sync_checkValue_j4 a0 x4 true) (cnd (!x4) (cnd (decide (a0.Name ≠ [])) (sync_checkValue_j4 a0 x4 true) (cnd (!x5) (sync_checkValue_j4 a0 x4 (decide (a0.Text ≠ []))) (sync_checkValue_j4 a0 x4 false))) (cnd (!x5) (sync_checkValue_j4 a0 x4 (decide (a0.Text ≠ []))) (sync_checkValue_j4 a0 x4 false)))) (cnd (!x4) (cnd (decide (a0.Name ≠ [])) (sync_checkValue_j4 a0 x4 true) (cnd (!x5) (sync_checkValue_j4 a0 x4 (decide (a0.Text ≠ []))) (sync_checkValue_j4 a0 x4 false))) (cnd (!x5) (sync_checkValue_j4 a0 x4 (decide (a0.Text ≠ []))) (sync_checkValue_j4 a0 x4 false))))
noncomputable def sync_checkValue_j2 (a0 : T_sync_Fact) (x3 : Bool) (x4 : Bool) : Option (Int) :=
  cnd (decide (a0.Kind = 1)) (sync_checkValue_j3 a0 x3 x4 true) (sync_checkValue_j3 a0 x3 x4 (decide (a0.Kind = 3)))
noncomputable def sync_checkValue_j1 (a0 : T_sync_Fact) (x3 : Bool) : Option (Int) :=
  cnd (decide (a0.Kind = 5)) (sync_checkValue_j2 a0 x3 true) (sync_checkValue_j2 a0 x3 (decide (a0.Kind = 6)))
noncomputable def sync_checkValue (a0 : T_sync_Fact) : Option (Int) :=
  cnd (decide (a0.Kind = 2)) (sync_checkValue_j1 a0 true) (cnd (decide (a0.Kind = 4)) (sync_checkValue_j1 a0 true) (sync_checkValue_j1 a0 (decide (a0.Kind = 6))))

/-! tintype/sync.CheckFact -/
noncomputable def sync_CheckFact (a0 : T_sync_Fact) : Option (Int) :=
  bnd (sync_outside a0.Dot.Device 0 15) fun t6 =>
  cnd t6 (some 2) (bnd (sync_outside a0.Dot.N 1 1000000) fun t11 =>
  cnd t11 (some 2) (bnd (sync_outside a0.Time 1 1000000) fun t16 =>
  cnd t16 (some 2) (bnd (sync_checkValue a0) fun t19 =>
  some t19)))

/-! slices.Index[[]int,int] -/
noncomputable def slices_Index_int_l1 (a0 : (List Int)) (a1 : Int) (next1 : ((Int) → Option (Int))) (x8_2 : Int) : Option (Int) :=
  cnd (decide (x8_2 < (a0.length : Int))) (bnd (gAt a0 x8_2) fun t14 =>
  cnd (decide (a1 = t14)) (some x8_2) (bnd (gI (x8_2 + 1)) fun t18 =>
  next1 t18)) (some (-1))
noncomputable def slices_Index_int (a0 : (List Int)) (a1 : Int) : Option (Int) :=
  fix (fun next1 s => slices_Index_int_l1 a0 a1 next1 s) 0

/-! slices.Contains[[]int,int] -/
noncomputable def slices_Contains_int (a0 : (List Int)) (a1 : Int) : Option (Bool) :=
  bnd (slices_Index_int a0 a1) fun t7 =>
  some (decide (0 ≤ t7))

/-! tintype/tintref2.FactFault$1 -/
noncomputable def R_FactFault_1 (q0 : T_sync_Fact) (a0 : (List Int)) : Option (Bool) :=
  bnd (slices_Contains_int a0 q0.Kind) fun t7 =>
  some t7

/-! tintype/tintref2.idOk -/
noncomputable def R_idOk (a0 : Int) : Option (Bool) :=
  cnd (decide (1 ≤ a0)) (some (decide (a0 ≤ 1000000))) (some false)

/-! tintype/tintref2.NameOk -/
noncomputable def R_NameOk (a0 : (List UInt8)) : Option (Bool) :=
  cnd (decide (a0 ≠ [])) (cnd (decide ((a0.length : Int) ≤ 40)) (bnd (gOct a0 0) fun t12 =>
  cnd (decide (97 ≤ t12)) (bnd (gOct a0 0) fun t17 =>
  cnd (decide (t17 ≤ 122)) (bnd (strings_Trim a0 [97, 98, 99, 100, 101, 102, 103, 104, 105, 106, 107, 108, 109, 110, 111, 112, 113, 114, 115, 116, 117, 118, 119, 120, 121, 122, 48, 49, 50, 51, 52, 53, 54, 55, 56, 57, 45]) fun t22 =>
  some (decide (t22 = []))) (some false)) (some false)) (some false)) (some false)

/-! tintype/tintref2.FactFault -/
noncomputable def R_FactFault_l2 (a0 : T_sync_Fact) (next2 : ((Int) → Option (Int))) (x126_2 : Int) : Option (Int) :=
  cnd (decide (x126_2 < (a0.Text.length : Int))) (bnd (gOct a0.Text x126_2) fun t132 =>
  cnd (decide (t132 < 32)) (some 9) (bnd (gI (x126_2 + 1)) fun t134 =>
  next2 t134)) (some 0)
noncomputable def R_FactFault_j1 (a0 : T_sync_Fact) : Option (Int) :=
  cnd (decide (a0.Kind = 1)) (cnd (decide ((a0.Text.length : Int) ≠ 16)) (some 1) (bnd (strings_Trim a0.Text [48, 49, 50, 51, 52, 53, 54, 55, 56, 57, 97, 98, 99, 100, 101, 102]) fun t104 =>
  cnd (decide (t104 ≠ [])) (some 1) (some 0))) (cnd (decide (a0.Kind = 2)) (cnd (decide (a0.Num < 0)) (some 2) (cnd (decide (5 < a0.Num)) (some 2) (some 0))) (cnd (decide (a0.Kind = 3)) (cnd (decide (200 < (a0.Text.length : Int))) (some 4) (fix (fun next2 s => R_FactFault_l2 a0 next2 s) 0)) (cnd (decide (a0.Kind = 4)) (cnd (decide (a0.Num ≠ 0)) (cnd (decide (a0.Num ≠ 1)) (some 2) (some 0)) (some 0)) (bnd (R_NameOk a0.Name) fun t85 =>
  cnd (!t85) (some 3) (cnd (decide (a0.Num < 0)) (some 2) (cnd (decide (6311433599 < a0.Num)) (some 2) (some 0)))))))
noncomputable def R_FactFault_j4 (a0 : T_sync_Fact) (x48_2 : Bool) : Option (Int) :=
  cnd x48_2 (cnd x48_2 (some 1) (bnd (R_idOk a0.Id) fun t79_2 =>
  cnd (!t79_2) (some 2) (R_FactFault_j1 a0))) (cnd (decide (a0.Name ≠ [])) (bnd ((R_FactFault_1 a0) ([5, 6] : List Int)) fun t73 =>
  cnd (!t73) (some 1) (bnd (R_idOk a0.Id) fun t79_3 =>
  cnd (!t79_3) (some 2) (R_FactFault_j1 a0))) (bnd (R_idOk a0.Id) fun t79_4 =>
  cnd (!t79_4) (some 2) (R_FactFault_j1 a0)))
noncomputable def R_FactFault_j3 (a0 : T_sync_Fact) (x48 : Bool) : Option (Int) :=
  cnd x48 (cnd x48 (some 1) (bnd (R_idOk a0.Id) fun t79 =>
  cnd (!t79) (some 2) (R_FactFault_j1 a0))) (cnd (decide (a0.Num ≠ 0)) (bnd ((R_FactFault_1 a0) ([2, 4, 6] : List Int)) fun t64 =>
  R_FactFault_j4 a0 (!t64)) (R_FactFault_j4 a0 false))
noncomputable def R_FactFault (a0 : T_sync_Fact) : Option (Int) :=
  cnd (decide (a0.Dot.Device < 0)) (some 2) (cnd (decide (16 ≤ a0.Dot.Device)) (some 2) (cnd (decide (a0.Dot.N < 1)) (some 2) (cnd (decide (1000000 < a0.Dot.N)) (some 2) (cnd (decide (a0.Time < 1)) (some 2) (cnd (decide (1000000 < a0.Time)) (some 2) (cnd (decide (a0.Kind < 1)) (some 10) (cnd (decide (6 < a0.Kind)) (some 10) (cnd (decide (a0.Text ≠ [])) (bnd ((R_FactFault_1 a0) ([1, 3] : List Int)) fun t55 =>
  R_FactFault_j3 a0 (!t55)) (R_FactFault_j3 a0 false)))))))))

/-! slices.Clone[[]tintype/sync.Fact,tintype/sync.Fact] -/
noncomputable def slices_Clone_sync_Fact (a0 : (List T_sync_Fact)) : Option ((List T_sync_Fact)) :=
  bnd (gApp 80 ([] : List T_sync_Fact) a0) fun l7 =>
  some l7

/-! (*tintype/sync.Replica).Facts -/
noncomputable def sync_Replica_Facts (a0 : T_sync_Replica) : Option ((List T_sync_Fact)) :=
  bnd (slices_Clone_sync_Fact a0.facts_) fun t7 =>
  some t7

/-! (*tintype/sync.Replica).Copy -/
noncomputable def sync_Replica_Copy (a0 : T_sync_Replica) (a1 : Int) : Option ((Option T_sync_Replica) × Int) :=
  bnd (sync_outside a1 0 15) fun t7 =>
  cnd t7 (some ((none : Option T_sync_Replica), 2)) (bnd (sync_Replica_Facts a0) fun t14 =>
  some ((some (⟨a1, a0.knows_, t14⟩ : T_sync_Replica)), 0))

/-! (*tintype/sync.Replica).Device -/
noncomputable def sync_Replica_Device (a0 : T_sync_Replica) : Option (Int) :=
  some a0.device_

/-! (*tintype/sync.Replica).Knows -/
noncomputable def sync_Replica_Knows (a0 : T_sync_Replica) : Option ((Nat → Int)) :=
  some a0.knows_

/-! slices.Equal[[]tintype/sync.Fact,tintype/sync.Fact] -/
noncomputable def slices_Equal_sync_Fact_l1 (a0 : (List T_sync_Fact)) (a1 : (List T_sync_Fact)) (next1 : ((Int) → Option (Bool))) (x13_2 : Int) : Option (Bool) :=
  cnd (decide (x13_2 < (a0.length : Int))) (bnd (gAt a0 x13_2) fun t18 =>
  bnd (gAt a1 x13_2) fun t22 =>
  cnd (!(eq_sync_Fact t18 t22)) (some false) (bnd (gI (x13_2 + 1)) fun t25 =>
  next1 t25)) (some true)
noncomputable def slices_Equal_sync_Fact (a0 : (List T_sync_Fact)) (a1 : (List T_sync_Fact)) : Option (Bool) :=
  cnd (decide ((a0.length : Int) ≠ (a1.length : Int))) (some false) (fix (fun next1 s => slices_Equal_sync_Fact_l1 a0 a1 next1 s) 0)

/-! tintype/sync.Alike -/
noncomputable def sync_Alike (a0 : T_sync_Replica) (a1 : T_sync_Replica) : Option (Bool) :=
  cnd (eq_sync_Knows a0.knows_ a1.knows_) (bnd (slices_Equal_sync_Fact a0.facts_ a1.facts_) fun t23 =>
  some t23) (some false)

/-! tintype/tintlaw2.SyncFacts -/
noncomputable def Law_SyncFacts_j2 (a1 : Int) (a2 : Int) (z : T_sync_Replica) (t45 : ((Option T_sync_Replica) × Int)) (x11 : Bool) : Option (Bool) :=
  bnd (Law_unless x11 2) fun t56 =>
  cnd (decide (t45.2 ≠ t56)) (some false) (cnd (decide ((Option.isSome t45.1) ≠ x11)) (some false) (bnd (sync_Replica_Device z) fun t65 =>
  cnd (decide (t65 = a1)) (bnd (sync_Replica_Knows z) fun t70 =>
  cnd (eq_sync_Knows t70 (fun _ => 0)) (bnd (sync_Replica_Facts z) fun t76 =>
  cnd (decide ((t76.length : Int) = 0)) (cnd (!x11) (some true) (bnd (t45.1) fun z_2 =>
  bnd (sync_Replica_Device z_2) fun t85 =>
  cnd (decide (t85 = a2)) (bnd (sync_Alike z z_2) fun t91 =>
  some t91) (some false))) (some false)) (some false)) (some false)))
noncomputable def Law_SyncFacts_j1 (a0 : T_sync_Fact) (a1 : Int) (a2 : Int) (t14 : ((Option T_sync_Replica) × Int)) (x9 : Bool) : Option (Bool) :=
  bnd (Law_unless x9 2) fun t25 =>
  cnd (decide (t14.2 ≠ t25)) (some false) (cnd (decide ((Option.isSome t14.1) ≠ x9)) (some false) (bnd (sync_CheckFact a0) fun t35 =>
  bnd (R_FactFault a0) fun t37 =>
  cnd (decide (t35 ≠ t37)) (some false) (cnd (!x9) (some true) (bnd (t14.1) fun z =>
  bnd (sync_Replica_Copy z a2) fun t45 =>
  cnd (decide (0 ≤ a2)) (Law_SyncFacts_j2 a1 a2 z t45 (decide (a2 < 16))) (Law_SyncFacts_j2 a1 a2 z t45 false)))))
noncomputable def Law_SyncFacts (a0 : T_sync_Fact) (a1 : Int) (a2 : Int) : Option (Bool) :=
  bnd (sync_New a1) fun t14 =>
  cnd (decide (0 ≤ a1)) (Law_SyncFacts_j1 a0 a1 a2 t14 (decide (a1 < 16))) (Law_SyncFacts_j1 a0 a1 a2 t14 false)

end Go.M
