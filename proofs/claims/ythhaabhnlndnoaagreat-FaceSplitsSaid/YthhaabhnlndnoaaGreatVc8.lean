/- Stores into rows, strings. Conditions: those that each rule names. -/
import Derived.Test.YthhaabhnlndnoaaGreatVc7
import Derived.Laws.Strings3
import Derived.Laws.Concat
namespace Go.Vc
open Go

section rules
variable {P : Program} {n : Nat} {cx : Cx} {Q : Post} {e : Env} {L : List Chunk} {ops : Array Oper} {F : Env → List Chunk → Prop} {rest : List Oper} {ss : List Kd}
variable {d : Nat} {ty : TypeId} {pos : String} {af : Array Edge} {g : Option (Nat × Bool)}

/-! ### stores into rows -/

theorem flatten_set {sz : Nat} : ∀ (xs : List (List Value)) (i : Nat) (x : List Value), (∀ x ∈ xs, x.length = sz) → i < xs.length → (xs.set i x).flatten = xs.flatten.take (i * sz) ++ x ++ xs.flatten.drop ((i + 1) * sz)
  | [], i, x, _, h => by simp at h
  | y :: r, 0, x, hl, _ => by
    have hy := hl y (by simp)
    simp [hy.symm]
  | y :: r, i + 1, x, hl, h => by
    have hy := hl y (by simp)
    have ih := flatten_set r i x (fun z hz => hl z (by simp [hz])) (by simpa using h)
    have e1 : (y ++ r.flatten).take ((i + 1) * sz) = y ++ r.flatten.take (i * sz) := by
      rw [List.take_append, List.take_of_length_le (l := y) (by rw [Nat.succ_mul]; omega), show (i + 1) * sz - y.length = i * sz from by rw [Nat.succ_mul]; omega]
    have e2 : (y ++ r.flatten).drop ((i + 1 + 1) * sz) = r.flatten.drop ((i + 1) * sz) := by
      rw [List.drop_append, List.drop_of_length_le (l := y) (by rw [Nat.succ_mul]; omega), show (i + 1 + 1) * sz - y.length = (i + 1) * sz from by rw [Nat.succ_mul (i + 1)]; omega, List.nil_append]
    rw [List.set_cons_succ, List.flatten_cons, ih, List.flatten_cons, e1, e2]
    simp

theorem flat_at {sz : Nat} (xs : List (List Value)) (i : Nat) (x : List Value) (hl : ∀ x ∈ xs, x.length = sz) (hx : xs[i]? = some x) : x = (xs.flatten.drop (i * sz)).take sz := by
  have hxl := hl x (List.mem_of_getElem? hx)
  refine List.ext_getElem? fun j => ?_
  rcases Nat.lt_or_ge j x.length with hj | hj
  · have := row_get xs i x (List.all_eq_true.2 fun y hy => by simpa using hl y hy) hx j x[j] (by simp [hj])
    rw [List.getElem?_take, if_pos (by omega), List.getElem?_drop, this]
    simp [hj]
  · rw [List.getElem?_eq_none hj, List.getElem?_take, if_neg (by omega)]

theorem set_cells {sz m i j : Nat} {cur vs : List Value} {xs : List (List Value)} {x x' : List Value} (hl : ∀ x ∈ xs, x.length = sz) (ht : cur.take (m * sz) = xs.flatten) (hm : xs.length = m) (hx : xs[i]? = some x) (hc : m * sz ≤ cur.length)
    (h1 : j + vs.length ≤ x.length) (h2 : x' = x.take j ++ vs ++ x.drop (j + vs.length)) :
    (cur.take (i * sz + j) ++ vs ++ cur.drop (i * sz + j + vs.length)).take (m * sz) = (xs.set i x').flatten := by
  have hi : i < xs.length := by
    rcases Nat.lt_or_ge i xs.length with h | h
    · exact h
    · simp [List.getElem?_eq_none h] at hx
  have hxl := hl x (List.mem_of_getElem? hx)
  have hle : (i + 1) * sz ≤ m * sz := Nat.mul_le_mul_right _ (by omega)
  rw [Nat.succ_mul] at hle
  have hfx := flat_at xs i x hl hx
  rw [flatten_set xs i x' hl hi, h2, ← ht]
  rw [← ht] at hfx
  have hTl : (cur.take (m * sz)).length = m * sz := by simp; omega
  generalize hT : cur.take (m * sz) = T at *
  have hcur : cur = T ++ cur.drop (m * sz) := by rw [← hT, List.take_append_drop]
  have hTs : T = T.take (i * sz) ++ (x ++ T.drop ((i + 1) * sz)) := by
    conv => lhs; rw [← List.take_append_drop (i * sz) T]
    rw [hfx]
    congr 1
    rw [Nat.succ_mul, ← List.drop_drop, List.take_append_drop]
  have e1 : cur.take (i * sz + j) = T.take (i * sz) ++ x.take j := by
    rw [hcur, List.take_append_of_le_length (by omega)]
    conv => lhs; rw [hTs]
    rw [List.take_append, List.take_of_length_le (by simp; omega), List.length_take, Nat.min_eq_left (by omega), Nat.add_sub_cancel_left, List.take_append_of_le_length (by omega)]
  have e2 : cur.drop (i * sz + j + vs.length) = x.drop (j + vs.length) ++ (T.drop ((i + 1) * sz) ++ cur.drop (m * sz)) := by
    conv => lhs; rw [hcur, List.drop_append_of_le_length (by omega), hTs]
    rw [List.drop_append, List.drop_of_length_le (l := T.take (i * sz)) (by simp; omega), List.length_take, Nat.min_eq_left (by omega), Nat.add_assoc, Nat.add_sub_cancel_left, List.nil_append, List.drop_append_of_le_length (by omega)]
    simp
  rw [e1, e2]
  have e3 : T.take (i * sz) ++ List.take j x ++ vs ++ (List.drop (j + vs.length) x ++ (List.drop ((i + 1) * sz) T ++ List.drop (m * sz) cur)) = (T.take (i * sz) ++ (x.take j ++ vs ++ x.drop (j + vs.length)) ++ T.drop ((i + 1) * sz)) ++ cur.drop (m * sz) := by simp
  rw [e3, List.take_append_of_le_length, List.take_of_length_le]
  · simp only [List.length_append, List.length_take, List.length_drop]; rw [Nat.succ_mul]; omega
  · simp only [List.length_append, List.length_take, List.length_drop]; rw [Nat.succ_mul]; omega

theorem run_storeR {T i j sz szT k m c : Nat} {A X : Operand} {x : Value} {a : Option Addr} {y y' vs : List Value} {xs : List (List Value)} {E : TypeId} {w : World} (hs : ∀ w, (sizeOf T).run P w = .ok szT w) (hp : ev e A = ptrAt a k) (hk : k = i * sz + j) (hx : ev e X = x) (hc : x.cells.toList = vs) (hsz : vs.length = szT)
    (hpos : Nat.blt 0 szT = true) (hone : vs.all Value.oneCell' = true) (hy : xs[i]? = some y) (hv : wr y j vs = some y') (ho : w.ownsRow 0 E sz (.slice a m c) m xs.flatten) (hm : xs.length = m) (hl : ∀ x ∈ xs, x.length = sz) :
    ∃ w', (execOp (ev e) ⟨none, .store T A X, ty, pos, af, g⟩).run P w = .ok .skip w' ∧ w'.ownsRow 0 E sz (.slice a m c) m (xs.set i y').flatten ∧ w.grownBy w' (Value.slice a m c).ownBlock := by
  have hpos' : 0 < vs.length := by rw [hsz]; simpa using hpos
  obtain ⟨h1, h2⟩ := wr_eq hv hpos'
  have hi : i < xs.length := by
    rcases Nat.lt_or_ge i xs.length with h | h
    · exact h
    · simp [List.getElem?_eq_none h] at hy
  rcases ho.2 with ⟨_, h0⟩ | ⟨g0, cap, cur, hv0, hb0, hh, hnc, hcm, hcs, htk⟩
  · omega
  · simp only [Value.slice.injEq] at hv0
    obtain ⟨rfl, _, rfl⟩ := hv0
    have hyl := hl y (List.mem_of_getElem? hy)
    have hcap : m * sz ≤ c * sz := Nat.mul_le_mul_right _ hnc
    have hle : (i + 1) * sz ≤ m * sz := Nat.mul_le_mul_right _ (by omega)
    rw [Nat.succ_mul] at hle
    have hst := run_storeCells_at P g0 k E vs 0 cur w hh (by rw [hk]; omega) (by simpa using hone)
    have hsz' : x.cells.size = szT := by rw [← hsz, ← hc]; simp
    have hp' : ev e A = .pointer (some ⟨g0, k, none⟩) := by rw [hp]; simp [ptrAt]
    simp only [Nat.add_zero] at hst
    refine ⟨w.setRow g0 (cur.toList.take k ++ vs ++ cur.toList.drop (k + vs.length)).toArray, by
      simp only [execOp, Instr.storeAt, Instr.sureAddr, storeVar, hp', hx, Sem.run_bind, Sem.run_pure, Result.andThen_ok, hs, hsz', ne_eq, not_true_eq_false, if_false, hc, hst], ⟨?_, .inr ⟨g0, c, _, rfl, hb0, setRow_heap w g0 cur _ E _ hh, hnc, hcm, ?_, ?_⟩⟩, ⟨rfl, rfl, rfl, by simp, fun b _ hb => setRow_other w g0 b _ (fun e => hb (by simp [Value.ownBlock, e]))⟩⟩
    · rw [flat_len (sz := sz) _ (by
        intro z hz
        rcases List.mem_or_eq_of_mem_set hz with h | h
        · exact hl z h
        · subst h; rw [h2]; simp only [List.length_append, List.length_take, List.length_drop]; omega)]
      simp [hm]
    · simp only [List.size_toArray, List.length_append, List.length_take, List.length_drop, Array.length_toList, hcs]
      rw [hk]; omega
    · rw [List.toList_toArray, hk]
      exact set_cells hl htk hm hy (by simpa [hcs] using hcap) h1 h2

/-- A store into an element of a row of one's own. -/
theorem l_storeR {q T i j sz szT k m c : Nat} {A X : Operand} {x : Value} {a : Option Addr} {y y' vs : List Value} {xs xs' : List (List Value)} {E : TypeId} (hs : ∀ w, (sizeOf T).run P w = .ok szT w)
    (hw : want ops ⟨none, .store T A X, ty, pos, af, g⟩ e = true) (hp : ev e A = ptrAt a k) (hk : k = i * sz + j) (hx : ev e X = x) (hc : x.cells.toList = vs) (hsz : vs.length = szT)
    (hpos : Nat.blt 0 szT = true) (hone : vs.all Value.oneCell' = true) (hL : L[q]? = some (rowV E sz (.slice a m c) m xs)) (hy : xs[i]? = some y) (hv : wr y j vs = some y') (hxs : xs.set i y' = xs')
    (k' : At cx (WL P n ops Q rest) e (L.set q (rowV E sz (.slice a m c) m xs'))) : At cx (WL P n ops Q (⟨none, .store T A X, ty, pos, af, g⟩ :: rest)) e L :=
  l_acts hw rfl fun w hF hS => by
    obtain ⟨S0, ⟨⟨ho, hlen, hlx⟩, hob⟩, _⟩ := hS.at hL
    obtain ⟨w', hr, h2, h3⟩ := run_storeR (P := P) (ty := ty) (pos := pos) (af := af) (g := g) hs hp hk hx hc hsz hpos hone hy hv ho hlen hlx
    subst hxs
    have hpos' : 0 < vs.length := by rw [hsz]; simpa using hpos
    obtain ⟨g1, g2⟩ := wr_eq hv hpos'
    obtain ⟨hF', hS'⟩ := hS.turnOf hF hL (C := rowV E sz (.slice a m c) m (xs.set i y')) fun S1 hp => turn_append hp.2 h2 h3 (.inl rfl) (by simp [hlen]) (by
      intro z hz
      rcases List.mem_or_eq_of_mem_set hz with h | h
      · exact hlx z h
      · subst h; rw [g2]; have := hlx y (List.mem_of_getElem? hy); simp only [List.length_append, List.length_take, List.length_drop]; omega)
    exact ⟨w', hr, k'.out w' hF' hS'⟩

theorem info_of {T : TypeId} {I : TypeInfo} (h : ∀ w, (typeInfo T).run P w = .ok I w) : P.info? T = some I := by
  have := h default
  unfold typeInfo at this
  cases hi : P.info? T with
  | none => simp [hi] at this
  | some J => simp [hi] at this; rw [this]

/-- An element of an array that is a value. -/
theorem r_indexA {d : Option Nat} {t u len sz : Nat} {X I : Operand} {cs : Array Value} {k : IntKind} {i : Int} {v : Value} (hu : ∀ w, (underlying t).run P w = .ok (.array len u) w) (hA : ∀ w, (isAgg u).run P w = .ok false w) (hs : ∀ w, (sizeOf u).run P w = .ok sz w)
    (hx : ev e X = .agg cs) (hi : ev e I = .int k i) (h0 : 0 ≤ i) (h1 : i < len) (hv : cs[i.toNat * sz]? = some v) (w : World) :
    (execOp (ev e) ⟨d, .index t X I, ty, pos, af, g⟩).run P w = .ok (.value v) w := by
  simp [execOp, Instr.index, asIntOf, hx, hi, hu, hs, h0, h1, part, hA, hv]

/-- The address of an element of an array. -/
theorem r_indexPA {d : Option Nat} {t u len sz b o : Nat} {X I : Operand} {k : IntKind} {i : Int} (hu : ∀ w, (underlying t).run P w = .ok (.array len u) w) (hs : ∀ w, (sizeOf u).run P w = .ok sz w)
    (hx : ev e X = .pointer (some ⟨b, o, none⟩)) (hi : ev e I = .int k i) (h0 : 0 ≤ i) (h1 : i < len) (w : World) :
    (execOp (ev e) ⟨d, .indexAddr t X I, ty, pos, af, g⟩).run P w = .ok (.value (.pointer (some ⟨b, o + i.toNat * sz, none⟩))) w := by
  simp [execOp, Instr.indexAt, Instr.sureAddr, hx, hi, asIntOf, hu, h0, h1, hs, Addr.add_lit]

/-- An array's literal. -/
theorem r_buildA {d : Option Nat} {t u len sz : Nat} {parts : Array (Nat × Operand)} {z cells : Array Value} {ps : List (Nat × Value)} (hz : ∀ w, (zeroValue t).run P w = .ok (.agg z) w) (hu : ∀ w, (underlying t).run P w = .ok (.array len u) w) (hs : ∀ w, (sizeOf u).run P w = .ok sz w)
    (hps : parts.toList.map (fun (i, x) => (i, ev e x)) = ps) (hf : Instr.fill (fun i => some (i * sz, sz)) z ps = some cells) (w : World) :
    (execOp (ev e) ⟨d, .build t parts, ty, pos, af, g⟩).run P w = .ok (.value (.agg cells)) w := by
  have hz' : (Value.agg z).cells = z := rfl
  have hps' : (parts.map fun (i, x) => (i, ev e x)).toList = ps := by rw [← hps, Array.toList_map]
  simp only [execOp, Instr.build, Sem.run_bind, hz, hu, hs, Result.andThen_ok, hps', hz', hf, Sem.run_pure]

/-- Arrays of whole numbers, compared. -/
theorem run_eqInts {d t u len : Nat} {k k' : IntKind} (us vs : List Int) (hl : us.length = len) (hl' : vs.length = len) (ht : P.underlying t = some (.array len u)) (hu : P.underlying u = some (.int k')) (hA : ∀ w, (isAgg u).run P w = .ok false w) (hs : ∀ w, (sizeOf u).run P w = .ok 1 w) (w : World) :
    (Op.equalIn (d + 2) t (.agg (us.map (Value.int k)).toArray) (.agg (vs.map (Value.int k)).toArray)).run P w = .ok (decide (us = vs)) w := by
  have key : ∀ (m s : Nat), s + m = len → us.take s = vs.take s →
      ((do
        for i in List.range' s m do
          if !(← Op.equalIn (d + 1) u (← part u (us.map (Value.int k)).toArray (i * 1)) (← part u (vs.map (Value.int k)).toArray (i * 1))) then return false
        pure true : Sem Bool)).run P w = .ok (decide (us = vs)) w := by
    intro m
    induction m with
    | zero =>
      intro s hs' ht'
      rw [List.take_of_length_le (by omega), List.take_of_length_le (by omega)] at ht'
      simp [ht']
    | succ m ih =>
      intro s hs' ht'
      have h1 : s < us.length := by omega
      have h2 : s < vs.length := by omega
      have e1 : (part u (us.map (Value.int k)).toArray (s * 1)).run P w = .ok (.int k us[s]) w := by simp [part, hA, h1]
      have e2 : (part u (vs.map (Value.int k)).toArray (s * 1)).run P w = .ok (.int k vs[s]) w := by simp [part, hA, h2]
      have e3 := run_equalIn_int (P := P) w d u k k' us[s] vs[s] hu
      rw [List.range'_succ]
      simp only [List.forIn_cons, Sem.run_bind, e1, e2, Result.andThen_ok, e3]
      by_cases he : us[s] = vs[s]
      · have := ih (s + 1) (by omega) (by rw [List.take_add_one, List.take_add_one, ht', List.getElem?_eq_getElem h1, List.getElem?_eq_getElem h2, he])
        simp only [he, beq_self_eq_true, Bool.not_true, Bool.false_eq_true, if_false, Sem.run_pure, Result.andThen_ok]
        simp only [Sem.run_bind] at this
        exact this
      · have hne : us ≠ vs := fun h => he (by subst h; rfl)
        have hb : (us[s] == vs[s]) = false := by simp [he]
        simp [hb, hne]
  have h0 := key len 0 (by omega) (by simp)
  rw [Op.equalIn]
  simp only [Sem.run_bind, run_underlying ht, Result.andThen_ok, hs]
  simp only [Std.Legacy.Range.forIn_eq_forIn_range', Std.Legacy.Range.size] 
  simp only [Sem.run_bind] at h0
  simpa using h0

/-- The state of a loop, said plainly. -/
theorem c_tidyS {K : Env → World → Prop} {l l' : List (Nat × Value)} {m m' : List (Nat × Chunk)} {h : Env} (h1 : l = l') (h2 : m = m') (k : At cx K (mkE l' h) (setAll L m')) : At cx K (mkE l h) (setAll L m) := by
  subst h1 h2; exact k

/-! ### strings -/

/-- A string, as the list of its octets. -/
abbrev str (s : List UInt8) : Value := .string ⟨s.toArray⟩

theorem bytes_list (s : List UInt8) : (ByteArray.mk s.toArray).toList = s := by rw [ByteArray.toList_eq]

theorem r_lenT {d : Option Nat} {X : Operand} {s : List UInt8} {t : TypeId} (hu : P.underlying t = some .string) (hx : ev e X = str s) (w : World) :
    (execOp (ev e) ⟨d, .call ⟨.builtin .len, #[X], #[t]⟩, ty, pos, af, g⟩).run P w = .ok (.value (.int .i64 s.length)) w := by
  rw [r_lenS hu hx]; rfl

theorem r_concat {d : Option Nat} {t t' : TypeId} {X Y : Operand} {a b : List UInt8} (hx : ev e X = str a) (hy : ev e Y = str b) (hl : a.length + b.length ≤ 9223372036854775807) (w : World) :
    (execOp (ev e) ⟨d, .binOp .add t X Y t', ty, pos, af, g⟩).run P w = .ok (.value (str (a ++ b))) w := by
  have h := run_string_add_sum (P := P) w (ByteArray.mk a.toArray) (ByteArray.mk b.toArray) (by simpa [ByteArray.size] using hl)
  simp [execOp, hx, hy, eqGuard, binOp_string_add, h, ByteArray.mk_append_mk]

theorem r_eqlT {d : Option Nat} {t t' : TypeId} {X Y : Operand} {a b : List UInt8} (hx : ev e X = str a) (hy : ev e Y = str b) (w : World) :
    (execOp (ev e) ⟨d, .binOp .eql t X Y t', ty, pos, af, g⟩).run P w = .ok (.value (.bool (decide (a = b)))) w := by
  have : (a == b) = decide (a = b) := by rw [Bool.eq_iff_iff]; simp
  simp [execOp, hx, hy, eqGuard, binOp_string_eql, this]

theorem r_neqT {d : Option Nat} {t t' : TypeId} {X Y : Operand} {a b : List UInt8} (hx : ev e X = str a) (hy : ev e Y = str b) (w : World) :
    (execOp (ev e) ⟨d, .binOp .neq t X Y t', ty, pos, af, g⟩).run P w = .ok (.value (.bool (decide (a ≠ b)))) w := by
  have : (a == b) = decide (a = b) := by rw [Bool.eq_iff_iff]; simp
  simp [execOp, hx, hy, eqGuard, binOp_string_neq, this]

theorem r_indexT {d : Option Nat} {t : TypeId} {X I : Operand} {s : List UInt8} {k : IntKind} {i : Int} (hu : P.underlying t = some .string) (hx : ev e X = str s) (hi : ev e I = .int k i) (h0 : 0 ≤ i) (h1 : i < s.length) (w : World) :
    (execOp (ev e) ⟨d, .index t X I, ty, pos, af, g⟩).run P w = .ok (.value (.int .u8 ((s.getD i.toNat 0).toNat : Nat))) w := by
  have hlt : i.toNat < s.length := by omega
  have h : (0 ≤ i ∧ i < ((ByteArray.mk s.toArray).size : Nat)) := ⟨h0, by simpa [ByteArray.size] using h1⟩
  simp only [execOp, hx, hi, Sem.run_bind, run_index_string w t _ k i hu, dif_pos h, Result.andThen_ok, Sem.run_pure]
  have : (ByteArray.mk s.toArray)[i.toNat]'(by simpa [ByteArray.size] using hlt) = s.getD i.toNat 0 := by
    rw [List.getD_eq_getElem?_getD, List.getElem?_eq_getElem hlt]; rfl
  rw [this]

theorem extract_list (s : List UInt8) (a b : Nat) : (ByteArray.mk s.toArray).extract a b = ByteArray.mk ((s.drop a).take (b - a)).toArray := ByteArray.extract_mk s a b

theorem r_cutT {d : Option Nat} {t : TypeId} {X A B : Operand} {s : List UInt8} {ka kb : IntKind} {l h : Int} (hu : P.underlying t = some .string) (hx : ev e X = str s) (ha : ev e A = .int ka l) (hb : ev e B = .int kb h) (h0 : 0 ≤ l) (h1 : l ≤ h) (h2 : h ≤ s.length) (w : World) :
    (execOp (ev e) ⟨d, .slice t X (some A) (some B) none, ty, pos, af, g⟩).run P w = .ok (.value (str ((s.drop l.toNat).take (h.toNat - l.toNat)))) w := by
  have h' := run_slice_string (P := P) w t (ByteArray.mk s.toArray) ka kb l h hu h0 h1 (by simpa [ByteArray.size] using h2)
  simp only [execOp, Option.map_some, Option.map_none, hx, ha, hb, Sem.run_bind, run_sliceAt_string w t _ _ _ _ hu, h', Result.andThen_ok, Sem.run_pure, extract_list]

theorem r_cutTo {d : Option Nat} {t : TypeId} {X B : Operand} {s : List UInt8} {kb : IntKind} {h : Int} (hu : P.underlying t = some .string) (hx : ev e X = str s) (hb : ev e B = .int kb h) (h0 : 0 ≤ h) (h2 : h ≤ s.length) (w : World) :
    (execOp (ev e) ⟨d, .slice t X none (some B) none, ty, pos, af, g⟩).run P w = .ok (.value (str (s.take h.toNat))) w := by
  have h' := run_slice_string_to_if (P := P) w t (ByteArray.mk s.toArray) kb h hu
  rw [if_pos ⟨h0, by simpa [ByteArray.size] using h2⟩] at h'
  simp only [execOp, Option.map_some, Option.map_none, hx, hb, Sem.run_bind, run_sliceAt_string w t _ _ _ _ hu, h', Result.andThen_ok, Sem.run_pure, extract_list, List.drop_zero, Nat.sub_zero]

theorem r_cutFrom {d : Option Nat} {t : TypeId} {X A : Operand} {s : List UInt8} {ka : IntKind} {l : Int} (hu : P.underlying t = some .string) (hx : ev e X = str s) (ha : ev e A = .int ka l) (h0 : 0 ≤ l) (h2 : l ≤ s.length) (w : World) :
    (execOp (ev e) ⟨d, .slice t X (some A) none none, ty, pos, af, g⟩).run P w = .ok (.value (str (s.drop l.toNat))) w := by
  have h' := run_slice_string_from_if (P := P) w t (ByteArray.mk s.toArray) ka l hu
  rw [if_pos ⟨h0, by simpa [ByteArray.size] using h2⟩] at h'
  have hs : (ByteArray.mk s.toArray).size = s.length := by simp [ByteArray.size]
  simp only [execOp, Option.map_some, Option.map_none, hx, ha, Sem.run_bind, run_sliceAt_string w t _ _ _ _ hu, h', Result.andThen_ok, Sem.run_pure, extract_list, hs]
  rw [List.take_of_length_le (by simp)]

/-- An ASCII letter as a string. -/
theorem r_convRune {d : Option Nat} {X : Operand} {s t : TypeId} {x : Int} {c : UInt8} {k : IntKind} (hs : ∀ w, (underlying s).run P w = .ok (.int k) w) (ht : ∀ w, (underlying t).run P w = .ok .string w) (hx : ev e X = .int k x) (h0 : 0 ≤ x) (h1 : x < 128) (hc : x.toNat.toUInt8 = c) (w : World) :
    (execOp (ev e) ⟨d, .convert s t X, ty, pos, af, g⟩).run P w = .ok (.value (str [c])) w := by
  subst hc
  have : Utf8.encode x = ByteArray.mk [x.toNat.toUInt8].toArray := by
    have hv : Utf8.valid x = true := by
      unfold Utf8.valid; simp; omega
    unfold Utf8.encode
    simp only [hv, if_true]
    rw [if_pos (by omega)]
  simp [execOp, hx, convert, hs, ht, Conv.intToString, this]

end rules

theorem win_i64 {n : Int} (h : -9223372036854775808 ≤ n ∧ n ≤ 9223372036854775807) : IntKind.i64.wrap n = n := by
  simp [IntKind.wrap, IntKind.bits, IntKind.signed]; omega
theorem win_i32 {n : Int} (h : -2147483648 ≤ n ∧ n ≤ 2147483647) : IntKind.i32.wrap n = n := by
  simp [IntKind.wrap, IntKind.bits, IntKind.signed]; omega
theorem win_u8 {n : Int} (h : 0 ≤ n ∧ n ≤ 255) : IntKind.u8.wrap n = n := by
  simp [IntKind.wrap, IntKind.bits, IntKind.signed]; omega
theorem win_u32 {n : Int} (h : 0 ≤ n ∧ n ≤ 4294967295) : IntKind.u32.wrap n = n := by
  simp [IntKind.wrap, IntKind.bits, IntKind.signed]; omega
theorem win_u64 {n : Int} (h : 0 ≤ n ∧ n ≤ 18446744073709551615) : IntKind.u64.wrap n = n := by
  simp [IntKind.wrap, IntKind.bits, IntKind.signed]; omega

theorem take_more {α : Type} {xs ys : List α} {k : Nat} (h1 : k < xs.length) (h2 : k < ys.length) (h : xs.take k = ys.take k) (he : xs[k] = ys[k]) : xs.take (k + 1) = ys.take (k + 1) := by
  rw [List.take_add_one, List.take_add_one, h, List.getElem?_eq_getElem h1, List.getElem?_eq_getElem h2, he]
theorem take_all {α : Type} {xs ys : List α} {k : Nat} (h : xs.take k = ys.take k) (h1 : xs.length ≤ k) (h2 : ys.length ≤ k) : xs = ys := by
  rwa [List.take_of_length_le h1, List.take_of_length_le h2] at h

abbrev encS (s : List UInt8) : List Value := [str s]
abbrev encI (x : Int) : List Value := [.int .i64 x]
end Go.Vc
