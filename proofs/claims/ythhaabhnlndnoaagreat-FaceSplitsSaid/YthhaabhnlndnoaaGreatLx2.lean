/- More rules for walks that are led by a model: kinds of numbers, shifts, arrays, stores, appends, several results. Conditions: none. -/
import Derived.Test.YthhaabhnlndnoaaGreatLx
namespace Go.Lx
open Go Go.Vc Go.Md

theorem wr_u8 (x : Int) : IntKind.u8.wrap x = wU8 x := by simp [IntKind.wrap, IntKind.bits, IntKind.signed, wU8]
theorem wr_u16 (x : Int) : IntKind.u16.wrap x = wU16 x := by simp [IntKind.wrap, IntKind.bits, IntKind.signed, wU16]
theorem wr_u32 (x : Int) : IntKind.u32.wrap x = wU32 x := by simp [IntKind.wrap, IntKind.bits, IntKind.signed, wU32]
theorem wr_u64 (x : Int) : IntKind.u64.wrap x = wU64 x := by simp [IntKind.wrap, IntKind.bits, IntKind.signed, wU64]
theorem wr_i8 (x : Int) : IntKind.i8.wrap x = wI8 x := by simp [IntKind.wrap, IntKind.bits, IntKind.signed, wI8]
theorem wr_i16 (x : Int) : IntKind.i16.wrap x = wI16 x := by simp [IntKind.wrap, IntKind.bits, IntKind.signed, wI16]
theorem wr_i32 (x : Int) : IntKind.i32.wrap x = wI32 x := by simp [IntKind.wrap, IntKind.bits, IntKind.signed, wI32]
theorem wr_i64 (x : Int) : IntKind.i64.wrap x = wI64 x := by simp [IntKind.wrap, IntKind.bits, IntKind.signed, wI64]

theorem gK_u8 {x y : Int} (h : gK 0 255 x = some y) : IntKind.u8.wrap x = y := by obtain ⟨rfl, h⟩ := gK_some h; rw [wr_u8]; unfold wU8; omega
theorem gK_u16 {x y : Int} (h : gK 0 65535 x = some y) : IntKind.u16.wrap x = y := by obtain ⟨rfl, h⟩ := gK_some h; rw [wr_u16]; unfold wU16; omega
theorem gK_u32 {x y : Int} (h : gK 0 4294967295 x = some y) : IntKind.u32.wrap x = y := by obtain ⟨rfl, h⟩ := gK_some h; rw [wr_u32]; unfold wU32; omega
theorem gK_u64 {x y : Int} (h : gK 0 18446744073709551615 x = some y) : IntKind.u64.wrap x = y := by obtain ⟨rfl, h⟩ := gK_some h; rw [wr_u64]; unfold wU64; omega
theorem gK_i8 {x y : Int} (h : gK (-128) 127 x = some y) : IntKind.i8.wrap x = y := by obtain ⟨rfl, h⟩ := gK_some h; rw [wr_i8]; unfold wI8; split <;> omega
theorem gK_i16 {x y : Int} (h : gK (-32768) 32767 x = some y) : IntKind.i16.wrap x = y := by obtain ⟨rfl, h⟩ := gK_some h; rw [wr_i16]; unfold wI16; split <;> omega
theorem gK_i32 {x y : Int} (h : gK (-2147483648) 2147483647 x = some y) : IntKind.i32.wrap x = y := by obtain ⟨rfl, h⟩ := gK_some h; rw [wr_i32]; unfold wI32; split <;> omega
theorem gK_i64 {x y : Int} (h : gK (-9223372036854775808) 9223372036854775807 x = some y) : IntKind.i64.wrap x = y := by obtain ⟨rfl, h⟩ := gK_some h; rw [wr_i64]; unfold wI64; split <;> omega

section ops
variable {P : Program} {e : Env} {d : Option Nat} {ty : TypeId} {pos : String} {af : Array Edge} {g : Option (Nat × Bool)}

section bin
variable {X Y : Operand} {x y z u : Int} {t t' : TypeId} {kd k2 : IntKind} {bits : Nat}

theorem r_addW (hx : ev e X = .int kd x) (hy : ev e Y = .int kd y) (h : kd.wrap (x + y) = z) (w : World) :
    (execOp (ev e) ⟨d, .binOp .add t X Y t', ty, pos, af, g⟩).run P w = .ok (.value (.int kd z)) w :=
  r_bin hx hy (fun w => by simp [binOp, Op.intArith, h]) w
theorem r_subW (hx : ev e X = .int kd x) (hy : ev e Y = .int kd y) (h : kd.wrap (x - y) = z) (w : World) :
    (execOp (ev e) ⟨d, .binOp .sub t X Y t', ty, pos, af, g⟩).run P w = .ok (.value (.int kd z)) w :=
  r_bin hx hy (fun w => by simp [binOp, Op.intArith, h]) w
theorem r_mulW (hx : ev e X = .int kd x) (hy : ev e Y = .int kd y) (h : kd.wrap (x * y) = z) (w : World) :
    (execOp (ev e) ⟨d, .binOp .mul t X Y t', ty, pos, af, g⟩).run P w = .ok (.value (.int kd z)) w :=
  r_bin hx hy (fun w => by simp [binOp, Op.intArith, h]) w

theorem r_bin2 {op : BinOp} {v : Value} (hx : ev e X = .int kd x) (hy : ev e Y = .int k2 y) (hg : ∀ w, (eqGuard op t X Y (.int kd x) (.int k2 y)).run P w = .ok () w)
    (hr : ∀ w, (binOp op t (.int kd x) (.int k2 y)).run P w = .ok v w) (w : World) :
    (execOp (ev e) ⟨d, .binOp op t X Y t', ty, pos, af, g⟩).run P w = .ok (.value v) w := by
  simp [execOp, hx, hy, hg, hr]

theorem r_shlG (hx : ev e X = .int .i64 x) (hy : ev e Y = .int k2 y) (h : gShl x y = some z) (w : World) :
    (execOp (ev e) ⟨d, .binOp .shl t X Y t', ty, pos, af, g⟩).run P w = .ok (.value (.int .i64 z)) w := by
  obtain ⟨h0, h1, rfl, hb⟩ := gShl_some h
  refine r_bin2 hx hy (fun w => rfl) (fun w => ?_) w
  have h2 : min y.toNat IntKind.i64.bits = y.toNat := by show min y.toNat 64 = y.toNat; omega
  have hn : ¬ y < 0 := by omega
  rw [binOp_shl]
  unfold Op.shift
  rw [if_neg hn]
  simp only [h2, IntWalk.i64_in _ hb, Sem.run_pure]

theorem r_shlW (hx : ev e X = .int kd x) (hy : ev e Y = .int k2 y) (hbits : kd.bits = bits) (h : gShlW bits x y = some z) (hw : kd.wrap z = u) (w : World) :
    (execOp (ev e) ⟨d, .binOp .shl t X Y t', ty, pos, af, g⟩).run P w = .ok (.value (.int kd u)) w := by
  subst hbits hw
  unfold gShlW at h; split at h
  · cases h
    refine r_bin2 hx hy (fun w => rfl) (fun w => ?_) w
    have hn : ¬ y < 0 := by omega
    rw [binOp_shl]
    unfold Op.shift
    rw [if_neg hn]
    simp only [Sem.run_pure]
  · cases h

theorem r_shrG (hx : ev e X = .int kd x) (hy : ev e Y = .int k2 y) (hbits : kd.bits = bits) (h : gShr bits x y = some z) (w : World) :
    (execOp (ev e) ⟨d, .binOp .shr t X Y t', ty, pos, af, g⟩).run P w = .ok (.value (.int kd z)) w := by
  subst hbits
  unfold gShr at h; split at h
  · cases h
    refine r_bin2 hx hy (fun w => rfl) (fun w => ?_) w
    have hf : x.fdiv (2 ^ min y.toNat kd.bits) = x / 2 ^ min y.toNat kd.bits := Int.fdiv_eq_ediv_of_nonneg _ (Int.pow_nonneg (by omega))
    have hn : ¬ y < 0 := by omega
    rw [show binOp .shr t (.int kd x) (.int k2 y) = Op.shift .shr kd x k2 y from rfl]
    unfold Op.shift
    rw [if_neg hn]
    simp only [hf, Sem.run_pure]
  · cases h

theorem r_bitsAnd (hx : ev e X = .int kd x) (hy : ev e Y = .int kd y) (hbits : kd.bits = bits) (hw : kd.wrap (bAnd bits x y) = z) (w : World) :
    (execOp (ev e) ⟨d, .binOp .and t X Y t', ty, pos, af, g⟩).run P w = .ok (.value (.int kd z)) w := by
  subst hbits hw
  exact r_bin hx hy (fun w => by rw [binOp_and]; rfl) w
theorem r_bitsOr (hx : ev e X = .int kd x) (hy : ev e Y = .int kd y) (hbits : kd.bits = bits) (hw : kd.wrap (bOr bits x y) = z) (w : World) :
    (execOp (ev e) ⟨d, .binOp .or t X Y t', ty, pos, af, g⟩).run P w = .ok (.value (.int kd z)) w := by
  subst hbits hw
  exact r_bin hx hy (fun w => by rw [binOp_or]; rfl) w
theorem r_bitsXor (hx : ev e X = .int kd x) (hy : ev e Y = .int kd y) (hbits : kd.bits = bits) (hw : kd.wrap (bXor bits x y) = z) (w : World) :
    (execOp (ev e) ⟨d, .binOp .xor t X Y t', ty, pos, af, g⟩).run P w = .ok (.value (.int kd z)) w := by
  subst hbits hw
  exact r_bin hx hy (fun w => by rw [binOp_xor]; rfl) w
end bin

theorem r_convG {X : Operand} {s t : TypeId} {k0 k1 : IntKind} {x y : Int} {su : TypeDesc} (hs : ∀ w, (underlying s).run P w = .ok su w) (ht : ∀ w, (underlying t).run P w = .ok (.int k1) w)
    (hx : ev e X = .int k0 x) (hr : k1.wrap x = y) (w : World) :
    (execOp (ev e) ⟨d, .convert s t X, ty, pos, af, g⟩).run P w = .ok (.value (.int k1 y)) w := by
  subst hr
  simp [execOp, hx, convert, hs, ht, Conv.intToInt]

theorem run_equalIn_strL (w : World) (d t : Nat) (a b : List UInt8) (h : P.underlying t = some .string) : (Op.equalIn (d + 1) t (str a) (str b)).run P w = .ok (decide (a = b)) w := by
  rw [run_equalIn_string (h := h)]
  have : ((ByteArray.mk a.toArray).toList == (ByteArray.mk b.toArray).toList) = decide (a = b) := by
    rw [bytes_list, bytes_list, Bool.eq_iff_iff]; simp
  rw [this]

theorem r_convSame {X : Operand} {s t : TypeId} {v : List UInt8} (hs : ∀ w, (underlying s).run P w = .ok .string w) (ht : ∀ w, (underlying t).run P w = .ok .string w) (hx : ev e X = str v) (w : World) :
    (execOp (ev e) ⟨d, .convert s t X, ty, pos, af, g⟩).run P w = .ok (.value (str v)) w := by
  simp [execOp, hx, convert, hs, ht]

/-- An element of what a literal has laid down. -/
theorem r_indexS {X I : Operand} {b m c : Nat} {t u sz : Nat} {k : IntKind} {i : Int} {α : Type} {xs : List α} {x : α} (hu : P.underlying t = some (.slice u)) (hs : ∀ w, (sizeOf u).run P w = .ok sz w)
    (hx : ev e X = .slice (some ⟨b, 0, none⟩) m c) (hi : ev e I = .int k i) (hg : gAt xs i = some x) (hm : xs.length = m) (w : World) :
    (execOp (ev e) ⟨d, .indexAddr t X I, ty, pos, af, g⟩).run P w = .ok (.value (ptrAt (some ⟨b, 0, none⟩) (i.toNat * sz))) w := by
  obtain ⟨h0, h1, _⟩ := gAt_some hg
  exact r_index hu hs hx hi ⟨_, _, rfl⟩ h0 (by omega) w

/-! ### arrays -/

theorem r_indexAG {t u len : Nat} {X I : Operand} {cs : List Value} {k : IntKind} {i : Int} {q : Nat} {f : Nat → Value} (hu : ∀ w, (underlying t).run P w = .ok (.array len u) w) (hA : ∀ w, (isAgg u).run P w = .ok false w) (hs : ∀ w, (sizeOf u).run P w = .ok 1 w)
    (hx : ev e X = .agg cs.toArray) (hi : ev e I = .int k i) (hcs : (List.range len).map f = cs) (h : gIx len i = some q) (w : World) :
    (execOp (ev e) ⟨d, .index t X I, ty, pos, af, g⟩).run P w = .ok (.value (f q)) w := by
  obtain ⟨h0, h1, rfl⟩ := gIx_some h
  subst hcs
  refine r_indexA hu hA hs hx hi h0 h1 ?_ w
  simp [show i.toNat < len by omega]

theorem flat_range {f : Nat → List Value} {sz : Nat} (hf : ∀ j, (f j).length = sz) : ∀ (n i : Nat), i < n → ((List.range n).flatMap f).length = n * sz ∧ (((List.range n).flatMap f).drop (i * sz)).take sz = f i := by
  intro n
  induction n with
  | zero => intro i h; omega
  | succ n ih =>
    intro i hi
    rw [List.range_succ, List.flatMap_append, List.flatMap_singleton]
    have hl : ((List.range n).flatMap f).length = n * sz := by
      cases n with
      | zero => simp
      | succ n => exact (ih 0 (by omega)).1
    refine ⟨by rw [List.length_append, hl, hf, Nat.succ_mul], ?_⟩
    rcases Nat.lt_or_ge i n with h | h
    · have hle : (i + 1) * sz ≤ n * sz := Nat.mul_le_mul_right _ h
      rw [Nat.succ_mul] at hle
      rw [List.drop_append_of_le_length (by omega), List.take_append_of_le_length (by rw [List.length_drop]; omega)]
      exact (ih i h).2
    · have : i = n := by omega
      subst this
      rw [← hl, List.drop_left, List.take_of_length_le (by rw [hf]; omega)]

theorem r_indexAN {t u len sz : Nat} {X I : Operand} {cs : List Value} {k : IntKind} {i : Int} {q : Nat} {f : Nat → List Value} (hu : ∀ w, (underlying t).run P w = .ok (.array len u) w) (hA : ∀ w, (isAgg u).run P w = .ok true w) (hs : ∀ w, (sizeOf u).run P w = .ok sz w)
    (hx : ev e X = .agg cs.toArray) (hi : ev e I = .int k i) (hcs : (List.range len).flatMap f = cs) (hf : ∀ j, (f j).length = sz) (h : gIx len i = some q) (w : World) :
    (execOp (ev e) ⟨d, .index t X I, ty, pos, af, g⟩).run P w = .ok (.value (.agg (f q).toArray)) w := by
  obtain ⟨h0, h1, rfl⟩ := gIx_some h
  subst hcs
  obtain ⟨hl, ht⟩ := flat_range hf len i.toNat (by omega)
  have hle : i.toNat * sz + sz ≤ len * sz := by rw [← Nat.succ_mul]; exact Nat.mul_le_mul_right _ (by omega)
  have he : (((List.range len).flatMap f).toArray.extract (i.toNat * sz) (i.toNat * sz + sz)) = (f i.toNat).toArray := by
    rw [List.extract_toArray, List.extract_eq_take_drop, Nat.add_sub_cancel_left, ht]
  simp only [execOp, Instr.index, asIntOf, hx, hi, Sem.run_bind, Sem.run_pure, Result.andThen_ok, hu, hs, h0, h1, and_self, if_true, part, hA]
  simp [he, hl, hle]

theorem r_indexPG {t u len sz b o : Nat} {X I : Operand} {k : IntKind} {i : Int} {q : Nat} (hu : ∀ w, (underlying t).run P w = .ok (.array len u) w) (hs : ∀ w, (sizeOf u).run P w = .ok sz w)
    (hx : ev e X = .pointer (some ⟨b, o, none⟩)) (hi : ev e I = .int k i) (h : gIx len i = some q) (w : World) :
    (execOp (ev e) ⟨d, .indexAddr t X I, ty, pos, af, g⟩).run P w = .ok (.value (.pointer (some ⟨b, o + q * sz, none⟩))) w := by
  obtain ⟨h0, h1, rfl⟩ := gIx_some h
  exact r_indexPA hu hs hx hi h0 h1 w

theorem rg_arr {pre post cs : List Value} {f : Nat → List Value} {n sz q o k : Nat} {v : Value} (hcs : cs = pre ++ ((List.range n).flatMap f ++ post)) (ho : pre.length = o) (hf : ∀ j, (f j).length = sz) (hk : k < n) (hv : rg (f k) q = some v) : rg cs (o + k * sz + q) = some v := by
  subst hcs ho
  obtain ⟨hl, ht⟩ := flat_range hf n k hk
  rw [rg_eq] at hv ⊢
  have hq : q < sz := by
    rcases Nat.lt_or_ge q sz with h | h
    · exact h
    · rw [List.getElem?_eq_none (by rw [hf]; exact h)] at hv; cases hv
  have hle : k * sz + sz ≤ n * sz := by rw [← Nat.succ_mul]; exact Nat.mul_le_mul_right _ (by omega)
  rw [Nat.add_assoc, List.getElem?_append_right (by omega), Nat.add_sub_cancel_left, List.getElem?_append_left (by omega), ← hv, ← ht, List.getElem?_take, if_pos hq, List.getElem?_drop]

theorem wr_of {cs vs : List Value} {o : Nat} (h : o + vs.length ≤ cs.length) : wr cs o vs = some (cs.take o ++ vs ++ cs.drop (o + vs.length)) := by
  have wn : ∀ (vs cs : List Value), vs.length ≤ cs.length → wrn cs vs = some (vs ++ cs.drop vs.length) := by
    intro vs
    induction vs with
    | nil => intro cs _; cases cs <;> simp [wrn]
    | cons v vs ih =>
      intro cs h
      cases cs with
      | nil => simp at h
      | cons c r => simp [wrn, ih r (by simpa using h)]
  induction cs generalizing o with
  | nil =>
    simp at h
    obtain ⟨rfl, h⟩ := h
    subst h
    simp [wr, wrn]
  | cons c r ih =>
    cases o with
    | zero => simpa [wr] using wn vs (c :: r) (by simpa using h)
    | succ o =>
      simp only [wr]
      rw [ih (by simp at h; omega)]
      simp [show o + 1 + vs.length = (o + vs.length) + 1 from by omega]

theorem wr_arr {α : Type} {pre post cs cs' vs : List Value} {f : α → List Value} {n sz o k : Nat} {a : Nat → α} {x : α} (hcs : cs = pre ++ ((List.range n).flatMap (fun j => f (a j)) ++ post)) (ho : pre.length = o) (hf : ∀ y, (f y).length = sz) (hk : k < n) (hvs : vs = f x)
    (hcs' : cs' = pre ++ ((List.range n).flatMap (fun j => f (setA a k x j)) ++ post)) : wr cs (o + k * sz) vs = some cs' := by
  subst hcs hcs' ho hvs
  obtain ⟨hl, ht⟩ := flat_range (f := fun j => f (a j)) (fun j => hf _) n k hk
  obtain ⟨hl', ht'⟩ := flat_range (f := fun j => f (setA a k x j)) (fun j => hf _) n k hk
  have hle : k * sz + sz ≤ n * sz := by rw [← Nat.succ_mul]; exact Nat.mul_le_mul_right _ (by omega)
  rw [wr_of (by simp only [List.length_append, hl, hf]; omega), hf]
  congr 1
  have key : (List.range n).flatMap (fun j => f (setA a k x j)) = ((List.range n).flatMap fun j => f (a j)).take (k * sz) ++ f x ++ ((List.range n).flatMap fun j => f (a j)).drop (k * sz + sz) := by
    have h1 : (List.range n).flatMap (fun j => f (a j)) = ((List.range n).map fun j => f (a j)).flatten := by rw [List.flatMap_def]
    have h2 : (List.range n).flatMap (fun j => f (setA a k x j)) = (((List.range n).map fun j => f (a j)).set k (f x)).flatten := by
      rw [List.flatMap_def]
      congr 1
      refine List.ext_getElem? fun j => ?_
      rw [List.getElem?_set]
      simp only [List.getElem?_map, List.length_map, List.length_range]
      by_cases hj : k = j
      · subst hj; simp [hk, setA]
      · rw [if_neg hj]
        rcases Nat.lt_or_ge j n with h | h
        · simp [h, setA, show ¬ j = k from fun e => hj e.symm]
        · simp [Nat.not_lt.2 h]
    rw [h2, flatten_set (sz := sz) _ _ _ (by intro y hy; obtain ⟨j, _, rfl⟩ := List.mem_map.1 hy; exact hf _) (by simpa using hk), ← h1, Nat.succ_mul]
  rw [key]
  generalize hT : (List.range n).flatMap (fun j => f (a j)) = T at *
  rw [List.take_append, List.take_of_length_le (l := pre) (by omega), Nat.add_sub_cancel_left, List.take_append_of_le_length (by omega), show pre.length + k * sz + sz = pre.length + (k * sz + sz) from by omega, List.drop_append, List.drop_of_length_le (l := pre) (by omega), Nat.add_sub_cancel_left, List.drop_append_of_le_length (by omega)]
  simp

theorem r_sliceLHF {α : Type} {h : Heap} {f : α → List Value} {X A B : Operand} {v : Value} {xs ys : List α} {t u sz : Nat} {ka kb : IntKind} {l q : Int} (hu : P.underlying t = some (.slice u)) (hs : ∀ w, (sizeOf u).run P w = .ok sz w)
    (hx : ev e X = v) (ha : ev e A = .int ka l) (hb : ev e B = .int kb q) (s : FrS h sz v (xs.map f)) (hg : gCut xs l q = some ys) (w : World) :
    (execOp (ev e) ⟨d, .slice t X (some A) (some B) none, ty, pos, af, g⟩).run P w = .ok (.value (cutV sz v l q)) w := by
  obtain ⟨g0, g1, g2, _⟩ := gCut_some hg
  have hl := s.len; simp only [List.length_map] at hl
  rw [r_sliceLH hu hs (hx.trans s.eq) ha hb g0 g1 (by omega) w, cutV]

theorem r_sliceLF {α : Type} {h : Heap} {f : α → List Value} {X A : Operand} {v : Value} {xs ys : List α} {t u sz : Nat} {ka : IntKind} {l : Int} (hu : P.underlying t = some (.slice u)) (hs : ∀ w, (sizeOf u).run P w = .ok sz w)
    (hx : ev e X = v) (ha : ev e A = .int ka l) (s : FrS h sz v (xs.map f)) (hg : gCut xs l xs.length = some ys) (w : World) :
    (execOp (ev e) ⟨d, .slice t X (some A) none none, ty, pos, af, g⟩).run P w = .ok (.value (cutV sz v l xs.length)) w := by
  obtain ⟨g0, g1, g2, _⟩ := gCut_some hg
  rw [r_sliceL hu hs (hx.trans s.eq) ha g0 (by rw [List.length_map]; exact g1) w, cutV, List.length_map]; rfl

theorem r_sliceHF {α : Type} {h : Heap} {f : α → List Value} {X B : Operand} {v : Value} {xs ys : List α} {t u sz : Nat} {kb : IntKind} {q : Int} (hu : P.underlying t = some (.slice u)) (hs : ∀ w, (sizeOf u).run P w = .ok sz w)
    (hx : ev e X = v) (hb : ev e B = .int kb q) (s : FrS h sz v (xs.map f)) (hg : gCut xs 0 q = some ys) (w : World) :
    (execOp (ev e) ⟨d, .slice t X none (some B) none, ty, pos, af, g⟩).run P w = .ok (.value (cutV sz v 0 q)) w := by
  obtain ⟨g0, g1, g2, _⟩ := gCut_some hg
  have hl := s.len; simp only [List.length_map] at hl
  rw [r_sliceH hu hs (hx.trans s.eq) hb g1 (by omega) w, cutV]; rfl

end ops

theorem run_add64 {P : Program} (x y c : Int) (p : Int × Int) (h : gAdd64 x y c = some p) (w : World) : (add64Entry #[.int .u64 x, .int .u64 y, .int .u64 c]).run P w = .ok (.tuple #[.int .u64 p.1, .int .u64 p.2]) w := by
  unfold gAdd64 at h; split at h
  · rename_i h0; cases h; exact Go.run_add64 x y c h0.1 h0.2.1 h0.2.2.1 h0.2.2.2 w
  · cases h

def sub64Entry : Array Value → Sem Value := fun args => do
  let (x, y, b) ← Extern.MathBitsCarry.three "Sub64" args
  pure (Extern.MathBitsCarry.pair ((x + Extern.MathBitsCarry.m64 - y - b) % Extern.MathBitsCarry.m64) (if x < y + b then 1 else 0))

theorem run_sub64 {P : Program} (x y c : Int) (p : Int × Int) (h : gSub64 x y c = some p) (w : World) : (sub64Entry #[.int .u64 x, .int .u64 y, .int .u64 c]).run P w = .ok (.tuple #[.int .u64 p.1, .int .u64 p.2]) w := by
  unfold gSub64 at h; split at h
  · rename_i h0; cases h
    obtain ⟨hx, hy, hxy, hc0, hc⟩ := h0
    have key : ∀ k : Nat, k ≤ 1 → (sub64Entry #[.int .u64 x, .int .u64 y, .int .u64 (k : Int)]).run P w =
        .ok (Extern.MathBitsCarry.pair ((x.toNat + Extern.MathBitsCarry.m64 - y.toNat - k) % Extern.MathBitsCarry.m64) (if x.toNat < y.toNat + k then 1 else 0)) w := by
      intro k hk
      have : k = 0 ∨ k = 1 := by omega
      rcases this with rfl | rfl <;> rfl
    obtain ⟨k, rfl⟩ := Int.eq_ofNat_of_zero_le hc0
    rw [key k (by omega)]
    obtain ⟨X, rfl⟩ := Int.eq_ofNat_of_zero_le hx
    obtain ⟨Y, rfl⟩ := Int.eq_ofNat_of_zero_le hy
    simp only [Extern.MathBitsCarry.pair, Extern.MathBitsCarry.m64, Int.toNat_natCast]
    congr 4
    · simp; omega
    · congr 1
      simp only [List.cons.injEq, Value.int.injEq, true_and, and_true]
      by_cases hlt : X < Y + k
      · rw [if_pos hlt, if_pos (by omega)]; rfl
      · rw [if_neg hlt, if_neg (by omega)]; rfl
  · cases h

/-! ### stores, appends, makes -/

section rules
variable {P : Program} {n : Nat} {cx : Cx} {Q : Post} {e : Env} {L : List Chunk} {ops : Array Oper} {F : Env → List Chunk → Prop} {rest : List Oper} {ss : List Kd}
variable {d : Nat} {ty : TypeId} {pos : String} {af : Array Edge} {g : Option (Nat × Bool)}

/-! several chunks in one -/

def bothC (C D : Chunk) : Chunk where
  P S w := ∃ S1 S2 : Nat → Prop, C.P S1 w ∧ D.P S2 w ∧ (∀ b, S1 b → S b) ∧ (∀ b, S2 b → S b) ∧ ∀ b, S1 b → ¬ S2 b
  loc S w w' h := by
    rintro ⟨S1, S2, h1, h2, h3, h4, h5⟩
    exact ⟨S1, S2, C.loc _ _ _ (fun b hb => h b (h3 b hb)) h1, D.loc _ _ _ (fun b hb => h b (h4 b hb)) h2, h3, h4, h5⟩

theorem c_split {K : Env → World → Prop} (i : Nat) {C D : Chunk} (hL : L[i]? = some (bothC C D)) (k : At cx K e (L.set i C ++ [D])) : At cx K e L :=
  ⟨fun w hF hS => k.out w hF (by
    obtain ⟨fp, h1, h2, h3⟩ := hS.out
    obtain ⟨S1, S2, k1, k2, k3, k4, k5⟩ := h1 i _ hL
    have hil : i < L.length := by
      rcases Nat.lt_or_ge i L.length with h | h
      · exact h
      · simp [List.getElem?_eq_none h] at hL
    refine ⟨fun j b => if j = i then S1 b else if j = L.length then S2 b else fp j b, ?_, ?_, ?_⟩
    · intro j c hc
      by_cases hj : j = L.length
      · subst hj
        rw [List.getElem?_append_right (by simp)] at hc
        simp at hc
        subst hc
        have : ¬ L.length = i := by omega
        simpa [this] using k2
      · have hjl : j < L.length := by
          rcases Nat.lt_or_ge j L.length with h | h
          · exact h
          · rw [List.getElem?_append_right (by simpa using h)] at hc
            rw [List.getElem?_eq_none (by simp; omega)] at hc
            cases hc
        rw [List.getElem?_append_left (by simpa using hjl)] at hc
        by_cases hji : j = i
        · subst hji
          rw [List.getElem?_set_self hil] at hc
          cases hc
          simpa using k1
        · rw [List.getElem?_set_ne (fun h => hji h.symm)] at hc
          simpa [hji, hj] using h1 j c hc
    · intro j b hb
      by_cases hji : j = i
      · simp only [hji, if_true] at hb
        have := h2 i b (k3 b hb)
        exact ⟨by simp; omega, this.2⟩
      · by_cases hj : j = L.length
        · subst hj
          have hne : ¬ L.length = i := by omega
          simp only [hne, if_true, if_false] at hb
          exact ⟨by simp, (h2 i b (k4 b hb)).2⟩
        · simp only [hji, hj, if_false] at hb
          obtain ⟨a1, a2⟩ := h2 j b hb
          exact ⟨by simp; omega, a2⟩
    · intro j q b hj hq
      have key : ∀ j, (if j = i then S1 b else if j = L.length then S2 b else fp j b) → (j = i ∧ S1 b) ∨ (j = L.length ∧ j ≠ i ∧ S2 b) ∨ (j ≠ i ∧ j ≠ L.length ∧ fp j b) := by
        intro j h
        by_cases hji : j = i
        · simp only [hji, if_true] at h; exact .inl ⟨hji, h⟩
        · by_cases hjl : j = L.length
          · simp only [hji, hjl, if_true, if_false] at h
            have hne : ¬ L.length = i := by omega
            simp only [hne, if_false] at h
            exact .inr (.inl ⟨hjl, hji, h⟩)
          · simp only [hji, hjl, if_false] at h; exact .inr (.inr ⟨hji, hjl, h⟩)
      rcases key j hj with ⟨a1, a2⟩ | ⟨a1, a0, a2⟩ | ⟨a1, a3, a2⟩ <;> rcases key q hq with ⟨c1, c2⟩ | ⟨c1, c0, c2⟩ | ⟨c1, c3, c2⟩
      · omega
      · exact absurd c2 (k5 b a2)
      · exact absurd (h3 i q b (k3 b a2) c2) (fun h => c1 h.symm)
      · exact absurd a2 (k5 b c2)
      · omega
      · exact absurd (h3 i q b (k4 b a2) c2) (fun h => c1 h.symm)
      · exact absurd (h3 i j b (k3 b c2) a2) (fun h => a1 h.symm)
      · exact absurd (h3 i j b (k4 b c2) a2) (fun h => a1 h.symm)
      · exact h3 j q b a2 c2)⟩

theorem c_both {K : Env → World → Prop} (i j : Nat) {C D : Chunk} (hi : L[i]? = some C) (hj : L[j]? = some D) (hne : i ≠ j) (k : At cx K e ((L.set i (bothC C D)).set j empC)) : At cx K e L :=
  ⟨fun w hF hS => k.out w hF (by
    obtain ⟨fp, h1, h2, h3⟩ := hS.out
    have hil : i < L.length := by
      rcases Nat.lt_or_ge i L.length with h | h
      · exact h
      · simp [List.getElem?_eq_none h] at hi
    have hjl : j < L.length := by
      rcases Nat.lt_or_ge j L.length with h | h
      · exact h
      · simp [List.getElem?_eq_none h] at hj
    refine ⟨fun q b => if q = i then fp i b ∨ fp j b else if q = j then False else fp q b, ?_, ?_, ?_⟩
    · intro q c hc
      by_cases hqj : q = j
      · subst hqj
        rw [List.getElem?_set_self (by simpa using hjl)] at hc
        cases hc
        have : ¬ q = i := fun h => hne h.symm
        simp only [this, if_true, if_false]
        exact fun b h => h
      · rw [List.getElem?_set_ne (fun h => hqj h.symm)] at hc
        by_cases hqi : q = i
        · subst hqi
          rw [List.getElem?_set_self hil] at hc
          cases hc
          simp only [if_true]
          exact ⟨fp q, fp j, h1 q C hi, h1 j D hj, fun b h => .inl h, fun b h => .inr h, fun b a c => hne (h3 q j b a c)⟩
        · rw [List.getElem?_set_ne (fun h => hqi h.symm)] at hc
          simp only [hqi, hqj, if_false]
          exact h1 q c hc
    · intro q b hb
      by_cases hqi : q = i
      · simp only [hqi, if_true] at hb
        refine ⟨by simp [hqi, hil], ?_⟩
        rcases hb with hb | hb
        · exact (h2 i b hb).2
        · exact (h2 j b hb).2
      · by_cases hqj : q = j
        · have hji : ¬ j = i := fun h => hne h.symm
          simp only [hqj, hji, if_true, if_false] at hb
        · simp only [hqi, hqj, if_false] at hb
          obtain ⟨a1, a2⟩ := h2 q b hb
          exact ⟨by simpa using a1, a2⟩
    · intro p q b hp hq
      have key : ∀ q, (if q = i then fp i b ∨ fp j b else if q = j then False else fp q b) → (q = i ∧ (fp i b ∨ fp j b)) ∨ (q ≠ i ∧ q ≠ j ∧ fp q b) := by
        intro q h
        by_cases hqi : q = i
        · simp only [hqi, if_true] at h; exact .inl ⟨hqi, h⟩
        · by_cases hqj : q = j
          · have hji : ¬ j = i := fun h => hne h.symm
            simp only [hqj, hji, if_true, if_false] at h
          · simp only [hqi, hqj, if_false] at h; exact .inr ⟨hqi, hqj, h⟩
      rcases key p hp with ⟨a1, a2⟩ | ⟨a1, a3, a2⟩ <;> rcases key q hq with ⟨c1, c2⟩ | ⟨c1, c3, c2⟩
      · omega
      · rcases a2 with a2 | a2
        · exact absurd (h3 i q b a2 c2) (fun h => c1 h.symm)
        · exact absurd (h3 j q b a2 c2) (fun h => c3 h.symm)
      · rcases c2 with c2 | c2
        · exact absurd (h3 i p b c2 a2) (fun h => a1 h.symm)
        · exact absurd (h3 j p b c2 a2) (fun h => a3 h.symm)
      · exact h3 p q b a2 c2)⟩

/-! ### slices of one's own that are only read -/

def roV (sz : Nat) (v : Value) (n : Nat) (xs : List (List Value)) : Chunk where
  P S w := n = xs.length ∧ FrS (fun b => w.heap[b]?) sz v xs ∧ ∀ b, v.ownBlock = some b → S b
  loc S w w' h := by
    rintro ⟨h1, h2, h3⟩
    refine ⟨h1, ?_, h3⟩
    obtain ⟨a, c, rfl, g1, g2, r⟩ := h2.out
    refine ⟨a, c, rfl, g1, g2, ?_⟩
    rcases r with r | ⟨b, off, cs, T, m, rfl, hb, r⟩
    · exact .inl r
    · exact .inr ⟨b, off, cs, T, m, rfl, (h b (h3 b rfl)).trans hb, r⟩

theorem row_FrS {w : World} {E sz : Nat} {v : Value} {n : Nat} {xs : List (List Value)} (h : w.ownsRow 0 E sz v n xs.flatten) (hn : xs.length = n) (hl : ∀ x ∈ xs, x.length = sz) : FrS (fun b => w.heap[b]?) sz v xs := by
  rcases h.2 with ⟨rfl, h0⟩ | ⟨g, cap, cur, rfl, _, hh, hnc, hm, hcs, ht⟩
  · have : xs = [] := List.eq_nil_of_length_eq_zero (hn.trans h0)
    subst this
    exact ⟨none, 0, by simp, by simp, by simp, .inl rfl⟩
  · subst hn
    have hr := ownsRow_Row h rfl hl
    refine ⟨some ⟨g, 0, none⟩, cap, rfl, hnc, by simpa [maxLen] using hm, ?_⟩
    rcases hr with hr | ⟨b, off, ha, hr⟩
    · exact .inl hr
    · simp only [Option.some.injEq, Addr.mk.injEq] at ha
      obtain ⟨rfl, rfl, _⟩ := ha
      refine .inr ⟨g, 0, cur, E, _, rfl, hh, fun i x hx => ⟨(hr i x hx).1, fun j v hv => ?_⟩⟩
      have := (hr i x hx).2 j v hv
      simpa [World.cell?, hh] using this

theorem row_ro (E sz : Nat) (v : Value) (n : Nat) (xs : List (List Value)) : Imp (rowV E sz v n xs) (roV sz v n xs) := ⟨fun S w ⟨⟨h1, h2, h3⟩, h4⟩ => ⟨h2.symm, row_FrS h1 h2 h3, h4⟩⟩

/-- A slice of one's own, its spare room cut off. -/
theorem imp_clipO (E sz : Nat) (a : Option Addr) (n c : Nat) (xs : List (List Value)) : Imp (rowV E sz (.slice a n c) n xs) (roV sz (.slice (cutA a 0 n sz) n n) n xs) := ⟨fun S w ⟨⟨h1, h2, h3⟩, h4⟩ => by
  have hf := row_FrS h1 h2 h3
  subst h2
  obtain ⟨a', c', hv, g1, g2, r⟩ := hf.out
  simp only [Value.slice.injEq] at hv
  obtain ⟨rfl, _, rfl⟩ := hv
  refine ⟨rfl, ⟨_, _, rfl, Nat.le_refl _, by omega, ?_⟩, fun b hb => h4 b ?_⟩
  · have := r.cut 0 xs.length xs.length (by omega)
    rwa [List.drop_zero, List.take_of_length_le (Nat.le_refl _)] at this
  · rw [own_cut (y := xs.length)] at hb; rw [← hb]; cases a <;> rfl⟩

theorem roOf {w : World} {i sz n c : Nat} {a : Option Addr} {xs : List (List Value)} (hS : Sat cx w L) (hL : L[i]? = some (roV sz (.slice a n c) n xs)) : Row w a sz xs := by
  obtain ⟨S, ⟨_, h2, _⟩, _⟩ := hS.at hL
  obtain ⟨a', c', h0, _, _, r⟩ := h2.out
  simp only [Value.slice.injEq] at h0
  obtain ⟨rfl, _, rfl⟩ := h0
  exact r.row fun b o h => h

theorem frs_rd {α : Type} {w : World} {i sz n : Nat} {v : Value} {xs : List α} {f : α → List Value} (hS : Sat cx w L) (hL : L[i]? = some (roV sz v n (xs.map f))) : FrS (fun b => w.heap[b]?) sz v (xs.map f) := by
  obtain ⟨S, ⟨_, h2, _⟩, _⟩ := hS.at hL
  exact h2

theorem ret0 {fn : Func} {R : Value → World → Prop} (hr : fn.results = #[]) (k : ∀ w, Fr cx w → Sat cx w L → R (.tuple #[]) w) : At cx (BodyQ P fn R .ret) e L :=
  ⟨fun w hF hS tmps hs => ⟨.tuple #[], by simp [results, hr], k w hF hS⟩⟩
theorem ret0n {fn : Func} {R : Value → World → Prop} (hr : fn.results = #[]) (k : ∀ w, Fr cx w → Sat cx w L → R (.tuple #[]) w) : At cx (BodyQ P fn R .normal) e L :=
  ⟨fun w hF hS tmps hs => ⟨.tuple #[], by simp [results, hr], k w hF hS⟩⟩

/-- A store into an element of a row of one's own. -/
theorem l_storeG {α : Type} {q T j sz szT k c E m : Nat} {A X : Operand} {x : Value} {a : Option Addr} {vs : List Value} {f : α → List Value} {xs ys : List α} {i : Int} {z : α} (hm : m = xs.length) (hs : ∀ w, (sizeOf T).run P w = .ok szT w)
    (hw : want ops ⟨none, .store T A X, ty, pos, af, g⟩ e = true) (hp : ev e A = ptrAt a k) (hk : k = i.toNat * sz + j) (hx : ev e X = x) (hc : x.cells.toList = vs) (hsz : vs.length = szT)
    (hpos : Nat.blt 0 szT = true) (hone : vs.all Value.oneCell' = true) (hL : L[q]? = some (rowV E sz (.slice a m c) m (xs.map f))) (hv : ∀ y, gAt xs i = some y → wr (f y) j vs = some (f z)) (hg : gSet xs i z = some ys)
    (k' : At cx (WL P n ops Q rest) e (L.set q (rowV E sz (.slice a m c) m (ys.map f)))) : At cx (WL P n ops Q (⟨none, .store T A X, ty, pos, af, g⟩ :: rest)) e L := by
  subst hm
  obtain ⟨h0, h1, rfl⟩ := gSet_some hg
  have hat : gAt xs i = some xs[i.toNat] := gAt_ok h0 h1
  exact l_storeR (i := i.toNat) (j := j) (y := f xs[i.toNat]) hs hw hp hk hx hc hsz hpos hone hL (map_at hat) (hv _ hat) (by rw [List.map_set]) k'

theorem makes_makeG {α : Type} {N C : Operand} {t E : TypeId} {I : TypeInfo} {z : Value} {sz by_ : Nat} {m : Int} {rds : List Nat} {f : α → List Value} {zz : α} {xs : List α} (ht : P.underlying t = some (.slice E)) (hi : P.info? E = some I) (hz : I.zero = some z) (hsize : I.size = sz) (hby : I.bytes = by_)
    (hzs : z.cells.toList = f zz) (hsz : Nat.blt 0 sz = true) (hl : (f zz).length = sz) (hnc : ev e N = .int .i64 m ∧ ev e C = .int .i64 m) (hg : gMake by_ m zz = some xs) :
    Makes P cx e ⟨some d, .makeSlice t N C, ty, pos, af, g⟩ L rds (fun p : Option Addr × Nat => .slice p.1 xs.length p.2) (fun p => rowV E sz (.slice p.1 xs.length p.2) xs.length (xs.map f)) := by
  obtain ⟨h0, hn, hb, rfl⟩ := gMake_some hg
  obtain ⟨k, rfl⟩ := Int.eq_ofNat_of_zero_le h0
  rw [Int.toNat_natCast] at *
  rw [List.length_replicate, List.map_replicate]
  exact makes_makeSlice (m := k) (c := k) ht hi hz hsize hby (by rw [hzs, hl]) hsz hnc.1 hnc.2 rfl (by omega) (by omega) (by rw [hzs])

theorem run_append_none_cap {w : World} {base : Nat} (t ty e : TypeId) (i : TypeInfo) (size : Nat) (ht : P.underlying t = some (.slice e)) (hi : P.info? e = some i)
    (v : Value) (n : Nat) (xs : List Value) (c : Nat) (hown : w.ownsRow base e size v n xs) :
    (Builtin.append_ #[t, t] ty #[v, .slice none 0 c]).run P w = .ok v w := by
  rcases hown.2 with ⟨rfl, rfl⟩ | ⟨g, cap, cur, rfl, _, _, hnc, _⟩
  · simp [Builtin.append_, run_underlying ht, sizeOf, typeInfo, hi, Builtin.lenOf, Builtin.firstCells]
  · simp [Builtin.append_, run_underlying ht, sizeOf, typeInfo, hi, Builtin.lenOf, Builtin.firstCells, hnc, storeCells]

/-- append onto a row of one's own, of a slice that lies anywhere. -/
theorem turns_appG {α : Type} {f : α → List Value} {ys ls zs : List α} {i : Nat} {S X : Operand} {t E : TypeId} {I : TypeInfo} {z : Value} {sz by_ : Nat} {p : Option Addr × Nat} {rds : List Nat} {V : Value} {a : Option Addr} {c m q : Nat} (hn : m = ys.length)
    (ht : P.underlying t = some (.slice E)) (hi : P.info? E = some I) (hz : I.zero = some z) (hsize : I.size = sz) (hby : I.bytes = by_) (hzs : z.cells.size = sz) (hsz : Nat.blt 0 sz = true)
    (hL : L[i]? = some (rowV E sz (.slice p.1 m p.2) m (ys.map f))) (hs : ev e S = .slice p.1 m p.2) (hx : ev e X = V) (hV : V = .slice a q c) (hq : q = ls.length)
    (hnews : ∀ w L', Fr cx w → Sat cx w L' → (∀ j, j ∈ rds → L'[j]? = L[j]?) → Row w a sz (ls.map f)) (hf : ∀ x, (f x).length = sz) (h1 : ∀ x, (f x).all Value.oneCell' = true) (hg : gApp by_ ys ls = some zs) :
    Turns P cx e ⟨some d, .call ⟨.builtin .append, #[S, X], #[t, t]⟩, ty, pos, af, g⟩ L i rds (fun p' : Option Addr × Nat => .slice p'.1 zs.length p'.2) (fun p' => rowV E sz (.slice p'.1 zs.length p'.2) zs.length (zs.map f)) := by
  subst hn hq
  obtain ⟨rfl, hb1, hb2⟩ := gApp_some hg
  rw [List.length_append]
  cases ha : a with
  | some ad =>
    subst ha
    exact turns_append (ad := ad) ht hi hz hsize hby hzs hsz hL hs (hx.trans hV) (by rw [List.length_map]) (fun x hx => by
      obtain ⟨y, _, rfl⟩ := List.mem_map.1 hx; exact hf y) hnews (fun x hx u hu => by
      obtain ⟨y, _, rfl⟩ := List.mem_map.1 hx; exact List.all_eq_true.1 (h1 y) u hu) (by rw [List.map_append]) rfl (by omega) hb2
  | none =>
    subst ha
    intro w L' hF hS hl hi'
    have hr := hnews w L' hF hS fun j hj => hi' j (.inl hj)
    have hls : ls = [] := by
      rcases hr with h | ⟨b, off, h, _⟩
      · simpa using h
      · cases h
    subst hls
    have hL' := (hi' i (.inr rfl)).trans hL
    obtain ⟨S0, ⟨⟨ho, _⟩, _⟩, _⟩ := hS.at hL'
    have he : (execOp (ev e) ⟨some d, .call ⟨.builtin .append, #[S, X], #[t, t]⟩, ty, pos, af, g⟩).run P w = .ok (.value (.slice p.1 ys.length p.2)) w := by
      simp only [execOp, resolve, invoke, builtin, Sem.run_bind, Sem.run_pure, Result.andThen_ok, List.map_toArray, List.map_cons, List.map_nil, hs, hx, hV, List.length_nil, run_append_none_cap t ty E I sz ht hi _ _ _ c ho]
    unfold RunsTo
    rw [he]
    refine ⟨p, by simp, hF, ?_⟩
    have : L'.set i (rowV E sz (.slice p.1 (ys.length + 0) p.2) (ys.length + 0) ((ys ++ []).map f)) = L' := by
      rw [List.append_nil, Nat.add_zero]
      refine List.ext_getElem? fun j => ?_
      rw [List.getElem?_set]
      split
      · rename_i h; subst h
        split
        · exact hL'.symm
        · rename_i h; rw [List.getElem?_eq_none (by omega)]
      · rfl
    show Sat cx w (L'.set i (rowV E sz (.slice p.1 (ys.length + ([] : List α).length) p.2) (ys.length + ([] : List α).length) ((ys ++ []).map f)))
    rw [List.length_nil, this]
    exact hS

end rules
end Go.Lx
