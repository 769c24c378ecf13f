/- More rules for walks that are led by a model: kinds of numbers, shifts, arrays, stores, appends, several results. Conditions: none. -/
import Derived.Test.YtkbiccgjkiifpaaGreatDoorMd
import Derived.Lib.AppendStr
import Derived.Laws.BytesString
import Derived.Laws.RangeString
import Derived.Laws.CopyRow
import Derived.Laws.IdiomCopy
import Derived.Lib.UnsafeStr
import Derived.Lib.Builder
import Derived.Laws.Pointers
import Derived.Lib.AppendZeros
import Derived.Shelf.Sort.Plain
import Derived.Shelf.Slices.In.SortNone
import Derived.Sort.OwnSortedInts
import Derived.Shelf.SlSortCmp.WholeK
import Derived.Shelf.SlSortCmp.NoneTotal
import Derived.ArgAppend
import Derived.Lib.ConvBytes
import Derived.Maps.RangeRun
import Derived.Shelf.Slices.CompactS
import Derived.Sort.OwnSorted
import Derived.Shelf.Slices.CompactI
import Derived.Test.YtkbiccgjkiifpaaGreatDoorProg
import Derived.Tactics
import Derived.Tactics2
import Derived.StillTactics
import Derived.LoopTactic
import Derived.Laws.Cover1
import Derived.WalkKit
import Derived.StillTailTactics
import Derived.Deep.RegionHeld3
import Derived.Shelf.Strings.Builder1
import Derived.Shelf.Strings.Builder2
import Derived.Shelf.Strings.OnBuilder
import Derived.Shelf.Small.Utf8
import Derived.Shelf.Small.Bits
import Derived.Shelf.Small.Strs
import Derived.Shelf.Strings.BuilderF
import Derived.Shelf.Strconv.Atoi
import Derived.Shelf.Strconv.Itoa0
import Derived.Shelf.Strconv.Itoa1
import Derived.Shelf.LaysM
import Derived.Shelf.Strconv.Itoa2
import Derived.Shelf.Strconv.Itoa3
import Derived.Shelf.Strings.Search1
import Derived.Shelf.Strings.Search2
import Derived.Shelf.Strings.Search3
import Derived.Shelf.Strings.Cut
import Derived.Shelf.Strings.Count
import Derived.Shelf.Strings.Shaped
import Derived.Shelf.Strings.Prefix
import Derived.Shelf.Strings.Runes
import Derived.Shelf.Strings.AsciiSet
import Derived.Shelf.Bits.Mul64
import Derived.Shelf.Strings.Repeat
import Derived.Shelf.Unicode.DecodeSlow
import Derived.Ground.SlgcProg
import Derived.Shelf.SlicesG.Cmp
import Derived.Lib.Bytealg
import Derived.Lib.SmallJoins
import Derived.Lib.AppendIntMem
import Derived.LoopN
import Derived.Lib.Overlaps
set_option linter.unusedVariables false
namespace Go.Lx
open Go Go.Vc Go.Md
theorem wr_u8 (x : Int) : IntKind.u8.wrap x = wU8 x := by simp [IntKind.wrap, IntKind.bits, IntKind.signed, wU8]
theorem wr_i32 (x : Int) : IntKind.i32.wrap x = wI32 x := by simp [IntKind.wrap, IntKind.bits, IntKind.signed, wI32]
theorem wr_i64 (x : Int) : IntKind.i64.wrap x = wI64 x := by simp [IntKind.wrap, IntKind.bits, IntKind.signed, wI64]
theorem gK_i32 {x y : Int} (h : gK (-2147483648) 2147483647 x = some y) : IntKind.i32.wrap x = y := by obtain ⟨rfl, h⟩ := gK_some h; rw [wr_i32]; unfold wI32; split <;> omega
theorem gK_i64 {x y : Int} (h : gK (-9223372036854775808) 9223372036854775807 x = some y) : IntKind.i64.wrap x = y := by obtain ⟨rfl, h⟩ := gK_some h; rw [wr_i64]; unfold wI64; split <;> omega
section ops
variable {P : Program} {e : Xc} {d : Option Nat} {ty : TypeId} {pos : String} {af : Array Edge} {g : Option (Nat × Bool)}
section bin
variable {X Y : Operand} {x y z u : Int} {t t' : TypeId} {kd k2 : IntKind} {bits : Nat}
theorem r_bin2 {op : BinOp} {v : Value} (hx : ev e X = .int kd x) (hy : ev e Y = .int k2 y) (hg : ∀ w, (eqGuard op t X Y (.int kd x) (.int k2 y)).run P w = .ok () w)
  (hr : ∀ w, (binOp op t (.int kd x) (.int k2 y)).run P w = .ok v w) (w : World) :
  (execOp (ev e) ⟨d, .binOp op t X Y t', ty, pos, af, g⟩).run P w = .ok (.value v) w := by
 simp [execOp, hx, hy, hg, hr]
theorem r_shlG (hx : ev e X = .int .i64 x) (hy : ev e Y = .int k2 y) (h : gShl x y = some z) (w : World) :
  (execOp (ev e) ⟨d, .binOp .shl t X Y t', ty, pos, af, g⟩).run P w = .ok (.value (.int .i64 z)) w := by
 obtain ⟨h0, h1, rfl, hb⟩ := gShl_some h
 refine r_bin2 hx hy (fun w => rfl) (fun w => ?_) w
 have h2 : min y.toNat IntKind.i64.bits = y.toNat := by show min y.toNat 64 = y.toNat; omega
 have hn : ¬ y < 0 := by omega
 rw [binOp_shl]
 unfold Op.shift
 rw [if_neg hn]
 simp only [h2, IntWalk.i64_in _ hb, Sem.run_pure]
theorem r_shrG (hx : ev e X = .int kd x) (hy : ev e Y = .int k2 y) (hbits : kd.bits = bits) (h : gShr bits x y = some z) (w : World) :
  (execOp (ev e) ⟨d, .binOp .shr t X Y t', ty, pos, af, g⟩).run P w = .ok (.value (.int kd z)) w := by
 subst hbits
 unfold gShr at h; split at h
 ·cases h
  refine r_bin2 hx hy (fun w => rfl) (fun w => ?_) w
  have hf : x.fdiv (2 ^ min y.toNat kd.bits) = x / 2 ^ min y.toNat kd.bits := Int.fdiv_eq_ediv_of_nonneg _ (Int.pow_nonneg (by omega))
  have hn : ¬ y < 0 := by omega
  rw [show binOp .shr t (.int kd x) (.int k2 y) = Op.shift .shr kd x k2 y from rfl]
  unfold Op.shift
  rw [if_neg hn]
  simp only [hf, Sem.run_pure]
 ·cases h
theorem r_bitsAnd (hx : ev e X = .int kd x) (hy : ev e Y = .int kd y) (hbits : kd.bits = bits) (hw : kd.wrap (bAnd bits x y) = z) (w : World) :
  (execOp (ev e) ⟨d, .binOp .and t X Y t', ty, pos, af, g⟩).run P w = .ok (.value (.int kd z)) w := by
 subst hbits hw
 exact Je4 hx hy (fun w => by rw [binOp_and]; rfl) w
theorem r_bitsOr (hx : ev e X = .int kd x) (hy : ev e Y = .int kd y) (hbits : kd.bits = bits) (hw : kd.wrap (bOr bits x y) = z) (w : World) :
  (execOp (ev e) ⟨d, .binOp .or t X Y t', ty, pos, af, g⟩).run P w = .ok (.value (.int kd z)) w := by
 subst hbits hw
 exact Je4 hx hy (fun w => by rw [binOp_or]; rfl) w
end bin
theorem Jdm {X : Operand} {s t : TypeId} {k0 k1 : IntKind} {x y : Int} {su : TypeDesc} (hs : ∀ w, (underlying s).run P w = .ok su w) (ht : ∀ w, (underlying t).run P w = .ok (.int k1) w)
  (hx : ev e X = .int k0 x) (hr : k1.wrap x = y) (w : World) :
  (execOp (ev e) ⟨d, .convert s t X, ty, pos, af, g⟩).run P w = .ok (.value (.int k1 y)) w := by
 subst hr
 simp [execOp, hx, convert, hs, ht, Conv.intToInt]
theorem Jih (w : World) (d t : Nat) (a b : List UInt8) (h : P.underlying t = some .string) : (Op.equalIn (d + 1) t (str a) (str b)).run P w = .ok (decide (a = b)) w := by
 rw [run_equalIn_string (h := h)]
 have : ((ByteArray.mk a.toArray).toList == (ByteArray.mk b.toArray).toList) = decide (a = b) := by
  rw [Jj4, Jj4, Bool.eq_iff_iff]; simp
 rw [this]
theorem r_indexS {X I : Operand} {b m c : Nat} {t u sz : Nat} {k : IntKind} {i : Int} {α : Type} {xs : List α} {x : α} (hu : P.underlying t = some (.slice u)) (hs : ∀ w, (sizeOf u).run P w = .ok sz w)
  (hx : ev e X = .slice (some ⟨b, 0, none⟩) m c) (hi : ev e I = .int k i) (hg : Vh xs i = some x) (hm : xs.length = m) (w : World) :
  (execOp (ev e) ⟨d, .indexAddr t X I, ty, pos, af, g⟩).run P w = .ok (.value (Yb (some ⟨b, 0, none⟩) (i.toNat * sz))) w := by
 obtain ⟨h0, h1, _⟩ := Z9 hg
 exact r_index hu hs hx hi ⟨_, _, rfl⟩ h0 (by omega) w
theorem Jgv {f : Nat → List Value} {sz : Nat} (hf : ∀ j, (f j).length = sz) : ∀ (n i : Nat), i < n → ((List.range n).flatMap f).length = n * sz ∧ (((List.range n).flatMap f).drop (i * sz)).take sz = f i := by
 intro n
 induction n with
 | zero => intro i h; omega
 | succ n ih =>
  intro i hi
  rw [List.range_succ, List.flatMap_append, List.flatMap_singleton]
  have hl : ((List.range n).flatMap f).length = n * sz := by
   cases n with
   | zero => simp
   | succ n => exact (ih 0 (by omega)).1
  refine ⟨by rw [List.length_append, hl, hf, Nat.succ_mul], ?_⟩
  rcases Nat.lt_or_ge i n with h | h
  ·have hle : (i + 1) * sz ≤ n * sz := Nat.mul_le_mul_right _ h
   rw [Nat.succ_mul] at hle
   rw [List.drop_append_of_le_length (by omega), List.take_append_of_le_length (by rw [List.length_drop]; omega)]
   exact (ih i h).2
  ·have : i = n := by omega
   subst this
   rw [← hl, List.drop_left, List.take_of_length_le (by rw [hf]; omega)]
theorem r_indexPG {t u len sz b o : Nat} {X I : Operand} {k : IntKind} {i : Int} {q : Nat} (hu : ∀ w, (underlying t).run P w = .ok (.array len u) w) (hs : ∀ w, (sizeOf u).run P w = .ok sz w)
  (hx : ev e X = .pointer (some ⟨b, o, none⟩)) (hi : ev e I = .int k i) (h : gIx len i = some q) (w : World) :
  (execOp (ev e) ⟨d, .indexAddr t X I, ty, pos, af, g⟩).run P w = .ok (.value (.pointer (some ⟨b, o + q * sz, none⟩))) w := by
 obtain ⟨h0, h1, rfl⟩ := gIx_some h
 exact r_indexPA hu hs hx hi h0 h1 w
theorem rg_arr {pre post cs : List Value} {f : Nat → List Value} {n sz q o k : Nat} {v : Value} (hcs : cs = pre ++ ((List.range n).flatMap f ++ post)) (ho : pre.length = o) (hf : ∀ j, (f j).length = sz) (hk : k < n) (hv : rg (f k) q = some v) : rg cs (o + k * sz + q) = some v := by
 subst hcs ho
 obtain ⟨hl, ht⟩ := Jgv hf n k hk
 rw [rg_eq] at hv ⊢
 have hq : q < sz := by
  rcases Nat.lt_or_ge q sz with h | h
  ·exact h
  ·rw [List.getElem?_eq_none (by rw [hf]; exact h)] at hv; cases hv
 have hle : k * sz + sz ≤ n * sz := by rw [← Nat.succ_mul]; exact Nat.mul_le_mul_right _ (by omega)
 rw [Nat.add_assoc, List.getElem?_append_right (by omega), Nat.add_sub_cancel_left, List.getElem?_append_left (by omega), ← hv, ← ht, List.getElem?_take, if_pos hq, List.getElem?_drop]
theorem wr_of {cs vs : List Value} {o : Nat} (h : o + vs.length ≤ cs.length) : wr cs o vs = some (cs.take o ++ vs ++ cs.drop (o + vs.length)) := by
 have wn : ∀ (vs cs : List Value), vs.length ≤ cs.length → wrn cs vs = some (vs ++ cs.drop vs.length) := by
  intro vs
  induction vs with
  | nil => intro cs _; cases cs <;> simp [wrn]
  | cons v vs ih =>
   intro cs h
   cases cs with
   | nil => simp at h
   | cons c r => simp [wrn, ih r (by simpa using h)]
 induction cs generalizing o with
 | nil =>
  simp at h
  obtain ⟨rfl, h⟩ := h
  subst h
  simp [wr, wrn]
 | cons c r ih =>
  cases o with
  | zero => simpa [wr] using wn vs (c :: r) (by simpa using h)
  | succ o =>
   simp only [wr]
   rw [ih (by simp at h; omega)]
   simp [show o + 1 + vs.length = (o + vs.length) + 1 from by omega]
theorem wr_arr {α : Type} {pre post cs cs' vs : List Value} {f : α → List Value} {n sz o k : Nat} {a : Nat → α} {x : α} (hcs : cs = pre ++ ((List.range n).flatMap (fun j => f (a j)) ++ post)) (ho : pre.length = o) (hf : ∀ y, (f y).length = sz) (hk : k < n) (hvs : vs = f x)
  (hcs' : cs' = pre ++ ((List.range n).flatMap (fun j => f (setA a k x j)) ++ post)) : wr cs (o + k * sz) vs = some cs' := by
 subst hcs hcs' ho hvs
 obtain ⟨hl, ht⟩ := Jgv (f := fun j => f (a j)) (fun j => hf _) n k hk
 obtain ⟨hl', ht'⟩ := Jgv (f := fun j => f (setA a k x j)) (fun j => hf _) n k hk
 have hle : k * sz + sz ≤ n * sz := by rw [← Nat.succ_mul]; exact Nat.mul_le_mul_right _ (by omega)
 rw [wr_of (by simp only [List.length_append, hl, hf]; omega), hf]
 congr 1
 have key : (List.range n).flatMap (fun j => f (setA a k x j)) = ((List.range n).flatMap fun j => f (a j)).take (k * sz) ++ f x ++ ((List.range n).flatMap fun j => f (a j)).drop (k * sz + sz) := by
  have h1 : (List.range n).flatMap (fun j => f (a j)) = ((List.range n).map fun j => f (a j)).flatten := by rw [List.flatMap_def]
  have h2 : (List.range n).flatMap (fun j => f (setA a k x j)) = (((List.range n).map fun j => f (a j)).set k (f x)).flatten := by
   rw [List.flatMap_def]
   congr 1
   refine List.ext_getElem? fun j => ?_
   rw [List.getElem?_set]
   simp only [List.getElem?_map, List.length_map, List.length_range]
   by_cases hj : k = j
   ·subst hj; simp [hk, setA]
   ·rw [if_neg hj]
    rcases Nat.lt_or_ge j n with h | h
    ·simp [h, setA, show ¬ j = k from fun e => hj e.symm]
    ·simp [Nat.not_lt.2 h]
  rw [h2, Jf4 (sz := sz) _ _ _ (by intro y hy; obtain ⟨j, _, rfl⟩ := List.mem_map.1 hy; exact hf _) (by simpa using hk), ← h1, Nat.succ_mul]
 rw [key]
 generalize hT : (List.range n).flatMap (fun j => f (a j)) = T at *
 rw [List.take_append, List.take_of_length_le (l := pre) (by omega), Nat.add_sub_cancel_left, List.take_append_of_le_length (by omega), show pre.length + k * sz + sz = pre.length + (k * sz + sz) from by omega, List.drop_append, List.drop_of_length_le (l := pre) (by omega), Nat.add_sub_cancel_left, List.drop_append_of_le_length (by omega)]
 simp
end ops
section rules
variable {P : Program} {n : Nat} {cx : Cx} {Q : Jae} {e : Xc} {L : List Chunk} {ops : Array Oper} {F : Xc → List Chunk → Prop} {rest : List Oper} {ss : List Kd}
variable {d : Nat} {ty : TypeId} {pos : String} {af : Array Edge} {g : Option (Nat × Bool)}
def Jz (C D : Chunk) : Chunk where
 P S w := ∃ S1 S2 : Nat → Prop, C.P S1 w ∧ D.P S2 w ∧ (∀ b, S1 b → S b) ∧ (∀ b, S2 b → S b) ∧ ∀ b, S1 b → ¬ S2 b
 loc S w w' h := by
  rintro ⟨S1, S2, h1, h2, h3, h4, h5⟩
  exact ⟨S1, S2, C.loc _ _ _ (fun b hb => h b (h3 b hb)) h1, D.loc _ _ _ (fun b hb => h b (h4 b hb)) h2, h3, h4, h5⟩
theorem Qa {K : Xc → World → Prop} (i : Nat) {C D : Chunk} (hL : L[i]? = some (Jz C D)) (k : At cx K e (L.set i C ++ [D])) : At cx K e L :=
 ⟨fun w hF hS => k.out w hF (by
  obtain ⟨fp, h1, h2, h3⟩ := hS.out
  obtain ⟨S1, S2, k1, k2, k3, k4, k5⟩ := h1 i _ hL
  have hil : i < L.length := by
   rcases Nat.lt_or_ge i L.length with h | h
   ·exact h
   ·simp [List.getElem?_eq_none h] at hL
  refine ⟨fun j b => if j = i then S1 b else if j = L.length then S2 b else fp j b, ?_, ?_, ?_⟩
  ·intro j c hc
   by_cases hj : j = L.length
   ·subst hj
    rw [List.getElem?_append_right (by simp)] at hc
    simp at hc
    subst hc
    have : ¬ L.length = i := by omega
    simpa [this] using k2
   ·have hjl : j < L.length := by
     rcases Nat.lt_or_ge j L.length with h | h
     ·exact h
     ·rw [List.getElem?_append_right (by simpa using h)] at hc
      rw [List.getElem?_eq_none (by simp; omega)] at hc
      cases hc
    rw [List.getElem?_append_left (by simpa using hjl)] at hc
    by_cases hji : j = i
    ·subst hji
     rw [List.getElem?_set_self hil] at hc
     cases hc
     simpa using k1
    ·rw [List.getElem?_set_ne (fun h => hji h.symm)] at hc
     simpa [hji, hj] using h1 j c hc
  ·intro j b hb
   by_cases hji : j = i
   ·simp only [hji, if_true] at hb
    have := h2 i b (k3 b hb)
    exact ⟨by simp; omega, this.2⟩
   ·by_cases hj : j = L.length
    ·subst hj
     have hne : ¬ L.length = i := by omega
     simp only [hne, if_true, if_false] at hb
     exact ⟨by simp, (h2 i b (k4 b hb)).2⟩
    ·simp only [hji, hj, if_false] at hb
     obtain ⟨a1, a2⟩ := h2 j b hb
     exact ⟨by simp; omega, a2⟩
  ·intro j q b hj hq
   have key : ∀ j, (if j = i then S1 b else if j = L.length then S2 b else fp j b) → (j = i ∧ S1 b) ∨ (j = L.length ∧ j ≠ i ∧ S2 b) ∨ (j ≠ i ∧ j ≠ L.length ∧ fp j b) := by
    intro j h
    by_cases hji : j = i
    ·simp only [hji, if_true] at h; exact .inl ⟨hji, h⟩
    ·by_cases hjl : j = L.length
     ·simp only [hji, hjl, if_true, if_false] at h
      have hne : ¬ L.length = i := by omega
      simp only [hne, if_false] at h
      exact .inr (.inl ⟨hjl, hji, h⟩)
     ·simp only [hji, hjl, if_false] at h; exact .inr (.inr ⟨hji, hjl, h⟩)
   rcases key j hj with ⟨a1, a2⟩ | ⟨a1, a0, a2⟩ | ⟨a1, a3, a2⟩ <;> rcases key q hq with ⟨c1, c2⟩ | ⟨c1, c0, c2⟩ | ⟨c1, c3, c2⟩
   ·omega
   ·exact absurd c2 (k5 b a2)
   ·exact absurd (h3 i q b (k3 b a2) c2) (fun h => c1 h.symm)
   ·exact absurd a2 (k5 b c2)
   ·omega
   ·exact absurd (h3 i q b (k4 b a2) c2) (fun h => c1 h.symm)
   ·exact absurd (h3 i j b (k3 b c2) a2) (fun h => a1 h.symm)
   ·exact absurd (h3 i j b (k4 b c2) a2) (fun h => a1 h.symm)
   ·exact h3 j q b a2 c2)⟩
theorem Qw {K : Xc → World → Prop} (i j : Nat) {C D : Chunk} (hi : L[i]? = some C) (hj : L[j]? = some D) (hne : i ≠ j) (k : At cx K e ((L.set i (Jz C D)).set j empC)) : At cx K e L :=
 ⟨fun w hF hS => k.out w hF (by
  obtain ⟨fp, h1, h2, h3⟩ := hS.out
  have hil : i < L.length := by
   rcases Nat.lt_or_ge i L.length with h | h
   ·exact h
   ·simp [List.getElem?_eq_none h] at hi
  have hjl : j < L.length := by
   rcases Nat.lt_or_ge j L.length with h | h
   ·exact h
   ·simp [List.getElem?_eq_none h] at hj
  refine ⟨fun q b => if q = i then fp i b ∨ fp j b else if q = j then False else fp q b, ?_, ?_, ?_⟩
  ·intro q c hc
   by_cases hqj : q = j
   ·subst hqj
    rw [List.getElem?_set_self (by simpa using hjl)] at hc
    cases hc
    have : ¬ q = i := fun h => hne h.symm
    simp only [this, if_true, if_false]
    exact fun b h => h
   ·rw [List.getElem?_set_ne (fun h => hqj h.symm)] at hc
    by_cases hqi : q = i
    ·subst hqi
     rw [List.getElem?_set_self hil] at hc
     cases hc
     simp only [if_true]
     exact ⟨fp q, fp j, h1 q C hi, h1 j D hj, fun b h => .inl h, fun b h => .inr h, fun b a c => hne (h3 q j b a c)⟩
    ·rw [List.getElem?_set_ne (fun h => hqi h.symm)] at hc
     simp only [hqi, hqj, if_false]
     exact h1 q c hc
  ·intro q b hb
   by_cases hqi : q = i
   ·simp only [hqi, if_true] at hb
    refine ⟨by simp [hqi, hil], ?_⟩
    rcases hb with hb | hb
    ·exact (h2 i b hb).2
    ·exact (h2 j b hb).2
   ·by_cases hqj : q = j
    ·have hji : ¬ j = i := fun h => hne h.symm
     simp only [hqj, hji, if_true, if_false] at hb
    ·simp only [hqi, hqj, if_false] at hb
     obtain ⟨a1, a2⟩ := h2 q b hb
     exact ⟨by simpa using a1, a2⟩
  ·intro p q b hp hq
   have key : ∀ q, (if q = i then fp i b ∨ fp j b else if q = j then False else fp q b) → (q = i ∧ (fp i b ∨ fp j b)) ∨ (q ≠ i ∧ q ≠ j ∧ fp q b) := by
    intro q h
    by_cases hqi : q = i
    ·simp only [hqi, if_true] at h; exact .inl ⟨hqi, h⟩
    ·by_cases hqj : q = j
     ·have hji : ¬ j = i := fun h => hne h.symm
      simp only [hqj, hji, if_true, if_false] at h
     ·simp only [hqi, hqj, if_false] at h; exact .inr ⟨hqi, hqj, h⟩
   rcases key p hp with ⟨a1, a2⟩ | ⟨a1, a3, a2⟩ <;> rcases key q hq with ⟨c1, c2⟩ | ⟨c1, c3, c2⟩
   ·omega
   ·rcases a2 with a2 | a2
    ·exact absurd (h3 i q b a2 c2) (fun h => c1 h.symm)
    ·exact absurd (h3 j q b a2 c2) (fun h => c3 h.symm)
   ·rcases c2 with c2 | c2
    ·exact absurd (h3 i p b c2 a2) (fun h => a1 h.symm)
    ·exact absurd (h3 j p b c2 a2) (fun h => a3 h.symm)
   ·exact h3 p q b a2 c2)⟩
def roV (sz : Nat) (v : Value) (n : Nat) (xs : List (List Value)) : Chunk where
 P S w := n = xs.length ∧ FrS (fun b => w.heap[b]?) sz v xs ∧ ∀ b, v.ownBlock = some b → S b
 loc S w w' h := by
  rintro ⟨h1, h2, h3⟩
  refine ⟨h1, ?_, h3⟩
  obtain ⟨a, c, rfl, g1, g2, r⟩ := h2.out
  refine ⟨a, c, rfl, g1, g2, ?_⟩
  rcases r with r | ⟨b, off, cs, T, m, rfl, hb, r⟩
  ·exact .inl r
  ·exact .inr ⟨b, off, cs, T, m, rfl, (h b (h3 b rfl)).trans hb, r⟩
theorem Ji3 {w : World} {E sz : Nat} {v : Value} {n : Nat} {xs : List (List Value)} (h : w.ownsRow 0 E sz v n xs.flatten) (hn : xs.length = n) (hl : ∀ x ∈ xs, x.length = sz) : FrS (fun b => w.heap[b]?) sz v xs := by
 rcases h.2 with ⟨rfl, h0⟩ | ⟨g, cap, cur, rfl, _, hh, hnc, hm, hcs, ht⟩
 ·have : xs = [] := List.eq_nil_of_length_eq_zero (hn.trans h0)
  subst this
  exact ⟨none, 0, by simp, by simp, by simp, .inl rfl⟩
 ·subst hn
  have hr := Jf9 h rfl hl
  refine ⟨some ⟨g, 0, none⟩, cap, rfl, hnc, by simpa [maxLen] using hm, ?_⟩
  rcases hr with hr | ⟨b, off, ha, hr⟩
  ·exact .inl hr
  ·simp only [Option.some.injEq, Addr.mk.injEq] at ha
   obtain ⟨rfl, rfl, _⟩ := ha
   refine .inr ⟨g, 0, cur, E, _, rfl, hh, fun i x hx => ⟨(hr i x hx).1, fun j v hv => ?_⟩⟩
   have := (hr i x hx).2 j v hv
   simpa [World.cell?, hh] using this
theorem Jfd (E sz : Nat) (v : Value) (n : Nat) (xs : List (List Value)) : Imp (Ju E sz v n xs) (roV sz v n xs) := ⟨fun S w ⟨⟨h1, h2, h3⟩, h4⟩ => ⟨h2.symm, Ji3 h1 h2 h3, h4⟩⟩
theorem Jgi (E sz : Nat) (a : Option Addr) (n c : Nat) (xs : List (List Value)) : Imp (Ju E sz (.slice a n c) n xs) (roV sz (.slice (Ya a 0 n sz) n n) n xs) := ⟨fun S w ⟨⟨h1, h2, h3⟩, h4⟩ => by
 have hf := Ji3 h1 h2 h3
 subst h2
 obtain ⟨a', c', hv, g1, g2, r⟩ := hf.out
 simp only [Value.slice.injEq] at hv
 obtain ⟨rfl, _, rfl⟩ := hv
 refine ⟨rfl, ⟨_, _, rfl, Nat.le_refl _, by omega, ?_⟩, fun b hb => h4 b ?_⟩
 ·have := r.cut 0 xs.length xs.length (by omega)
  rwa [List.drop_zero, List.take_of_length_le (Nat.le_refl _)] at this
 ·rw [Jhy (y := xs.length)] at hb; rw [← hb]; cases a <;> rfl⟩
theorem ret0 {fn : Func} {R : Value → World → Prop} (hr : fn.results = #[]) (k : ∀ w, Fr cx w → Sat cx w L → R (.tuple #[]) w) : At cx (Jfy P fn R .ret) e L :=
 ⟨fun w hF hS tmps hs => ⟨.tuple #[], by simp [results, hr], k w hF hS⟩⟩
theorem ret0n {fn : Func} {R : Value → World → Prop} (hr : fn.results = #[]) (k : ∀ w, Fr cx w → Sat cx w L → R (.tuple #[]) w) : At cx (Jfy P fn R .normal) e L :=
 ⟨fun w hF hS tmps hs => ⟨.tuple #[], by simp [results, hr], k w hF hS⟩⟩
theorem Jde {α : Type} {q T j sz szT k c E m : Nat} {A X : Operand} {x : Value} {a : Option Addr} {vs : List Value} {f : α → List Value} {xs ys : List α} {i : Int} {z : α} (hm : m = xs.length) (hs : ∀ w, (sizeOf T).run P w = .ok szT w)
  (hw : Xt ops ⟨none, .store T A X, ty, pos, af, g⟩ e = true) (hp : ev e A = Yb a k) (hk : k = i.toNat * sz + j) (hx : ev e X = x) (hc : x.cells.toList = vs) (hsz : vs.length = szT)
  (hpos : Nat.blt 0 szT = true) (hone : vs.all Value.oneCell' = true) (hL : L[q]? = some (Ju E sz (.slice a m c) m (xs.map f))) (hv : ∀ y, Vh xs i = some y → wr (f y) j vs = some (f z)) (hg : gSet xs i z = some ys)
  (k' : At cx (WL P n ops Q rest) e (L.set q (Ju E sz (.slice a m c) m (ys.map f)))) : At cx (WL P n ops Q (⟨none, .store T A X, ty, pos, af, g⟩ :: rest)) e L := by
 subst hm
 obtain ⟨h0, h1, rfl⟩ := Jgf hg
 have hat : Vh xs i = some xs[i.toNat] := gAt_ok h0 h1
 exact l_storeR (i := i.toNat) (j := j) (y := f xs[i.toNat]) hs hw hp hk hx hc hsz hpos hone hL (map_at hat) (hv _ hat) (by rw [List.map_set]) k'
theorem Jgd {α : Type} {N C : Operand} {t E : TypeId} {I : TypeInfo} {z : Value} {sz by_ : Nat} {m : Int} {rds : List Nat} {f : α → List Value} {zz : α} {xs : List α} (ht : P.underlying t = some (.slice E)) (hi : P.info? E = some I) (hz : I.zero = some z) (hsize : I.size = sz) (hby : I.bytes = by_)
  (hzs : z.cells.toList = f zz) (hsz : Nat.blt 0 sz = true) (hl : (f zz).length = sz) (hnc : ev e N = .int .i64 m ∧ ev e C = .int .i64 m) (hg : gMake by_ m zz = some xs) :
  Jhl P cx e ⟨some d, .makeSlice t N C, ty, pos, af, g⟩ L rds (fun p : Option Addr × Nat => .slice p.1 xs.length p.2) (fun p => Ju E sz (.slice p.1 xs.length p.2) xs.length (xs.map f)) := by
 obtain ⟨h0, hn, hb, rfl⟩ := gMake_some hg
 obtain ⟨k, rfl⟩ := Int.eq_ofNat_of_zero_le h0
 rw [Int.toNat_natCast] at *
 rw [List.length_replicate, List.map_replicate]
 exact Jdj (m := k) (c := k) ht hi hz hsize hby (by rw [hzs, hl]) hsz hnc.1 hnc.2 rfl (by omega) (by omega) (by rw [hzs])
theorem Jgp {w : World} {base : Nat} (t ty e : TypeId) (i : TypeInfo) (size : Nat) (ht : P.underlying t = some (.slice e)) (hi : P.info? e = some i)
  (v : Value) (n : Nat) (xs : List Value) (c : Nat) (hown : w.ownsRow base e size v n xs) :
  (Builtin.append_ #[t, t] ty #[v, .slice none 0 c]).run P w = .ok v w := by
 rcases hown.2 with ⟨rfl, rfl⟩ | ⟨g, cap, cur, rfl, _, _, hnc, _⟩
 ·simp [Builtin.append_, run_underlying ht, sizeOf, typeInfo, hi, Builtin.lenOf, Builtin.firstCells]
 ·simp [Builtin.append_, run_underlying ht, sizeOf, typeInfo, hi, Builtin.lenOf, Builtin.firstCells, hnc, storeCells]
theorem X4 {α : Type} {f : α → List Value} {ys ls zs : List α} {i : Nat} {S X : Operand} {t E : TypeId} {I : TypeInfo} {z : Value} {sz by_ : Nat} {p : Option Addr × Nat} {rds : List Nat} {V : Value} {a : Option Addr} {c m q : Nat} (hn : m = ys.length)
  (ht : P.underlying t = some (.slice E)) (hi : P.info? E = some I) (hz : I.zero = some z) (hsize : I.size = sz) (hby : I.bytes = by_) (hzs : z.cells.size = sz) (hsz : Nat.blt 0 sz = true)
  (hL : L[i]? = some (Ju E sz (.slice p.1 m p.2) m (ys.map f))) (hs : ev e S = .slice p.1 m p.2) (hx : ev e X = V) (hV : V = .slice a q c) (hq : q = ls.length)
  (hnews : ∀ w L', Fr cx w → Sat cx w L' → (∀ j, j ∈ rds → L'[j]? = L[j]?) → Row w a sz (ls.map f)) (hf : ∀ x, (f x).length = sz) (h1 : ∀ x, (f x).all Value.oneCell' = true) (hg : Xk by_ ys ls = some zs) :
  Turns P cx e ⟨some d, .call ⟨.builtin .append, #[S, X], #[t, t]⟩, ty, pos, af, g⟩ L i rds (fun p' : Option Addr × Nat => .slice p'.1 zs.length p'.2) (fun p' => Ju E sz (.slice p'.1 zs.length p'.2) zs.length (zs.map f)) := by
 subst hn hq
 obtain ⟨rfl, hb1, hb2⟩ := Uj hg
 rw [List.length_append]
 cases ha : a with
 | some ad =>
  subst ha
  exact Jh0 (ad := ad) ht hi hz hsize hby hzs hsz hL hs (hx.trans hV) (by rw [List.length_map]) (fun x hx => by
   obtain ⟨y, _, rfl⟩ := List.mem_map.1 hx; exact hf y) hnews (fun x hx u hu => by
   obtain ⟨y, _, rfl⟩ := List.mem_map.1 hx; exact List.all_eq_true.1 (h1 y) u hu) (by rw [List.map_append]) rfl (by omega) hb2
 | none =>
  subst ha
  intro w L' hF hS hl hi'
  have hr := hnews w L' hF hS fun j hj => hi' j (.inl hj)
  have hls : ls = [] := by
   rcases hr with h | ⟨b, off, h, _⟩
   ·simpa using h
   ·cases h
  subst hls
  have hL' := (hi' i (.inr rfl)).trans hL
  obtain ⟨S0, ⟨⟨ho, _⟩, _⟩, _⟩ := hS.at hL'
  have he : (execOp (ev e) ⟨some d, .call ⟨.builtin .append, #[S, X], #[t, t]⟩, ty, pos, af, g⟩).run P w = .ok (.value (.slice p.1 ys.length p.2)) w := by
   simp only [execOp, resolve, invoke, builtin, Sem.run_bind, Sem.run_pure, Result.andThen_ok, List.map_toArray, List.map_cons, List.map_nil, hs, hx, hV, List.length_nil, Jgp t ty E I sz ht hi _ _ _ c ho]
  unfold RunsTo
  rw [he]
  refine ⟨p, by simp, hF, ?_⟩
  have : L'.set i (Ju E sz (.slice p.1 (ys.length + 0) p.2) (ys.length + 0) ((ys ++ []).map f)) = L' := by
   rw [List.append_nil, Nat.add_zero]
   refine List.ext_getElem? fun j => ?_
   rw [List.getElem?_set]
   split
   ·rename_i h; subst h
    split
    ·exact hL'.symm
    ·rename_i h; rw [List.getElem?_eq_none (by omega)]
   ·rfl
  show Sat cx w (L'.set i (Ju E sz (.slice p.1 (ys.length + ([] : List α).length) p.2) (ys.length + ([] : List α).length) ((ys ++ []).map f)))
  rw [List.length_nil, this]
  exact hS
end rules
end Go.Lx

namespace Go.Lx
open Go Go.Vc Go.Md
theorem Jcv {w : World} {E sz k old : Nat} {z : Value} {xs news : List Value} (hzs : z.cells.size = sz) (hl : (xs ++ news).length = k * sz) (h63 : k ≤ maxLen) :
  (w.drew.alloc (.cells (xs.toArray ++ news.toArray ++ Builtin.zeroCells z.cells (grownCap w k old E - k)) E)).ownsRow 0 E sz (.slice (some ⟨w.heap.size, 0, none⟩) k (grownCap w k old E)) k (xs ++ news) := by
 have hge := grownCap_ge w k old E
 have hcm : grownCap w k old E ≤ maxLen := grownCap_le_maxLen w k old E h63
 refine ⟨hl, .inr ⟨w.heap.size, _, _, rfl, Nat.zero_le _, heap_alloc_new w.drew _, hge, hcm, ?_, ?_⟩⟩
 ·have h2 : xs.length + news.length = k * sz := by rw [← List.length_append]; exact hl
  simp only [Array.size_append, List.size_toArray, size_zeroCells, hzs]
  rw [h2, ← Nat.add_mul]
  congr 1
  omega
 ·simp only [Array.toList_append, List.append_assoc]
  rw [← List.append_assoc, ← hl]
  exact List.take_left
theorem Je5 (w : World) (o : Obj) (row : Option Nat) : w.grownBy (w.drew.alloc o) row := ⟨rfl, rfl, rfl, by simp, fun k hk _ => (by first | exact heap_alloc_old w.drew _ k hk | exact heap_alloc_old w.drew _ hk)⟩
theorem fits2 {need old bytes : Nat} (h : old < need) (hb : need * bytes ≤ 140739635838976) (hy : bytes ≤ 1048576) : Builtin.nextslicecap need old * bytes ≤ 281474976710656 := by
 have h1 : Builtin.nextslicecap need old ≤ need + (need + 768) / 4 + 512 := by
  unfold Builtin.nextslicecap
  split
  ·omega
  ·split
   ·omega
   ·rw [growBy_four]
    repeat' split
    all_goals omega
 have h2 : 4 * Builtin.nextslicecap need old ≤ 5 * need + 2816 := by omega
 have h3 := Nat.mul_le_mul_right bytes h2
 rw [Nat.mul_assoc, Nat.add_mul, Nat.mul_assoc] at h3
 omega
def apC (w : World) (E sz : Nat) (v : Value) (n : Nat) (xs : List (List Value)) : Prop :=
 (w.ownsRow 0 E sz v n xs.flatten ∨ (FrS (fun b => w.heap[b]?) sz v xs ∧ ∃ b o, v = .slice (some ⟨b, 0, none⟩) n n ∧ w.heap[b]? = some o)) ∧ xs.length = n ∧ ∀ x ∈ xs, x.length = sz
def apV (E : TypeId) (sz : Nat) (v : Value) (n : Nat) (xs : List (List Value)) : Chunk where
 P S w := apC w E sz v n xs ∧ ∀ b, v.ownBlock = some b → S b
 loc S w w' h := by
  rintro ⟨⟨h1 | ⟨h1, b, o, h2, h5⟩, h3⟩, h4⟩
  ·exact ⟨⟨.inl ((Ju E sz v n xs).loc S w w' h ⟨⟨h1, h3⟩, h4⟩).1.1, h3⟩, h4⟩
  ·exact ⟨⟨.inr ⟨((roV sz v n xs).loc S w w' h ⟨h3.1.symm, h1, h4⟩).2.1, b, o, h2, (h b (h4 b (by rw [h2]; rfl))).trans h5⟩, h3⟩, h4⟩
theorem apC.frs {w : World} {E sz : Nat} {v : Value} {n : Nat} {xs : List (List Value)} (h : apC w E sz v n xs) : FrS (fun b => w.heap[b]?) sz v xs :=
 h.1.elim (fun h1 => Ji3 h1 h.2.1 h.2.2) (fun h1 => h1.1)
theorem apC.slice {w : World} {E sz : Nat} {v : Value} {n : Nat} {xs : List (List Value)} (h : apC w E sz v n xs) : ∃ p : Option Addr × Nat, v = .slice p.1 n p.2 := by
 rcases h.1 with h1 | ⟨_, b', o, rfl, h1⟩
 ·exact Jdo h1
 ·exact ⟨(some ⟨b', 0, none⟩, n), rfl⟩
section rules
variable {P : Program} {n : Nat} {cx : Cx} {e : Xc} {L : List Chunk} {d : Nat} {ty : TypeId} {pos : String} {af : Array Edge} {g : Option (Nat × Bool)}
theorem Jew {w : World} {ad : Addr} {sz : Nat} {news : List (List Value)} (hnl : ∀ x ∈ news, x.length = sz) (hR : Row w (some ad) sz news) : ∀ j u, news.flatten[j]? = some u → w.cell? (ad.add j) = some u := by
 intro j u hj
 obtain ⟨i', k', x, g1, g2, g3⟩ := Jgc news hnl j u hj
 rcases hR with h | ⟨b, off, ha, h⟩
 ·subst h; simp at g1
 ·cases ha
  have := (h i' x g1).2 k' u g2
  rw [Addr.add_lit, g3, ← Nat.add_assoc]
  exact this
theorem app_own {w : World} {t E sz by_ : Nat} {I : TypeInfo} {z : Value} {v : Value} {m q c : Nat} {xs news : List Value} {a : Addr} (ht : P.underlying t = some (.slice E)) (hi : P.info? E = some I) (hz : I.zero = some z) (hsize : I.size = sz) (hby : I.bytes = by_) (hzs : z.cells.size = sz)
  (ho : w.ownsRow 0 E sz v m xs) (hq : 0 < q) (hl : news.length = q * sz) (hnews : ∀ j u, news[j]? = some u → w.cell? (a.add j) = some u) (h1 : ∀ u ∈ news, u.oneCell' = true) (h63 : m + q ≤ maxLen) (hbytes : (m + q) * by_ ≤ 140739635838976) (hy : by_ ≤ 1048576) :
  ∃ v' w', (Builtin.append_ #[t, t] ty #[v, .slice (some a) q c]).run P w = .ok v' w' ∧ w'.ownsRow 0 E sz v' (m + q) (xs ++ news) ∧ w.grownBy w' v.ownBlock ∧ (v'.ownBlock = v.ownBlock ∨ v'.ownBlock = some w.heap.size) := by
 subst hsize hby
 have hsmall : m + q ≤ 9223372036854775807 := by simpa [maxLen] using h63
 have hlen : (xs ++ news).length = (m + q) * I.size := by rw [List.length_append, ho.1, hl, Nat.add_mul]
 rcases ho.2 with ⟨rfl, rfl⟩ | ⟨g', cap, cur, rfl, hbg, hg, hnc, hcm, hcs, htake⟩
 ·have hx : xs = [] := List.eq_nil_of_length_eq_zero (by simpa using ho.1)
  subst hx
  have hq48 : q * I.bytes ≤ 281474976710656 := by rw [Nat.zero_add] at hbytes; omega
  have hr := run_append_nil (P := P) w t ty E I z ht hi hz a q c news hl hnews hq (by omega) hq48
  have hgr := Jcv (w := w) (E := E) (sz := I.size) (k := 0 + q) (old := 0) (z := z) (xs := []) (news := news) hzs hlen h63
  refine ⟨_, _, hr, ?_, Je5 _ _ _, .inr rfl⟩
  simpa only [Nat.zero_add, List.nil_append, Array.empty_append] using hgr
 ·by_cases hroom : m + q ≤ cap
  ·have hfit : m * I.size + news.length ≤ cur.size := by rw [hl, hcs, ← Nat.add_mul]; exact Nat.mul_le_mul_right _ hroom
   have hr := run_append_room (P := P) w t ty E I ht hi g' m cap cur hg a q c news hl hnews h1 hroom hfit
   refine ⟨_, _, hr, ⟨hlen, .inr ⟨g', cap, _, rfl, hbg, setRow_heap w g' cur _ E _ hg, hroom, hcm, ?_, ?_⟩⟩, ⟨rfl, rfl, rfl, by simp, fun k _ hk => setRow_other w g' k _ (fun e => hk (by simp [Value.ownBlock, e]))⟩, .inl rfl⟩
   ·simp only [List.size_toArray, List.length_append, List.length_take, List.length_drop, Array.length_toList]
    omega
   ·rw [htake, ← hlen]
    exact List.take_left
  ·have holds : ∀ j u, xs[j]? = some u → w.cell? ((⟨g', 0, none⟩ : Addr).add j) = some u := ho.cells (g := g') rfl
   have hr := run_append_grow (P := P) w t ty E I z ht hi hz ⟨g', 0, none⟩ m cap xs ho.1 holds a q c news hl hnews (by omega) (by omega) (fits2 (by omega) hbytes hy)
   exact ⟨_, _, hr, Jcv hzs hlen h63, Je5 _ _ _, .inr rfl⟩
theorem app_str_own {w : World} {t u E : Nat} {I : TypeInfo} {v : Value} {m : Nat} {xs : List Value} {s : ByteArray} (ht : P.underlying t = some (.slice E)) (hu : P.underlying u = some .string) (hi : P.info? E = some I) (hz : I.zero = some (.int .u8 0)) (hsize : I.size = 1) (hby : I.bytes = 1)
  (ho : w.ownsRow 0 E 1 v m xs) (h63 : m + s.size ≤ maxLen) (hbytes : m + s.size ≤ 140739635838976) :
  ∃ v' w', (Builtin.append_ #[t, u] ty #[v, .string s]).run P w = .ok v' w' ∧ w'.ownsRow 0 E 1 v' (m + s.size) (xs ++ Lib.strCells s) ∧ w.grownBy w' v.ownBlock ∧ (v'.ownBlock = v.ownBlock ∨ v'.ownBlock = some w.heap.size) := by
 have hsmall : m + s.size ≤ 9223372036854775807 := by simpa [maxLen] using h63
 have hxl : xs.length = m := by simpa using ho.1
 have hlen : (xs ++ Lib.strCells s).length = (m + s.size) * 1 := by rw [List.length_append, hxl, Lib.strCells_length, Nat.mul_one]
 rcases ho.2 with ⟨rfl, rfl⟩ | ⟨g', cap, cur, rfl, hbg, hg, hnc, hcm, hcs, htake⟩
 ·have hx : xs = [] := List.eq_nil_of_length_eq_zero hxl
  subst hx
  by_cases hm : s.size = 0
  ·have hn : Lib.strCells s = [] := List.eq_nil_of_length_eq_zero (by rw [Lib.strCells_length]; exact hm)
   refine ⟨.slice none 0 0, w, ?_, by rw [hm, hn]; exact World.ownsRow_nil w 0 E 1, ⟨rfl, rfl, rfl, Nat.le_refl _, fun _ _ _ => rfl⟩, .inl rfl⟩
   have hf := Lib.run_firstCells_string (P := P) w 1 s
   rw [hm] at hf
   simp [Builtin.append_, run_underlying ht, run_underlying hu, sizeOf, typeInfo, hi, hsize, Builtin.lenOf, hm, hf]
  ·have hr := run_append_nil_string (P := P) w t u ty E I (.int .u8 0) ht hu hi hz s (by omega) (by omega) (by rw [hby]; omega)
   have hgr := Jcv (w := w) (E := E) (sz := 1) (k := 0 + s.size) (old := 0) (z := .int .u8 0) (xs := []) (news := Lib.strCells s) rfl hlen h63
   have e1 : (s.data.map fun b => Value.int .u8 b.toNat) = (Lib.strCells s).toArray := by
    apply Array.ext'
    simp [Lib.strCells]
   rw [e1] at hr
   refine ⟨_, _, hr, ?_, Je5 _ _ _, .inr rfl⟩
   simpa only [Nat.zero_add, List.nil_append, Array.empty_append] using hgr
 ·by_cases hroom : m + s.size ≤ cap
  ·have hcs' : cur.size = cap := by simpa using hcs
   have hr := Lib.run_append_room_string (P := P) w t u ty E I ht hu hi hsize g' m cap cur hg s hroom (by omega)
   refine ⟨_, _, hr, ⟨hlen, .inr ⟨g', cap, _, rfl, hbg, setRow_heap w g' cur _ E _ hg, hroom, hcm, ?_, ?_⟩⟩, ⟨rfl, rfl, rfl, by simp, fun k _ hk => setRow_other w g' k _ (fun e => hk (by simp [Value.ownBlock, e]))⟩, .inl rfl⟩
   ·simp only [List.size_toArray, List.length_append, List.length_take, List.length_drop, Array.length_toList, Lib.strCells_length]
    omega
   ·have ht' : cur.toList.take m = xs := by simpa using htake
    rw [ht', ← hlen]
    exact List.take_left
  ·have holds : ∀ j u, xs[j]? = some u → w.cell? ((⟨g', 0, none⟩ : Addr).add j) = some u := ho.cells (g := g') rfl
   have hr := Lib.run_append_grow_string (P := P) w t u ty E I (.int .u8 0) ht hu hi hz ⟨g', 0, none⟩ m cap xs (by rw [hsize]; simpa using hxl) holds s (by omega) (by omega) (by rw [hby]; exact fits2 (by omega) (by omega) (by omega))
   exact ⟨_, _, hr, Jcv rfl hlen h63, Je5 _ _ _, .inr rfl⟩
theorem strCells_map (s : List UInt8) : Lib.strCells ⟨s.toArray⟩ = s.map fun b => Value.int .u8 (b.toNat : Int) := by simp [Lib.strCells]
theorem Ji5 (s : List UInt8) : (⟨s.toArray⟩ : ByteArray).size = s.length := by simp [ByteArray.size]
theorem turns_strG {f : Int → List Value} {ys zs : List Int} {s : List UInt8} {i : Nat} {S X : Operand} {t u E : TypeId} {I : TypeInfo} {p : Option Addr × Nat} {rds : List Nat} {m : Nat} (hn : m = ys.length)
  (ht : P.underlying t = some (.slice E)) (hu : P.underlying u = some .string) (hi : P.info? E = some I) (hz : I.zero = some (.int .u8 0)) (hsize : I.size = 1) (hby : I.bytes = 1)
  (hL : L[i]? = some (Ju E 1 (.slice p.1 m p.2) m (ys.map f))) (hs : ev e S = .slice p.1 m p.2) (hx : ev e X = str s) (hf : ∀ x, f x = [.int .u8 x]) (hg : gApL 1 ys (Jv s) = some zs) :
  Turns P cx e ⟨some d, .call ⟨.builtin .append, #[S, X], #[t, u]⟩, ty, pos, af, g⟩ L i rds (fun p' : Option Addr × Nat => .slice p'.1 zs.length p'.2) (fun p' => Ju E 1 (.slice p'.1 zs.length p'.2) zs.length (zs.map f)) := fun w L' hF hS hl hi' => by
 subst hn
 obtain ⟨rfl, hb1, hb2⟩ := gApL_some hg
 have hls : (Jv s).length = s.length := by simp [Jv]
 have hL' := (hi' i (.inr rfl)).trans hL
 obtain ⟨S0, ⟨⟨ho, hlen, hlx⟩, _⟩, _⟩ := hS.at hL'
 obtain ⟨v', w', hr, h2, h3, h5⟩ := app_str_own (P := P) (ty := ty) (s := ⟨s.toArray⟩) ht hu hi hz hsize hby ho (by rw [Ji5]; simp only [maxLen]; omega) (by rw [Ji5]; omega)
 have hm : Lib.strCells ⟨s.toArray⟩ = ((Jv s).map f).flatten := by
  rw [strCells_map, ← List.flatMap_def, Jv, List.flatMap_map]
  simp only [hf]
  exact (List.flatMap_singleton' _).symm.trans (by rw [List.flatMap_map])
 rw [hm, Ji5, ← hls, ← List.flatten_append, ← List.map_append] at h2
 rw [List.length_append]
 obtain ⟨p', rfl⟩ := Jdo h2
 obtain ⟨hF', hS'⟩ := hS.turnOf hF hL' (C := Ju E 1 (.slice p'.1 (ys.length + (Jv s).length) p'.2) (ys.length + (Jv s).length) ((ys ++ Jv s).map f)) fun S1 hp => Jby hp.2 h2 h3 h5 (by simp) (by
  intro x hx
  obtain ⟨y, _, rfl⟩ := List.mem_map.1 hx
  rw [hf]; rfl)
 have he : (execOp (ev e) ⟨some d, .call ⟨.builtin .append, #[S, X], #[t, u]⟩, ty, pos, af, g⟩).run P w = .ok (.value (.slice p'.1 (ys.length + (Jv s).length) p'.2)) w' := by
  simp only [execOp, resolve, invoke, builtin, Sem.run_bind, Sem.run_pure, Result.andThen_ok, List.map_toArray, List.map_cons, List.map_nil, hs, hx, str, hr]
 unfold RunsTo
 rw [he]
 exact ⟨p', rfl, hF', hS'⟩
theorem Jkj {α : Type} {f : α → List Value} {xs : List α} {i b m sz : Nat} {t T E : TypeId} {X : Operand} {cs : List Value} {rds : List Nat} (hT : T = E) (ht : P.underlying t = some (.slice E)) (he : P.underlying E = some (.int .u8))
  (hL : L[i]? = some (Ji b cs T)) (hx : ev e X = .slice (some ⟨b, 0, none⟩) m m) (hcs : (xs.map f).flatten = cs) (hl : ((xs.map f).all fun x => Nat.beq x.length sz) = true) (hm : xs.length = m) (hm' : Nat.ble m 9223372036854775807 = true) :
  Turns P cx e ⟨some d, .convert t t X, ty, pos, af, g⟩ L i rds (fun _ : Unit => .slice (some ⟨b, 0, none⟩) m m) (fun _ => apV E sz (.slice (some ⟨b, 0, none⟩) m m) m (xs.map f)) := fun w L' hF hS _ hi' => by
 subst hT hm
 have hL' := (hi' i (.inr rfl)).trans hL
 have hh : w.heap[b]? = some (.cells cs.toArray T (0, 0)) := Xf hS hL'
 have hb : b < w.heap.size := (Array.getElem?_eq_some_iff.1 hh).1
 have hnew : (w.freeze ⟨b, cs.length, none⟩ 1).heap[b]? = some (.cells cs.toArray T (cs.length, cs.length + 1)) := by
  simp [World.freeze, Array.getElem?_modify, hh]
 have hothers : ∀ k, k ≠ b → (w.freeze ⟨b, cs.length, none⟩ 1).heap[k]? = w.heap[k]? := by
  intro k hk
  have : ¬ b = k := fun h => hk h.symm
  simp [World.freeze, Array.getElem?_modify, this]
 have hsize : (w.freeze ⟨b, cs.length, none⟩ 1).heap.size = w.heap.size := by simp [World.freeze]
 have hlen : ∀ x ∈ xs.map f, x.length = sz := fun x hx => by simpa using List.all_eq_true.1 hl x hx
 have hc : apC (w.freeze ⟨b, cs.length, none⟩ 1) T sz (.slice (some ⟨b, 0, none⟩) xs.length xs.length) xs.length (xs.map f) := by
  refine ⟨.inr ⟨⟨some ⟨b, 0, none⟩, xs.length, by simp, by simp, by simpa using hm', .inr ⟨b, 0, cs.toArray, T, _, rfl, hnew, fun i x hx => ⟨hlen x (List.mem_of_getElem? hx), fun j v hv => ?_⟩⟩⟩, b, _, rfl, hnew⟩, by simp, hlen⟩
  have := Jc4 _ i x hl hx j v hv
  rw [hcs] at this
  simpa using this
 have hr : (execOp (ev e) ⟨some d, .convert t t X, ty, pos, af, g⟩).run P w = .ok (.value (.slice (some ⟨b, 0, none⟩) xs.length xs.length)) (w.freeze ⟨b, cs.length, none⟩ 1) := by
  simp [execOp, hx, convert, run_underlying ht, run_underlying he, markStringish, World.shape?, hh]
 obtain ⟨hF', hS'⟩ := hS.turnOf (w' := w.freeze ⟨b, cs.length, none⟩ 1) hF hL' (C := apV T sz (.slice (some ⟨b, 0, none⟩) xs.length xs.length) xs.length (xs.map f)) fun S1 hp =>
  ⟨rfl, rfl, rfl, by rw [hsize]; exact Nat.le_refl _, fun k _ hk => hothers k fun h => hk ((hp.1 k).2 h), S1, ⟨hc, fun k hk => by simp [Value.ownBlock] at hk; exact (hp.1 k).2 hk.symm⟩, fun k hk => ⟨by rw [hsize, (hp.1 k).1 hk]; exact hb, .inl hk⟩⟩
 unfold RunsTo
 rw [hr]
 exact ⟨(), rfl, hF', hS'⟩
theorem fold_push (ns : List Int) : ∀ (r : List UInt8), ns.foldl (fun r n => r.push (UInt8.ofNat n.toNat)) (⟨r.toArray⟩ : ByteArray) = ⟨(r ++ W2 ns).toArray⟩ := by
 induction ns with
 | nil => intro r; simp [W2]
 | cons n ns ih =>
  intro r
  have : (⟨r.toArray⟩ : ByteArray).push (UInt8.ofNat n.toNat) = ⟨(r ++ [UInt8.ofNat n.toNat]).toArray⟩ := by simp [ByteArray.push]
  rw [List.foldl_cons, this, ih]
  simp [W2]
theorem run_bytes {w : World} {f : Int → List Value} {xs : List Int} {X : Operand} {s t E : TypeId} {a : Option Addr} {c m : Nat} {dd : Option Nat} (hm : m = xs.length) (hs : P.underlying s = some (.slice E)) (he : P.underlying E = some (.int .u8)) (ht : P.underlying t = some .string)
  (hx : ev e X = .slice a m c) (hf : ∀ x, f x = [.int .u8 x]) (hR : Row w a 1 (xs.map f)) : (execOp (ev e) ⟨dd, .convert s t X, ty, pos, af, g⟩).run P w = .ok (.value (str (W2 xs))) w := by
 subst hm
 have hc := run_convert_bytes_string w s t E a xs.length c hs he ht
 have key : (Conv.bytesToString (.slice a xs.length c)).run P w = .ok (str (W2 xs)) w := by
  cases a with
  | none =>
   rcases hR with h | ⟨b, off, h, _⟩
   ·have : xs = [] := by simpa using h
    subst this
    simp [Conv.bytesToString, W2, str]; rfl
   ·cases h
  | some ad =>
   have hfl : (xs.map f).flatten = xs.map (Value.int .u8) := by
    rw [show f = fun x => [Value.int .u8 x] from funext hf]
    clear hR hc hx
    induction xs with
    | nil => rfl
    | cons x r ih => rw [List.map_cons, List.flatten_cons, ih]; rfl
   have hcell := Jew (w := w) (fun x hx => by obtain ⟨y, _, rfl⟩ := List.mem_map.1 hx; rw [hf]; rfl) hR
   rw [hfl] at hcell
   have hl := run_loadCells_list (P := P) (w := w) ad (xs.map (Value.int .u8)) hcell
   rw [List.length_map] at hl
   have h0 := run_bytesToString (P := P) w ad xs.length c xs hl
   rw [h0]
   have := fold_push xs []
   rw [List.nil_append] at this
   exact congrArg (fun b => Result.ok (Value.string b) w) this
 simp [execOp, hx, hc, key]
end rules
end Go.Lx

namespace Go.Lx
open Go Go.Vc Go.Md
structure FnH (P : Program) (h : Js) (v : Value) (R : World → List Value → (Value → World → Prop) → Prop) : Prop where
 out : ∃ (f : FuncId) (pre caps : Array Value), v = .func (.func f) pre caps ∧ (∀ args w, (callFunc f args).run P w = .ok (.enter f args) w) ∧
  ∀ args post w, Know h w Zk → R w args post → Does P f (pre.toList ++ (args ++ caps.toList)).toArray w post
theorem FnH.mono {P : Program} {h h' : Js} {v : Value} {R : World → List Value → (Value → World → Prop) → Prop} (f : FnH P h v R) (k : ∀ b o, h b = some o → h' b = some o) : FnH P h' v R := by
 obtain ⟨g, pre, caps, h1, h2, h3⟩ := f.out
 exact ⟨g, pre, caps, h1, h2, fun args r w hw hR => h3 args r w (fun b o hb => hw b o (k b o hb)) hR⟩
theorem FnH.cells {P : Program} {h : Js} {v : Value} {R : World → List Value → (Value → World → Prop) → Prop} (f : FnH P h v R) : v.cells.toList = [v] := by
 obtain ⟨g, pre, caps, rfl, _⟩ := f.out; rfl
theorem FnH.one {P : Program} {h : Js} {v : Value} {R : World → List Value → (Value → World → Prop) → Prop} (f : FnH P h v R) : v.oneCell' = true := by
 obtain ⟨g, pre, caps, rfl, _⟩ := f.out; rfl
theorem FrS.cells {h : Js} {sz : Nat} {v : Value} {xs : List (List Value)} (f : FrS h sz v xs) : v.cells.toList = [v] := by
 obtain ⟨a, c, rfl, _⟩ := f.out; rfl
theorem FrS.one {h : Js} {sz : Nat} {v : Value} {xs : List (List Value)} (f : FrS h sz v xs) : v.oneCell' = true := by
 obtain ⟨a, c, rfl, _⟩ := f.out; rfl
section rules
variable {P : Program} {n : Nat} {cx : Cx} {e : Xc} {L : List Chunk} {ops : Array Oper} {rest : List Oper} {Q : Jae} {F : Xc → List Chunk → Prop} {ss : List Kd} {d : Nat} {ty : TypeId} {pos : String} {af : Array Edge} {g : Option (Nat × Bool)}
theorem run_callVP {f : FuncId} {X : Operand} {A : Array Operand} {tys : Array TypeId} {args : List Value} {pre caps : Array Value} (hc : ∀ args w, (callFunc f args).run P w = .ok (.enter f args) w) (hX : ev e X = .func (.func f) pre caps) (ha : A.toList.map (ev e) = args) (w : World) :
  (execOp (ev e) ⟨some d, .call ⟨.value X, A, tys⟩, ty, pos, af, g⟩).run P w = .ok (.enter f (pre.toList ++ (args ++ caps.toList)).toArray) w := by
 subst ha
 have : (pre.toList ++ (A.toList.map (ev e) ++ caps.toList)).toArray = pre ++ A.map (ev e) ++ caps := by
  apply Array.ext'
  simp
 rw [this]
 simp only [execOp, resolve, hX, Deferred.ofValue, Sem.run_bind, Sem.run_pure, Result.andThen_ok, invoke, hc]
theorem runs_callV {X : Operand} {A : Array Operand} {tys : Array TypeId} {args : List Value} {v : Value} {h : Js} {R : World → List Value → (Value → World → Prop) → Prop} {post : Value → World → Prop} {w : World} (hf : FnH P h v R) (hk : Know h w Zk) (hR : R w args post) (hX : ev e X = v) (ha : A.toList.map (ev e) = args) :
  RunsTo P (ev e) ⟨some d, .call ⟨.value X, A, tys⟩, ty, pos, af, g⟩ w post := by
 obtain ⟨f, pre, caps, rfl, hc, hd⟩ := hf.out
 unfold RunsTo
 rw [run_callVP hc hX ha]
 exact hd args post w hk hR
theorem l_callV {X : Operand} {A : Array Operand} {tys : Array TypeId} {args : List Value} {v r : Value} {R : World → List Value → (Value → World → Prop) → Prop} (hf : ∀ w, Fr cx w → Sat cx w L → FnH P (fun b => w.heap[b]?) v R ∧ R w args (fun v' w' => v' = r ∧ Grow w w')) (hX : ev e X = v)
  (hw : Xt ops ⟨some d, .call ⟨.value X, A, tys⟩, ty, pos, af, g⟩ e = true) (hn : Nat.blt d n = true) (ha : A.toList.map (ev e) = args)
  (k : At cx (WL P n ops Q rest) (upd e d r) L) : At cx (WL P n ops Q (⟨some d, .call ⟨.value X, A, tys⟩, ty, pos, af, g⟩ :: rest)) e L :=
 l_runs hw rfl hn fun w hF hS => (runs_callV (hf w hF hS).1 (Jm w) (hf w hF hS).2 hX ha).mono fun v' w' ⟨hv, hg⟩ => by
  subst hv
  exact k.out w' (hF.grow hg) (hS.grow hg)
theorem Jfo {dd : Option Nat} {T b o t : Nat} {A : Operand} {v : Value} {cs : List Value} {w : World} (hA : ∀ w, (isAgg T).run P w = .ok false w) (hp : ev e A = .pointer (some ⟨b, o, none⟩)) (hb : w.heap[b]? = some (.cells cs.toArray t (0, 0))) (hv : rg cs o = some v) :
  (execOp (ev e) ⟨dd, .load T A, ty, pos, af, g⟩).run P w = .ok (.value v) w := by
 have hc := Jdq (o := o) hb
 rw [← rg_eq, hv] at hc
 simp [execOp, Instr.loadAt, Instr.sureAddr, hp, Jbl hA hc]
end rules
end Go.Lx

namespace Go.Lx
open Go Go.Vc Go.Md
open Classical in
noncomputable def but (w : World) (S : Nat → Prop) : Js := fun b => if S b then none else w.heap[b]?
theorem but_some {w : World} {S : Nat → Prop} {b : Nat} {o : Obj} (hb : w.heap[b]? = some o) (hn : ¬ S b) : but w S b = some o := by
 unfold but; rw [if_neg hn]; exact hb
theorem Qe (w : World) (S : Nat → Prop) : Know (but w S) w S := fun b o h => by
 unfold but at h
 split at h
 ·cases h
 ·exact ⟨h, by assumption⟩
section rules
variable {P : Program} {n : Nat} {cx : Cx} {e : Xc} {L : List Chunk} {d : Nat} {ty : TypeId} {pos : String} {af : Array Edge} {g : Option (Nat × Bool)}
theorem Know.but {h : Js} {w0 w : World} {S0 S : Nat → Prop} (k : Know h w0 S0) (hF : Fr ⟨w0, S0⟩ w) (ho : ∀ b, S b → Cx.own ⟨w0, S0⟩ b) : ∀ b o, h b = some o → but w S b = some o := fun b o hb => by
 refine but_some (k.now hF b o hb) fun hs => ?_
 obtain ⟨h1, h2⟩ := k b o hb
 have hlt : b < w0.heap.size := by
  rcases Nat.lt_or_ge b w0.heap.size with h | h
  ·exact h
  ·rw [Array.getElem?_eq_none h] at h1; cases h1
 rcases ho b hs with h | h
 ·exact absurd h (by show ¬ w0.heap.size ≤ b; omega)
 ·exact h2 h
theorem FrS.but {w : World} {S : Nat → Prop} {sz : Nat} {v : Value} {xs : List (List Value)} (f : FrS (fun b => w.heap[b]?) sz v xs) (hd : ∀ b, v.ownBlock = some b → ¬ S b) : FrS (but w S) sz v xs := by
 obtain ⟨a, c, rfl, h1, h2, r⟩ := f.out
 refine ⟨a, c, rfl, h1, h2, ?_⟩
 rcases r with r | ⟨b, off, cs, T, m, rfl, hb, r⟩
 ·exact .inl r
 ·exact .inr ⟨b, off, cs, T, m, rfl, but_some hb (hd b rfl), r⟩
theorem rowV_block {E sz n : Nat} {v : Value} {xs : List (List Value)} {S : Nat → Prop} {w : World} (h : (Ju E sz v n xs).P S w) : ∀ b, v.ownBlock = some b → S b := h.2
def Apart (L' : List Chunk) (i : Nat) (w : World) (S : Nat → Prop) : Prop := ∀ j C, j ≠ i → L'[j]? = some C → ∃ S', C.P S' w ∧ ∀ b, S' b → ¬ S b
theorem frb_own {α : Type} {w : World} {S : Nat → Prop} {i j E sz n : Nat} {p : Option Addr × Nat} {xs : List α} {f : α → List Value} {L' : List Chunk} (hn : n = xs.length) (hA : Apart L' i w S) (hS : Sat cx w L') (hji : j ≠ i) (hL : L'[j]? = some (Ju E sz (.slice p.1 n p.2) n (xs.map f))) : FrS (but w S) sz (.slice p.1 n p.2) (xs.map f) := by
 obtain ⟨S', h1, h2⟩ := hA j _ hji hL
 exact (Xw hn hS hL).but fun b hb => h2 b (rowV_block h1 b hb)
theorem frb_box {α : Type} {w : World} {S : Nat → Prop} {i j b m T sz : Nat} {cs : List Value} {xs : List α} {f : α → List Value} {L' : List Chunk} (hA : Apart L' i w S) (hS : Sat cx w L') (hji : j ≠ i) (hL : L'[j]? = some (Ji b cs T)) (hcs : (xs.map f).flatten = cs) (hl : ((xs.map f).all fun x => Nat.beq x.length sz) = true) (hm : xs.length = m) (hm' : Nat.ble m 9223372036854775807 = true) :
  FrS (but w S) sz (.slice (some ⟨b, 0, none⟩) m m) (xs.map f) := by
 obtain ⟨S', h1, h2⟩ := hA j _ hji hL
 exact (frs_box hS hL hcs hl hm hm').but fun q hq => h2 q ((h1.1 q).2 (by simpa [Value.ownBlock] using hq.symm))
theorem c_sel {K : Xc → World → Prop} (sel : List Nat) (L' : List Chunk) (hs : sel.map (fun i => L[i]?) = L'.map some) (hnd : sel.Nodup) (k : At cx K e L') : At cx K e L :=
 ⟨fun w hF hS => k.out w hF (hS.select sel hnd hs)⟩
theorem c_splitAt {K : Xc → World → Prop} (i j : Nat) {C D : Chunk} (hL : L[i]? = some (Jz C D)) (hjL : L[j]? = some empC) (hne : i ≠ j) (k : At cx K e ((L.set i C).set j D)) : At cx K e L :=
 ⟨fun w hF hS => k.out w hF (by
  obtain ⟨fp, h1, h2, h3⟩ := hS.out
  obtain ⟨S1, S2, k1, k2, k3, k4, k5⟩ := h1 i _ hL
  have hil : i < L.length := by
   rcases Nat.lt_or_ge i L.length with h | h
   ·exact h
   ·simp [List.getElem?_eq_none h] at hL
  have hjl : j < L.length := by
   rcases Nat.lt_or_ge j L.length with h | h
   ·exact h
   ·simp [List.getElem?_eq_none h] at hjL
  have hji : ¬ j = i := fun h => hne h.symm
  have key : ∀ q b, (if q = i then S1 b else if q = j then S2 b else fp q b) → (q = i ∧ S1 b) ∨ (q = j ∧ S2 b) ∨ (q ≠ i ∧ q ≠ j ∧ fp q b) := by
   intro q b h
   by_cases hqi : q = i
   ·simp only [hqi, if_true] at h; exact .inl ⟨hqi, h⟩
   ·by_cases hqj : q = j
    ·simp only [hqi, hqj, hji, if_true, if_false] at h; exact .inr (.inl ⟨hqj, h⟩)
    ·simp only [hqi, hqj, if_false] at h; exact .inr (.inr ⟨hqi, hqj, h⟩)
  refine ⟨fun q b => if q = i then S1 b else if q = j then S2 b else fp q b, ?_, ?_, ?_⟩
  ·intro q c hc
   by_cases hqj : q = j
   ·subst hqj
    rw [List.getElem?_set_self (by simpa using hjl)] at hc
    cases hc
    simpa [hji] using k2
   ·rw [List.getElem?_set_ne (fun h => hqj h.symm)] at hc
    by_cases hqi : q = i
    ·subst hqi
     rw [List.getElem?_set_self hil] at hc
     cases hc
     simpa using k1
    ·rw [List.getElem?_set_ne (fun h => hqi h.symm)] at hc
     simpa [hqi, hqj] using h1 q c hc
  ·intro q b hb
   rcases key q b hb with ⟨rfl, h⟩ | ⟨rfl, h⟩ | ⟨_, _, h⟩
   ·exact ⟨by simpa using hil, (h2 _ b (k3 b h)).2⟩
   ·exact ⟨by simpa using hjl, (h2 _ b (k4 b h)).2⟩
   ·obtain ⟨a1, a2⟩ := h2 q b h
    exact ⟨by simpa using a1, a2⟩
  ·intro p q b hp hq
   rcases key p b hp with ⟨rfl, h⟩ | ⟨rfl, h⟩ | ⟨n1, n2, h⟩ <;> rcases key q b hq with ⟨e1, h'⟩ | ⟨e1, h'⟩ | ⟨m1, m2, h'⟩
   ·exact e1.symm
   ·exact absurd h' (k5 b h)
   ·exact absurd (h3 _ _ b (k3 b h) h') (fun h => m1 h.symm)
   ·exact absurd h (k5 b h')
   ·exact e1.symm
   ·exact absurd (h3 _ _ b (k4 b h) h') (fun h => m1 h.symm)
   ·exact absurd (h3 _ _ b h (e1 ▸ k3 b h')) (fun hh => n1 hh)
   ·exact absurd (h3 _ _ b h (k4 b h')) n1
   ·exact h3 p q b h h')⟩
theorem turns_opB {σ : Type} {o : Oper} {i : Nat} {f : FuncId} {args : List Value} {rds : List Nat} {G : σ → Value} {C0 : Chunk} {C : σ → Chunk} (hL : L[i]? = some C0)
  (h : ∀ w L' S, Fr cx w → Sat cx w L' → (∀ j ∈ rds, L'[j]? = L[j]?) → C0.P S w → (∀ b, S b → b < w.heap.size) → (∀ b, S b → cx.own b) → Apart L' i w S → Does P f args.toArray w fun v w' => ∃ x, v = G x ∧ Turn w w' S (C x)) (hr : ∀ w, (execOp (ev e) o).run P w = .ok (.enter f args.toArray) w) : Turns P cx e o L i rds G C := fun w L' hF hS hl hi => by
 unfold RunsTo
 rw [hr w]
 have hL' := (hi i (.inr rfl)).trans hL
 show Does P f args.toArray w _
 obtain ⟨fp, h1, h2, h3⟩ := hS.out
 have hSi : ∀ b, fp i b → b < w.heap.size ∧ cx.own b := fun b hb => (h2 i b hb).2
 refine (h w L' (fp i) hF hS (fun j hj => hi j (.inl hj)) (h1 i C0 hL') (fun b hb => (hSi b hb).1) (fun b hb => (hSi b hb).2) (fun j C hji hC => ⟨fp j, h1 j C hC, fun b hb hbi => hji (h3 j i b hb hbi)⟩)).mono fun v' w' ⟨x, hv, ht⟩ => ⟨x, hv, hF.turn ht fun b hb => (hSi b hb).2, ?_⟩
 obtain ⟨S', k1, k2⟩ := ht.out
 have hil : i < L'.length := by
  rcases Nat.lt_or_ge i L'.length with h | h
  ·exact h
  ·simp [List.getElem?_eq_none h] at hL'
 refine ⟨fun j b => if j = i then S' b else fp j b, ?_, ?_, ?_⟩
 ·intro j c hc'
  by_cases hji : j = i
  ·subst hji
   simp [List.getElem?_set_self hil] at hc'
   subst hc'
   simpa using k1
  ·rw [List.getElem?_set_ne (fun e => hji e.symm)] at hc'
   simp only [hji, if_false]
   exact c.loc _ _ _ (fun b hb => ht.block b (h2 j b hb).2.1 (fun hib => hji (h3 j i b hb hib))) (h1 j c hc')
 ·intro j b hb
  by_cases hji : j = i
  ·simp only [hji, if_true] at hb
   refine ⟨by simp [hji, hil], (k2 b hb).1, ?_⟩
   rcases (k2 b hb).2 with h | h
   ·exact (h2 i b h).2.2
   ·exact .inl (Nat.le_trans hF.size h)
  ·simp only [hji, if_false] at hb
   obtain ⟨a1, a2, a3⟩ := h2 j b hb
   exact ⟨by simpa using a1, Nat.lt_of_lt_of_le a2 ht.size, a3⟩
 ·intro j q b hj hq
  by_cases hji : j = i <;> by_cases hqi : q = i <;> simp only [hji, hqi, if_true, if_false] at hj hq
  ·omega
  ·obtain ⟨_, a2, _⟩ := h2 q b hq
   rcases (k2 b hj).2 with h | h
   ·exact absurd (h3 q i b hq h) hqi
   ·omega
  ·obtain ⟨_, a2, _⟩ := h2 j b hj
   rcases (k2 b hq).2 with h | h
   ·exact absurd (h3 j i b hj h) hji
   ·omega
  ·exact h3 j q b hj hq
theorem Jw {σ : Type} {i : Nat} {f : FuncId} {A : Array Operand} {tys : Array TypeId} {args : List Value} {rds : List Nat} {G : σ → Value} {C0 : Chunk} {C : σ → Chunk} (hL : L[i]? = some C0)
  (h : ∀ w L' S, Fr cx w → Sat cx w L' → (∀ j ∈ rds, L'[j]? = L[j]?) → C0.P S w → (∀ b, S b → b < w.heap.size) → (∀ b, S b → cx.own b) → Apart L' i w S → Does P f args.toArray w fun v w' => ∃ x, v = G x ∧ Turn w w' S (C x)) (hc : ∀ args w, (callFunc f args).run P w = .ok (.enter f args) w)
  (ha : A.toList.map (ev e) = args) : Turns P cx e ⟨some d, .call ⟨.value (.func f), A, tys⟩, ty, pos, af, g⟩ L i rds G C :=
 turns_opB hL h (Jez hc ha)
end rules
end Go.Lx

namespace Go.Lx
open Go Go.Vc Go.Md
section ops
variable {P : Program} {e : Xc} {d : Option Nat} {ty : TypeId} {pos : String} {af : Array Edge} {g : Option (Nat × Bool)}
theorem r_lenN {X : Operand} {a : Option Addr} {m c k : Nat} {t u : TypeId} (hu : P.underlying t = some (.slice u)) (hx : ev e X = .slice a m c) (h : m = k) (w : World) :
  (execOp (ev e) ⟨d, .call ⟨.builtin .len, #[X], #[t]⟩, ty, pos, af, g⟩).run P w = .ok (.value (.int .i64 k)) w := by
 subst h; exact U6 hu hx w
end ops
section rules
variable {P : Program} {n : Nat} {cx : Cx} {e : Xc} {L : List Chunk} {ops : Array Oper} {rest : List Oper} {F : Xc → List Chunk → Prop} {ss : List Kd} {ty : TypeId} {pos : String} {af : Array Edge} {g : Option (Nat × Bool)}
end rules
end Go.Lx

namespace Go.Lx
open Go Go.Vc Go.Md
theorem caseB {p : Prop} (b : Bool) (ht : b = true → p) (hf : b = false → p) : p := by
 cases b
 ·exact hf rfl
 ·exact ht rfl
def U2 (n : Nat) (f : Nat → List Value) : List Value := (List.range n).flatMap f
theorem Jim (n : Nat) (f : Nat → List Value) : U2 n f = [] ++ ((List.range n).flatMap f ++ []) := by rw [List.nil_append, List.append_nil]; rfl
theorem Uf {n : Nat} {f : Nat → List Value} (hf : ∀ j, (f j).length = 1) : (U2 n f).length = n := by
 unfold U2
 induction n with
 | zero => rfl
 | succ n ih => rw [List.range_succ, List.flatMap_append, List.flatMap_singleton, List.length_append, ih, hf]
theorem Jjf {n : Nat} {f : Nat → List Value} (hf : ∀ j, (f j).all Value.oneCell' = true) : (U2 n f).all Value.oneCell' = true := by
 unfold U2
 rw [List.all_eq_true]
 intro v hv
 obtain ⟨j, _, h⟩ := List.mem_flatMap.1 hv
 exact List.all_eq_true.1 (hf j) v h
theorem Jj5 {cs vs : List Value} (h : cs.length = vs.length) : wr cs 0 vs = some vs := by
 rw [wr_of (by omega), Nat.zero_add, ← h, List.drop_length]; simp
theorem Jhw {cs : List Value} {n : Nat} (h : cs.length = n) : rd cs 0 n = some cs := by
 subst h
 induction cs with
 | nil => rfl
 | cons c cs ih =>
  have e : ∀ (l : List Value) (k : Nat), rd l 0 k = rdn l k := fun l k => by cases l <;> rfl
  rw [e] at *
  show rdn (c :: cs) (cs.length + 1) = some (c :: cs)
  unfold rdn
  rw [ih]; rfl
section ops
variable {P : Program} {cx : Cx} {e : Xc} {L : List Chunk} {d : Option Nat} {ty : TypeId} {pos : String} {af : Array Edge} {g : Option (Nat × Bool)}
theorem Jg {X : Operand} {a : Addr} (hx : ev e X = .pointer (some a)) (w : World) :
  (execOp (ev e) ⟨d, .nilCheck X, ty, pos, af, g⟩).run P w = .ok (.value (.pointer (some a))) w := by
 simp only [execOp, hx, Sem.run_pure]
def iterC (b : Nat) (s : List UInt8) (k : Nat) : Chunk where
 P S w := (∀ x, S x ↔ x = b) ∧ w.heap[b]? = some (.stringIter ⟨s.toArray⟩ k)
 loc S w w' h hp := ⟨hp.1, by rw [h b ((hp.1 b).2 rfl)]; exact hp.2⟩
theorem Jiy {X : Operand} {t d : Nat} {s : List UInt8} {rds : List Nat} (ht : P.underlying t = some .string) (hx : ev e X = str s) :
  Jhl P cx e ⟨some d, .range t X, ty, pos, af, g⟩ L rds (fun b : Nat => .pointer (some ⟨b, 0, none⟩)) (fun b => iterC b s 0) := fun w L' hF hS _ => by
 unfold RunsTo
 have hr : (execOp (ev e) ⟨some d, .range t X, ty, pos, af, g⟩).run P w = .ok (.value (.pointer (some ⟨w.heap.size, 0, none⟩))) (w.alloc (.stringIter ⟨s.toArray⟩ 0)) := by
  simp [execOp, Instr.range, hx, run_underlying ht, newObj, Sem.run]
 rw [hr]
 have gr := Jbq w (.stringIter ⟨s.toArray⟩ 0)
 exact ⟨w.heap.size, rfl, gr.os, gr.tape, gr.output, gr.size, fun b hb _ => gr.block b hb, fun x => x = w.heap.size, ⟨fun _ => Iff.rfl, heap_alloc_new w _⟩, fun b hb => by subst hb; exact ⟨by simp, .inr (Nat.le_refl _)⟩⟩
theorem Jj1 {X : Operand} {d i b k : Nat} {s : List UInt8} {c : Int} {rds : List Nat} (hL : L[i]? = some (iterC b s k)) (hx : ev e X = .pointer (some ⟨b, 0, none⟩)) (hg : gNx s k = some c) :
  Turns P cx e ⟨some d, .next X true, ty, pos, af, g⟩ L i rds (fun _ : Unit => .tuple #[.bool true, .int .i64 (k : Nat), .int .i32 c]) (fun _ => iterC b s (k + 1)) := fun w L' hF hS _ hi' => by
 have hL' := (hi' i (.inr rfl)).trans hL
 obtain ⟨hk, hc, rfl⟩ := gNx_some hg
 obtain ⟨S, hp, hb⟩ := hS.at hL'
 have hh := hp.2
 have hlt : b < w.heap.size := (Array.getElem?_eq_some_iff.1 hh).1
 have hw' : (execOp (ev e) ⟨some d, .next X true, ty, pos, af, g⟩).run P w = .ok (.value (.tuple #[.bool true, .int .i64 (k : Nat), .int .i32 ((s[k]).toNat : Nat)])) { w with heap := w.heap.setIfInBounds b (.stringIter ⟨s.toArray⟩ (k + 1)) } := by
  have hs : k < (⟨s.toArray⟩ : ByteArray).size := by simpa [ByteArray.size] using hk
  have e : (⟨s.toArray⟩ : ByteArray)[k]'hs = s[k] := by show s.toArray[k] = s[k]; simp
  have hd := decode_ascii (⟨s.toArray⟩ : ByteArray) k hs (by rw [e]; exact hc)
  simp only [execOp, hx, Instr.next, getObj, setObj, Sem.run_bind, Sem.run, hh, Result.andThen, hs, if_true, hd]
  simp [goInt, Sem.run, hh, e]
 unfold RunsTo
 rw [hw']
 have hS' := hS.turnOf (w' := { w with heap := w.heap.setIfInBounds b (.stringIter ⟨s.toArray⟩ (k + 1)) }) hF hL' (C := iterC b s (k + 1)) fun S1 hp1 =>
  ⟨rfl, rfl, rfl, by simp, fun x _ hx => by rw [Array.getElem?_setIfInBounds_ne (fun h => hx ((hp1.1 x).2 h.symm))], S1, ⟨hp1.1, by simp [hlt]⟩, fun x hx => ⟨by rw [(hp1.1 x).1 hx]; simpa using hlt, .inl hx⟩⟩
 exact ⟨(), rfl, hS'.1, hS'.2⟩
theorem Jjo {X : Operand} {i b k : Nat} {s : List UInt8} {w : World} (hS : Sat cx w L) (hL : L[i]? = some (iterC b s k)) (hx : ev e X = .pointer (some ⟨b, 0, none⟩)) (hk : decide (k < s.length) = false) :
  (execOp (ev e) ⟨d, .next X true, ty, pos, af, g⟩).run P w = .ok (.value (.tuple #[.bool false])) w := by
 obtain ⟨S, hp, _⟩ := hS.at hL
 have hh := hp.2
 have hk' : ¬ k < s.length := of_decide_eq_false hk
 have hs : ¬ k < (⟨s.toArray⟩ : ByteArray).size := by simpa [ByteArray.size] using hk'
 simp only [execOp, hx, Instr.next, getObj, Sem.run_bind, Sem.run, hh, Result.andThen, hs, if_false]
 simp [Sem.run]
end ops
end Go.Lx

namespace Go.Lx
open Go Go.Vc Go.Md
section ops
variable {P : Program} {e : Xc} {d : Option Nat} {ty : TypeId} {pos : String} {af : Array Edge} {g : Option (Nat × Bool)}
end ops
end Go.Lx

namespace Go.Lx
open Go Go.Vc Go.Md
theorem Jd5 {α : Type} {xs ys : List α} {l q : Int} (e : Yw xs l q = some ys) : ys.length = q.toNat - l.toNat := by
 obtain ⟨g0, g1, g2, rfl⟩ := Zg e
 rw [List.length_take, List.length_drop]; omega
section ops
variable {P : Program} {e : Xc} {d : Option Nat} {ty : TypeId} {pos : String} {af : Array Edge} {g : Option (Nat × Bool)}
theorem Jge {α : Type} {X A : Operand} {a : Option Addr} {m c : Nat} {t u sz : Nat} {ka : IntKind} {l : Int} {xs ys : List α} {w : World} (hu : P.underlying t = some (.slice u)) (hs : ∀ w, (sizeOf u).run P w = .ok sz w)
  (hx : ev e X = .slice a m c) (ha : ev e A = .int ka l) (hm : m = xs.length) (_hc : m ≤ c) (hg : Yw xs l xs.length = some ys) :
  (execOp (ev e) ⟨d, .slice t X (some A) none none, ty, pos, af, g⟩).run P w = .ok (.value (.slice (Ya a l.toNat c sz) ys.length (c - l.toNat))) w := by
 obtain ⟨g0, g1, g2, _⟩ := Zg hg
 have hl := Jd5 hg
 rw [r_sliceL hu hs hx ha g0 (by omega) w]
 congr 4; omega
theorem run_sliceHO {α : Type} {X B : Operand} {a : Option Addr} {m c : Nat} {t u sz : Nat} {kb : IntKind} {q : Int} {xs ys : List α} {w : World} (hu : P.underlying t = some (.slice u)) (hs : ∀ w, (sizeOf u).run P w = .ok sz w)
  (hx : ev e X = .slice a m c) (hb : ev e B = .int kb q) (hm : m = xs.length) (hc : m ≤ c) (hg : Yw xs 0 q = some ys) :
  (execOp (ev e) ⟨d, .slice t X none (some B) none, ty, pos, af, g⟩).run P w = .ok (.value (.slice (Ya a (0 : Int).toNat c sz) ys.length (c - (0 : Int).toNat))) w := by
 obtain ⟨g0, g1, g2, _⟩ := Zg hg
 have hl := Jd5 hg
 rw [r_sliceH hu hs hx hb g1 (by omega) w, hl]; rfl
end ops
end Go.Lx

namespace Go.Lx
open Go Go.Vc Go.Md
section rules
variable {cx : Cx} {K : Xc → World → Prop} {e : Xc} {L : List Chunk}
end rules
def FnV {μ : Type} (P : Program) (v : Value) (m : Option μ) (R : μ → World → List Value → (Value → World → Prop) → Prop) : Prop := (m = none ∧ v = .nilFunc) ∨ ∃ g, m = some g ∧ ∀ h, FnH P h v (R g)
theorem FnV.nil {μ : Type} {P : Program} {R : μ → World → List Value → (Value → World → Prop) → Prop} : FnV P .nilFunc none R := .inl ⟨rfl, rfl⟩
theorem FnV.mk {μ : Type} {P : Program} {v : Value} {g : μ} {R : μ → World → List Value → (Value → World → Prop) → Prop} (h : ∀ h, FnH P h v (R g)) : FnV P v (some g) R := .inr ⟨g, rfl, h⟩
theorem FnV.cells {μ : Type} {P : Program} {v : Value} {m : Option μ} {R : μ → World → List Value → (Value → World → Prop) → Prop} (f : FnV P v m R) : v.cells.toList = [v] := by
 rcases f with ⟨_, rfl⟩ | ⟨g, _, f⟩
 ·rfl
 ·exact (f fun _ => none).cells
theorem FnV.one {μ : Type} {P : Program} {v : Value} {m : Option μ} {R : μ → World → List Value → (Value → World → Prop) → Prop} (f : FnV P v m R) : v.oneCell' = true := by
 rcases f with ⟨_, rfl⟩ | ⟨g, _, f⟩
 ·rfl
 ·exact (f fun _ => none).one
theorem FnV.fn {μ : Type} {P : Program} {v : Value} {m : Option μ} {g : μ} {R : μ → World → List Value → (Value → World → Prop) → Prop} (f : FnV P v m R) (hm : m = some g) (h : Js) : FnH P h v (R g) := by
 rcases f with ⟨h1, _⟩ | ⟨g', h1, f⟩
 ·rw [hm] at h1; cases h1
 ·rw [hm] at h1; cases h1; exact f h
section ops
variable {P : Program} {e : Xc} {d : Option Nat} {ty : TypeId} {pos : String} {af : Array Edge} {g : Option (Nat × Bool)}
end ops
theorem Jg2 {α : Type} {f : α → List Value} (hf : ∀ x, (f x).length = 1) : ∀ (l : List α) (k : Nat), ((l.map f).flatten).take k = ((l.take k).map f).flatten
 | [], k => by simp
 | x :: r, 0 => by simp
 | x :: r, k + 1 => by
  have h1 := hf x
  obtain ⟨y, hy⟩ := List.length_eq_one_iff.1 h1
  simp only [List.map_cons, List.flatten_cons, List.take_succ_cons, hy, List.singleton_append]
  rw [Jg2 hf r k]
theorem Jkk {α : Type} {f : α → List Value} (hf : ∀ x, (f x).length = 1) : ∀ (l : List α) (k : Nat), ((l.map f).flatten).drop k = ((l.drop k).map f).flatten
 | [], k => by simp
 | x :: r, 0 => by simp
 | x :: r, k + 1 => by
  have h1 := hf x
  obtain ⟨y, hy⟩ := List.length_eq_one_iff.1 h1
  simp only [List.map_cons, List.flatten_cons, List.drop_succ_cons, hy, List.singleton_append]
  rw [Jkk hf r k]
theorem Jgl {α : Type} {f : α → List Value} (hf : ∀ x, (f x).length = 1) (l : List α) : ((l.map f).flatten).length = l.length := by
 rw [Zd (sz := 1) _ (fun x hx => by obtain ⟨y, _, rfl⟩ := List.mem_map.1 hx; exact hf y)]; simp
section rules
variable {P : Program} {n : Nat} {cx : Cx} {e : Xc} {L : List Chunk} {ops : Array Oper} {rest : List Oper} {Q : Jae} {F : Xc → List Chunk → Prop} {ss : List Kd} {d : Option Nat} {ty : TypeId} {pos : String} {af : Array Edge} {g : Option (Nat × Bool)}
theorem l_turn0 {σ : Type} {o : Oper} {i : Nat} {rds : List Nat} {G : σ → Value} {C : σ → Chunk} (h : Turns P cx e o L i rds G C) (hw : Xt ops o e = true) (hd : o.dst = none)
  (k : ∀ x, At cx (WL P n ops Q rest) e (L.set i (C x))) : At cx (WL P n ops Q (o :: rest)) e L :=
 ⟨fun w hF hS => ⟨fun a ha => by
  have hr := (h w L hF hS rfl (fun _ _ => rfl)).mono (R' := fun _ w' => WL P n ops Q rest e w') fun v w' ⟨x, hv, hF', hS'⟩ => (k x).out w' hF' hS'
  unfold RunsTo at hr
  unfold wpList
  rw [Jfm ha, hw, if_pos rfl]
  refine .inl ?_
  unfold Oper.wp
  rw [ha.ev]
  generalize (execOp (ev e) o).run P w = r at hr
  cases r with
  | halt x w' => exact hr.elim
  | ok nx w' =>
   cases nx with
   | value v =>
    show wpList P ops (lift n Q) rest (a.put o.dst v) w'
    rw [hd]
    exact hr.out _ ha
   | skip =>
    show wpList P ops (lift n Q) rest (a.put o.dst undef) w'
    rw [hd]
    exact hr.out _ ha
   | enter f args =>
    refine Calls.mono hr ?_
    rintro en w'' ⟨v, rfl, hk⟩
    show wpList P ops (lift n Q) rest (a.put o.dst v) w''
    rw [hd]
    exact hk.out _ ha
   | _ => exact hr.elim⟩⟩
end rules
def _root_.Go.Vc.Kd.fv (φ : Value → Prop) : Kd := .g [] [] [] (fun _ _ v => φ v) (fun _ _ _ => [])
section rules
variable {P : Program} {n : Nat} {cx : Cx} {e : Xc} {L : List Chunk} {ops : Array Oper} {rest : List Oper} {Q : Jae} {F : Xc → List Chunk → Prop} {ss : List Kd} {d : Nat} {ty : TypeId} {pos : String} {af : Array Edge} {g : Option (Nat × Bool)}
end rules
end Go.Lx

namespace Go.Lx
open Go Go.Vc Go.Md
theorem Know.at {h : Js} {w0 w : World} {S : Nat → Prop} (k : Know h w0 S) (hF : Fr ⟨w0, S⟩ w) : Know h w Zk := fun b o hb => ⟨k.now hF b o hb, fun x => x⟩
theorem FrS.cutL {α : Type} {h : Js} {sz : Nat} {a : Option Addr} {n c : Nat} {f : α → List Value} {xs ys : List α} {l q : Int} (s : FrS h sz (.slice a n c) (xs.map f)) (e : Yw xs l q = some ys) : FrS h sz (.slice (Ya a l.toNat c sz) ys.length (c - l.toNat)) (ys.map f) := by
 have := s.cut e
 rw [Jd5 e]
 exact this
def Jfz : Value → Bool | .slice none _ _ => true | _ => false
theorem FrS.nilV {h : Js} {sz : Nat} {v : Value} {α : Type} {f : α → List Value} {xs : List α} (s : FrS h sz v (xs.map f)) (hb : Jfz v = true) : xs = [] := by
 obtain ⟨a, c, rfl, _, _, r⟩ := s.out
 rcases r with r | ⟨b, off, cs, T, m, rfl, _⟩
 ·simpa using r
 ·simp [Jfz] at hb
section ops
variable {P : Program} {e : Xc} {d : Option Nat} {ty : TypeId} {pos : String} {af : Array Edge} {g : Option (Nat × Bool)}
theorem eq_nilS {a : Option Addr} {m c : Nat} {t u : TypeId} (ht : P.underlying t = some (.slice u)) (n : Nat) (w : World) : (Op.equalIn (n + 1) t (.slice a m c) (.slice none 0 0)).run P w = .ok (Jfz (.slice a m c)) w := by
 cases a <;> simp [Op.equalIn, run_underlying ht, Jfz]
theorem r_eqlNilS {X Y : Operand} {v : Value} {t t' u sz : TypeId} {h : Js} {xs : List (List Value)} (ht : P.underlying t = some (.slice u)) (s : FrS h sz v xs) (hx : ev e X = v) (hy : ev e Y = .slice none 0 0) (w : World) :
  (execOp (ev e) ⟨d, .binOp .eql t X Y t', ty, pos, af, g⟩).run P w = .ok (.value (.bool (Jfz v))) w := by
 obtain ⟨a, c, rfl, _⟩ := s.out
 have h0 := eq_nilS (P := P) (a := a) (m := xs.length) (c := c) ht 9999 w
 simp [execOp, hx, hy, eqGuard, binOp, Op.equal, Op.maxDepth, h0]
end ops
section rules
variable {P : Program} {n : Nat} {cx : Cx} {e : Xc} {L : List Chunk} {ops : Array Oper} {rest : List Oper} {Q : Jae} {F : Xc → List Chunk → Prop} {ss : List Kd} {d : Nat} {ty : TypeId} {pos : String} {af : Array Edge} {g : Option (Nat × Bool)}
def _root_.Go.Vc.Kd.sv (a b i : Nat) (cs : Value → List Value) (T : TypeId) : Kd := .g [a, b] [i] [i] (fun _ _ v => v = undef) (fun vs _ _ => [Jho (vs.headD undef) (cs (vs.getD 1 undef)) T])
theorem Jcf {i : Nat} {a q T T0 b o sz : Nat} {x : Value} {cs vs : List Value} {cs' : Value → List Value} (hs : ∀ w, (sizeOf T).run P w = .ok sz w)
  (hw : Xt ops ⟨none, .store T (.tmp a) (.tmp q), ty, pos, af, g⟩ e = true) (hp : e a = .pointer (some ⟨b, o, none⟩)) (hx : e q = x) (hc : x.cells.toList = vs) (hsz : vs.length = sz) (hpos : Nat.blt 0 sz = true)
  (hone : vs.all Value.oneCell' = true) (hL : L[i]? = some (Ji b cs T0)) (hv : wr cs o vs = some (cs' x))
  (k : Sq P cx ops F rest ss e (L.set i (Ji b (cs' x) T0))) : Sq P cx ops F (⟨none, .store T (.tmp a) (.tmp q), ty, pos, af, g⟩ :: rest) (.sv a q i cs' T0 :: ss) e L := by
 have hbox : Jho (([a, q].map e).headD undef) (cs' (([a, q].map e).getD 1 undef)) T0 = Ji b (cs' x) T0 := by
  have h1 : ([a, q].map e).headD undef = e a := rfl
  have h2 : ([a, q].map e).getD 1 undef = e q := rfl
  rw [h1, h2, hp, hx]; rfl
 refine .take hw ⟨undef, rfl⟩ ⟨fun w L' hF hS _ hi => ?_⟩ fun v' hv' => ?_
 ·have hL' := (hi i (.inl (by simp [Kd.sv, Kd.rds]))).trans hL
  have hb := Xf hS hL'
  unfold RunsTo
  rw [Go.Vc.run_store hs (by exact hp) (by exact hx) hc hsz hpos hone hv hb]
  have hset := setRow_heap w b cs.toArray (cs' x).toArray T0 (0, 0) hb
  refine ⟨rfl, ⟨hF.os, hF.tape, hF.output, by simpa using hF.size, fun c hcn => ?_⟩, ?_⟩
  ·rw [setRow_other w b c _ (fun e => ?_)]
   ·exact hF.block c hcn
   ·obtain ⟨fp, f1, f2, _⟩ := hS.out
    have := (f2 i b ((f1 i _ hL').1 b |>.2 rfl)).2.2
    subst e
    exact hcn this
  ·show Sat cx _ (L'.set i (Jho (([a, q].map e).headD undef) (cs' (([a, q].map e).getD 1 undef)) T0))
   rw [hbox]
   exact hS.set hF hL' (by simp) fun S hSp hSo => ⟨S, ⟨hSp.1, hset⟩, fun c hc => ⟨by simpa using (hSo c hc).1, .inl hc⟩, fun c _ hcS => setRow_other w b c _ (fun e => hcS ((hSp.1 c).2 e))⟩
 ·have hbox' := hbox
  show Sq P cx ops F rest ss (Jdh e none v') (L.set i (Jho (([a, q].map e).headD undef) (cs' (([a, q].map e).getD 1 undef)) T0))
  rw [hbox]
  exact k
end rules
end Go.Lx

namespace Go.Lx
open Go Go.Vc Go.Md
def Xr (h : Js) (v : Value) (sz i j : Nat) : Value :=
 if j < sz then match v with
 | .slice (some ⟨b, off, _⟩) _ _ => match h b with
  | some (.cells cs _ _) => cs.getD (off + i * sz + j) undef
  | _ => undef
 | _ => undef else undef
def elC (h : Js) (v : Value) (sz i : Nat) : List Value := (List.range sz).map (Xr h v sz i)
class Mon {α : Type} (G : Js → (Nat → Value) → α → Prop) : Prop where
 mono : ∀ {h h' : Js}, (∀ b o, h b = some o → h' b = some o) → ∀ c x, G h c x → G h' c x
structure FrN {α : Type} (h : Js) (sz : Nat) (v : Value) (G : Js → (Nat → Value) → α → Prop) (xs : List α) : Prop where
 frs : FrS h sz v ((List.range xs.length).map (elC h v sz))
 el : ∀ (i : Nat) (x : α), xs[i]? = some x → G h (Xr h v sz i) x
theorem Jj8 {h h' : Js} {v : Value} {sz : Nat} {ys : List (List Value)} (f : FrS h sz v ys) (hy : 0 < ys.length) (k : ∀ b o, h b = some o → h' b = some o) (i : Nat) : Xr h v sz i = Xr h' v sz i := by
 funext j
 obtain ⟨a, c, rfl, _, _, r⟩ := f.out
 rcases r with r | ⟨b, off, cs, T, m, rfl, hb, _⟩
 ·subst r; simp at hy
 ·simp only [Xr, hb, k b _ hb]
theorem FrN.mono {α : Type} {h h' : Js} {sz : Nat} {v : Value} {G : Js → (Nat → Value) → α → Prop} [M : Mon G] {xs : List α} (f : FrN h sz v G xs) (k : ∀ b o, h b = some o → h' b = some o) : FrN h' sz v G xs := by
 have key : ∀ i, i < xs.length → Xr h v sz i = Xr h' v sz i := fun i hi => Jj8 f.frs (by simp; omega) k i
 refine ⟨?_, fun i x hx => ?_⟩
 ·have := f.frs.mono k
  have e : (List.range xs.length).map (elC h v sz) = (List.range xs.length).map (elC h' v sz) := by
   apply List.map_congr_left
   intro i hi
   unfold elC
   rw [key i (by simpa using hi)]
  rwa [e] at this
 ·have hi : i < xs.length := by
   rcases Nat.lt_or_ge i xs.length with h | h
   ·exact h
   ·rw [List.getElem?_eq_none h] at hx; cases hx
  rw [← key i hi]
  exact M.mono k _ _ (f.el i x hx)
theorem FrN.nil {α : Type} (h : Js) (sz : Nat) (G : Js → (Nat → Value) → α → Prop) : FrN h sz (.slice none 0 0) G [] := ⟨FrS.nil _ _, by simp⟩
section acc
variable {α : Type} {h : Js} {sz : Nat} {v : Value} {G : Js → (Nat → Value) → α → Prop} {xs ys : List α}
theorem FrN.cells (f : FrN h sz v G xs) : v.cells.toList = [v] := f.frs.cells
theorem FrN.one (f : FrN h sz v G xs) : v.oneCell' = true := f.frs.one
theorem FrN.eq (f : FrN h sz v G xs) : v = .slice (sa v) xs.length (sc v) := by
 have := f.frs.eq; rwa [List.length_map, List.length_range] at this
theorem FrN.len (f : FrN h sz v G xs) : xs.length ≤ sc v ∧ sc v ≤ 9223372036854775807 := by
 have := f.frs.len; rwa [List.length_map, List.length_range] at this
theorem FrN.at (f : FrN h sz v G xs) {i : Int} {x : α} (g : Vh xs i = some x) : G h (Xr h v sz i.toNat) x := f.el _ _ (Z9 g).2.2
theorem FrN.ix (_ : FrN h sz v G xs) {i : Int} {x : α} (g : Vh xs i = some x) : Vh (List.range xs.length) i = some i.toNat := by
 obtain ⟨h0, h1, _⟩ := Z9 g
 rw [gAt_ok h0 (by simpa using h1)]; simp
theorem FrN.nilV (f : FrN h sz v G xs) (hb : Jfz v = true) : xs = [] := by
 have := FrS.nilV f.frs hb
 exact List.eq_nil_of_length_eq_zero (by simpa using congrArg List.length this)
theorem gCut_range {l q : Int} (e : Yw xs l q = some ys) : Yw (List.range xs.length) l q = some (((List.range xs.length).drop l.toNat).take (q.toNat - l.toNat)) := by
 obtain ⟨g0, g1, g2, _⟩ := Zg e
 exact Jhi ⟨g0, g1, by simpa using g2⟩
theorem FrN.cut (f : FrN h sz v G xs) {l q : Int} (e : Yw xs l q = some ys) : FrN h sz (cutV sz v l q) G ys := by
 obtain ⟨g0, g1, g2, rfl⟩ := Zg e
 have hl := f.len
 have h0 := FrS.cut f.frs (gCut_range e)
 have hlen : ((xs.drop l.toNat).take (q.toNat - l.toNat)).length = q.toNat - l.toNat := by rw [List.length_take, List.length_drop]; omega
 have key : ∀ i, i < q.toNat - l.toNat → Xr h (cutV sz v l q) sz i = Xr h v sz (l.toNat + i) := by
  intro i hi
  funext j
  obtain ⟨a, c, hva, h1, _, r⟩ := f.frs.out
  simp only [List.length_map, List.length_range] at hva h1
  rcases r with r | ⟨b, off, cs, T, m, ha, hb, _⟩
  ·have := congrArg List.length r
   simp at this
   rw [this] at g2
   simp at g2
   omega
  ·have hm : ¬ c = l.toNat := by omega
   rw [hva, ha]
   simp only [cutV, sa, sc, Ya, if_neg hm, Option.map_some, Addr.add_lit, Xr, hb]
   rw [show off + l.toNat * sz + i * sz + j = off + (l.toNat + i) * sz + j from by rw [Nat.add_mul]; omega]
 refine ⟨?_, fun i x hx => ?_⟩
 ·have e1 : ((List.range ((xs.drop l.toNat).take (q.toNat - l.toNat)).length).map (elC h (cutV sz v l q) sz)) = (((List.range xs.length).drop l.toNat).take (q.toNat - l.toNat)).map (elC h v sz) := by
   rw [hlen]
   apply List.ext_getElem
   ·simp; omega
   ·intro i h1 h2
    simp only [List.length_map, List.length_range] at h1
    simp only [List.getElem_map, List.getElem_range, List.getElem_take, List.getElem_drop]
    unfold elC
    rw [key i h1]
  rw [e1]; exact h0
 ·have hi : i < q.toNat - l.toNat := by
   rcases Nat.lt_or_ge i (q.toNat - l.toNat) with h | h
   ·exact h
   ·rw [List.getElem?_eq_none (by rw [hlen]; exact h)] at hx; cases hx
  rw [key i hi]
  rw [List.getElem?_take, if_pos hi, List.getElem?_drop] at hx
  exact f.el _ _ hx
end acc
theorem FrN.cutL {α : Type} {h : Js} {sz : Nat} {a : Option Addr} {n c : Nat} {G : Js → (Nat → Value) → α → Prop} {xs ys : List α} {l q : Int} (s : FrN h sz (.slice a n c) G xs) (e : Yw xs l q = some ys) : FrN h sz (.slice (Ya a l.toNat c sz) ys.length (c - l.toNat)) G ys := by
 have := s.cut e
 rw [Jd5 e]
 exact this
theorem rd_of {l l' vs : List Value} {j n : Nat} (e : l = l') (h : rd l' j n = some vs) : rd l j n = some vs := by subst e; exact h
theorem rg_of {l l' : List Value} {j : Nat} {v : Value} (e : l = l') (h : rg l' j = some v) : rg l j = some v := by subst e; exact h
def AllG {α : Type} (G : Js → (Nat → Value) → α → Prop) (h : Js) (sz : Nat) : List Value → List α → Prop
 | cs, [] => cs = []
 | cs, x :: r => G h (fun j => (cs.take sz).getD j undef) x ∧ AllG G h sz (cs.drop sz) r
theorem AllG.el {α : Type} {G : Js → (Nat → Value) → α → Prop} {h : Js} {sz : Nat} : ∀ {cs : List Value} {xs : List α}, AllG G h sz cs xs → ∀ (i : Nat) (x : α), xs[i]? = some x → G h (fun j => ((cs.drop (i * sz)).take sz).getD j undef) x
 | _, [], _, i, x, hx => by simp at hx
 | cs, y :: r, hp, 0, x, hx => by
  simp at hx; subst hx
  have := hp.1
  simpa using this
 | cs, y :: r, hp, i + 1, x, hx => by
  have := AllG.el hp.2 i x (by simpa using hx)
  rw [List.drop_drop, show sz + i * sz = (i + 1) * sz from by rw [Nat.succ_mul]; omega] at this
  exact this
section rules
variable {P : Program} {n : Nat} {cx : Cx} {e : Xc} {L : List Chunk}
section ops
variable {d : Option Nat} {ty : TypeId} {pos : String} {af : Array Edge} {g : Option (Nat × Bool)}
theorem Vk {α : Type} {G : Js → (Nat → Value) → α → Prop} {X : Operand} {t u sz : TypeId} {h : Js} {v : Value} {xs : List α} (hu : P.underlying t = some (.slice u)) (hx : ev e X = v) (hs : FrN h sz v G xs) (w : World) :
  (execOp (ev e) ⟨d, .call ⟨.builtin .len, #[X], #[t]⟩, ty, pos, af, g⟩).run P w = .ok (.value (.int .i64 xs.length)) w :=
 U6 (P := P) (d := d) (ty := ty) (pos := pos) (af := af) (g := g) hu (hx.trans hs.eq) w
end ops
end rules
end Go.Lx

namespace Go.Lx
open Go Go.Vc Go.Md
abbrev e8 (x : Int) : List Value := [.int .u8 x]
def Uu (b T E : Nat) (bs : List UInt8) : Chunk where
 P S w := ∃ (q : Value) (p : Option Addr × Nat), (q = .pointer none ∨ q = .pointer (some ⟨b, 0, none⟩)) ∧ (p = (none, 0) ∨ p.2 ≠ 0) ∧
  (Jz (Ji b [q, .slice p.1 (Jv bs).length p.2] T) (Ju E 1 (.slice p.1 (Jv bs).length p.2) (Jv bs).length ((Jv bs).map e8))).P S w
 loc S w w' h := by
  rintro ⟨q, p, hq, hp, hc⟩
  exact ⟨q, p, hq, hp, Chunk.loc _ _ _ _ h hc⟩
theorem Jje (b T E : Nat) : Imp (Ji b [.pointer none, .slice none 0 0] T) (Uu b T E []) := ⟨fun S w h =>
 ⟨.pointer none, (none, 0), .inl rfl, .inl rfl, S, fun _ => False, h, ⟨⟨World.ownsRow_nil _ _ _ _, rfl, by simp [Jv]⟩, by simp [Value.ownBlock]⟩, fun _ h => h, fun _ h => h.elim, fun _ _ h => h⟩⟩
theorem row_cap {E n : Nat} {p : Option Addr × Nat} {xs : List (List Value)} {S : Nat → Prop} {w : World} (h : (Ju E 1 (.slice p.1 n p.2) n xs).P S w) (hn : n ≠ 0) : p.2 ≠ 0 := by
 rcases h.1.1.2 with ⟨_, h0⟩ | ⟨g, cap, cur, hv, _, _, hc, _⟩
 ·exact absurd h0 hn
 ·simp only [Value.slice.injEq] at hv; omega
theorem imp_bld {b T E : Nat} {p : Option Addr × Nat} {bs : List UInt8} (hb : bs ≠ []) : Imp (Jz (Ji b [.pointer (some ⟨b, 0, none⟩), .slice p.1 (Jv bs).length p.2] T) (Ju E 1 (.slice p.1 (Jv bs).length p.2) (Jv bs).length ((Jv bs).map e8))) (Uu b T E bs) := ⟨fun S w h => by
 refine ⟨_, p, .inr rfl, .inr ?_, h⟩
 obtain ⟨S1, S2, _, h2, _⟩ := h
 exact row_cap h2 (by simpa [Jv] using hb)⟩
section rules
variable {P : Program} {n : Nat} {cx : Cx} {Q : Jae} {K : Xc → World → Prop} {e : Xc} {L : List Chunk} {ops : Array Oper} {F : Xc → List Chunk → Prop} {rest : List Oper} {ss : List Kd} {d : Nat} {ty : TypeId} {pos : String} {af : Array Edge} {g : Option (Nat × Bool)}
theorem c_bld (i : Nat) {b T E : Nat} {bs : List UInt8} (hL : L[i]? = some (Uu b T E bs))
  (k : ∀ (q : Value) (p : Option Addr × Nat), (q = .pointer none ∨ q = .pointer (some ⟨b, 0, none⟩)) → (p = (none, 0) ∨ p.2 ≠ 0) →
   At cx K e (L.set i (Jz (Ji b [q, .slice p.1 (Jv bs).length p.2] T) (Ju E 1 (.slice p.1 (Jv bs).length p.2) (Jv bs).length ((Jv bs).map e8))))) : At cx K e L :=
 ⟨fun w hF hS => by
  obtain ⟨fp, h1, h2, h3⟩ := hS.out
  obtain ⟨q, p, hq, hp, hc⟩ := h1 i _ hL
  have hil : i < L.length := by
   rcases Nat.lt_or_ge i L.length with h | h
   ·exact h
   ·simp [List.getElem?_eq_none h] at hL
  refine (k q p hq hp).out w hF ⟨fp, fun j c hj => ?_, fun j b hb => by simpa using h2 j b hb, h3⟩
  by_cases hji : j = i
  ·subst hji
   rw [List.getElem?_set_self hil] at hj
   cases hj
   exact hc
  ·rw [List.getElem?_set_ne (fun h => hji h.symm)] at hj
   exact h1 j c hj⟩
section ops
theorem r_nilP {dd : Option Nat} {X Y : Operand} {t t' u : TypeId} {a : Option Addr} (ht : P.underlying t = some (.pointer u)) (hx : ev e X = .pointer a) (hy : ev e Y = .pointer none) (w : World) :
  (execOp (ev e) ⟨dd, .binOp .eql t X Y t', ty, pos, af, g⟩).run P w = .ok (.value (.bool a.isNone)) w := by
 have hp : P.underlying t = some (.pointer (P.pointee t)) := by simp [Program.pointee, ht]
 have h0 := run_eql_pointer_nil (P := P) (w := w) t a hp
 simp only [execOp, hx, hy, eqGuard, Sem.run_bind, Sem.run_pure, Result.andThen_ok, h0, Bool.not_true, Bool.false_eq_true, if_false]
theorem r_sameP {dd : Option Nat} {X Y : Operand} {t t' u : TypeId} {a : Addr} {j : TypeInfo} (ht : P.underlying t = some (.pointer u)) (hu : P.info? u = some j) (hx : ev e X = .pointer (some a)) (hy : ev e Y = .pointer (some a)) (w : World) :
  (execOp (ev e) ⟨dd, .binOp .neq t X Y t', ty, pos, af, g⟩).run P w = .ok (.value (.bool false)) w := by
 have h0 := Lib.run_neq_ptr_same (P := P) w (tp := t) a ht hu
 simp only [execOp, hx, hy, eqGuard, Sem.run_bind, Sem.run_pure, Result.andThen_ok, h0, Bool.not_true, Bool.false_eq_true, if_false]
theorem run_toU {dd : Option Nat} {X : Operand} {src dst t T b : TypeId} {j : TypeInfo} {cs : List Value} {w : World} (hs : P.underlying src = some (.pointer t)) (hd : P.underlying dst = some .unsafePointer) (ht : P.info? t = some j) (hj : j.size ≠ 0)
  (hb : w.heap[b]? = some (.cells cs.toArray T (0, 0))) (hcs : Nat.blt 0 cs.length = true) (hx : ev e X = .pointer (some ⟨b, 0, none⟩)) :
  (execOp (ev e) ⟨dd, .convert src dst X, ty, pos, af, g⟩).run P w = .ok (.value (.pointer (some ⟨b, 0, none⟩))) w := by
 have h0 := Lib.run_to_unsafe (P := P) (w := w) (cells := cs.length) ⟨b, 0, none⟩ hs hd ht hj (e := T) (by simp [World.shape?, hb]) (by simpa using hcs)
 simp only [execOp, hx, Sem.run_bind, h0, Result.andThen_ok, Sem.run_pure]
theorem run_fromU {dd : Option Nat} {X : Operand} {src dst u T b : TypeId} {j : TypeInfo} {cs : List Value} {w : World} (hs : P.underlying src = some .unsafePointer) (hd : P.underlying dst = some (.pointer u)) (hu : P.info? u = some j)
  (hb : w.heap[b]? = some (.cells cs.toArray T (0, 0))) (hlies : liesAt P P.depth T (cs.length / P.cellsOf T) 0 u 1 = true) (hx : ev e X = .pointer (some ⟨b, 0, none⟩)) :
  (execOp (ev e) ⟨dd, .convert src dst X, ty, pos, af, g⟩).run P w = .ok (.value (.pointer (some ⟨b, 0, none⟩))) w := by
 have h0 := Lib.run_from_unsafe (P := P) (w := w) (cells := cs.length) ⟨b, 0, none⟩ hs hd hu (e := T) (by simp [World.shape?, hb]) hlies
 simp only [execOp, hx, Sem.run_bind, h0, Result.andThen_ok, Sem.run_pure]
theorem r_ssd {dd : Option Nat} {X : Operand} {tys : Array TypeId} {p : Option Addr × Nat} {m : Nat} (hp : p = (none, 0) ∨ p.2 ≠ 0) (hx : ev e X = .slice p.1 m p.2) (w : World) :
  (execOp (ev e) ⟨dd, .call ⟨.builtin .unsafeSliceData, #[X], tys⟩, ty, pos, af, g⟩).run P w = .ok (.value (.pointer p.1)) w := by
 have h0 : (Builtin.unsafeSliceData_ tys ty #[.slice p.1 m p.2]).run P w = .ok (.pointer p.1) w := by
  rcases hp with rfl | hp
  ·exact Lib.run_unsafeSliceData_nil _ _ _ _ _
  ·obtain ⟨a, c⟩ := p
   cases a with
   | none => exact Lib.run_unsafeSliceData_nil _ _ _ _ _
   | some a => exact Lib.run_unsafeSliceData_row _ _ _ _ _ _ hp
 simp only [execOp, resolve, invoke, builtin, Sem.run_bind, Sem.run_pure, Result.andThen_ok, List.map_toArray, List.map_cons, List.map_nil, hx, h0]
end ops
theorem e8_flat (bs : List UInt8) : ((Jv bs).map e8).flatten = bs.map fun c => Value.int .u8 (c.toNat : Int) := by
 induction bs with
 | nil => rfl
 | cons c r ih =>
  simp only [Jv, List.map_cons, List.flatten_cons] at ih ⊢
  rw [ih]; rfl
theorem turns_ustr {X Y : Operand} {i pt it E : TypeId} {p : Option Addr × Nat} {bs : List UInt8} {rds : List Nat} (hpt : P.underlying pt = some (.pointer E)) (hc : P.cellsOf E = 1)
  (hL : L[i]? = some (Ju E 1 (.slice p.1 (Jv bs).length p.2) (Jv bs).length ((Jv bs).map e8))) (hx : ev e X = .pointer p.1) (hy : ev e Y = .int .i64 ((Jv bs).length : Nat)) :
  Turns P cx e ⟨some d, .call ⟨.builtin .unsafeString, #[X, Y], #[pt, it]⟩, ty, pos, af, g⟩ L i rds (fun _ : Unit => str bs) (fun _ => empC) := fun w L' hF hS _ hi' => by
 have hL' := (hi' i (.inr rfl)).trans hL
 obtain ⟨S0, ⟨⟨ho, _⟩, hob⟩, _⟩ := hS.at hL'
 have hlen : (Jv bs).length = bs.length := by simp [Jv]
 have key : ∃ w', (Builtin.unsafeString_ #[pt, it] ty #[.pointer p.1, .int .i64 ((Jv bs).length : Nat)]).run P w = .ok (str bs) w' ∧ ∀ S : Nat → Prop, (Ju E 1 (.slice p.1 (Jv bs).length p.2) (Jv bs).length ((Jv bs).map e8)).P S w → Turn w w' S empC := by
  by_cases h0 : bs = []
  ·subst h0
   refine ⟨w, Lib.run_unsafeString_none w pt it ty p.1, fun S _ => ⟨rfl, rfl, rfl, Nat.le_refl _, fun _ _ _ => rfl, fun _ => False, fun _ h => h, fun _ h => h.elim⟩⟩
  ·rcases ho.2 with ⟨_, hz⟩ | ⟨g0, cap, cur, hv, _, hh, hnc, hm, hcs, ht⟩
   ·rw [hlen] at hz; exact absurd (List.eq_nil_of_length_eq_zero hz) h0
   ·simp only [Value.slice.injEq, true_and] at hv
    obtain ⟨hp1, hp2⟩ := hv
    rw [hp1, hlen]
    have hcell : ∀ (j : Nat) (x : UInt8), bs[j]? = some x → w.cell? ((⟨g0, 0, none⟩ : Addr).add j) = some (.int .u8 x.toNat) := fun j x hj => by
     rw [e8_flat] at ht
     have hjl : j < bs.length := by
      rcases Nat.lt_or_ge j bs.length with h | h
      ·exact h
      ·rw [List.getElem?_eq_none h] at hj; cases hj
     have h1 : (cur.toList.take ((Jv bs).length * 1))[j]? = some (.int .u8 (x.toNat : Int)) := by rw [ht]; simp [hj]
     rw [List.getElem?_take, if_pos (by rw [hlen]; omega)] at h1
     rw [Addr.add_lit]
     simp only [World.cell?, hh, Nat.zero_add]
     simpa using h1
    have hr := Lib.run_unsafeString_row (P := P) w pt it ty E hpt hc g0 cur.size (by simp [World.shape?, hh]) bs h0 (by rw [hcs]; omega) (by simp only [maxLen] at hm; omega) hcell
    have hg : ∀ S : Nat → Prop, (Ju E 1 (.slice (some ⟨g0, 0, none⟩) bs.length p.2) bs.length ((Jv bs).map e8)).P S w → S g0 := fun S hS => hS.2 g0 rfl
    have hn0 : ¬ bs.length = 0 := fun h => h0 (List.eq_nil_of_length_eq_zero h)
    refine ⟨_, hr, fun S hS => ⟨by simp [World.freeze, h0], by simp [World.freeze, h0], by simp [World.freeze, h0], by simp [World.freeze, h0], fun k hk hn => ?_, fun _ => False, fun _ h => h, fun _ h => h.elim⟩⟩
    have hne : ¬ g0 = k := fun h => hn (h ▸ hg S hS)
    simp [World.freeze, Array.getElem?_modify, hne, h0]
 obtain ⟨w', hr, ht⟩ := key
 obtain ⟨hF', hS'⟩ := hS.turnOf hF hL' ht
 have he : (execOp (ev e) ⟨some d, .call ⟨.builtin .unsafeString, #[X, Y], #[pt, it]⟩, ty, pos, af, g⟩).run P w = .ok (.value (str bs)) w' := by
  simp only [execOp, resolve, invoke, builtin, Sem.run_bind, Sem.run_pure, Result.andThen_ok, List.map_toArray, List.map_cons, List.map_nil, hx, hy, hr]
 unfold RunsTo
 rw [he]
 exact ⟨(), rfl, hF', hS'⟩
end rules
end Go.Lx

namespace Go.Lx
open Go Go.Vc Go.Md
section rules
variable {P : Program} {cx : Cx} {e : Xc} {L : List Chunk}
end rules
def vcells : Value → List Value | .tuple vs => vs.toList.flatMap fun v => v.cells.toList | v => v.cells.toList
def vcell (v : Value) (k : Nat) : Value := (vcells v).getD k undef
section rules
variable {P : Program} {n : Nat} {cx : Cx} {e : Xc} {L : List Chunk} {d : Nat} {ty : TypeId} {pos : String} {af : Array Edge} {g : Option (Nat × Bool)}
end rules
end Go.Lx

namespace Go.Lx
open Go Go.Vc Go.Md
def Z6 (l : List Value) : List Value := l
def Y2 : Js := fun _ => none
structure AllC {α : Type} (G : Js → (Nat → Value) → α → Prop) (h : Js) (sz : Nat) (css : List (List Value)) (xs : List α) : Prop where
 len : css.length = xs.length
 el : ∀ (i : Nat) (cs : List Value) (x : α), css[i]? = some cs → xs[i]? = some x → cs.length = sz ∧ G h (fun j => cs.getD j undef) x
section allc
variable {α : Type} {G : Js → (Nat → Value) → α → Prop} {h h' : Js} {sz : Nat} {css : List (List Value)} {xs ys : List α}
theorem AllC.nil : AllC G h sz [] ([] : List α) := ⟨rfl, by simp⟩
theorem AllC.snoc (p : AllC G h sz css xs) {cs : List Value} {x : α} (hl : cs.length = sz) (hG : G h (fun j => cs.getD j undef) x) : AllC G h sz (css ++ [cs]) (xs ++ [x]) := by
 refine ⟨by simp [p.len], fun i c y hc hy => ?_⟩
 rcases Nat.lt_or_ge i css.length with hi | hi
 ·rw [List.getElem?_append_left hi] at hc
  rw [List.getElem?_append_left (by rw [← p.len]; exact hi)] at hy
  exact p.el i c y hc hy
 ·rw [List.getElem?_append_right hi] at hc
  rw [List.getElem?_append_right (by rw [← p.len]; exact hi), ← p.len] at hy
  have h0 : i - css.length = 0 := by
   rcases Nat.eq_zero_or_pos (i - css.length) with h | h
   ·exact h
   ·obtain ⟨q, hq⟩ : ∃ q, i - css.length = q + 1 := ⟨i - css.length - 1, by omega⟩
    rw [hq] at hc; simp at hc
  rw [h0] at hc hy
  simp at hc hy
  subst hc hy
  exact ⟨hl, hG⟩
theorem AllC.mono [M : Mon G] (p : AllC G h sz css xs) (k : ∀ b o, h b = some o → h' b = some o) : AllC G h' sz css xs :=
 ⟨p.len, fun i c x hc hx => ⟨(p.el i c x hc hx).1, M.mono k _ _ (p.el i c x hc hx).2⟩⟩
theorem AllC.get (p : AllC G h sz css xs) {i : Int} {x : α} (g : Vh xs i = some x) : css[i.toNat]? = some (css.getD i.toNat []) := by
 obtain ⟨h0, h1, _⟩ := Z9 g
 rw [List.getD_eq_getElem?_getD, List.getElem?_eq_getElem (by rw [p.len]; exact h1)]; rfl
theorem AllC.ix (p : AllC G h sz css xs) {i : Int} {x : α} (g : Vh xs i = some x) : Vh css i = some (css.getD i.toNat []) := by
 unfold Vh; rw [if_pos (Z9 g).1]; exact p.get g
theorem AllC.at (p : AllC G h sz css xs) {i : Int} {x : α} (g : Vh xs i = some x) : G h (fun j => (css.getD i.toNat []).getD j undef) x := (p.el _ _ _ (p.get g) (Z9 g).2.2).2
theorem AllC.eta (p : AllC G h sz css xs) {i : Int} {x : α} (g : Vh xs i = some x) : Z6 (css.getD i.toNat []) = (List.range sz).map fun j => (css.getD i.toNat []).getD j undef := by
 have hl := (p.el _ _ _ (p.get g) (Z9 g).2.2).1
 unfold Z6
 generalize css.getD i.toNat [] = l at hl
 subst hl
 apply List.ext_getElem
 ·simp
 ·intro j h1 h2
  simp [List.getD_eq_getElem?_getD, List.getElem?_eq_getElem h1]
theorem AllC.app (p : AllC G h sz css xs) {by_ : Nat} {news zs : List α} {nc : List (List Value)} (g : Xk by_ xs news = some zs) (hn : nc.length = news.length) : Xk by_ css nc = some (css ++ nc) := by
 obtain ⟨_, h1, h2⟩ := Uj g
 exact Xa (by rw [p.len, hn]; exact ⟨h1, h2⟩)
theorem AllC.snocG (p : AllC G h sz css xs) {by_ : Nat} {x : α} {zs : List α} {cs : List Value} (g : Xk by_ xs [x] = some zs) (hl : cs.length = sz) (hG : G h (fun j => cs.getD j undef) x) : AllC G h sz (css ++ [cs]) zs := by
 obtain ⟨rfl, _⟩ := Uj g
 exact p.snoc hl hG
end allc
def Y7 (base hp : Js) : Chunk where
 P S w := (∀ b o, base b = some o → hp b = some o) ∧ ∀ b o, hp b = some o → base b = some o ∨ (S b ∧ w.heap[b]? = some o)
 loc S w w' h := fun ⟨h1, h2⟩ => ⟨h1, fun b o hb => (h2 b o hb).imp id fun ⟨hs, hw⟩ => ⟨hs, (h b hs).trans hw⟩⟩
section rules
variable {cx : Cx} {K : Xc → World → Prop} {e : Xc} {L : List Chunk} {base hp : Js}
theorem Zt (base : Js) (k : At cx K e (L ++ [Y7 base base])) : At cx K e L :=
 ⟨fun w hF hS => k.out w hF (hS.snoc hF (Grow.refl w) (S := Zk) ⟨fun _ _ h => h, fun _ _ h => .inl h⟩ (fun _ h => h.elim))⟩
theorem Ui {w : World} {i : Nat} (hS : Sat cx w L) (hi : L[i]? = some (Y7 base hp)) (hb : ∀ b o, base b = some o → w.heap[b]? = some o) : ∀ b o, hp b = some o → w.heap[b]? = some o := fun b o h => by
 obtain ⟨S, hP, _⟩ := hS.at hi
 rcases hP.2 b o h with h | h
 ·exact hb b o h
 ·exact h.2
theorem Yx {h : Js} : ∀ b o, Y2 b = some o → h b = some o := fun _ _ h => by cases h
open Classical in
theorem Jf2 {C : Chunk} {Φ : Js → Prop} (i j : Nat) (hi : L[i]? = some (Y7 base hp)) (hj : L[j]? = some C) (hne : i ≠ j) (hb : ∀ w, Fr cx w → ∀ b o, base b = some o → w.heap[b]? = some o)
  (hC : ∀ S w (H : Js), C.P S w → (∀ b o, S b → w.heap[b]? = some o → H b = some o) → (∀ b o, hp b = some o → H b = some o) → Φ H)
  (k : ∀ hp', (∀ b o, hp b = some o → hp' b = some o) → Φ hp' → At cx K e ((L.set i (Y7 base hp')).set j empC)) : At cx K e L :=
 ⟨fun w hF hS => by
  have hnow := Ui hS hi (hb w hF)
  obtain ⟨fp, h1, h2, h3⟩ := hS.out
  have hil : i < L.length := by
   rcases Nat.lt_or_ge i L.length with h | h
   ·exact h
   ·simp [List.getElem?_eq_none h] at hi
  have hjl : j < L.length := by
   rcases Nat.lt_or_ge j L.length with h | h
   ·exact h
   ·simp [List.getElem?_eq_none h] at hj
  have hji : ¬ j = i := fun h => hne h.symm
  have le : ∀ b o, hp b = some o → (fun b => if fp j b then w.heap[b]? else hp b) b = some o := fun b o h => by
   show (if fp j b then w.heap[b]? else hp b) = some o
   split
   ·exact hnow b o h
   ·exact h
  refine (k (fun b => if fp j b then w.heap[b]? else hp b) le (hC (fp j) w _ (h1 j C hj) (fun b o hs h => by show (if fp j b then w.heap[b]? else hp b) = some o; rw [if_pos hs]; exact h) le)).out w hF ?_
  have key : ∀ q b, (if q = i then fp i b ∨ fp j b else if q = j then False else fp q b) → (q = i ∧ (fp i b ∨ fp j b)) ∨ (q ≠ i ∧ q ≠ j ∧ fp q b) := by
   intro q b h
   by_cases hqi : q = i
   ·simp only [hqi, if_true] at h; exact .inl ⟨hqi, h⟩
   ·by_cases hqj : q = j
    ·simp only [hqj, hji, if_true, if_false] at h
    ·simp only [hqi, hqj, if_false] at h; exact .inr ⟨hqi, hqj, h⟩
  refine ⟨fun q b => if q = i then fp i b ∨ fp j b else if q = j then False else fp q b, ?_, ?_, ?_⟩
  ·intro q c hc
   by_cases hqj : q = j
   ·subst hqj
    rw [List.getElem?_set_self (by simpa using hjl)] at hc
    cases hc
    show ∀ b, ¬ _
    intro b h
    simp [hji] at h
   ·rw [List.getElem?_set_ne (fun h => hqj h.symm)] at hc
    by_cases hqi : q = i
    ·subst hqi
     rw [List.getElem?_set_self hil] at hc
     cases hc
     simp only [if_true]
     have hP := h1 q _ hi
     refine ⟨fun b o h => le b o (hP.1 b o h), fun b o h => ?_⟩
     have h : (if fp j b then w.heap[b]? else hp b) = some o := h
     split at h
     ·rename_i hs; exact .inr ⟨.inr hs, h⟩
     ·rcases hP.2 b o h with h | h
      ·exact .inl h
      ·exact .inr ⟨.inl h.1, h.2⟩
    ·rw [List.getElem?_set_ne (fun h => hqi h.symm)] at hc
     simp only [hqi, hqj, if_false]
     exact h1 q c hc
  ·intro q b h
   rcases key q b h with ⟨rfl, h | h⟩ | ⟨_, _, h⟩
   ·have := h2 q b h; exact ⟨by simpa using hil, this.2⟩
   ·have := h2 j b h; exact ⟨by simpa using hil, this.2⟩
   ·have := h2 q b h; exact ⟨by simpa using this.1, this.2⟩
  ·intro q r b hq hr
   rcases key q b hq with ⟨hqi, hq | hq⟩ | ⟨hqi, hqj, hq⟩ <;> rcases key r b hr with ⟨hri, hr | hr⟩ | ⟨hri, hrj, hr⟩
   ·omega
   ·omega
   ·exact absurd (h3 i r b hq hr) (fun h => hri h.symm)
   ·omega
   ·omega
   ·exact absurd (h3 j r b hq hr) (fun h => hrj h.symm)
   ·exact absurd (h3 q i b hq hr) hqi
   ·exact absurd (h3 q j b hq hr) hqj
   ·exact h3 q r b hq hr⟩
theorem FrS.sub {w : World} {S : Nat → Prop} {H : Js} {sz : Nat} {v : Value} {xs : List (List Value)} (f : FrS (fun b => w.heap[b]?) sz v xs) (hd : ∀ b, v.ownBlock = some b → S b) (hH : ∀ b o, S b → w.heap[b]? = some o → H b = some o) : FrS H sz v xs := by
 obtain ⟨a, c, rfl, h1, h2, r⟩ := f.out
 refine ⟨a, c, rfl, h1, h2, ?_⟩
 rcases r with r | ⟨b, off, cs, T, m, rfl, hb, r⟩
 ·exact .inl r
 ·exact .inr ⟨b, off, cs, T, m, rfl, hH b _ (hd b rfl) hb, r⟩
theorem fz_ro {α : Type} {sz n : Nat} {v : Value} {xs : List α} {f : α → List Value} (hp : Js) : ∀ S w (H : Js), (roV sz v n (xs.map f)).P S w → (∀ b o, S b → w.heap[b]? = some o → H b = some o) → (∀ b o, hp b = some o → H b = some o) → FrS H sz v (xs.map f) :=
 fun _ _ _ hP hH _ => hP.2.1.sub hP.2.2 hH
theorem fz_own {α : Type} {E sz n : Nat} {v : Value} {xs : List α} {f : α → List Value} (hp : Js) : ∀ S w (H : Js), (Ju E sz v n (xs.map f)).P S w → (∀ b o, S b → w.heap[b]? = some o → H b = some o) → (∀ b o, hp b = some o → H b = some o) → FrS H sz v (xs.map f) :=
 fun S w H hP hH k => fz_ro hp S w H ((Jfd E sz v n _).out S w hP) hH k
theorem Ja8 {α : Type} {G : Js → (Nat → Value) → α → Prop} {h : Js} {sz : Nat} {v : Value} {css : List (List Value)} {xs : List α} (f : FrS h sz v (css.map Z6)) (p : AllC G h sz css xs) : FrN h sz v G xs := by
 have hid : css.map Z6 = css := by unfold Z6; simp
 rw [hid] at f
 have cellE : ∀ i, i < xs.length → Xr h v sz i = fun j => (css.getD i []).getD j undef := by
  intro i hi
  funext j
  have hi' : i < css.length := by rw [p.len]; exact hi
  have hcl : (css[i]).length = sz := (p.el i css[i] xs[i] (List.getElem?_eq_getElem hi') (List.getElem?_eq_getElem hi)).1
  have e1 : css.getD i [] = css[i] := by simp [List.getD_eq_getElem?_getD, List.getElem?_eq_getElem hi']
  rw [e1]
  by_cases hj : j < sz
  ·obtain ⟨a, c, rfl, _, _, r⟩ := f.out
   rcases r with r | ⟨b, off, cs, T, m, rfl, hb, r⟩
   ·subst r; simp at hi'
   ·have h2 := (r i css[i] (List.getElem?_eq_getElem hi')).2 j ((css[i])[j]'(by omega)) (List.getElem?_eq_getElem (by omega))
    simp only [Xr, if_pos hj, hb]
    rw [Array.getD_eq_getD_getElem?, h2]
    simp [List.getD_eq_getElem?_getD, List.getElem?_eq_getElem (show j < (css[i]).length by omega)]
  ·unfold Xr
   rw [if_neg hj, List.getD_eq_getElem?_getD, List.getElem?_eq_none (by omega)]; rfl
 have cells : ∀ i, i < xs.length → elC h v sz i = css.getD i [] := by
  intro i hi
  have hi' : i < css.length := by rw [p.len]; exact hi
  have hcl : (css[i]).length = sz := (p.el i css[i] xs[i] (List.getElem?_eq_getElem hi') (List.getElem?_eq_getElem hi)).1
  unfold elC
  rw [cellE i hi]
  have e1 : css.getD i [] = css[i] := by simp [List.getD_eq_getElem?_getD, List.getElem?_eq_getElem hi']
  rw [e1]
  apply List.ext_getElem
  ·simp [hcl]
  ·intro j h1 h2
   simp only [List.length_map, List.length_range] at h1
   simp [List.getD_eq_getElem?_getD, List.getElem?_eq_getElem h2]
 refine ⟨?_, fun i x hx => ?_⟩
 ·have e : (List.range xs.length).map (elC h v sz) = css := by
   apply List.ext_getElem
   ·simp [p.len]
   ·intro i h1 h2
    simp only [List.length_map, List.length_range] at h1
    rw [List.getElem_map, List.getElem_range, cells i h1]
    simp [List.getD_eq_getElem?_getD, List.getElem?_eq_getElem h2]
  rw [e]; exact f
 ·have hi : i < xs.length := by
   rcases Nat.lt_or_ge i xs.length with h | h
   ·exact h
   ·rw [List.getElem?_eq_none h] at hx; cases hx
  have hi' : i < css.length := by rw [p.len]; exact hi
  rw [cellE i hi]
  have e1 : css.getD i [] = css[i] := by simp [List.getD_eq_getElem?_getD, List.getElem?_eq_getElem hi']
  rw [e1]
  exact (p.el i css[i] x (List.getElem?_eq_getElem hi') hx).2
theorem app63 {α : Type} {by_ : Nat} {xs ys zs : List α} (g : Xk by_ xs ys = some zs) : (xs ++ ys).length * by_ ≤ 140737488355328 := by
 obtain ⟨_, _, h⟩ := Uj g
 rwa [List.length_append]
open Classical in
theorem Z7 {hp1 : Js} (i j : Nat) (hi : L[i]? = some (Y7 base hp)) (hj : L[j]? = some (Y7 Y2 hp1)) (hne : i ≠ j) (hb : ∀ w, Fr cx w → ∀ b o, base b = some o → w.heap[b]? = some o)
  (k : ∀ hp', (∀ b o, hp b = some o → hp' b = some o) → (∀ b o, hp1 b = some o → hp' b = some o) → At cx K e ((L.set i (Y7 base hp')).set j empC)) : At cx K e L :=
 Jf2 (Φ := fun H => ∀ b o, hp1 b = some o → H b = some o) i j hi hj hne hb (fun S w H hP hH _ b o h => (hP.2 b o h).elim (fun h => by cases h) fun h => hH b o h.1 h.2) k
def Jdb {α : Type} (E sz : Nat) (G : Js → (Nat → Value) → α → Prop) (v : Value) (n : Nat) (xs : List α) : Chunk where
 P S w := ∃ (hp : Js) (css : List (List Value)), AllC G hp sz css xs ∧ n = css.length ∧ (Jz (Y7 Y2 hp) (Ju E sz v n (css.map Z6))).P S w
 loc S w w' h := by
  rintro ⟨hp, css, h1, h2, h3⟩
  exact ⟨hp, css, h1, h2, Chunk.loc _ _ _ _ h h3⟩
theorem Yo {α : Type} {G : Js → (Nat → Value) → α → Prop} {E sz n : Nat} {p : Option Addr × Nat} {css : List (List Value)} {xs : List α} (hn : n = css.length) (f : AllC G hp sz css xs) :
  Imp (Jz (Y7 Y2 hp) (Ju E sz (.slice p.1 n p.2) n (css.map Z6))) (Jdb E sz G (.slice p.1 n p.2) n xs) := ⟨fun S w h => ⟨hp, css, f, hn, h⟩⟩
theorem Jau {C : Chunk} {τ : Type} {D : τ → Chunk} {φ : τ → Prop} (i : Nat) (hi : L[i]? = some C) (h : ∀ S w, C.P S w → ∃ t, φ t ∧ (D t).P S w) (k : ∀ t, φ t → At cx K e (L.set i (D t))) : At cx K e L :=
 ⟨fun w hF hS => by
  obtain ⟨fp, h1, h2, h3⟩ := hS.out
  obtain ⟨t, ht, hD⟩ := h _ _ (h1 i _ hi)
  have hil : i < L.length := by
   rcases Nat.lt_or_ge i L.length with h | h
   ·exact h
   ·simp [List.getElem?_eq_none h] at hi
  refine (k t ht).out w hF ⟨fp, fun j c hj => ?_, fun j b hb => by simpa using h2 j b hb, h3⟩
  by_cases hji : j = i
  ·subst hji
   rw [List.getElem?_set_self hil] at hj
   cases hj
   exact hD
  ·rw [List.getElem?_set_ne (fun h => hji h.symm)] at hj
   exact h1 j c hj⟩
theorem Jep {α : Type} {G : Js → (Nat → Value) → α → Prop} {E sz n : Nat} {p : Option Addr × Nat} {xs : List α} (i : Nat) (hi : L[i]? = some (Jdb E sz G (.slice p.1 n p.2) n xs))
  (k : ∀ (hp : Js) (css : List (List Value)), n = css.length → AllC G hp sz css xs → At cx K e (L.set i (Jz (Y7 Y2 hp) (Ju E sz (.slice p.1 n p.2) n (css.map Z6))))) : At cx K e L :=
 Jau (τ := Js × List (List Value)) (D := fun t => Jz (Y7 Y2 t.1) (Ju E sz (.slice p.1 n p.2) n (t.2.map Z6))) (φ := fun t => n = t.2.length ∧ AllC G t.1 sz t.2 xs) i hi (fun S w ⟨hp, css, h1, h2, h3⟩ => ⟨(hp, css), ⟨h2, h1⟩, h3⟩) fun t ht => k t.1 t.2 ht.1 ht.2
end rules
end Go.Lx

namespace Go.Vc
open Go Go.Md Go.Shelf Go.Sort Go.Proofs
end Go.Vc

namespace Go.Vc
open Go Go.Md Go.Shelf Go.Sort Go.Proofs
theorem flatE_len {α : Type} (enc : α → List Value) (k : Nat) (hk : ∀ x, (enc x).length = k) (l : List α) : (l.map enc).flatten.length = l.length * k := by
 induction l with
 | nil => simp
 | cons x l ih => simp [ih, hk, Nat.add_mul]; omega
theorem flatE_get {α : Type} [Inhabited α] (enc : α → List Value) (k : Nat) (hk : ∀ x, (enc x).length = k) : ∀ (l : List α) (t : Nat), t < l.length * k → (l.map enc).flatten[t]? = some (enc (l[t / k]!))[t % k]!
 | [], t, h => by simp at h
 | x :: l, t, h => by
  have k0 : 0 < k := by rcases Nat.eq_zero_or_pos k with h0 | h0
                        ·subst h0; simp at h
                        ·exact h0
  rw [List.map_cons, List.flatten_cons]
  rcases Nat.lt_or_ge t k with h1 | h1
  ·rw [List.getElem?_append_left (by rw [hk]; exact h1), Nat.div_eq_of_lt h1, Nat.mod_eq_of_lt h1, List.getElem!_cons_zero, List.getElem?_eq_getElem (by rw [hk]; exact h1), getElem!_pos _ t (by rw [hk]; exact h1)]
  ·rw [List.getElem?_append_right (by rw [hk]; exact h1), hk, flatE_get enc k hk l (t - k) (by simp only [List.length_cons, Nat.add_mul, Nat.one_mul] at h; omega)]
   have e1 : t / k = (t - k) / k + 1 := by rw [← Nat.sub_add_cancel h1]; simp [Nat.add_div_right _ k0]
   have e2 : t % k = (t - k) % k := by rw [Nat.mod_eq_sub_mod h1]
   rw [e1, e2, List.getElem!_cons_succ]
theorem Jh2 {α : Type} [Inhabited α] (enc : α → List Value) (k : Nat) (hk : ∀ x, (enc x).length = k) (d : Array α) : (flatK enc k d).toList = (d.toList.map enc).flatten := by
 apply List.ext_getElem?
 intro t
 by_cases h : t < d.size * k
 ·have h2 := flatE_get enc k hk d.toList t (by simpa using h)
  have k0 : 0 < k := by rcases Nat.eq_zero_or_pos k with h0 | h0
                        ·subst h0; simp at h
                        ·exact h0
  have hlt : t / k < d.size := (Nat.div_lt_iff_lt_mul k0).2 h
  have e0 : d.toList[t / k]! = d[t / k]! := by rw [getElem!_pos d.toList (t / k) (by simpa using hlt), getElem!_pos d (t / k) hlt]; simp
  rw [h2, Array.getElem?_toList, Array.getElem?_eq_getElem (by simpa using h), ← getElem!_pos _ t (by simpa using h), get_flatK _ _ _ _ h, e0]
 ·rw [List.getElem?_eq_none (by simpa using h), List.getElem?_eq_none (by rw [flatE_len enc k hk]; simpa using h)]
theorem Jkg {w : World} {g : Nat} {cur : Array Value} {e : TypeId} {F : Array Value} (hb : w.heap[g]? = some (.cells cur e (0, 0))) (ht : cur.toList.take F.size = F.toList) : Holds id w g 0 F := by
 intro j hj
 refine ⟨?_, by simp [World.frozen?, hb]⟩
 have h1 : (cur.toList.take F.size)[j]? = F.toList[j]? := by rw [ht]
 rw [List.getElem?_take_of_lt hj] at h1
 simp only [World.cell?, hb, Nat.zero_add]
 simp only [Option.isSome_none, Bool.false_eq_true, if_false]
 rw [← Array.getElem?_toList, h1]
 simp [hj]
theorem heap_sortedV {w : World} {g n : Nat} {os : Array Obj} {cur : Array Value} {e : TypeId} {fr : Nat × Nat} (F : Array Value) (hb : w.heap[g]? = some (.cells cur e fr)) :
  (grow (putRow id (Sort.ahead w n) g 0 F) os).heap[g]? = some (.cells (putCells id 0 F cur) e fr) := by
 have hg : g < w.heap.size := (Array.getElem?_eq_some_iff.1 hb).1
 rw [heap_grow_old _ _ (by simpa using hg)]
 simp [putRow, mapBlock, Sort.ahead, Array.getElem?_modify, hb, onCells]
theorem Ji0 {w : World} {g n : Nat} {os : Array Obj} (F : Array Value) : w.grownBy (grow (putRow id (Sort.ahead w n) g 0 F) os) (some g) := by
 refine ⟨rfl, rfl, rfl, by simp, fun k hk hne => ?_⟩
 rw [heap_grow_old _ _ (by simpa using hk)]
 have : g ≠ k := fun e => hne (by rw [e])
 simp [putRow, mapBlock, Sort.ahead, Array.getElem?_modify, this]
theorem Jjv (cur : Array Value) (F : Array Value) (h : F.size ≤ cur.size) : (putCells id 0 F cur).toList.take F.size = F.toList := by
 apply List.ext_getElem?
 intro j
 by_cases hj : j < F.size
 ·rw [List.getElem?_take_of_lt hj, Array.getElem?_toList]
  simp [putCells, hj, show j < cur.size by omega]
 ·rw [List.getElem?_take_eq_none (by omega), List.getElem?_eq_none (by simp; omega)]
theorem swo_of {α : Type} {cmp : α → α → Option Int} (c : CmpOk cmp) : SWO (ltOf fun x y => (cmp x y).getD 0) where
 irrefl x := by have := c.flip x x; unfold ltOf; simp; omega
 trans x y z h1 h2 := by
  unfold ltOf at *
  simp at *
  have a1 := c.flip x y
  have a2 := c.flip y z
  have a3 := c.flip z x
  have a4 := c.flip y x
  have a5 := c.flip z y
  have a6 := c.flip x z
  have t := c.trans y z x
  have t2 := c.trans x y z (by omega) (by omega)
  rcases Int.lt_or_le ((cmp x z).getD 0) 0 with h | h
  ·exact h
  ·have e0 : (cmp x z).getD 0 = 0 := by omega
   have := c.anti x z e0
   subst this
   omega
 ntrans x y z h1 h2 := by
  unfold ltOf at *
  simp at *
  have a1 := c.flip x y
  have a2 := c.flip y z
  have a3 := c.flip z x
  have a4 := c.flip y x
  have a5 := c.flip z y
  have a6 := c.flip x z
  have t := c.trans z y x (by omega) (by omega)
  omega
theorem sort_func {P : Program} {ρ : Ren} (Ly : SlLaysF0.n6 P ρ) {α : Type} {k : Nat} (aE : ∀ w, (isAgg (ρ.t 24)).run P w = .ok true w) (zE : ∀ w, (Go.sizeOf (ρ.t 24)).run P w = .ok k w) (enc : α → List Value) (hk : ∀ x, (enc x).length = k)
  (h1 : ∀ x, ∀ v ∈ enc x, v.oneCell' = true) {cf : α → α → Option Int} {g : Nat} (eg : ∀ args w, (callFunc g args).run P w = .ok (.enter g args) w)
  (hcl : ∀ (x y : α) (v : Int) (W : World), cf x y = some v → Calls P g #[.agg (enc x).toArray, .agg (enc y).toArray] W fun e w' => e = .returned (.int .i64 v) ∧ ∃ q os', w' = Go.Sort.grow (W.drewN q) os')
  {E : TypeId} {a0 r : List α} {p0 : Option Addr × Nat} {n0 : Nat} {w : World} {S : Nat → Prop}
  (hcs : (Ju E k (.slice p0.1 n0 p0.2) n0 (a0.map enc)).P S w) (hlt : ∀ b, S b → b < w.heap.size) (hn0 : n0 = a0.length) (H : Jg8 a0 cf = some r) :
  Does P (ρ.f 6) (List.toArray [.slice p0.1 n0 p0.2, .func (.func g) #[] #[]]) w (fun v w' => ∃ _ : Unit, v = .tuple #[] ∧ Turn w w' S (Ju E k (.slice p0.1 n0 p0.2) n0 (r.map enc))) := by
 obtain ⟨p, c⟩ := p0
 unfold Jg8 at H
 split at H
 case isFalse => cases H
 rename_i hh
 obtain ⟨hsz, hok⟩ := hh
 cases H
 subst hn0
 have hcs0 := hcs
 obtain ⟨⟨hown, hlen, hall⟩, hb⟩ := hcs
 rcases hown.2 with ⟨h0, h1'⟩ | ⟨b, cap, cur, hv, hbase, hh, q1, q2, q3, q4⟩
 ·have hnil : a0 = [] := List.eq_nil_of_length_eq_zero h1'
  subst hnil
  refine Calls.mono (AnyF.slices_SortFunc_none { Ly with } p c (.func (.func g) #[] #[]) w) ?_
  rintro e w' ⟨rfl, rfl⟩
  exact ⟨_, rfl, (), rfl, ⟨rfl, rfl, rfl, Nat.le_refl _, fun _ _ _ => rfl, S, by simpa using hcs0, fun b h => ⟨hlt b h, .inl h⟩⟩⟩
 ·simp only [Value.slice.injEq] at hv
  obtain ⟨hv1, -, hv2⟩ := hv
  subst hv1 hv2
  rcases List.eq_nil_or_concat a0 with rfl | ⟨_, x0, _⟩
  ·refine Calls.mono (AnyF.slices_SortFunc_none { Ly with } _ c (.func (.func g) #[] #[]) w) ?_
   rintro e w' ⟨rfl, rfl⟩
   exact ⟨_, rfl, (), rfl, ⟨rfl, rfl, rfl, Nat.le_refl _, fun _ _ _ => rfl, S, by simpa using hcs0, fun b h => ⟨hlt b h, .inl h⟩⟩⟩
  haveI : Inhabited α := ⟨x0⟩
  have hgl : b < w.heap.size := (Array.getElem?_eq_some_iff.1 hh).1
  have hfs : ∀ l : List α, (flatK enc k l.toArray).toList = (l.map enc).flatten := fun l => Jh2 enc k hk l.toArray
  have hH : HoldsK enc k w b 0 a0.toArray := by
   refine Jkg hh ?_
   rw [hfs, size_flatK, ← q4]
   simp
  have hcmp : CmpLays P g #[] enc k (fun x y => (cf x y).getD 0) b 0 a0.toArray.size w := fun m os dk _ x y => by
   obtain ⟨v, hv⟩ := hok.tot x y
   have := hcl x y v (sortWorldK enc k w b 0 m dk os) hv
   have e : (cf x y).getD 0 = v := by rw [hv]; rfl
   simp only [e]
   exact this
  have main := AnyQ.slices_SortFunc Ly k aE zE enc hk h1 (fun x y => (cf x y).getD 0) (swo_of hok) g #[] b 0 c a0.toArray w eg hcmp hH hgl (by simpa using hsz)
  rw [show a0.toArray.size = a0.length by simp] at main
  refine Calls.mono main ?_
  rintro e w' ⟨rfl, d', n, os, hperm, hsorted, rfl⟩
  have hds : d'.size = a0.length := by simpa using hperm.1
  have hp : d'.toList.Perm a0 := by
   have := hperm.2.2
   have z1 : (d'.extract 0 a0.length).toList = d'.toList := by rw [← hds]; simp
   have z2 : (a0.toArray.extract 0 a0.length).toList = a0 := by simp
   rw [z1, z2] at this
   exact this
  have hd : d'.toList = a0.mergeSort (leC cf) := by
   refine sortF_is hok hp ?_
   rw [List.pairwise_iff_getElem]
   intro i j hi hj hij
   have := hsorted i j (Nat.zero_le _) hij (by simpa [hds] using hj)
   rw [getElem!_pos d' j (by simpa using hj), getElem!_pos d' i (by simpa using hi)] at this
   unfold ltOf at this
   unfold leC
   have a1 := hok.flip d'[j] d'[i]
   have a2 := hok.flip d'[i] d'[j]
   simp at this ⊢
   simp at hi hj
   omega
  have hflat : (flatK enc k d').toList = ((a0.mergeSort (leC cf)).map enc).flatten := by rw [Jh2 enc k hk, hd]
  have hG := Ji0 (w := w) (g := b) (n := n) (os := os) (flatK enc k d')
  obtain ⟨g1, g2, g3, g4, g5⟩ := hG
  have hSg : S b := hb b rfl
  have hll : (a0.mergeSort (leC cf)).length = a0.length := List.length_mergeSort _
  refine ⟨_, rfl, (), rfl, ⟨g1, g2, g3, g4, fun z hz hnz => g5 z hz (fun h => hnz (by cases h; exact hSg)), S, ⟨⟨⟨by rw [flatE_len enc k hk]; simp [hll], .inr ⟨b, c, _, rfl, hbase, heap_sortedV _ hh, q1, q2, by simp [putCells, q3], ?_⟩⟩, by simp [hll], fun x hx => ?_⟩, hb⟩, fun z h => ⟨Nat.lt_of_lt_of_le (hlt z h) g4, .inl h⟩⟩⟩
  ·rw [← hflat]
   have := Jjv cur (flatK enc k d') (by rw [size_flatK, q3, hds]; exact Nat.mul_le_mul_right k q1)
   rw [size_flatK, hds] at this
   exact this
  ·obtain ⟨y, _, rfl⟩ := List.mem_map.1 hx
   exact hk y
end Go.Vc

namespace Go.Lx
open Go Go.Vc Go.Md
def _root_.Go.Vc.Kd.dv (a : Nat) (rds : List Nat) (φ : Value → Value) : Kd := .g [a] rds [] (fun vs _ v => v = φ (vs.headD undef)) (fun _ _ _ => [])
section rules
variable {P : Program} {cx : Cx} {ops : Array Oper} {F : Xc → List Chunk → Prop} {ss : List Kd} {rest : List Oper} {e : Xc} {L : List Chunk}
theorem d_readV {o : Oper} {d a : Nat} {v : Value} {φ : Value → Value} {rds : List Nat} (hv : φ (e a) = v) (hr : ∀ w L', Fr cx w → Sat cx w L' → (∀ i ∈ rds, L'[i]? = L[i]?) → (execOp (ev e) o).run P w = .ok (.value v) w) (hw : Xt ops o e = true) (hd : o.dst = some d)
  (k : Sq P cx ops F rest ss (upd e d v) L) : Sq P cx ops F (o :: rest) (.dv a rds φ :: ss) e L := by
 subst hv
 refine .take hw ⟨_, rfl⟩ ⟨fun w L' hF hS _ hi => ?_⟩ fun v' hv' => ?_
 ·unfold RunsTo
  rw [hr w L' hF hS fun i hm => hi i (.inl hm)]
  exact ⟨rfl, hF.grow (Grow.refl w), hS.grow (Grow.refl w)⟩
 ·have : v' = φ (e a) := hv'
  subst this
  rw [hd]
  exact k
end rules
def rowC (E : TypeId) (sz : Nat) (v : Value) (n : Nat) (xs : List (List Value)) (c : Nat) : Chunk where
 P S w := (Ju E sz v n xs).P S w ∧ c ≤ sc v
 loc S w w' h := fun ⟨h1, h2⟩ => ⟨(Ju E sz v n xs).loc S w w' h h1, h2⟩
theorem imp_rowC (E : TypeId) (sz : Nat) (v : Value) (n : Nat) (xs : List (List Value)) (c : Nat) : Imp (rowC E sz v n xs c) (Ju E sz v n xs) := ⟨fun _ _ h => h.1⟩
section rules
variable {P : Program} {n : Nat} {cx : Cx} {e : Xc} {L : List Chunk} {d : Nat} {ty : TypeId} {pos : String} {af : Array Edge} {g : Option (Nat × Bool)}
end rules
end Go.Lx

namespace Go.Lx
open Go Go.Vc Go.Md
section rules
variable {P : Program} {n : Nat} {cx : Cx} {e : Xc} {L : List Chunk} {d : Nat} {ty : TypeId} {pos : String} {af : Array Edge} {g : Option (Nat × Bool)}
theorem owns_take {w : World} {E : TypeId} {sz m a : Nat} {p : Option Addr × Nat} {xs : List Value} (h : w.ownsRow 0 E sz (.slice p.1 m p.2) m xs) (ha : a ≤ m) : w.ownsRow 0 E sz (.slice p.1 a p.2) a (xs.take (a * sz)) := by
 have hle : a * sz ≤ m * sz := Nat.mul_le_mul_right _ ha
 refine ⟨by rw [List.length_take, h.1]; omega, ?_⟩
 rcases h.2 with ⟨hv, hm⟩ | ⟨g0, cap, cur, hv, hbg, hg, hnc, hcm, hcs, htake⟩
 ·injection hv with h1 h2 h3
  subst h2
  have : a = 0 := by omega
  subst this
  exact .inl ⟨by rw [h1, h3], by simp⟩
 ·injection hv with h1 h2 h3
  refine .inr ⟨g0, cap, cur, by rw [h1, h3], hbg, hg, by omega, hcm, hcs, ?_⟩
  rw [← htake, List.take_take, Nat.min_eq_left hle]
theorem ownBlock_len (x : Option Addr) (a m c : Nat) : (Value.slice x a c).ownBlock = (Value.slice x m c).ownBlock := by cases x <;> rfl
theorem Jg9 {sz : Nat} : ∀ {xs : List (List Value)} (a : Nat), (∀ x ∈ xs, x.length = sz) → xs.flatten.take (a * sz) = (xs.take a).flatten
 | [], a, _ => by simp
 | x :: xs, 0, _ => by simp
 | x :: xs, a + 1, h => by
  have hx := h x (by simp)
  rw [List.take_succ_cons, List.flatten_cons, List.flatten_cons, Nat.succ_mul, List.take_append, hx, List.take_of_length_le (by omega), show a * sz + sz - sz = a * sz from by omega, Jg9 a fun y hy => h y (by simp [hy])]
end rules
end Go.Lx

namespace Go.Lx
open Go Go.Vc Go.Md
theorem Jie (a : Option Addr) (m sz : Nat) : Ya a 0 m sz = a := by
 unfold Ya
 split
 ·rfl
 ·cases a with
  | none => rfl
  | some x => obtain ⟨b, o, f⟩ := x; simp [Addr.add]
section ops
variable {P : Program} {e : Xc} {d : Option Nat} {ty : TypeId} {pos : String} {af : Array Edge} {g : Option (Nat × Bool)}
theorem run_sliceHO0 {α : Type} {X B : Operand} {a : Option Addr} {m c : Nat} {t u sz : Nat} {kb : IntKind} {q : Int} {xs ys : List α} {w : World} (hu : P.underlying t = some (.slice u)) (hs : ∀ w, (sizeOf u).run P w = .ok sz w)
  (hx : ev e X = .slice a m c) (hb : ev e B = .int kb q) (hm : m = xs.length) (hc : m ≤ c) (hg : Yw xs 0 q = some ys) :
  (execOp (ev e) ⟨d, .slice t X none (some B) none, ty, pos, af, g⟩).run P w = .ok (.value (.slice a ys.length c)) w := by
 obtain ⟨g0, g1, g2, _⟩ := Zg hg
 have hl := Jd5 hg
 rw [r_sliceH hu hs hx hb g1 (by omega) w, hl, Jie]; rfl
end ops
section rules
variable {P : Program} {n : Nat} {cx : Cx} {e : Xc} {L : List Chunk} {d : Nat} {ty : TypeId} {pos : String} {af : Array Edge} {g : Option (Nat × Bool)}
theorem imp_shrink {α : Type} {E sz m : Nat} {p : Option Addr × Nat} {f : α → List Value} {xs ys : List α} {q : Int} (hm : m = xs.length) (g : Yw xs 0 q = some ys) :
  Imp (Ju E sz (.slice p.1 m p.2) m (xs.map f)) (rowC E sz (.slice p.1 ys.length p.2) ys.length (ys.map f) xs.length) := by
 refine ⟨fun S w => ?_⟩
 obtain ⟨g0, g1, g2, rfl⟩ := Zg g
 subst hm
 rintro ⟨⟨ho, hlen, hlx⟩, hob⟩
 have hl : ((xs.drop (0 : Int).toNat).take (q.toNat - (0 : Int).toNat)).length = q.toNat := by rw [List.length_take, List.length_drop]; simp; omega
 rw [hl]
 have hoa := owns_take ho (a := q.toNat) (by omega)
 rw [Jg9 q.toNat hlx, ← List.map_take] at hoa
 have e : (xs.drop (0 : Int).toNat).take (q.toNat - (0 : Int).toNat) = xs.take q.toNat := by simp
 rw [e]
 refine ⟨⟨⟨hoa, by rw [List.length_map, List.length_take]; omega, fun x hx => ?_⟩, fun b hb => hob b ((ownBlock_len _ _ _ _) ▸ hb)⟩, ?_⟩
 ·obtain ⟨y, hy, rfl⟩ := List.mem_map.1 hx
  exact hlx _ (List.mem_map_of_mem (List.mem_of_mem_take hy))
 ·rcases ho.2 with ⟨hv, h0⟩ | ⟨g, cap, cur, hv, _, hh, hnc, _⟩
  ·simp only [Value.slice.injEq] at hv; simp only [sc]; omega
  ·simp only [Value.slice.injEq] at hv; simp only [sc]; omega
theorem Turns.pre {σ : Type} {o : Oper} {i : Nat} {rds : List Nat} {G : σ → Value} {D : σ → Chunk} {C C' : Chunk} (hI : Imp C C') (hL : L[i]? = some C) (hr : i ∉ rds) (h : Turns P cx e o (L.set i C') i rds G D) : Turns P cx e o L i rds G D := by
 intro w L' hF hS hl hi
 have hLi := (hi i (.inr rfl)).trans hL
 have hS' : Sat cx w (L'.set i C') := hS.set hF hLi (Nat.le_refl _) fun S hp hb => ⟨S, hI.out S w hp, fun b hs => ⟨(hb b hs).1, .inl hs⟩, fun _ _ _ => rfl⟩
 have hil : i < L.length := by
  rcases Nat.lt_or_ge i L.length with h | h
  ·exact h
  ·rw [List.getElem?_eq_none h] at hL; cases hL
 have := h w (L'.set i C') hF hS' (by simp [hl]) fun j hj => by
  by_cases hji : j = i
  ·subst hji; rw [List.getElem?_set_self (by omega), List.getElem?_set_self hil]
  ·rw [List.getElem?_set_ne (fun e => hji e.symm), List.getElem?_set_ne (fun e => hji e.symm)]
   exact hi j (hj.imp_right fun h => h)
 simpa [List.set_set] using this
theorem Jjw {sz : Nat} : ∀ {xs : List (List Value)} (a : Nat), (∀ x ∈ xs, x.length = sz) → xs.flatten.drop (a * sz) = (xs.drop a).flatten
 | [], a, _ => by simp
 | x :: xs, 0, _ => by simp
 | x :: xs, a + 1, h => by
  have hx := h x (by simp)
  rw [List.drop_succ_cons, List.flatten_cons, Nat.succ_mul, List.drop_append, hx, List.drop_eq_nil_of_le (by omega), List.nil_append, show a * sz + sz - sz = a * sz from by omega, Jjw a fun y hy => h y (by simp [hy])]
end rules
end Go.Lx

namespace Go.Lx
open Go Go.Vc Go.Md
section rules
variable {cx : Cx} {K : Xc → World → Prop} {e : Xc} {L : List Chunk}
theorem c_emp (k : At cx K e (L ++ [empC])) : At cx K e L := ⟨fun w hF hS => k.out w hF (hS.emp hF)⟩
end rules
section ops
variable {P : Program} {cx : Cx} {e : Xc} {L : List Chunk} {d : Option Nat} {ty : TypeId} {pos : String} {af : Array Edge} {g : Option (Nat × Bool)}
end ops
section rules
variable {P : Program} {cx : Cx} {ops : Array Oper} {F : Xc → List Chunk → Prop} {rest : List Oper} {ss : List Kd} {e : Xc} {L : List Chunk} {d : Nat}
end rules
end Go.Lx

namespace Go.Lx
open Go Go.Vc Go.Md
def cutL {β : Type} (xs : List β) (l q : Int) : List β := (xs.drop l.toNat).take (q.toNat - l.toNat)
section allc
variable {α : Type} {G : Js → (Nat → Value) → α → Prop} {h : Js} {sz : Nat} {css : List (List Value)} {xs ys : List α} {l q : Int}
theorem AllC.cut (p : AllC G h sz css xs) (g : Yw xs l q = some ys) : AllC G h sz (cutL css l q) ys := by
 obtain ⟨g0, g1, g2, rfl⟩ := Zg g
 refine ⟨by simp [cutL, p.len], fun i cs x h1 h2 => ?_⟩
 unfold cutL at h1
 rw [List.getElem?_take] at h1 h2
 split at h1
 ·rename_i hi
  rw [if_pos hi] at h2
  rw [List.getElem?_drop] at h1 h2
  exact p.el _ cs x h1 h2
 ·cases h1
end allc
section rules
variable {P : Program} {n : Nat} {cx : Cx} {e : Xc} {L : List Chunk} {d : Nat} {ty : TypeId} {pos : String} {af : Array Edge} {g : Option (Nat × Bool)}
theorem Jgh {α : Type} {G : Js → (Nat → Value) → α → Prop} {hp : Js} {E sz n : Nat} {p : Option Addr × Nat} {css : List (List Value)} {xs : List α} (hn : n = css.length) (f : AllC G hp sz css xs) :
  Imp (Jz (Y7 Y2 hp) (Ju E sz (.slice p.1 n p.2) n (css.map Z6))) (Jdb E sz G (.slice p.1 xs.length p.2) xs.length xs) := by
 subst hn
 rw [← f.len]
 exact Yo rfl f
theorem frn_rowD0 {α : Type} {G : Js → (Nat → Value) → α → Prop} [Mon G] {E sz : Nat} {p : Option Addr × Nat} {xs : List α} {S : Nat → Prop} {w : World} (h : (Jdb E sz G (.slice p.1 xs.length p.2) xs.length xs).P S w) (H : Js) (hH : ∀ b o, S b → w.heap[b]? = some o → H b = some o) : FrN H sz (.slice p.1 xs.length p.2) G xs := by
 obtain ⟨hp, css, f, hn, S1, S2, k1, k2, k3, k4, _⟩ := h
 have hr := Ji3 k2.1.1 k2.1.2.1 k2.1.2.2
 refine Ja8 (hr.sub (S := S2) k2.2 fun b o hs hb => hH b o (k4 b hs) hb) (f.mono fun b o hb => ?_)
 rcases k1.2 b o hb with h | ⟨h1, h2⟩
 ·cases h
 ·exact hH b o (k3 b h1) h2
theorem frn_rowD {α : Type} {G : Js → (Nat → Value) → α → Prop} [Mon G] {w : World} {i E sz : Nat} {p : Option Addr × Nat} {xs : List α} (hS : Sat cx w L) (hL : L[i]? = some (Jdb E sz G (.slice p.1 xs.length p.2) xs.length xs)) : FrN (fun b => w.heap[b]?) sz (.slice p.1 xs.length p.2) G xs := by
 obtain ⟨S, hp, _⟩ := hS.at hL
 exact frn_rowD0 hp _ fun _ _ _ h => h
def offR (w : World) (E sz : Nat) (v : Value) (n : Nat) (xs : List (List Value)) : Prop :=
 ∃ g off cap cur, v = .slice (some ⟨g, off, none⟩) n cap ∧ w.heap[g]? = some (.cells cur E (0, 0)) ∧ n ≤ cap ∧ cap ≤ maxLen ∧ off + cap * sz ≤ cur.size ∧ (cur.toList.drop off).take (n * sz) = xs.flatten
theorem offR.frs {w : World} {E sz : Nat} {v : Value} {n : Nat} {xs : List (List Value)} (h : offR w E sz v n xs) (hn : xs.length = n) (hl : ∀ x ∈ xs, x.length = sz) : FrS (fun b => w.heap[b]?) sz v xs := by
 obtain ⟨g, off, cap, cur, rfl, hh, hnc, hm, hcs, ht⟩ := h
 subst hn
 refine ⟨some ⟨g, off, none⟩, cap, rfl, hnc, by simpa [maxLen] using hm, .inr ⟨g, off, cur, E, (0, 0), rfl, hh, fun i x hx => ⟨hl x (List.mem_of_getElem? hx), fun j v hv => ?_⟩⟩⟩
 have hr := Jc4 xs i x (List.all_eq_true.2 fun x hx => by simpa using hl x hx) hx j v hv
 rw [← ht, List.getElem?_take] at hr
 split at hr
 ·rw [List.getElem?_drop, Array.getElem?_toList] at hr
  rw [← hr, Nat.add_assoc]
 ·cases hr
end rules
section rules
variable {P : Program} {cx : Cx} {ops : Array Oper} {F : Xc → List Chunk → Prop} {rest : List Oper} {ss : List Kd} {e : Xc} {L : List Chunk} {d : Nat}
end rules
end Go.Lx

namespace Go.Lx
open Go Go.Vc Go.Md
def setR (css : List (List Value)) (i : Int) (j : Nat) (v : Value) : List (List Value) := css.set i.toNat ((css.getD i.toNat []).set j v)
def updF (c : Nat → Value) (j : Nat) (v : Value) (q : Nat) : Value := cond (Nat.beq q j) v (c q)
theorem setR_len (css : List (List Value)) (i : Int) (j : Nat) (v : Value) : (setR css i j v).length = css.length := by simp [setR]
theorem ixR {α : Type} {css : List (List Value)} {xs : List α} {i : Int} {x : α} (h : css.length = xs.length) (g : Vh xs i = some x) : Vh css i = some (css.getD i.toNat []) := by
 obtain ⟨h0, h1, _⟩ := Z9 g
 unfold Vh
 rw [if_pos h0, List.getD_eq_getElem?_getD, List.getElem?_eq_getElem (by rw [h]; exact h1)]; rfl
theorem AllC.setR {α : Type} {G : Js → (Nat → Value) → α → Prop} {h : Js} {sz : Nat} {css : List (List Value)} {xs ys : List α} (p : AllC G h sz css xs) {i : Int} {x x' : α} {j : Nat} {v : Value} (g : Vh xs i = some x) (g2 : gSet xs i x' = some ys) (hj : Nat.blt j sz = true)
  (hG : G h (updF (fun q => (css.getD i.toNat []).getD q undef) j v) x') : AllC G h sz (Go.Lx.setR css i j v) ys := by
 have hj' : j < sz := by simpa using hj
 obtain ⟨h0, h1, rfl⟩ := Jgf g2
 have hget := p.get g
 have hl := (p.el _ _ _ hget (Z9 g).2.2).1
 refine ⟨by rw [setR_len, p.len, List.length_set], fun k c y hc hy => ?_⟩
 unfold Go.Lx.setR at hc
 rw [List.getElem?_set] at hc hy
 by_cases hk : i.toNat = k
 ·subst hk
  rw [if_pos rfl, if_pos (by rw [p.len]; exact h1)] at hc
  rw [if_pos rfl, if_pos h1] at hy
  cases hc; cases hy
  refine ⟨by rw [List.length_set]; exact hl, ?_⟩
  have : (fun q => ((css.getD i.toNat []).set j v).getD q undef) = updF (fun q => (css.getD i.toNat []).getD q undef) j v := by
   funext q
   unfold updF
   simp only [List.getD_eq_getElem?_getD, List.getElem?_set]
   by_cases hq : j = q
   ·subst hq
    have : Nat.beq j j = true := by simp
    simp only [List.getD_eq_getElem?_getD] at hl
    rw [this, if_pos rfl, if_pos (by rw [hl]; exact hj')]; rfl
   ·have : Nat.beq q j = false := by
     cases hb : Nat.beq q j with
     | false => rfl
     | true => exact absurd (Nat.eq_of_beq_eq_true hb).symm hq
    rw [this, if_neg hq]; rfl
  rw [this]; exact hG
 ·rw [if_neg hk] at hc hy
  exact p.el k c y hc hy
theorem wr_set {y : List Value} {j : Nat} {v : Value} (h : j < y.length) : wr y j [v] = some (y.set j v) := by
 induction y generalizing j with
 | nil => simp at h
 | cons a y ih =>
  cases j with
  | zero => simp [wr, wrn]
  | succ j =>
   show (wr y j [v]).map (a :: ·) = _
   rw [ih (by simpa using h)]; rfl
end Go.Lx
namespace Go.Lx
open Go Go.Vc Go.Md
section rules
variable {P : Program} {n : Nat} {cx : Cx} {e : Xc} {L : List Chunk} {ops : Array Oper} {rest : List Oper} {F : Xc → List Chunk → Prop} {ss : List Kd} {ty : TypeId} {pos : String} {af : Array Edge} {g : Option (Nat × Bool)}
end rules
end Go.Lx
namespace Go.Lx
open Go Go.Vc Go.Md
section
variable {cx : Cx} {K : Xc → World → Prop} {e : Xc} {L : List Chunk}
end
end Go.Lx
namespace Go.Lx
open Go Go.Vc Go.Md
section
variable {P : Program} {n : Nat} {cx : Cx} {e : Xc} {L : List Chunk} {ops : Array Oper} {rest : List Oper} {F : Xc → List Chunk → Prop} {ss : List Kd} {ty : TypeId} {pos : String} {af : Array Edge} {g : Option (Nat × Bool)}
theorem d_readE {o : Oper} {d : Nat} {v : Value} {rds : List Nat} (hw : Xt ops o e = true) (hd : o.dst = some d) (hr : ∀ w L', Fr cx w → Sat cx w L' → (∀ i ∈ rds, L'[i]? = L[i]?) → (execOp (ev e) o).run P w = .ok (.value v) w)
  (k : Sq P cx ops F rest ss (upd e d v) L) : Sq P cx ops F (o :: rest) (.d rds v :: ss) e L := Z5 hr hw hd k
theorem V0 {α : Type} {f : α → List Value} {xs : List α} {x' : α} {i : Int} {d : Option Nat} {T fld k fo ft fsz bo : Nat} {a : Option Addr} {nm tg pk : String} {em : Bool} {X : Operand} {fs : Array Field} {sz' : Nat} {w : World} (hu : ∀ w, (underlying T).run P w = .ok (.struct fs) w)
  (hf : fs[fld]? = some ⟨nm, ft, fo, em, tg, pk, bo⟩) (hs : ∀ w, (sizeOf ft).run P w = .ok fsz w) (hsz : Nat.blt 0 fsz = true) (hp : ev e X = Yb a k) (hR : Row w a sz' (xs.map f)) (hg : Vh xs i = some x') :
  (execOp (ev e) ⟨d, .fieldAddr T X fld, ty, pos, af, g⟩).run P w = .ok (.value (Yb a (k + fo))) w :=
 Jhh hu hf hs hsz hp (hR.some (by rw [List.length_map]; exact (Z9 hg).2.1)) w
end
end Go.Lx
namespace Go.Lx
open Go Go.Vc Go.Md
theorem Wq (l : List (List Value)) : l.map Z6 = l := by
 have : (Z6 : List Value → List Value) = id := rfl
 rw [this, List.map_id]
section
variable {P : Program} {n : Nat} {cx : Cx} {e : Xc} {L : List Chunk} {ops : Array Oper} {rest : List Oper} {F : Xc → List Chunk → Prop} {ss : List Kd} {ty : TypeId} {pos : String} {af : Array Edge} {g : Option (Nat × Bool)}
end
end Go.Lx
namespace Go.Lx
open Go Go.Vc Go.Md
section
variable {P : Program} {n : Nat} {cx : Cx} {e : Xc} {L : List Chunk} {ty : TypeId} {pos : String} {af : Array Edge} {g : Option (Nat × Bool)}
theorem Jfs {α : Type} {q T j sz k c E m : Nat} {A X : Operand} {x : Value} {a : Option Addr} {css : List (List Value)} {xs : List α} {i : Int} {xe : α} (hm : m = css.length) (hml : css.length = xs.length) (hs : ∀ w, (sizeOf T).run P w = .ok 1 w)
  (hp : ev e A = Yb a k) (hk : k = i.toNat * sz + j) (hx : ev e X = x) (hc : x.cells.toList = [x]) (hone : [x].all Value.oneCell' = true) (hj : Nat.blt j sz = true)
  (hL : L[q]? = some (Ju E sz (.slice a m c) m (css.map Z6))) (hg : Vh xs i = some xe) :
  Turns P cx e ⟨none, .store T A X, ty, pos, af, g⟩ L q [] (fun _ : Unit => undef) (fun _ => Ju E sz (.slice a m c) m ((setR css i j x).map Z6)) := by
 subst hm
 intro w L' hF hS hl hi
 have hL' := (hi q (.inr rfl)).trans hL
 rw [Wq] at hL'
 rw [Wq]
 obtain ⟨_, h1, hget⟩ := Z9 (ixR hml hg)
 obtain ⟨S0, ⟨⟨ho, hlen, hlx⟩, hob⟩, hlt⟩ := hS.at hL'
 have hyl := hlx _ (List.mem_of_getElem? hget)
 have hv' : wr (css.getD i.toNat []) j [x] = some ((css.getD i.toNat []).set j x) := wr_set (by rw [hyl]; simpa using hj)
 obtain ⟨w', hr, h2, h3⟩ := Jks (P := P) (ty := ty) (pos := pos) (af := af) (g := g) hs hp hk hx hc rfl rfl hone hget hv' ho hlen hlx
 obtain ⟨hF', hS'⟩ := hS.turnOf hF hL' (C := Ju E sz (.slice a css.length c) css.length (css.set i.toNat ((css.getD i.toNat []).set j x))) fun S1 hp => Jby hp.2 h2 h3 (.inl rfl) (by simp [hlen]) (by
  intro z' hz
  rcases List.mem_or_eq_of_mem_set hz with h | h
  ·exact hlx z' h
  ·subst h; rw [List.length_set]; exact hyl)
 unfold RunsTo
 rw [hr]
 exact ⟨(), rfl, hF', hS'⟩
end
end Go.Lx

namespace Go.Lx
open Go Go.Vc Go.Md
section
variable {P : Program} {n : Nat} {cx : Cx} {e : Xc} {L : List Chunk} {d : Option Nat} {ty : TypeId} {pos : String} {af : Array Edge} {g : Option (Nat × Bool)}
end
end Go.Lx
namespace Go.Lx
open Go Go.Vc Go.Md
section
variable {cx : Cx} {L : List Chunk} {w : World}
end
end Go.Lx
namespace Go.Lx
open Go Go.Vc Go.Md
end Go.Lx

namespace Go.Lx
open Go Go.Vc Go.Md
section
variable {P : Program} {n : Nat} {cx : Cx} {e : Xc} {L : List Chunk} {d : Nat} {ty : TypeId} {pos : String} {af : Array Edge} {g : Option (Nat × Bool)}
theorem turns_copyK {xs news : List (List Value)} {i : Nat} {D X : Operand} {t u E : TypeId} {I : TypeInfo} {sz : Nat} {p : Option Addr × Nat} {rds : List Nat} {ax : Option Addr} {dl cd c m a q : Nat} {dst : Option Nat}
  (ht : P.underlying t = some (.slice E)) (hi : P.info? E = some I) (hsize : I.size = sz)
  (hL : L[i]? = some (Ju E sz (.slice p.1 m p.2) m xs)) (hm : m = xs.length) (hd : ev e D = .slice (Ya p.1 a p.2 sz) dl cd) (ha : a + dl ≤ m) (hx : ev e X = .slice ax q c) (hql : q ≤ dl) (hq : q = news.length) (hq0 : 0 < q)
  (hnews : ∀ w L', Fr cx w → Sat cx w L' → (∀ j, j ∈ rds → L'[j]? = L[j]?) → Row w ax sz news) (hnl : ∀ x ∈ news, x.length = sz) (h1 : ∀ x ∈ news, ∀ u ∈ x, u.oneCell' = true) :
  Turns P cx e ⟨dst, .call ⟨.builtin .copy, #[D, X], #[t, u]⟩, ty, pos, af, g⟩ L i rds (fun _ : Unit => .int .i64 (q : Int)) (fun _ => Ju E sz (.slice p.1 m p.2) m (xs.take a ++ news ++ xs.drop (a + q))) := by
 subst hsize hq hm
 intro w L' hF hS hl hi'
 have hr := hnews w L' hF hS (fun j hj => hi' j (.inl hj))
 have hL' := (hi' i (.inr rfl)).trans hL
 obtain ⟨S0, ⟨⟨ho, hlen, hlx⟩, hob⟩, hlt⟩ := hS.at hL'
 have hall : ∀ x ∈ xs.take a ++ news ++ xs.drop (a + news.length), x.length = I.size := fun x hx => by
  rcases List.mem_append.1 hx with h | h
  ·rcases List.mem_append.1 h with h | h
   ·exact hlx x (List.mem_of_mem_take h)
   ·exact hnl x h
  ·exact hlx x (List.mem_of_mem_drop h)
 have hle : (xs.take a ++ news ++ xs.drop (a + news.length)).length = xs.length := by
  simp only [List.length_append, List.length_take, List.length_drop]; omega
 have hmin : Nat.min news.length dl = news.length := Nat.min_eq_left hql
 ·rcases ho.2 with ⟨_, hz⟩ | ⟨g0, cap, cur, hv0, hb0, hh, hnc, hcm, hcs, htk⟩
  ·omega
  ·simp only [Value.slice.injEq] at hv0
   obtain ⟨hp1, _, hp2⟩ := hv0
   have hcut : Ya p.1 a p.2 I.size = some ⟨g0, a * I.size, none⟩ := by
    rw [hp1]; unfold Ya
    rw [if_neg (by omega)]; simp [Addr.add_lit]
   rcases hr with hr | ⟨b, off, hax, hr⟩
   ·rw [hr] at hq0; exact absurd hq0 (by simp)
   subst hax
   have hfl : news.flatten.length = news.length * I.size := by rw [Zd news hnl]
   have hcell : ∀ j u, news.flatten[j]? = some u → w.cell? ((⟨b, off, none⟩ : Addr).add j) = some u := by
    intro j u hj
    obtain ⟨i', k', x, g1, g2, g3⟩ := Jgc news hnl j u hj
    have := (hr i' x g1).2 k' u g2
    rw [Addr.add_lit, g3, ← Nat.add_assoc]
    exact this
   have hone : ∀ u ∈ news.flatten, u.oneCell' = true := fun u hu => by
    obtain ⟨x, hx, hux⟩ := List.mem_flatten.1 hu
    exact h1 x hx u hux
   have hcur : cur.toList.length = cur.size := Array.length_toList
   have hsum : (a + news.length) * I.size ≤ xs.length * I.size := Nat.mul_le_mul_right _ (by omega)
   have hsum2 : xs.length * I.size ≤ cap * I.size := Nat.mul_le_mul_right _ hnc
   have hfit : a * I.size + news.flatten.length ≤ cur.size := by
    rw [Nat.add_mul] at hsum; omega
   have hfc := run_firstCells_some (P := P) w I.size news.length ⟨b, off, none⟩ news.length c news.flatten hfl hcell
   have hst := run_storeCells_at (P := P) g0 (a * I.size) E news.flatten 0 cur w hh (by simpa using hfit) hone
   simp only [Nat.add_zero] at hst
   have hr2 : (Builtin.copy_ #[t, u] ty #[.slice (some ⟨g0, a * I.size, none⟩) dl cd, .slice (some ⟨b, off, none⟩) news.length c]).run P w = .ok (goInt news.length) (w.setRow g0 (cur.toList.take (a * I.size) ++ news.flatten ++ cur.toList.drop (a * I.size + news.flatten.length)).toArray) := by
    have hmin2 : min news.length dl = news.length := hmin
    simp [Builtin.copy_, run_underlying ht, Builtin.lenOf, sizeOf, typeInfo, hi, hmin, hmin2, hfc, hst]
   have hexec : (execOp (ev e) ⟨dst, .call ⟨.builtin .copy, #[D, X], #[t, u]⟩, ty, pos, af, g⟩).run P w = .ok (.value (.int .i64 (news.length : Int))) (w.setRow g0 (cur.toList.take (a * I.size) ++ news.flatten ++ cur.toList.drop (a * I.size + news.flatten.length)).toArray) := by
    simp only [execOp, resolve, invoke, builtin, Sem.run_bind, Sem.run_pure, Result.andThen_ok, List.map_toArray, List.map_cons, List.map_nil, hd, hcut, hx, hr2]
    rfl
   have hxf : xs.flatten.length = xs.length * I.size := Zd xs hlx
   have e2 : (xs.take a ++ news ++ xs.drop (a + news.length)).flatten = xs.flatten.take (a * I.size) ++ news.flatten ++ xs.flatten.drop ((a + news.length) * I.size) := by
    rw [List.flatten_append, List.flatten_append, ← Jg9 _ hlx, ← Jjw _ hlx]
   have hlen2 : (cur.toList.take (a * I.size) ++ news.flatten ++ cur.toList.drop (a * I.size + news.flatten.length)).length = cur.size := by
    simp only [List.length_append, List.length_take, List.length_drop, hcur]; omega
   have e1 : cur.toList = xs.flatten ++ cur.toList.drop (xs.length * I.size) := by rw [← htk, List.take_append_drop]
   have hown : (w.setRow g0 (cur.toList.take (a * I.size) ++ news.flatten ++ cur.toList.drop (a * I.size + news.flatten.length)).toArray).ownsRow 0 E I.size (.slice p.1 xs.length p.2) xs.length (xs.take a ++ news ++ xs.drop (a + news.length)).flatten := by
    refine ⟨by rw [Zd _ hall, hle], .inr ⟨g0, cap, _, by rw [hp1, hp2], hb0, setRow_heap w g0 cur _ E (0, 0) hh, hnc, hcm, by rw [List.size_toArray, hlen2]; exact hcs, ?_⟩⟩
    rw [List.toList_toArray, e2]
    have hal : a * I.size ≤ xs.flatten.length := by rw [hxf]; exact Nat.mul_le_mul_right _ (by omega)
    have e3 : cur.toList.take (a * I.size) = xs.flatten.take (a * I.size) := by
     rw [e1, List.take_append_of_le_length hal]
    have e4 : cur.toList.drop (a * I.size + news.flatten.length) = xs.flatten.drop ((a + news.length) * I.size) ++ cur.toList.drop (xs.length * I.size) := by
     conv => lhs; rw [e1]
     rw [hfl, ← Nat.add_mul, List.drop_append_of_le_length (by rw [hxf]; exact hsum)]
    rw [e3, e4, ← List.append_assoc]
    have hl3 : (xs.flatten.take (a * I.size) ++ news.flatten ++ xs.flatten.drop ((a + news.length) * I.size)).length = xs.length * I.size := by
     rw [← e2, Zd _ hall, hle]
    rw [← hl3, List.take_left]
   have hgb : w.grownBy (w.setRow g0 (cur.toList.take (a * I.size) ++ news.flatten ++ cur.toList.drop (a * I.size + news.flatten.length)).toArray) (Value.slice p.1 xs.length p.2).ownBlock :=
    ⟨rfl, rfl, rfl, by simp, fun b' _ hb => setRow_other w g0 b' _ (fun e => hb (by simp [Value.ownBlock, hp1, e]))⟩
   obtain ⟨hF', hS'⟩ := hS.turnOf hF hL' (C := Ju E I.size (.slice p.1 xs.length p.2) xs.length (xs.take a ++ news ++ xs.drop (a + news.length))) fun S1 hp => Jby hp.2 hown hgb (.inl rfl) hle hall
   unfold RunsTo
   rw [hexec]
   exact ⟨(), rfl, hF', hS'⟩
end
end Go.Lx
namespace Go.Lx
open Go Go.Vc Go.Md
end Go.Lx
namespace Go.Vc
open Go
section
variable {P : Program} {cx : Cx} {e : Xc} {L : List Chunk}
end
end Go.Vc

namespace Go.Lx
open Go Go.Vc Go.Md
section
variable {cx : Cx} {L : List Chunk}
end
end Go.Lx

namespace Go.Lx
open Go Go.Md Go.Vc Go.Shelf Go.Sort Go.Proofs
end Go.Lx

namespace Go.Lx
open Go Go.Md Go.Vc Go.Shelf Go.Sort Go.Proofs
abbrev nn : Option Addr × Nat := (none, 0)
abbrev i6 (x : Int) : Value := .int .i64 x
abbrev sl (p : Option Addr × Nat) (n : Nat) : Value := .slice p.1 n p.2
section
variable {P : Program} {n : Nat} {cx : Cx} {Q : Jae} {e : Xc} {L : List Chunk} {ops : Array Oper} {rest : List Oper} {d : Nat} {ty : TypeId} {pos : String} {af : Array Edge} {g : Option (Nat × Bool)} {X : Operand}
theorem mv (v : Value) (k : At cx (WL P n ops Q rest) (upd e d v) L) (hw : Xt ops ⟨some d, .move X, ty, pos, af, g⟩ e = true := by exact rfl) (hn : Nat.blt d n = true := by exact rfl) (hx : ev e X = v := by exact rfl) :
  At cx (WL P n ops Q (⟨some d, .move X, ty, pos, af, g⟩ :: rest)) e L := Jf hw rfl hn (Jx hx) k
theorem ag (v : Value) (k : At cx (WL P n ops Q rest) (upd e d v) L) (hw : Xt ops ⟨some d, .assign X, ty, pos, af, g⟩ e = true := by exact rfl) (hn : Nat.blt d n = true := by exact rfl) (hx : ev e X = v := by exact rfl) :
  At cx (WL P n ops Q (⟨some d, .assign X, ty, pos, af, g⟩ :: rest)) e L := Jf hw rfl hn (Jr hx) k
theorem pa {o : Op} (k : At cx (WL P n ops Q rest) (upd e d undef) L) (hw : Xt ops ⟨some d, o, ty, pos, af, g⟩ e = false := by exact rfl) (hn : Nat.blt d n = true := by exact rfl) :
  At cx (WL P n ops Q (⟨some d, o, ty, pos, af, g⟩ :: rest)) e L := J9 hw rfl hn k
theorem Uk {K : Xc → World → Prop} (i : Nat) (k : At cx K e (L.eraseIdx i)) : At cx K e L := by
 refine c_sel ((List.range L.length).eraseIdx i) (L.eraseIdx i) ?_ (List.nodup_range.sublist (List.eraseIdx_sublist _ _)) k
 refine List.ext_getElem? fun j => ?_
 rw [List.getElem?_map, List.getElem?_map, List.getElem?_eraseIdx, List.getElem?_eraseIdx]
 split
 ·by_cases h : j < L.length
  ·rw [List.getElem?_range h]; simp [List.getElem?_eq_getElem h]
  ·rw [List.getElem?_eq_none (by simpa using h), List.getElem?_eq_none (by simpa using h)]; rfl
 ·by_cases h : j + 1 < L.length
  ·rw [List.getElem?_range h]; simp [List.getElem?_eq_getElem h]
  ·rw [List.getElem?_eq_none (by simpa using h), List.getElem?_eq_none (by simpa using h)]; rfl
end
section
variable {P : Program} {cx : Cx} {e : Xc} {L : List Chunk} {ops : Array Oper} {F : Xc → List Chunk → Prop} {rest : List Oper} {ss : List Kd} {d : Nat} {ty : TypeId} {pos : String} {af : Array Edge} {g : Option (Nat × Bool)} {X : Operand}
theorem dm (v : Value) (k : Sq P cx ops F rest ss (upd e d v) L) (hw : Xt ops ⟨some d, .move X, ty, pos, af, g⟩ e = true := by exact rfl) (hx : ev e X = v := by exact rfl) :
  Sq P cx ops F (⟨some d, .move X, ty, pos, af, g⟩ :: rest) (.p :: ss) e L := Qy hw rfl (Jx hx) k
theorem dp {o : Op} {s : Kd} (k : Sq P cx ops F rest ss (upd e d undef) L) (hw : Xt ops ⟨some d, o, ty, pos, af, g⟩ e = false := by exact rfl) :
  Sq P cx ops F (⟨some d, o, ty, pos, af, g⟩ :: rest) (s :: ss) e L := d_pass hw rfl k
end
section
variable {α : Type} {a b : α} {l : List α} {n : Nat}
theorem z1 : (a :: l).set 0 b = b :: l := rfl
theorem z2 : (a :: l).set (n + 1) b = a :: l.set n b := rfl
theorem z3 : (a :: l).eraseIdx 0 = l := rfl
theorem z4 : (a :: l).eraseIdx (n + 1) = a :: l.eraseIdx n := rfl
theorem z5 {m : List α} : (a :: l) ++ m = a :: (l ++ m) := rfl
theorem z6 {m : List α} : [] ++ m = m := rfl
theorem z7 : List.replicate (n + 1) a = a :: List.replicate n a := rfl
theorem z8 : List.replicate 0 a = [] := rfl
end
end Go.Lx

namespace Go.Lx
open Go Go.Vc Go.Md
section plain
variable {P : Program}
end plain
def markR (w : World) (E sz : Nat) (v : Value) (n : Nat) (xs : List (List Value)) : Prop :=
 ∃ g cap cur k, v = .slice (some ⟨g, 0, none⟩) n cap ∧ w.heap[g]? = some (.cells cur E k) ∧ cur.size ≤ k.1 ∧ n ≤ cap ∧ cap ≤ maxLen ∧ cur.size = cap * sz ∧ cur.toList.take (n * sz) = xs.flatten
def mkC (w : World) (E sz : Nat) (v : Value) (n : Nat) (xs : List (List Value)) : Prop :=
 (apC w E sz v n xs ∨ markR w E sz v n xs) ∧ xs.length = n ∧ ∀ x ∈ xs, x.length = sz
theorem markR.frs {w : World} {E sz : Nat} {v : Value} {n : Nat} {xs : List (List Value)} (h : markR w E sz v n xs) (hn : xs.length = n) (hl : ∀ x ∈ xs, x.length = sz) : FrS (fun b => w.heap[b]?) sz v xs := by
 obtain ⟨g, cap, cur, k, rfl, hh, _, hnc, hm, hcs, ht⟩ := h
 subst hn
 refine ⟨some ⟨g, 0, none⟩, cap, rfl, hnc, by simpa [maxLen] using hm, .inr ⟨g, 0, cur, E, k, rfl, hh, fun i x hx => ⟨hl x (List.mem_of_getElem? hx), fun j v hv => ?_⟩⟩⟩
 have hi : i < xs.length := by
  rcases Nat.lt_or_ge i xs.length with h | h
  ·exact h
  ·rw [List.getElem?_eq_none h] at hx; cases hx
 have hj : j < sz := by
  have := hl x (List.mem_of_getElem? hx)
  rcases Nat.lt_or_ge j x.length with h | h
  ·omega
  ·rw [List.getElem?_eq_none h] at hv; cases hv
 have hr := Jc4 xs i x (List.all_eq_true.2 fun x hx => by simpa using hl x hx) hx j v hv
 rw [← ht, List.getElem?_take] at hr
 split at hr
 ·rw [Nat.zero_add, ← Array.getElem?_toList]; exact hr
 ·cases hr
theorem mkC.frs {w : World} {E sz : Nat} {v : Value} {n : Nat} {xs : List (List Value)} (h : mkC w E sz v n xs) : FrS (fun b => w.heap[b]?) sz v xs :=
 h.1.elim (fun h1 => h1.frs) (fun h1 => h1.frs h.2.1 h.2.2)
theorem mkC.slice {w : World} {E sz : Nat} {v : Value} {n : Nat} {xs : List (List Value)} (h : mkC w E sz v n xs) : ∃ p : Option Addr × Nat, v = .slice p.1 n p.2 := by
 rcases h.1 with h1 | ⟨g, cap, cur, k, rfl, _⟩
 ·exact h1.slice
 ·exact ⟨(some ⟨g, 0, none⟩, cap), rfl⟩
section rules
variable {P : Program} {n : Nat} {cx : Cx} {e : Xc} {L : List Chunk} {d : Nat} {ty : TypeId} {pos : String} {af : Array Edge} {g : Option (Nat × Bool)}
theorem turns_appN {α : Type} {f : α → List Value} {ys ls zs : List α} {i : Nat} {S X : Operand} {t E : TypeId} {I : TypeInfo} {z : Value} {sz by_ : Nat} {p : Option Addr × Nat} {rds : List Nat} {V : Value} {a : Option Addr} {c m q : Nat} (hn : m = ys.length)
  (ht : P.underlying t = some (.slice E)) (hi : P.info? E = some I) (hz : I.zero = some z) (hsize : I.size = sz) (hby : I.bytes = by_) (hzs : z.cells.size = sz) (hsz : (Nat.blt 0 sz && Nat.ble by_ 1048576) = true)
  (hL : L[i]? = some (apV E sz (.slice p.1 m p.2) m (ys.map f))) (hs : ev e S = .slice p.1 m p.2) (hx : ev e X = V) (hV : V = .slice a q c) (hq : q = ls.length)
  (hnews : ∀ w L', Fr cx w → Sat cx w L' → (∀ j, j ∈ rds → L'[j]? = L[j]?) → Row w a sz (ls.map f)) (hf : ∀ x, (f x).length = sz) (h1 : ∀ x, (f x).all Value.oneCell' = true) (hg : gApN by_ ys ls = some zs) :
  Turns P cx e ⟨some d, .call ⟨.builtin .append, #[S, X], #[t, t]⟩, ty, pos, af, g⟩ L i rds (fun p' : Option Addr × Nat => .slice p'.1 zs.length p'.2) (fun p' => Ju E sz (.slice p'.1 zs.length p'.2) zs.length (zs.map f)) := fun w L' hF hS hl hi' => by
 subst hn hq
 obtain ⟨rfl, hne, hb1, hb2⟩ := gApN_some hg
 rw [List.length_append, List.map_append]
 have hL' := (hi' i (.inr rfl)).trans hL
 obtain ⟨S0, ⟨⟨hc1, hc2, hc3⟩, _⟩, _⟩ := hS.at hL'
 simp at hsz
 have hnl : ∀ x ∈ ls.map f, x.length = sz := fun x hx => by obtain ⟨y, _, rfl⟩ := List.mem_map.1 hx; exact hf y
 have hone : ∀ u ∈ (ls.map f).flatten, u.oneCell' = true := by
  intro u hu
  obtain ⟨x, hx, hux⟩ := List.mem_flatten.1 hu
  obtain ⟨y, _, rfl⟩ := List.mem_map.1 hx
  exact List.all_eq_true.1 (h1 y) u hux
 have hfl : (ls.map f).flatten.length = ls.length * sz := by rw [Zd (ls.map f) hnl, List.length_map]
 have hR := hnews w L' hF hS fun j hj => hi' j (.inl hj)
 have h63 : ys.length + ls.length ≤ maxLen := by simp only [maxLen]; omega
 have hpos : 0 < ls.length := List.length_pos_iff.2 hne
 have key : ∃ v' w', (Builtin.append_ #[t, t] ty #[.slice p.1 ys.length p.2, .slice a ls.length c]).run P w = .ok v' w' ∧ w'.ownsRow 0 E sz v' (ys.length + ls.length) (ys.map f ++ ls.map f).flatten ∧ w.grownBy w' (Value.slice p.1 ys.length p.2).ownBlock ∧ (v'.ownBlock = (Value.slice p.1 ys.length p.2).ownBlock ∨ v'.ownBlock = some w.heap.size) := by
  cases a with
  | none =>
   rcases hR with h | ⟨b, off, h, _⟩
   ·have := congrArg List.length h; simp at this; exact absurd this hne
   ·cases h
  | some ad =>
   have hcell := Jew hnl hR
   rcases hc1 with ho | ⟨hfr, b, o, hv, hb⟩
   ·obtain ⟨v', w', hr, h2, h3, h5⟩ := app_own (P := P) (ty := ty) (c := c) ht hi hz hsize hby hzs ho hpos hfl hcell hone h63 hb2 hsz.2
    exact ⟨v', w', hr, by rw [List.flatten_append]; exact h2, h3, h5⟩
   ·have hxf : (ys.map f).flatten.length = ys.length * I.size := by rw [Zd _ hc3, List.length_map, hsize]
    obtain ⟨a', c', h0, _, _, r⟩ := hfr.out
    rw [hv] at h0
    simp only [Value.slice.injEq] at h0 hv
    obtain ⟨rfl, _, rfl⟩ := h0
    subst hsize hby
    have hold := Jew hc3 (r.row fun b o h => h)
    have hm63 : ys.length + ls.length ≤ 9223372036854775807 := by simpa [maxLen] using h63
    have hr := run_append_grow (P := P) w t ty E I z ht hi hz ⟨b, 0, none⟩ ys.length ys.length (ys.map f).flatten hxf hold ad ls.length c (ls.map f).flatten hfl hcell (by omega) (by omega) (fits2 (by omega) hb2 hsz.2)
    rw [hv.1, hv.2.2]
    refine ⟨_, _, hr, ?_, Je5 _ _ _, .inr rfl⟩
    rw [List.flatten_append]
    exact Jcv hzs (by rw [List.length_append, hxf, hfl, Nat.add_mul]) h63
 obtain ⟨v', w', hr, h2, h3, h5⟩ := key
 obtain ⟨p', rfl⟩ := Jdo h2
 obtain ⟨hF', hS'⟩ := hS.turnOf hF hL' (C := Ju E sz (.slice p'.1 (ys.length + ls.length) p'.2) (ys.length + ls.length) (ys.map f ++ ls.map f)) fun S1 hp => Jby hp.2 h2 h3 h5 (by simp) (by
  intro x hx
  rcases List.mem_append.1 hx with h | h
  ·obtain ⟨y, _, rfl⟩ := List.mem_map.1 h; exact hf y
  ·exact hnl x h)
 have he : (execOp (ev e) ⟨some d, .call ⟨.builtin .append, #[S, X], #[t, t]⟩, ty, pos, af, g⟩).run P w = .ok (.value (.slice p'.1 (ys.length + ls.length) p'.2)) w' := by
  simp only [execOp, resolve, invoke, builtin, Sem.run_bind, Sem.run_pure, Result.andThen_ok, List.map_toArray, List.map_cons, List.map_nil, hs, hx, hV, hr]
 unfold RunsTo
 rw [he]
 exact ⟨p', rfl, hF', hS'⟩
theorem bytes_flat {f : Int → List Value} (hf : ∀ x, f x = [.int .u8 x]) (s : List UInt8) : ((Jv s).map f).flatten = s.map fun b => Value.int .u8 (b.toNat : Int) := by
 unfold Jv
 induction s with
 | nil => rfl
 | cons c s ih => simp only [List.map_cons, List.flatten_cons, hf, List.singleton_append, List.cons.injEq, true_and]; simpa using ih
end rules
theorem frsMono {h h' : Js} {sz n : Nat} {v : Value} (f : FrS h sz v ((List.range n).map (elC h v sz))) (k : ∀ b o, h b = some o → h' b = some o) : FrS h' sz v ((List.range n).map (elC h' v sz)) := by
 have := f.mono k
 have e : (List.range n).map (elC h v sz) = (List.range n).map (elC h' v sz) := by
  apply List.map_congr_left
  intro i hi
  unfold elC
  rw [Jj8 f (by rw [List.length_map, List.length_range]; have := List.mem_range.1 hi; omega) k i]
 rwa [e] at this
theorem elMonoE {α : Type} {h h' : Js} {sz i : Nat} {v : Value} {xs : List α} {y : α} (f : FrS h sz v ((List.range xs.length).map (elC h v sz))) (k : ∀ b o, h b = some o → h' b = some o) (hy : xs[i]? = some y) : Xr h v sz i = Xr h' v sz i := by
 have hi : i < xs.length := (List.getElem?_eq_some_iff.1 hy).1
 exact Jj8 f (by rw [List.length_map, List.length_range]; omega) k i
end Go.Lx

namespace Go.Lx
open Go Go.Vc Go.Md
open Go.MapKept (IsKey Stamped)
structure KeyF {κ : Type} (d : TypeDesc) (fk : κ → Value) : Prop where
 isKey : ∀ k, IsKey d (fk k)
 inj : ∀ a b, fk a = fk b → a = b
theorem keyF_int {k : IntKind} : KeyF (.int k) (fun x : Int => Value.int k x) := ⟨fun x => by simp [IsKey], fun a b h => by simpa using h⟩
def Ents {κ ν : Type} (fk : κ → Value) (fv : ν → Value) (es : List MapEntry) (xs : List (κ × ν)) : Prop := es.map (fun e => (e.key, e.val)) = xs.map (fun p => (fk p.1, fv p.2))
def Wd {κ ν : Type} (fk : κ → Value) (fv : ν → Value) (b : Nat) (xs : List (κ × ν)) : Chunk where
 P S w := (∀ x, S x ↔ x = b) ∧ ∃ es clock, w.heap[b]? = some (.map es clock) ∧ Stamped es clock ∧ Ents fk fv es.toList xs
 loc S w w' h hp := ⟨hp.1, by rw [h b ((hp.1 b).2 rfl)]; exact hp.2⟩
theorem Ents.len {κ ν : Type} {fk : κ → Value} {fv : ν → Value} {es : List MapEntry} {xs : List (κ × ν)} (h : Ents fk fv es xs) : es.length = xs.length := by
 have := congrArg List.length h; simpa using this
theorem Ents.keys {κ ν : Type} {fk : κ → Value} {fv : ν → Value} {es : List MapEntry} {xs : List (κ × ν)} (h : Ents fk fv es xs) : es.map (·.key) = xs.map (fun p => fk p.1) := by
 have := congrArg (List.map Prod.fst) h; simpa [Function.comp_def] using this
theorem Ents.isKey {κ ν : Type} {d : TypeDesc} {fk : κ → Value} {fv : ν → Value} (K : KeyF d fk) {es : List MapEntry} {xs : List (κ × ν)} (h : Ents fk fv es xs) : ∀ x ∈ es, IsKey d x.key := by
 intro x hx
 have : x.key ∈ es.map (·.key) := List.mem_map.2 ⟨x, hx, rfl⟩
 rw [h.keys] at this
 obtain ⟨p, _, hp⟩ := List.mem_map.1 this
 rw [← hp]; exact K.isKey _
theorem Ents.at {κ ν : Type} {fk : κ → Value} {fv : ν → Value} {es : List MapEntry} {xs : List (κ × ν)} (h : Ents fk fv es xs) {j : Nat} {e : MapEntry} (he : es[j]? = some e) : ∃ p, xs[j]? = some p ∧ e.key = fk p.1 ∧ e.val = fv p.2 := by
 have := congrArg (fun l => l[j]?) h
 simp only [List.getElem?_map, he, Option.map_some] at this
 cases hx : xs[j]? with
 | none => rw [hx] at this; simp at this
 | some p => rw [hx] at this; simp at this; exact ⟨p, rfl, this.1, this.2⟩
section find
variable {κ ν : Type} [DecidableEq κ] {d : TypeDesc} {fk : κ → Value} {fv : ν → Value}
theorem mGet_none {xs : List (κ × ν)} {k : κ} (h : ∀ p ∈ xs, p.1 ≠ k) : Jeq xs k = none ∧ mHas xs k = false := by
 constructor
 ·unfold Jeq
  rw [List.find?_eq_none.2 (fun p hp => by simpa using h p hp)]; rfl
 ·unfold mHas
  rw [List.any_eq_false]
  intro p hp; simpa using h p hp
theorem mGet_at : ∀ {xs : List (κ × ν)} {k : κ} {j : Nat} {v : ν}, (xs.map (·.1)).Nodup → xs[j]? = some (k, v) → Jeq xs k = some v ∧ mHas xs k = true
 | [], _, j, _, _, h => by simp at h
 | p :: xs, k, 0, v, _, h => by simp at h; subst h; simp [Jeq, mHas]
 | p :: xs, k, j + 1, v, hn, h => by
  simp only [List.getElem?_cons_succ] at h
  simp only [List.map_cons, List.nodup_cons] at hn
  have hne : p.1 ≠ k := fun q => hn.1 (q ▸ List.mem_map.2 ⟨(k, v), List.mem_of_getElem? h, rfl⟩)
  obtain ⟨h1, h2⟩ := mGet_at hn.2 h
  constructor
  ·unfold Jeq at h1 ⊢
   rw [List.find?_cons_of_neg (by simpa using hne)]; exact h1
  ·unfold mHas at h2 ⊢
   simp only [List.any_cons, h2, Bool.or_true]
omit [DecidableEq κ] in
theorem nodup_of (K : KeyF d fk) {es : List MapEntry} {xs : List (κ × ν)} (h : Ents fk fv es xs) (hn : (es.map (·.key)).Nodup) : (xs.map (·.1)).Nodup := by
 rw [h.keys] at hn
 have : xs.map (fun p => fk p.1) = (xs.map (·.1)).map fk := by simp
 rw [this] at hn
 exact (List.pairwise_map.1 hn).imp fun h q => h (congrArg fk q)
theorem find_map (K : KeyF d fk) {es : List MapEntry} {xs : List (κ × ν)} (h : Ents fk fv es xs) (hn : (es.map (·.key)).Nodup) (k : κ) :
  (Instr.findNow d (fk k) es 0 = some none ∧ (∀ x ∈ es, x.key ≠ fk k) ∧ Jeq xs k = none ∧ mHas xs k = false) ∨
  ∃ j e v, Instr.findNow d (fk k) es 0 = some (some (j, e.val)) ∧ es[j]? = some e ∧ e.key = fk k ∧ e.val = fv v ∧ xs[j]? = some (k, v) ∧ Jeq xs k = some v ∧ mHas xs k = true := by
 rcases Go.MapKept.findNow_spec (K.isKey k) es 0 (h.isKey K) with ⟨h1, h2⟩ | ⟨j, e, h1, h2, h3⟩
 ·refine .inl ⟨h1, h2, mGet_none fun p hp q => ?_⟩
  have : fk p.1 ∈ es.map (·.key) := by rw [h.keys]; exact List.mem_map.2 ⟨p, hp, rfl⟩
  obtain ⟨x, hx, hk⟩ := List.mem_map.1 this
  exact h2 x hx (by rw [hk, q])
 ·obtain ⟨p, hp, e1, e2⟩ := h.at h2
  have hk : p.1 = k := K.inj _ _ (e1.symm.trans h3)
  have hp' : xs[j]? = some (k, p.2) := by rw [hp, ← hk]
  have := mGet_at (nodup_of K h hn) hp'
  exact .inr ⟨j, e, p.2, by simpa using h1, h2, h3, e2, hp', this.1, this.2⟩
end find
theorem ents_modify {κ ν : Type} [DecidableEq κ] {fk : κ → Value} {fv : ν → Value} {es : Array MapEntry} {xs : List (κ × ν)} {j : Nat} {k : κ} {v v0 : ν} (h : Ents fk fv es.toList xs) (hn : (xs.map (·.1)).Nodup) (hj : xs[j]? = some (k, v0)) (hh : mHas xs k = true) :
  Ents fk fv (es.modify j fun e => { e with key := fk k, val := fv v }).toList (Jdf xs k v) := by
 have hm : Jdf xs k v = xs.map fun p => if p.1 = k then (k, v) else p := by unfold Jdf; rw [if_pos hh]
 rw [hm]
 unfold Ents
 apply List.ext_getElem?
 intro i
 have hi := congrArg (fun l => l[i]?) h
 simp only [List.getElem?_map, Array.getElem?_toList, Array.getElem?_modify] at hi ⊢
 by_cases hij : j = i
 ·subst hij
  rw [hj] at hi ⊢
  simp only [if_true, Option.map_some, Option.map_map]
  cases he : es[j]? with
  | none => rw [he] at hi; simp at hi
  | some e => simp
 ·rw [if_neg hij, hi]
  cases hx : xs[i]? with
  | none => rfl
  | some p =>
   have hne : p.1 ≠ k := by
    intro q
    have hil : i < xs.length := by
     rcases Nat.lt_or_ge i xs.length with h | h
     ·exact h
     ·rw [List.getElem?_eq_none h] at hx; cases hx
    have hjl : j < xs.length := by
     rcases Nat.lt_or_ge j xs.length with h | h
     ·exact h
     ·rw [List.getElem?_eq_none h] at hj; cases hj
    have H := List.pairwise_iff_getElem.1 hn
    have ej : (xs.map (·.1))[j]'(by simpa using hjl) = k := by
     have := (List.getElem?_eq_some_iff.1 hj).2; simp [this]
    have ei : (xs.map (·.1))[i]'(by simpa using hil) = k := by
     have := (List.getElem?_eq_some_iff.1 hx).2; simp [this, q]
    rcases Nat.lt_trichotomy j i with l | l | l
    ·exact H j i (by simpa using hjl) (by simpa using hil) l (ej.trans ei.symm)
    ·exact hij l
    ·exact H i j (by simpa using hil) (by simpa using hjl) l (ei.trans ej.symm)
   simp [hne]
theorem ents_push {κ ν : Type} [DecidableEq κ] {fk : κ → Value} {fv : ν → Value} {es : Array MapEntry} {xs : List (κ × ν)} {k : κ} {v : ν} {c : Nat} (h : Ents fk fv es.toList xs) (hh : mHas xs k = false) :
  Ents fk fv (es.push { key := fk k, val := fv v, born := c }).toList (Jdf xs k v) := by
 have hm : Jdf xs k v = xs ++ [(k, v)] := by unfold Jdf; rw [if_neg (by simp [hh])]
 rw [hm]
 unfold Ents at h ⊢
 simp [h]
section ops
variable {P : Program} {cx : Cx} {e : Xc} {L : List Chunk} {ty : TypeId} {pos : String} {af : Array Edge} {g : Option (Nat × Bool)}
variable {κ ν : Type} [DecidableEq κ] {fk : κ → Value} {fv : ν → Value}
omit [DecidableEq κ] in
theorem makes_map {t d : Nat} {rds : List Nat} : Jhl P cx e ⟨some d, .makeMap t none, ty, pos, af, g⟩ L rds (fun b : Nat => .map (some b)) (fun b => Wd fk fv b ([] : List (κ × ν))) := fun w L' hF hS _ => by
 unfold RunsTo
 have hr : (execOp (ev e) ⟨some d, .makeMap t none, ty, pos, af, g⟩).run P w = .ok (.value (.map (some w.heap.size))) (w.alloc (.map #[] 0)) := by
  simp [execOp, Instr.makeMap]
 rw [hr]
 have gr := Jbq w (.map #[] 0)
 exact ⟨w.heap.size, rfl, gr.os, gr.tape, gr.output, gr.size, fun b hb _ => gr.block b hb, fun x => x = w.heap.size, ⟨fun _ => Iff.rfl, #[], 0, Go.heap_alloc_new w _, Go.MapKept.stamped_empty 0, rfl⟩, fun b hb => by subst hb; exact ⟨by simp, .inr (Nat.le_refl _)⟩⟩
theorem run_lookup {d : Option Nat} {dk : TypeDesc} {t kt et : TypeId} {X I : Operand} {b i : Nat} {xs : List (κ × ν)} {k : κ} {z : ν} {w : World} (K : KeyF dk fk) (ht : P.underlying t = some (.map kt et)) (hk : P.underlying kt = some dk) (hz : ∀ w, (zeroValue et).run P w = .ok (fv z) w)
  (hx : ev e X = .map (some b)) (hi : ev e I = fk k) (hS : Sat cx w L) (hL : L[i]? = some (Wd fk fv b xs)) :
  (execOp (ev e) ⟨d, .lookup t X I false, ty, pos, af, g⟩).run P w = .ok (.value (fv ((Jeq xs k).getD z))) w := by
 obtain ⟨S, ⟨_, es, clock, hb, hst, hen⟩, _⟩ := hS.at hL
 rcases find_map K hen hst.2.2 k with ⟨h1, _, h3, _⟩ | ⟨j, e0, v, h1, _, _, h4, _, h6, _⟩
 ·simp [execOp, Instr.lookup, hx, hi, run_underlying ht, Go.MapKept.run_getObj_map hb, Go.MapKept.run_checkKey hk (K.isKey k), Go.MapKept.run_findKey hk h1, hz w, h3, Result.andThen]
 ·simp [execOp, Instr.lookup, hx, hi, run_underlying ht, Go.MapKept.run_getObj_map hb, Go.MapKept.run_checkKey hk (K.isKey k), Go.MapKept.run_findKey hk h1, h6, h4, Result.andThen]
theorem turns_mset {u : Bool} {dk : TypeDesc} {t kt et : TypeId} {M I X : Operand} {b i : Nat} {xs : List (κ × ν)} {k : κ} {v : ν} {rds : List Nat} {o : Op} (K : KeyF dk fk) (ho : o = .insert t M I X ∨ o = .mapUpdate t M I X) (ht : P.underlying t = some (.map kt et)) (hk : P.underlying kt = some dk)
  (hm : ev e M = .map (some b)) (hi : ev e I = fk k) (hx : ev e X = fv v) (hL : L[i]? = some (Wd fk fv b xs)) {dst : Option Nat} :
  Turns P cx e ⟨dst, o, ty, pos, af, g⟩ L i rds (fun _ : Unit => undef) (fun _ => Wd fk fv b (Jdf xs k v)) := fun w L' hF hS _ hi' => by
 have hL' := (hi' i (.inr rfl)).trans hL
 obtain ⟨S, ⟨_, es, clock, hb, hst, hen⟩, _⟩ := hS.at hL'
 have hlt : b < w.heap.size := (Array.getElem?_eq_some_iff.1 hb).1
 obtain ⟨es', clock', hrun, hst', hen'⟩ : ∃ es' clock', (execOp (ev e) ⟨dst, o, ty, pos, af, g⟩).run P w = .ok .skip { w with heap := w.heap.setIfInBounds b (.map es' clock') } ∧ Stamped es' clock' ∧ Ents fk fv es'.toList (Jdf xs k v) := by
  rcases find_map K hen hst.2.2 k with ⟨h1, h2, _, h4⟩ | ⟨j, e0, v0, h1, h2, h3, _, h5, _, h7⟩
  ·refine ⟨_, _, ?_, Go.MapKept.stamped_push hst h2, ents_push (v := v) hen h4⟩
   rcases ho with rfl | rfl <;> simp [execOp, Instr.mapUpdate, hm, hi, hx, run_underlying ht, Go.MapKept.run_getObj_map hb, Go.MapKept.run_checkKey hk (K.isKey k), Go.MapKept.run_findKey hk h1, Go.MapKept.run_setObj_map _ hb, Result.andThen]
  ·have h2' : es[j]? = some e0 := by simpa using h2
   refine ⟨es.modify j fun e => { e with key := fk k, val := fv v }, clock, ?_, Go.MapKept.stamped_modify hst j _ (fun _ _ => rfl) (fun x _ hx => by rw [h2'] at hx; cases hx; exact h3.symm), ents_modify (v := v) hen (nodup_of K hen hst.2.2) h5 h7⟩
   rcases ho with rfl | rfl <;> simp [execOp, Instr.mapUpdate, hm, hi, hx, run_underlying ht, Go.MapKept.run_getObj_map hb, Go.MapKept.run_checkKey hk (K.isKey k), Go.MapKept.run_findKey hk h1, h2', h3, Go.MapKept.run_keyThatStays (K.isKey k), Go.MapKept.run_setObj_map _ hb, Result.andThen]
 unfold RunsTo
 rw [hrun]
 have hS' := hS.turnOf (w' := { w with heap := w.heap.setIfInBounds b (.map es' clock') }) hF hL' (C := Wd fk fv b (Jdf xs k v)) fun S1 hp1 =>
  ⟨rfl, rfl, rfl, by simp, fun x _ hx => by rw [Array.getElem?_setIfInBounds_ne (fun h => hx ((hp1.1 x).2 h.symm))], S1, ⟨hp1.1, es', clock', by simp [hlt], hst', hen'⟩, fun x hx => ⟨by rw [(hp1.1 x).1 hx]; simpa using hlt, .inl hx⟩⟩
 exact ⟨(), rfl, hS'.1, hS'.2⟩
end ops
section rules
variable {P : Program} {n : Nat} {cx : Cx} {Q : Jae} {e : Xc} {L : List Chunk} {ops : Array Oper} {rest_ : List Oper} {ty : TypeId} {pos : String} {af : Array Edge} {g : Option (Nat × Bool)} {κ ν : Type} {fk : κ → Value} {fv : ν → Value}
end rules
end Go.Lx

namespace Go.Vc
open Go Go.Md Go.Shelf Go.Sort Go.Proofs
end Go.Vc
namespace Go.Lx
open Go Go.Vc
section ops
variable {P : Program} {e : Xc} {d : Option Nat} {ty : TypeId} {pos : String} {af : Array Edge} {g : Option (Nat × Bool)}
theorem r_eqlErr {X : Operand} {t : TypeId} (hx : ev e X = .nilIface) (ht : ∀ w, (Op.equalIn Op.maxDepth t .nilIface .nilIface).run P w = .ok true w) {t' : TypeId} (w : World) :
  (execOp (ev e) ⟨d, .binOp .eql t X (.const .nilIface) t', ty, pos, af, g⟩).run P w = .ok (.value (.bool true)) w := by
 have hy : ev e (.const .nilIface) = .nilIface := rfl
 simp [execOp, hx, hy, eqGuard, binOp, Op.equal, ht]
end ops
end Go.Lx

namespace Go.Lx
open Go Go.Vc Go.Md
open Go.MapKept (IsKey Stamped)
structure FrM {κ ν : Type} (h : Js) (fk : κ → Value) (fv : ν → Value) (v : Value) (xs : List (κ × ν)) : Prop where
 out : ∃ b es clock, v = .map (some b) ∧ h b = some (.map es clock) ∧ Stamped es clock ∧ Ents fk fv es.toList xs
section
variable {κ ν : Type} {fk : κ → Value} {fv : ν → Value} {h h' : Js} {v : Value} {xs : List (κ × ν)}
theorem FrM.mono (f : FrM h fk fv v xs) (k : ∀ b o, h b = some o → h' b = some o) : FrM h' fk fv v xs := by
 obtain ⟨b, es, c, h1, h2, h3, h4⟩ := f.out
 exact ⟨b, es, c, h1, k _ _ h2, h3, h4⟩
theorem FrM.cells (f : FrM h fk fv v xs) : v.cells.toList = [v] := by
 obtain ⟨b, es, c, rfl, _⟩ := f.out; rfl
theorem FrM.one (f : FrM h fk fv v xs) : v.oneCell' = true := by
 obtain ⟨b, es, c, rfl, _⟩ := f.out; rfl
end
section
variable {P : Program} {cx : Cx} {e : Xc} {L : List Chunk} {ty : TypeId} {pos : String} {af : Array Edge} {g : Option (Nat × Bool)}
variable {κ ν : Type} {fk : κ → Value} {fv : ν → Value}
theorem Uv {w : World} {i b : Nat} {xs : List (κ × ν)} (hS : Sat cx w L) (hL : L[i]? = some (Wd fk fv b xs)) : FrM (fun b => w.heap[b]?) fk fv (.map (some b)) xs := by
 obtain ⟨S, ⟨_, es, c, hb, hst, hen⟩, _⟩ := hS.at hL
 exact ⟨b, es, c, rfl, hb, hst, hen⟩
end
end Go.Lx
namespace Go.Vc
open Go Go.Md Go.Shelf Go.Sort Go.Proofs
end Go.Vc

namespace Go.Lx
open Go Go.Vc Go.Md
open Go.MapKept (IsKey Stamped)
structure KeyG {κ : Type} [DecidableEq κ] (P : Program) (kt : TypeId) (fk : κ → Value) : Prop where
 inj : ∀ a b, fk a = fk b → a = b
 chk : ∀ k em w, (Instr.checkKey em 10000 kt (fk k)).run P w = .ok () w
 now : ∃ d, P.underlying kt = some d ∧ ∀ a b, Instr.sameNow d (fk a) (fk b) = none
 eql : ∀ a b w, (Op.equal kt (fk a) (fk b)).run P w = .ok (decide (a = b)) w
 bits : ∀ k, Instr.sameBits 10000 (fk k) (fk k) = true
section find
variable {κ ν : Type} [DecidableEq κ] {P : Program} {kt : TypeId} {fk : κ → Value} {fv : ν → Value}
end find
section rules
variable {P : Program} {cx : Cx} {e : Xc} {L : List Chunk} {ty : TypeId} {pos : String} {af : Array Edge} {g : Option (Nat × Bool)}
variable {κ ν : Type} [DecidableEq κ] {fk : κ → Value} {fv : ν → Value}
end rules
end Go.Lx

namespace Go.Lx
open Go Go.Vc Go.Md
def exC {σ : Type} (C : σ → Chunk) : Chunk where
 P S w := ∃ x, (C x).P S w
 loc S w w' h := fun ⟨x, hx⟩ => ⟨x, (C x).loc S w w' h hx⟩
section
variable {P : Program} {cx : Cx} {e : Xc} {L : List Chunk} {ops : Array Oper} {F : Xc → List Chunk → Prop} {rest : List Oper} {ss : List Kd}
theorem sat_ex {σ : Type} {w : World} {i : Nat} {C : σ → Chunk} (hL : L[i]? = some (exC C)) (hS : Sat cx w L) : ∃ x, Sat cx w (L.set i (C x)) := by
 obtain ⟨fp, h1, h2, h3⟩ := hS.out
 obtain ⟨x, hx⟩ := h1 i _ hL
 have hil : i < L.length := by
  rcases Nat.lt_or_ge i L.length with h | h
  ·exact h
  ·simp [List.getElem?_eq_none h] at hL
 refine ⟨x, fp, fun j c hc => ?_, fun j b hb => ?_, h3⟩
 ·by_cases hji : j = i
  ·subst hji
   rw [List.getElem?_set_self hil] at hc
   cases hc; exact hx
  ·rw [List.getElem?_set_ne (fun h => hji h.symm)] at hc
   exact h1 j c hc
 ·have := h2 j b hb
  exact ⟨by simpa using this.1, this.2⟩
theorem c_ex {σ : Type} {K : Xc → World → Prop} (i : Nat) {C : σ → Chunk} (hL : L[i]? = some (exC C)) (k : ∀ x, At cx K e (L.set i (C x))) : At cx K e L :=
 ⟨fun w hF hS => by
  obtain ⟨x, hx⟩ := sat_ex hL hS
  exact (k x).out w hF hx⟩
def _root_.Go.Vc.Kd.t2 (i j : Nat) (rds : List Nat) (v0 : Value) (C : Chunk) : Kd := .g [] rds [i, j] (fun _ _ v => v = v0) (fun _ _ _ => [C, empC])
end
end Go.Lx

namespace Go.Lx
open Go Go.Vc Go.Md
section rules
variable {P : Program} {n : Nat} {cx : Cx} {e : Xc} {L : List Chunk} {ops : Array Oper} {rest : List Oper} {ty : TypeId} {pos : String} {af : Array Edge} {g : Option (Nat × Bool)}
end rules
end Go.Lx

namespace Go.Lx
open Go Go.Vc Go.Md Go.Shelf Go.Sort Go.Proofs
section ops
variable {P : Program} {e : Xc} {d : Option Nat} {ty : TypeId} {pos : String} {af : Array Edge} {g : Option (Nat × Bool)}
end ops
end Go.Lx

namespace Go.Proofs
open Go Go.Md Go.Vc Go.Lx
theorem Tryz.cmpOrP (blk : Nat) (v0 v1 r : Int) (hr0 : v0 ≠ 0 → r = v0) (hr1 : v0 = 0 → r = v1) (w : World) (g0 : w.cell? ⟨blk, 0, none⟩ = some (.int .i64 v0)) (g1 : w.cell? ⟨blk, 1, none⟩ = some (.int .i64 v1)) :
  Calls Tryz.prog 108 #[.slice (some ⟨blk, 0, none⟩) 2 2] w fun e w' => e = .returned (.int .i64 r) ∧ w' = w := by
 go_enter Tryz.func108, Tryz.ntmps108
 go_wp2
 go_loop [8] (fun i => (i = .int .i64 0) ∨ (i = .int .i64 1 ∧ v0 = 0) ∨ (i = .int .i64 2 ∧ v0 = 0 ∧ v1 = 0)) (fun i => match i with | .int _ q => 2 - q.toNat | _ => 0)
 case atStart => exact .inl rfl
 case round =>
  rcases hrel with rfl | ⟨rfl, z0⟩ | ⟨rfl, z0, z1⟩
  ·go_wp2
   all_goals first
    | (go_ret; exact ⟨by first | rfl | (rw [hr0  (by simp_all)]; rfl), rfl⟩)
    | (simp; rename_i hz; exact by simpa using hz)
  ·go_wp2
   all_goals first
    | (go_ret; exact ⟨by first | rfl | (rw [hr1 z0]; rfl), rfl⟩)
    | (simp; rename_i hz; exact ⟨z0, by simpa using hz⟩)
  ·go_wp2
   go_ret
   exact ⟨by first | rfl | (rw [hr1 z0, z1]; rfl) | simp_all, rfl⟩
open Go.Sort
set_option maxRecDepth 100000 in
set_option maxHeartbeats 4000000 in
theorem Tryz.closureP (a0 a1 b0 b1 r : Int) (W : World) (hcmp : ∀ (x y : Int) (W' : World), Calls Tryz.prog 109 #[.int .i64 x, .int .i64 y] W' fun e w' => e = .returned (.int .i64 (Lib.compareInt x y)) ∧ w' = W')
  (hr0 : (Lib.compareInt a0 b0) ≠ 0 → r = (Lib.compareInt a0 b0)) (hr1 : (Lib.compareInt a0 b0) = 0 → r = (Lib.compareInt a1 b1)) :
  Calls Tryz.prog 61 #[.agg #[.int .i64 a0, .int .i64 a1], .agg #[.int .i64 b0, .int .i64 b1]] W fun e w' => e = .returned (.int .i64 r) ∧ ∃ q os', w' = Go.Sort.grow (W.drewN q) os' := by
 have h0 := fun W' => hcmp a0 b0 W'
 have h1 := fun W' => hcmp a1 b1 W'
 have hor := fun (blk : Nat) (w : World) g0 g1 => Tryz.cmpOrP blk (Lib.compareInt a0 b0) (Lib.compareInt a1 b1) r hr0 hr1 w g0 g1
 clear hr0 hr1 hcmp
 generalize Lib.compareInt a0 b0 = p0 at *
 generalize Lib.compareInt a1 b1 = p1 at *
 go_enter Tryz.func61, Tryz.ntmps61
 go_wp2
 refine wp_region_still_tail 10 (by kernel_rfl) (by kernel_rfl) ?_
 simp only [List.take_succ_cons, List.take_zero, List.drop_succ_cons, List.drop_zero]
 generalize hw1 : ({ heap := _, tape := _, drawn := _, os := _, output := _ } : World) = w1
 have eh : w1.heap = (W.heap.push (.cells #[.int .i64 a0, .int .i64 a1] 118 (0, 0))).push (.cells #[.int .i64 b0, .int .i64 b1] 118 (0, 0)) := by subst hw1; rfl
 have c0 : w1.cell? ⟨W.heap.size, 0, none⟩ = some (.int .i64 a0) := by simp [World.cell?, eh, Array.getElem?_push, Array.getElem_push]
 have c1 : w1.cell? ⟨W.heap.size, 1, none⟩ = some (.int .i64 a1) := by simp [World.cell?, eh, Array.getElem?_push, Array.getElem_push]
 have c2 : w1.cell? ⟨W.heap.size + 1, 0, none⟩ = some (.int .i64 b0) := by simp [World.cell?, eh, Array.getElem?_push, Array.getElem_push]
 have c3 : w1.cell? ⟨W.heap.size + 1, 1, none⟩ = some (.int .i64 b1) := by simp [World.cell?, eh, Array.getElem?_push, Array.getElem_push]
 have hg : ∃ q os', w1 = Go.Sort.grow (W.drewN q) os' := ⟨1, #[.cells #[.int .i64 a0, .int .i64 a1] 118 (0, 0), .cells #[.int .i64 b0, .int .i64 b1] 118 (0, 0)], by
  subst hw1
  unfold Go.Sort.grow World.drewN
  congr 1⟩
 clear eh
 clear hw1
 repeat still_step
 still_call (h0 w1)
 repeat still_step
 still_call (h1 w1)
 repeat still_step
 refine wpStill_nil ?_
 clear c0 c1 c2 c3 h0 h1
 have e0 : (w1.alloc (.cells #[.int .i64 p0, .int .i64 p1] 3)).cell? ⟨w1.heap.size, 0, none⟩ = some (.int .i64 p0) := by
  show (match (w1.heap.push (.cells #[.int .i64 p0, .int .i64 p1] 3 (0, 0)))[w1.heap.size]? with | some (.cells c _ _) => c[0]? | _ => none) = _
  simp
 have e1 : (w1.alloc (.cells #[.int .i64 p0, .int .i64 p1] 3)).cell? ⟨w1.heap.size, 1, none⟩ = some (.int .i64 p1) := by
  show (match (w1.heap.push (.cells #[.int .i64 p0, .int .i64 p1] 3 (0, 0)))[w1.heap.size]? with | some (.cells c _ _) => c[1]? | _ => none) = _
  simp
 have hor2 := hor _ _ e0 e1
 clear hor e0 e1
 go_wp2_with (go_at_call 108; refine hor2.mono ?_; rintro e w' ⟨rfl, rfl⟩)
 go_ret
 obtain ⟨q0, os0, rfl⟩ := hg
 exact ⟨rfl, q0, os0 ++ #[.cells #[.int .i64 p0, .int .i64 p1] 3 (0, 0)], by rw [Go.Sort.alloc_eq_grow, Go.Sort.grow_grow]⟩
end Go.Proofs

namespace Go.Proofs
open Go Go.Md Go.M Go.Vc Go.Lx
theorem Tryz.compare_model (a b : Int) : cmp_Compare_int a b = some (Lib.compareInt a b) := by
 unfold cmp_Compare_int Jc3 Lib.compareInt
 simp only [Jb, ne_eq, not_true_eq_false, decide_false, Qf]
 by_cases h1 : a < b
 ·simp [h1]
 ·by_cases h2 : b < a <;> simp [h1, h2]
theorem Tryz.or_model2 (p0 p1 : Int) : Jd2 [p0, p1] = some (if p0 ≠ 0 then p0 else p1) := by
 unfold Jd2
 by_cases h0 : p0 = 0
 ·subst h0
  rw [Xi (b := (1 : Int)) (fun next => by simp [Y0, Vh, gI])]
  by_cases h1 : p1 = 0
  ·subst h1
   rw [Xi (b := (2 : Int)) (fun next => by simp [Y0, Vh, gI])]
   rw [Qs (o := some 0) (fun next => by simp [Y0])]
   simp
  ·rw [Qs (o := some p1) (fun next => by simp [Y0, Vh, h1])]
   simp [h1]
 ·rw [Qs (o := some p0) (fun next => by simp [Y0, Vh, h0])]
  simp [h0]
theorem Tryz.spans_model (x y : Te) : Qu x y = some (if Lib.compareInt x.From y.From ≠ 0 then Lib.compareInt x.From y.From else Lib.compareInt x.To y.To) := by
 unfold Qu
 rw [Tryz.compare_model, Jb, Tryz.compare_model, Jb, Tryz.or_model2, Jb]
theorem Tryz.cmpP (x y : Te) (v : Int) (W : World) (hv : Qu x y = some v) :
  Calls Tryz.prog 61 #[.agg #[.int .i64 x.From, .int .i64 x.To], .agg #[.int .i64 y.From, .int .i64 y.To]] W fun e w' => e = .returned (.int .i64 v) ∧ ∃ q os', w' = Go.Sort.grow (W.drewN q) os' := by
 rw [Tryz.spans_model] at hv
 cases hv
 refine Tryz.closureP x.From x.To y.From y.To _   W (fun a b W' => ?_) (fun  g0 => by rw [if_pos g0]) (fun g0 => by rw [if_neg (by simpa using g0)])
 exact AnyG.cmp_Compare_int Tryz.cmpI109 a b W'
theorem Tryz.entersP (args : Array Value) (w : World) : (callFunc 61 args).run Tryz.prog w = .ok (.enter 61 args) w := enters_of Tryz.func61 (by kernel_rfl) rfl args w
end Go.Proofs

namespace Go.Proofs
open Go.Shelf
def Tryz.lays156_ren : Go.Shelf.Ren := ⟨fun | 156 => 82 | 165 => 78 | 166 => 20 | 169 => 23 | 240 => 43 | 241 => 123 | 276 => 83 | 277 => 163 | n => n, fun | 31 => 31 | 9 => 9 | 3 => 3 | 4 => 4 | 0 => 0 | 20 => 20 | 72 => 47 | 76 => 50 | 70 => 44 | 37 => 45 | 75 => 49 | 127 => 94 | 164 => 145 | 5 => 5 | 80 => 54 | n => n, fun | n => n⟩
theorem Tryz.lays156 : Go.Proofs.Lays.n156 Tryz.prog Tryz.lays156_ren := {
 mixed := by kernel_rfl
 f156 := Tryz.func82.trans (congrArg some (by kernel_rfl))
 f165 := Tryz.func78.trans (congrArg some (by kernel_rfl))
 f166 := Tryz.func20.trans (congrArg some (by kernel_rfl))
 f169 := Tryz.func23.trans (congrArg some (by kernel_rfl))
 f240 := Tryz.func43.trans (congrArg some (by kernel_rfl))
 f241 := Tryz.func123.trans (congrArg some (by kernel_rfl))
 f276 := Tryz.func83.trans (congrArg some (by kernel_rfl))
 f277 := Tryz.func163.trans (congrArg some (by kernel_rfl))
 t0 := Tryz.underlying0
 a0 := Tryz.isAgg0
 z0 := Tryz.sizeOf0
 v0 := Tryz.zeroValue0
 t3 := Tryz.underlying3
 a3 := Tryz.isAgg3
 z3 := Tryz.sizeOf3
 v3 := Tryz.zeroValue3
 t4 := Tryz.underlying4
 a4 := Tryz.isAgg4
 z4 := Tryz.sizeOf4
 v4 := Tryz.zeroValue4
 t9 := Tryz.underlying9
 a9 := Tryz.isAgg9
 z9 := Tryz.sizeOf9
 v9 := Tryz.zeroValue9
 t20 := Tryz.underlying20
 a20 := Tryz.isAgg20
 z20 := Tryz.sizeOf20
 v20 := Tryz.zeroValue20
 t31 := Tryz.underlying31
 a31 := Tryz.isAgg31
 z31 := Tryz.sizeOf31
 v31 := Tryz.zeroValue31
 t37 := Tryz.underlying45
 a37 := Tryz.isAgg45
 z37 := Tryz.sizeOf45
 v37 := Tryz.zeroValue45
 t70 := Tryz.underlying44
 a70 := Tryz.isAgg44
 z70 := Tryz.sizeOf44
 v70 := Tryz.zeroValue44
 t72 := Tryz.underlying47
 a72 := Tryz.isAgg47
 z72 := Tryz.sizeOf47
 v72 := Tryz.zeroValue47
 t75 := Tryz.underlying49
 a75 := Tryz.isAgg49
 z75 := Tryz.sizeOf49
 v75 := Tryz.zeroValue49
 t76 := Tryz.underlying50
 a76 := Tryz.isAgg50
 z76 := Tryz.sizeOf50
 v76 := Tryz.zeroValue50
 t127 := Tryz.underlying94
 a127 := Tryz.isAgg94
 z127 := Tryz.sizeOf94
 v127 := Tryz.zeroValue94
 t164 := Tryz.underlying145
 a164 := Tryz.isAgg145
 z164 := Tryz.sizeOf145
 v164 := Tryz.zeroValue145 }
theorem Tryz.Builder_Extra_156 : Builder.Extra Tryz.prog Tryz.lays156_ren := {
 sizeBuilder := by kernel_rfl
 liesBuilder := by kernel_rfl
 t5 := Tryz.underlying5
 a5 := Tryz.isAgg5
 z5 := Tryz.sizeOf5
 v5 := Tryz.zeroValue5
 infoByte := by kernel_rfl
 cellsByte := by kernel_rfl
 sizeByte := by kernel_rfl
 neB5 := by decide }
def Tryz.lays172_ren : Go.Shelf.Ren := ⟨fun | 172 => 90 | 244 => 137 | 245 => 138 | 247 => 172 | 279 => 173 | 280 => 174 | 281 => 175 | 282 => 176 | 287 => 190 | 316 => 191 | 171 => 41 | 205 => 192 | 321 => 197 | 322 => 198 | 243 => 79 | 246 => 124 | 283 => 164 | 284 => 165 | 285 => 166 | 286 => 167 | 129 => 160 | 317 => 184 | 318 => 185 | 319 => 186 | 320 => 187 | 337 => 194 | 338 => 195 | n => n, fun | 9 => 9 | 3 => 3 | 75 => 49 | 76 => 50 | 4 => 4 | 5 => 5 | 167 => 209 | 37 => 45 | 0 => 0 | 85 => 210 | 2 => 2 | 168 => 212 | 53 => 170 | 175 => 225 | 46 => 136 | 210 => 228 | 127 => 94 | 145 => 240 | 143 => 238 | 21 => 21 | 171 => 202 | 173 => 204 | 212 => 222 | 51 => 167 | 20 => 20 | 213 => 223 | 232 => 241 | 233 => 242 | 80 => 54 | n => n, fun | 15 => 2 | 16 => 3 | 17 => 1 | 18 => 6 | 19 => 7 | n => n⟩
theorem Tryz.lays172 : Go.Proofs.Lays.n172 Tryz.prog Tryz.lays172_ren := {
 mixed := by kernel_rfl
 f129 := Tryz.func160.trans (congrArg some (by kernel_rfl))
 f171 := Tryz.func41.trans (congrArg some (by kernel_rfl))
 f172 := Tryz.func90.trans (congrArg some (by kernel_rfl))
 f205 := Tryz.func192.trans (congrArg some (by kernel_rfl))
 f243 := Tryz.func79.trans (congrArg some (by kernel_rfl))
 f244 := Tryz.func137.trans (congrArg some (by kernel_rfl))
 f245 := Tryz.func138.trans (congrArg some (by kernel_rfl))
 f246 := Tryz.func124.trans (congrArg some (by kernel_rfl))
 f247 := Tryz.func172.trans (congrArg some (by kernel_rfl))
 f279 := Tryz.func173.trans (congrArg some (by kernel_rfl))
 f280 := Tryz.func174.trans (congrArg some (by kernel_rfl))
 f281 := Tryz.func175.trans (congrArg some (by kernel_rfl))
 f282 := Tryz.func176.trans (congrArg some (by kernel_rfl))
 f283 := Tryz.func164.trans (congrArg some (by kernel_rfl))
 f284 := Tryz.func165.trans (congrArg some (by kernel_rfl))
 f285 := Tryz.func166.trans (congrArg some (by kernel_rfl))
 f286 := Tryz.func167.trans (congrArg some (by kernel_rfl))
 f287 := Tryz.func190.trans (congrArg some (by kernel_rfl))
 f316 := Tryz.func191.trans (congrArg some (by kernel_rfl))
 f317 := Tryz.func184.trans (congrArg some (by kernel_rfl))
 f318 := Tryz.func185.trans (congrArg some (by kernel_rfl))
 f319 := Tryz.func186.trans (congrArg some (by kernel_rfl))
 f320 := Tryz.func187.trans (congrArg some (by kernel_rfl))
 f321 := Tryz.func197.trans (congrArg some (by kernel_rfl))
 f322 := Tryz.func198.trans (congrArg some (by kernel_rfl))
 f337 := Tryz.func194.trans (congrArg some (by kernel_rfl))
 f338 := Tryz.func195.trans (congrArg some (by kernel_rfl))
 t0 := Tryz.underlying0
 a0 := Tryz.isAgg0
 z0 := Tryz.sizeOf0
 v0 := Tryz.zeroValue0
 t2 := Tryz.underlying2
 a2 := Tryz.isAgg2
 z2 := Tryz.sizeOf2
 v2 := Tryz.zeroValue2
 t3 := Tryz.underlying3
 a3 := Tryz.isAgg3
 z3 := Tryz.sizeOf3
 v3 := Tryz.zeroValue3
 t4 := Tryz.underlying4
 a4 := Tryz.isAgg4
 z4 := Tryz.sizeOf4
 v4 := Tryz.zeroValue4
 t5 := Tryz.underlying5
 a5 := Tryz.isAgg5
 z5 := Tryz.sizeOf5
 v5 := Tryz.zeroValue5
 t9 := Tryz.underlying9
 a9 := Tryz.isAgg9
 z9 := Tryz.sizeOf9
 v9 := Tryz.zeroValue9
 t20 := Tryz.underlying20
 a20 := Tryz.isAgg20
 z20 := Tryz.sizeOf20
 v20 := Tryz.zeroValue20
 t21 := Tryz.underlying21
 a21 := Tryz.isAgg21
 z21 := Tryz.sizeOf21
 v21 := Tryz.zeroValue21
 t37 := Tryz.underlying45
 a37 := Tryz.isAgg45
 z37 := Tryz.sizeOf45
 v37 := Tryz.zeroValue45
 t46 := Tryz.underlying136
 a46 := Tryz.isAgg136
 z46 := Tryz.sizeOf136
 v46 := Tryz.zeroValue136
 t51 := Tryz.underlying167
 a51 := Tryz.isAgg167
 z51 := Tryz.sizeOf167
 v51 := Tryz.zeroValue167
 t53 := Tryz.underlying170
 a53 := Tryz.isAgg170
 z53 := Tryz.sizeOf170
 v53 := Tryz.zeroValue170
 t75 := Tryz.underlying49
 a75 := Tryz.isAgg49
 z75 := Tryz.sizeOf49
 v75 := Tryz.zeroValue49
 t76 := Tryz.underlying50
 a76 := Tryz.isAgg50
 z76 := Tryz.sizeOf50
 v76 := Tryz.zeroValue50
 t85 := Tryz.underlying210
 a85 := Tryz.isAgg210
 z85 := Tryz.sizeOf210
 v85 := Tryz.zeroValue210
 t127 := Tryz.underlying94
 a127 := Tryz.isAgg94
 z127 := Tryz.sizeOf94
 v127 := Tryz.zeroValue94
 t143 := Tryz.underlying238
 a143 := Tryz.isAgg238
 z143 := Tryz.sizeOf238
 v143 := Tryz.zeroValue238
 t145 := Tryz.underlying240
 a145 := Tryz.isAgg240
 z145 := Tryz.sizeOf240
 v145 := Tryz.zeroValue240
 t167 := Tryz.underlying209
 a167 := Tryz.isAgg209
 z167 := Tryz.sizeOf209
 v167 := Tryz.zeroValue209
 t168 := Tryz.underlying212
 a168 := Tryz.isAgg212
 z168 := Tryz.sizeOf212
 v168 := Tryz.zeroValue212
 t171 := Tryz.underlying202
 a171 := Tryz.isAgg202
 z171 := Tryz.sizeOf202
 v171 := Tryz.zeroValue202
 t173 := Tryz.underlying204
 a173 := Tryz.isAgg204
 z173 := Tryz.sizeOf204
 v173 := Tryz.zeroValue204
 t175 := Tryz.underlying225
 a175 := Tryz.isAgg225
 z175 := Tryz.sizeOf225
 v175 := Tryz.zeroValue225
 t210 := Tryz.underlying228
 a210 := Tryz.isAgg228
 z210 := Tryz.sizeOf228
 v210 := Tryz.zeroValue228
 t212 := Tryz.underlying222
 a212 := Tryz.isAgg222
 z212 := Tryz.sizeOf222
 v212 := Tryz.zeroValue222
 t213 := Tryz.underlying223
 a213 := Tryz.isAgg223
 z213 := Tryz.sizeOf223
 t232 := Tryz.underlying241
 a232 := Tryz.isAgg241
 z232 := Tryz.sizeOf241
 v232 := Tryz.zeroValue241
 t233 := Tryz.underlying242
 a233 := Tryz.isAgg242
 z233 := Tryz.sizeOf242
 v233 := Tryz.zeroValue242
 g15 := by kernel_rfl
 g16 := by kernel_rfl
 g17 := by kernel_rfl
 g18 := by kernel_rfl
 g19 := by kernel_rfl }
def Tryz.laysM171_ren : Go.Shelf.Ren := ⟨fun | 171 => 41 | 243 => 79 | 246 => 124 | 283 => 164 | 284 => 165 | 285 => 166 | 286 => 167 | 129 => 160 | 317 => 184 | 318 => 185 | 319 => 186 | 320 => 187 | 337 => 194 | 338 => 195 | n => n, fun | 3 => 3 | 9 => 9 | 2 => 2 | 4 => 4 | 171 => 202 | 0 => 0 | 53 => 170 | 37 => 45 | 5 => 5 | 173 => 204 | 212 => 222 | 51 => 167 | 20 => 20 | 213 => 223 | 46 => 136 | 232 => 241 | 233 => 242 | n => n, fun | 17 => 1 | 18 => 6 | 19 => 7 | n => n⟩
theorem Tryz.laysM171 : Go.Proofs.LaysM.n171 Tryz.prog Tryz.laysM171_ren := {
 mixed := by kernel_rfl
 f129 := Tryz.func160.trans (congrArg some (by kernel_rfl))
 f171 := Tryz.func41.trans (congrArg some (by kernel_rfl))
 f243 := Tryz.func79.trans (congrArg some (by kernel_rfl))
 f246 := Tryz.func124.trans (congrArg some (by kernel_rfl))
 f283 := Tryz.func164.trans (congrArg some (by kernel_rfl))
 f284 := Tryz.func165.trans (congrArg some (by kernel_rfl))
 f285 := Tryz.func166.trans (congrArg some (by kernel_rfl))
 f286 := Tryz.func167.trans (congrArg some (by kernel_rfl))
 f317 := Tryz.func184.trans (congrArg some (by kernel_rfl))
 f318 := Tryz.func185.trans (congrArg some (by kernel_rfl))
 f319 := Tryz.func186.trans (congrArg some (by kernel_rfl))
 f320 := Tryz.func187.trans (congrArg some (by kernel_rfl))
 f337 := Tryz.func194.trans (congrArg some (by kernel_rfl))
 f338 := Tryz.func195.trans (congrArg some (by kernel_rfl))
 t0 := Tryz.underlying0
 a0 := Tryz.isAgg0
 z0 := Tryz.sizeOf0
 v0 := Tryz.zeroValue0
 t2 := Tryz.underlying2
 a2 := Tryz.isAgg2
 z2 := Tryz.sizeOf2
 v2 := Tryz.zeroValue2
 t3 := Tryz.underlying3
 a3 := Tryz.isAgg3
 z3 := Tryz.sizeOf3
 v3 := Tryz.zeroValue3
 t4 := Tryz.underlying4
 a4 := Tryz.isAgg4
 z4 := Tryz.sizeOf4
 v4 := Tryz.zeroValue4
 t5 := Tryz.underlying5
 a5 := Tryz.isAgg5
 z5 := Tryz.sizeOf5
 v5 := Tryz.zeroValue5
 t9 := Tryz.underlying9
 a9 := Tryz.isAgg9
 z9 := Tryz.sizeOf9
 v9 := Tryz.zeroValue9
 t20 := Tryz.underlying20
 a20 := Tryz.isAgg20
 z20 := Tryz.sizeOf20
 v20 := Tryz.zeroValue20
 t37 := Tryz.underlying45
 a37 := Tryz.isAgg45
 z37 := Tryz.sizeOf45
 v37 := Tryz.zeroValue45
 t46 := Tryz.underlying136
 a46 := Tryz.isAgg136
 z46 := Tryz.sizeOf136
 v46 := Tryz.zeroValue136
 t51 := Tryz.underlying167
 a51 := Tryz.isAgg167
 z51 := Tryz.sizeOf167
 v51 := Tryz.zeroValue167
 t53 := Tryz.underlying170
 a53 := Tryz.isAgg170
 z53 := Tryz.sizeOf170
 v53 := Tryz.zeroValue170
 t171 := Tryz.underlying202
 a171 := Tryz.isAgg202
 z171 := Tryz.sizeOf202
 v171 := Tryz.zeroValue202
 t173 := Tryz.underlying204
 a173 := Tryz.isAgg204
 z173 := Tryz.sizeOf204
 v173 := Tryz.zeroValue204
 t212 := Tryz.underlying222
 a212 := Tryz.isAgg222
 z212 := Tryz.sizeOf222
 v212 := Tryz.zeroValue222
 t213 := Tryz.underlying223
 a213 := Tryz.isAgg223
 z213 := Tryz.sizeOf223
 t232 := Tryz.underlying241
 a232 := Tryz.isAgg241
 z232 := Tryz.sizeOf241
 v232 := Tryz.zeroValue241
 t233 := Tryz.underlying242
 a233 := Tryz.isAgg242
 z233 := Tryz.sizeOf242
 v233 := Tryz.zeroValue242
 g17 := by kernel_rfl
 g18 := by kernel_rfl
 g19 := by kernel_rfl
 i0 := by kernel_rfl
 i2 := by kernel_rfl
 i3 := by kernel_rfl
 i4 := by kernel_rfl
 i5 := by kernel_rfl
 i9 := by kernel_rfl
 i20 := by kernel_rfl
 i37 := by kernel_rfl
 i46 := by kernel_rfl
 i51 := by kernel_rfl
 i53 := by kernel_rfl
 i171 := by kernel_rfl
 i173 := by kernel_rfl
 i212 := by kernel_rfl
 i232 := by kernel_rfl
 i233 := by kernel_rfl
 m17 := by kernel_rfl
 m18 := by kernel_rfl
 m19 := by kernel_rfl }
def Tryz.lays105_ren : Go.Shelf.Ren := ⟨fun | 105 => 40 | 212 => 76 | 99 => 77 | 165 => 78 | 166 => 20 | 170 => 22 | 169 => 23 | 263 => 120 | 264 => 121 | 206 => 122 | 240 => 43 | 241 => 123 | 276 => 83 | 277 => 163 | n => n, fun | 9 => 9 | 3 => 3 | 4 => 4 | 20 => 20 | 0 => 0 | 46 => 136 | 109 => 137 | 5 => 5 | 72 => 47 | 76 => 50 | 51 => 167 | 146 => 168 | 53 => 170 | 148 => 171 | 70 => 44 | 37 => 45 | 75 => 49 | 127 => 94 | 164 => 145 | 80 => 54 | n => n, fun | n => n⟩
theorem Tryz.lays105 : Go.Proofs.Lays.n105 Tryz.prog Tryz.lays105_ren := {
 mixed := by kernel_rfl
 f99 := Tryz.func77.trans (congrArg some (by kernel_rfl))
 f105 := Tryz.func40.trans (congrArg some (by kernel_rfl))
 f165 := Tryz.func78.trans (congrArg some (by kernel_rfl))
 f166 := Tryz.func20.trans (congrArg some (by kernel_rfl))
 f169 := Tryz.func23.trans (congrArg some (by kernel_rfl))
 f170 := Tryz.func22.trans (congrArg some (by kernel_rfl))
 f206 := Tryz.func122.trans (congrArg some (by kernel_rfl))
 f212 := Tryz.func76.trans (congrArg some (by kernel_rfl))
 f240 := Tryz.func43.trans (congrArg some (by kernel_rfl))
 f241 := Tryz.func123.trans (congrArg some (by kernel_rfl))
 f263 := Tryz.func120.trans (congrArg some (by kernel_rfl))
 f264 := Tryz.func121.trans (congrArg some (by kernel_rfl))
 f276 := Tryz.func83.trans (congrArg some (by kernel_rfl))
 f277 := Tryz.func163.trans (congrArg some (by kernel_rfl))
 t0 := Tryz.underlying0
 a0 := Tryz.isAgg0
 z0 := Tryz.sizeOf0
 v0 := Tryz.zeroValue0
 t3 := Tryz.underlying3
 a3 := Tryz.isAgg3
 z3 := Tryz.sizeOf3
 v3 := Tryz.zeroValue3
 t4 := Tryz.underlying4
 a4 := Tryz.isAgg4
 z4 := Tryz.sizeOf4
 v4 := Tryz.zeroValue4
 t5 := Tryz.underlying5
 a5 := Tryz.isAgg5
 z5 := Tryz.sizeOf5
 v5 := Tryz.zeroValue5
 t9 := Tryz.underlying9
 a9 := Tryz.isAgg9
 z9 := Tryz.sizeOf9
 v9 := Tryz.zeroValue9
 t20 := Tryz.underlying20
 a20 := Tryz.isAgg20
 z20 := Tryz.sizeOf20
 v20 := Tryz.zeroValue20
 t37 := Tryz.underlying45
 a37 := Tryz.isAgg45
 z37 := Tryz.sizeOf45
 v37 := Tryz.zeroValue45
 t46 := Tryz.underlying136
 a46 := Tryz.isAgg136
 z46 := Tryz.sizeOf136
 v46 := Tryz.zeroValue136
 t51 := Tryz.underlying167
 a51 := Tryz.isAgg167
 z51 := Tryz.sizeOf167
 v51 := Tryz.zeroValue167
 t53 := Tryz.underlying170
 a53 := Tryz.isAgg170
 z53 := Tryz.sizeOf170
 v53 := Tryz.zeroValue170
 t70 := Tryz.underlying44
 a70 := Tryz.isAgg44
 z70 := Tryz.sizeOf44
 v70 := Tryz.zeroValue44
 t72 := Tryz.underlying47
 a72 := Tryz.isAgg47
 z72 := Tryz.sizeOf47
 v72 := Tryz.zeroValue47
 t75 := Tryz.underlying49
 a75 := Tryz.isAgg49
 z75 := Tryz.sizeOf49
 v75 := Tryz.zeroValue49
 t76 := Tryz.underlying50
 a76 := Tryz.isAgg50
 z76 := Tryz.sizeOf50
 v76 := Tryz.zeroValue50
 t109 := Tryz.underlying137
 a109 := Tryz.isAgg137
 z109 := Tryz.sizeOf137
 v109 := Tryz.zeroValue137
 t127 := Tryz.underlying94
 a127 := Tryz.isAgg94
 z127 := Tryz.sizeOf94
 v127 := Tryz.zeroValue94
 t146 := Tryz.underlying168
 a146 := Tryz.isAgg168
 z146 := Tryz.sizeOf168
 v146 := Tryz.zeroValue168
 t148 := Tryz.underlying171
 a148 := Tryz.isAgg171
 z148 := Tryz.sizeOf171
 v148 := Tryz.zeroValue171
 t164 := Tryz.underlying145
 a164 := Tryz.isAgg145
 z164 := Tryz.sizeOf145
 v164 := Tryz.zeroValue145 }
theorem Tryz.Builder_Extra_105 : Builder.Extra Tryz.prog Tryz.lays105_ren := {
 sizeBuilder := by kernel_rfl
 liesBuilder := by kernel_rfl
 t5 := Tryz.underlying5
 a5 := Tryz.isAgg5
 z5 := Tryz.sizeOf5
 v5 := Tryz.zeroValue5
 infoByte := by kernel_rfl
 cellsByte := by kernel_rfl
 sizeByte := by kernel_rfl
 neB5 := by decide }
end Go.Proofs

namespace Go.Lx
open Go Go.Vc Go.Md Go.Shelf Go.Proofs
theorem ixB_lib (l : List UInt8) (c : UInt8) : ixB l c = Lib.indexByte l c := by
 induction l with
 | nil => rfl
 | cons b l ih => simp only [ixB, Lib.indexByte, ih, beq_iff_eq]
theorem run_ixB {P : Program} {s : List UInt8} {c r : Int} (h : gIxB s c = some r) (w : World) : (Extern.BytealgIndexByte.indexByte #[str s, .int .u8 c]).run P w = .ok (.int .i64 r) w := by
 cases h
 rw [Lib.run_indexByteString, ixB_lib]
theorem run_cnB {P : Program} {s : List UInt8} {c r : Int} (h : gCnB s c = some r) (w : World) : (Extern.BytealgCount.count #[str s, .int .u8 c]).run P w = .ok (.int .i64 r) w := by
 cases h
 rw [Lib.run_countString]; rfl
def TabH (P : Program) (h : Js) (name : String) (k : IntKind) (zs : List Int) : Prop := ∃ g T m, P.globalNamed name = some g ∧ h g = some (.cells (zs.map fun z => Value.int k z).toArray T m)
theorem TabH.mono {P : Program} {h h' : Js} {name : String} {k : IntKind} {zs : List Int} (t : TabH P h name k zs) (hh : ∀ b o, h b = some o → h' b = some o) : TabH P h' name k zs := by
 obtain ⟨g, T, m, h1, h2⟩ := t
 exact ⟨g, T, m, h1, hh _ _ h2⟩
theorem TabH.tab {P : Program} {h : Js} {name : String} {k : IntKind} {zs : List Int} (t : TabH P h name k zs) {w : World} (hw : ∀ b o, h b = some o → w.heap[b]? = some o) : Lib.TabIs P w name k zs := by
 obtain ⟨g, T, m, h1, h2⟩ := t
 unfold Lib.TabIs World.var?
 rw [h1]
 show (match w.heap[g]? with | some (.cells cs _ _) => some cs | _ => none) = _
 rw [hw _ _ h2]
theorem tabH_of {P : Program} {w : World} {name : String} {k : IntKind} {zs : List Int} (t : Lib.TabIs P w name k zs) : TabH P (fun b => w.heap[b]?) name k zs := by
 unfold Lib.TabIs World.var? at t
 cases hg : P.globalNamed name with
 | none => rw [hg] at t; cases t
 | some g =>
  rw [hg] at t
  have t : (match w.heap[g]? with | some (.cells cs _ _) => some cs | _ => none) = some (zs.map fun z => Value.int k z).toArray := t
  split at t
  ·rename_i cs T m hc
   cases t
   exact ⟨g, T, m, hg, hc⟩
  ·cases t
theorem decD_lib (u : Nat) : U1 u = Lib.decDigits u := by
 induction u using Nat.strongRecOn with
 | ind u ih =>
  rw [U1, Lib.decDigits]
  by_cases h : u < 10
  ·rw [if_pos h, dif_pos h]
  ·rw [if_neg h, dif_neg h, ih _ (by omega)]
theorem itoaL_lib (n : Int) : X2 n = Lib.itoa n := by
 unfold X2 Lib.itoa; rw [decD_lib, decD_lib]
theorem itoa_does {P : Program} {ρ : Ren} (L : LaysM.n171 P ρ) {n : Int} {r : List UInt8} {w : World} {h : Js} (hw : Know h w Zk) (ht : TabH P h "internal/strconv.uint64pow10" .u64 Lib.pow10Tab) (H : Uq n = some r) :
  Does P (ρ.f 171) (List.toArray [.int .i64 n]) w (fun v w' => v = str r ∧ Grow w w') := by
 unfold Uq at H
 split at H
 case isFalse => cases H
 rename_i hr
 cases H
 refine Calls.mono (Any.strconv_Itoa L n hr.1 hr.2 w (ht.tab fun b o hb => (hw b o hb).1)) ?_
 rintro e w' ⟨rfl, k, os, rfl⟩
 exact ⟨_, rfl, by rw [itoaL_lib], Lib.below_grow _ _ (Nat.le_refl _) _ _⟩
theorem digV_lib (b : UInt8) : digV b = Lib.digitVal b := rfl
theorem decF_lib (acc : Nat) (l : List UInt8) : decF acc l = Lib.decFrom acc l := by
 induction l generalizing acc with
 | nil => rfl
 | cons b l ih =>
  simp only [decF, Lib.decFrom, digV_lib, ih]
  cases Lib.digitVal b <;> rfl
theorem decN_lib (l : List UInt8) : decN l = Lib.decNat l := by simp only [decN, Lib.decNat, decF_lib]
theorem atoiL_lib (l : List UInt8) : atoiL l = Lib.atoi l := by
 cases l with
 | nil => rfl
 | cons b l => simp only [atoiL, Lib.atoi, decN_lib]
theorem atoi_ret {P : Program} {ρ : Ren} (L : Lays.n172 P ρ) {s : List UInt8} {n : Int} (H : gAtoi s = some n) : Ret P (ρ.f 172) [str s] (.tuple #[.int .i64 n, .nilIface]) := fun w => by
 unfold gAtoi at H
 split at H
 case isFalse => cases H
 rename_i hr
 refine Calls.mono (Any.strconv_Atoi L ⟨s.toArray⟩ n (by simpa [ByteArray.size] using hr) (by rw [atoiL_lib] at H; exact H) w) ?_
 rintro e w' ⟨rfl, t, rfl⟩
 exact ⟨_, rfl, rfl, Go.Joins.below_bytesWorld _ _ _ _ (Nat.le_refl _)⟩
theorem repeat_lib (s : List UInt8) (n : Nat) : (List.replicate n s).flatten = Lib.repeatL s n := by
 induction n with
 | zero => rfl
 | succ n ih => rw [List.replicate_succ, List.flatten_cons, ih]; rfl
theorem rep_ret {P : Program} {ρ : Ren} (L : Lays.n105 P ρ) (X : Builder.Extra P ρ) {s r : List UInt8} {n : Int} (H : gRep s n = some r) : Ret P (ρ.f 105) [str s, .int .i64 n] (str r) := fun w => by
 unfold gRep at H
 split at H
 case isFalse => cases H
 rename_i hr
 cases H
 obtain ⟨k, rfl⟩ : ∃ k : Nat, n = k := ⟨n.toNat, by omega⟩
 refine Calls.mono (Any.strings_Repeat L X ⟨s.toArray⟩ k w (by omega) (by simpa [ByteArray.size] using hr.2.2)) ?_
 rintro e w' ⟨rfl, hb⟩
 exact ⟨_, rfl, by rw [repeat_lib]; rfl, hb⟩
theorem join_does {P : Program} {ρ : Ren} (L : Lays.n156 P ρ) (X : Builder.Extra P ρ) {l : List (List UInt8)} {sep r : List UInt8} {v : Value} {w : World} {h : Js} (hw : Know h w Zk) (f : FrS h 1 v (l.map fun x => [str x])) (H : Jgq l sep = some r) :
  Does P (ρ.f 156) (List.toArray [v, str sep]) w (fun v w' => v = str r ∧ Grow w w') := by
 unfold Jgq at H
 split at H
 case isFalse => cases H
 rename_i hr
 cases H
 obtain ⟨a, c, rfl, h1, h2, hrow⟩ := f.out
 simp only [List.length_map] at h1 ⊢
 have hm : (l.map fun x => (⟨x.toArray⟩ : ByteArray)).map (·.data.toList) = l := by rw [List.map_map]; exact List.map_id'' (fun _ => by simp) l
 rcases hrow with hn | ⟨b, off, cs, T, m, rfl, hb, hc⟩
 ·have hl : l = [] := by simpa using hn
  subst hl
  refine Calls.mono (Any.strings_Join_none L X a c ⟨sep.toArray⟩ w) ?_
  rintro e w' ⟨rfl, rfl⟩
  exact ⟨_, rfl, by simp [List.intercalate], Grow.refl _⟩
 ·have hh := (hw _ _ hb).1
  have hlt : b < w.heap.size := (Array.getElem?_eq_some_iff.1 hh).1
  have := Any.strings_Join L X b off c (l.map fun x => (⟨x.toArray⟩ : ByteArray)) ⟨sep.toArray⟩ w (fun j x hx => by
   rw [List.getElem?_map, Option.map_eq_some_iff] at hx
   obtain ⟨y, hy, rfl⟩ := hx
   have := (hc j [str y] (by rw [List.getElem?_map, hy]; rfl)).2 0 (str y) rfl
   simp only [Nat.mul_one, Nat.add_zero] at this
   simp [World.cell?, hh, this]) hlt (by simpa using hr.1) (by simpa using h1) (by rw [hm]; exact hr.2)
  rw [List.length_map, hm] at this
  refine Calls.mono this ?_
  rintro e w' ⟨rfl, hb⟩
  exact ⟨_, rfl, rfl, hb⟩
end Go.Lx

namespace Go.Lx
open Go Go.Vc Go.Md
structure RC (P : Program) (n : Nat) (c : Code) (Q : Jae) (m : Nat) (e : Xc) (w : World) : Prop where
 out : ∀ a, Sim n a e → Code.rounds P c (lift n Q) m a w
section rules
variable {P : Program} {n : Nat} {Q : Jae} {cx : Cx} {K : Xc → World → Prop} {e : Xc} {L : List Chunk}
end rules
end Go.Lx

namespace Go.Lx
open Go Go.Vc Go.Md Go.Shelf Go.Sort Go.Proofs
variable {P : Program} {cx : Cx} {L : List Chunk} {e : Xc}
theorem Ji1 {fn : Func} {t T b u u' : Nat} {v : Value} (h : fn.results = #[.cell t T, .tmp u, .tmp u']) (tmps : Array Value) (w : World) (ht : tmps.getD t undef = .pointer (some ⟨b, 0, none⟩)) (hl : (loadVar T ⟨b, 0, none⟩).run P w = .ok v w) :
  (results fn tmps).run P w = .ok (.tuple #[v, tmps.getD u undef, tmps.getD u' undef]) w := by
 rw [Array.getD_eq_getD_getElem?] at ht
 simp [results, h, ht, asAddr, hl]
theorem Jiq {i : Nat} {fn : Func} {R : Value → World → Prop} {t T T0 b sz u u' : Nat} {cs vs : List Value} {v2 v3 : Value} (hA : ∀ w, (isAgg T).run P w = .ok true w) (hs : ∀ w, (sizeOf T).run P w = .ok sz w) (hr : fn.results = #[.cell t T, .tmp u, .tmp u'])
  (ht : e t = .pointer (some ⟨b, 0, none⟩)) (hL : L[i]? = some (Ji b cs T0)) (hv : rd cs 0 sz = some vs) (h2 : e u = v2) (h3 : e u' = v3) (k : ∀ w, Fr cx w → Sat cx w L → R (.tuple #[.agg vs.toArray, v2, v3]) w) : At cx (Jfy P fn R .ret) e L :=
 ⟨fun w hF hS tmps hts => ⟨.tuple #[.agg vs.toArray, v2, v3], by
  obtain ⟨h1, h2'⟩ := Jh9 hv
  have hl := Wb (P := P) (w := w) (b := b) (o := 0) hA hs h1 (fun j v hj => by rw [Jdq (Xf hS hL)]; exact h2' j v hj)
  rw [Ji1 hr tmps w (by rw [hts, ht]) hl, hts, hts, h2, h3], k w hF hS⟩⟩
section
open Go.Sort Go.Shelf
end
end Go.Lx

namespace Go.Lx
open Go Go.Vc Go.Md
section
variable {α : Type} {G : Js → (Nat → Value) → α → Prop} {h : Js} {sz : Nat} {css : List (List Value)} {xs ys : List α} {i : Int} {x' : α} {vs : List Value}
end
end Go.Lx

namespace Go.Lx
open Go Go.Vc Go.Md Go.Shelf Go.Sort Go.Proofs
section rules
variable {P : Program} {n : Nat} {cx : Cx} {Q : Jae} {e : Xc} {L : List Chunk} {ops : Array Oper} {rest : List Oper} {ty : TypeId} {pos : String} {af : Array Edge} {g : Option (Nat × Bool)}
end rules
section
end
section
open Go.Vc
variable {P : Program} {n : Nat} {cx : Cx} {e : Xc} {L : List Chunk} {d : Nat} {ty : TypeId} {pos : String} {af : Array Edge} {g : Option (Nat × Bool)}
end
section
variable {P : Program} {e : Xc} {d : Option Nat} {ty : TypeId} {pos : String} {af : Array Edge} {g : Option (Nat × Bool)}
theorem Row.pre {w : World} {a : Option Addr} {sz : Nat} {xs ys : List (List Value)} (h : Row w a sz (xs ++ ys)) : Row w a sz xs := by
 rcases h with h | ⟨b, off, ha, h⟩
 ·exact .inl (List.append_eq_nil_iff.1 h).1
 ·refine .inr ⟨b, off, ha, fun i x hx => h i x ?_⟩
  rw [List.getElem?_append_left (List.getElem?_eq_some_iff.1 hx).1]; exact hx
end
section
open Go.Vc
theorem imp_bldQ {b T E : Nat} {q : Value} {p : Option Addr × Nat} {bs : List UInt8} (hq : q = .pointer none ∨ q = .pointer (some ⟨b, 0, none⟩)) (hp : p = (none, 0) ∨ p.2 ≠ 0) :
  Imp (Jz (Ji b [q, .slice p.1 (Jv bs).length p.2] T) (Ju E 1 (.slice p.1 (Jv bs).length p.2) (Jv bs).length ((Jv bs).map e8))) (Uu b T E bs) := ⟨fun _ _ h => ⟨q, p, hq, hp, h⟩⟩
variable {P : Program} {cx : Cx} {e : Xc} {L : List Chunk} {d : Option Nat} {ty : TypeId} {pos : String} {af : Array Edge} {g : Option (Nat × Bool)}
end
end Go.Lx

namespace Go.Lx
open Go Go.Md Go.Vc Go.Shelf Go.Sort Go.Proofs
theorem sj {α : Type} {a b : α} (h : some a = some b) : a = b := Option.some.inj h
section
variable {P : Program} {n : Nat} {cx : Cx} {Q : Jae} {e : Xc} {L : List Chunk} {ops : Array Oper} {rest : List Oper} {d : Nat} {ty : TypeId} {pos : String} {af : Array Edge} {g : Option (Nat × Bool)}
theorem lv {o : Op} {v : Value} (hr : ∀ w, (execOp (ev e) ⟨some d, o, ty, pos, af, g⟩).run P w = .ok (.value v) w) (k : At cx (WL P n ops Q rest) (upd e d v) L)
  (hw : Xt ops ⟨some d, o, ty, pos, af, g⟩ e = true := by exact rfl) (hn : Nat.blt d n = true := by exact rfl) : At cx (WL P n ops Q (⟨some d, o, ty, pos, af, g⟩ :: rest)) e L := Jf hw rfl hn hr k
theorem pT {c A B : Operand} (v : Value) (k : At cx (WL P n ops Q rest) (upd e d v) L) (hw : Xt ops ⟨some d, .pick c A B, ty, pos, af, g⟩ e = true := by exact rfl) (hn : Nat.blt d n = true := by exact rfl)
  (hc : ev e c = .bool true := by exact rfl) (hx : ev e A = v := by exact rfl) : At cx (WL P n ops Q (⟨some d, .pick c A B, ty, pos, af, g⟩ :: rest)) e L := Jf hw rfl hn (Jah hc hx) k
theorem pF {c A B : Operand} (v : Value) (k : At cx (WL P n ops Q rest) (upd e d v) L) (hw : Xt ops ⟨some d, .pick c A B, ty, pos, af, g⟩ e = true := by exact rfl) (hn : Nat.blt d n = true := by exact rfl)
  (hc : ev e c = .bool false := by exact rfl) (hx : ev e B = v := by exact rfl) : At cx (WL P n ops Q (⟨some d, .pick c A B, ty, pos, af, g⟩ :: rest)) e L := Jf hw rfl hn (Jbm hc hx) k
theorem lf {T fld b o fo ft fsz bo : Nat} {nm tg pk : String} {em : Bool} {X : Operand} {fs : Array Field} (hu : ∀ w, (underlying T).run P w = .ok (.struct fs) w)
  (hf : fs[fld]? = some ⟨nm, ft, fo, em, tg, pk, bo⟩) (hs : ∀ w, (sizeOf ft).run P w = .ok fsz w) (hp : ev e X = .pointer (some ⟨b, o, none⟩))
  (k : At cx (WL P n ops Q rest) (upd e d (.pointer (some ⟨b, o + fo, none⟩))) L) (hsz : Nat.blt 0 fsz = true := by exact rfl) (hw : Xt ops ⟨some d, .fieldAddr T X fld, ty, pos, af, g⟩ e = true := by exact rfl) (hn : Nat.blt d n = true := by exact rfl) :
  At cx (WL P n ops Q (⟨some d, .fieldAddr T X fld, ty, pos, af, g⟩ :: rest)) e L := Jf hw rfl hn (J0 hu hf hs hsz hp) k
theorem ll {T T0 b o : Nat} {A : Operand} {cs : List Value} (i : Nat) (v : Value) (hA : ∀ w, (isAgg T).run P w = .ok false w) (k : At cx (WL P n ops Q rest) (upd e d v) L)
  (hw : Xt ops ⟨some d, .load T A, ty, pos, af, g⟩ e = true := by exact rfl) (hn : Nat.blt d n = true := by exact rfl) (hp : ev e A = .pointer (some ⟨b, o, none⟩) := by exact rfl) (hL : L[i]? = some (Ji b cs T0) := by exact rfl) (hv : rg cs o = some v := by exact rfl) :
  At cx (WL P n ops Q (⟨some d, .load T A, ty, pos, af, g⟩ :: rest)) e L := Ws hA hw hn hp hL hv k
theorem st {i : Nat} {T T0 b o sz : Nat} {A X : Operand} {x : Value} {cs : List Value} (vs cs' : List Value) (hs : ∀ w, (sizeOf T).run P w = .ok sz w)
  (hp : ev e A = .pointer (some ⟨b, o, none⟩)) (hL : L[i]? = some (Ji b cs T0)) (k : At cx (WL P n ops Q rest) e (L.set i (Ji b cs' T0)))
  (hw : Xt ops ⟨none, .store T A X, ty, pos, af, g⟩ e = true := by exact rfl) (hx : ev e X = x := by exact rfl) (hc : x.cells.toList = vs := by exact rfl) (hsz : vs.length = sz := by exact rfl) (hpos : Nat.blt 0 sz = true := by exact rfl)
  (hone : vs.all Value.oneCell' = true := by exact rfl) (hv : wr cs o vs = some cs' := by exact rfl) :
  At cx (WL P n ops Q (⟨none, .store T A X, ty, pos, af, g⟩ :: rest)) e L := Xl hs hw hp hx hc hsz hpos hone hL hv k
theorem bo {K : Xc → World → Prop} (i j : Nat) {C D : Chunk} (hi : L[i]? = some C) (hj : L[j]? = some D) (k : At cx K e ((L.set i (Jz C D)).set j empC)) (hne : i ≠ j := by decide) : At cx K e L := Qw i j hi hj hne k
theorem ub {K : Xc → World → Prop} (i j : Nat) {C D : Chunk} (hL : L[i]? = some (Jz C D)) (hj : L[j]? = some empC) (k : At cx K e ((L.set i C).set j D)) (hne : i ≠ j := by decide) : At cx K e L := c_splitAt i j hL hj hne k
theorem cl {σ τ : Type} {sv : σ → τ → List (Nat × Value)} {hp : σ → τ → List Chunk} {I : σ → τ → Nat → Prop} {m : Nat} (s : σ) (t : τ) (k : Nat) (sel : List Nat) (hI : I s t k)
  (hst : Jhs e (sv s t) := by (repeat (first | exact trivial | refine ⟨rfl, ?_⟩))) (hnd : sel.Nodup := by decide) (hL : sel.map (fun i => L[i]?) = (hp s t).map some := by kernel_rfl) (hm : k < m := by exact Nat.lt_succ_self _) :
  At cx (RoundA cx sv hp I m) e L := Ja0 s t k sel hst hnd hL hI hm
theorem ci {α : Type} {x y r : Option α} {c : Operand} {p q : Code} (b : Bool) (hc : ev e c = .bool b) (ht : b = true → x = r → At cx (WC P n p Q) e L) (hf : b = false → y = r → At cx (WC P n q Q) e L) (H : J6 b x y = r) :
  At cx (WC P n (.cond c p q) Q) e L := Jd0 hc (fun h => ht h (Un h H)) (fun h => hf h (W4 h H))
theorem sp {α : Type} {x y r : Option α} {K : Xc → World → Prop} {b : Bool} (ht : b = true → x = r → At cx K (upd e d (.bool true)) L) (hf : b = false → y = r → At cx K (upd e d (.bool false)) L) (H : J6 b x y = r) :
  At cx K (upd e d (.bool b)) L := split (fun h => ht h (Un h H)) (fun h => hf h (W4 h H))
end
section
variable {P : Program} {cx : Cx} {e : Xc} {L : List Chunk} {ops : Array Oper} {F : Xc → List Chunk → Prop} {rest : List Oper} {ss : List Kd} {d : Nat} {ty : TypeId} {pos : String} {af : Array Edge} {g : Option (Nat × Bool)}
theorem dv {o : Op} {v : Value} (hr : ∀ w, (execOp (ev e) ⟨some d, o, ty, pos, af, g⟩).run P w = .ok (.value v) w) (k : Sq P cx ops F rest ss (upd e d v) L) (hw : Xt ops ⟨some d, o, ty, pos, af, g⟩ e = true := by exact rfl) :
  Sq P cx ops F (⟨some d, o, ty, pos, af, g⟩ :: rest) (.p :: ss) e L := Qy hw rfl hr k
theorem dl {i : Nat} {T T0 b o : Nat} {A : Operand} {cs : List Value} (v : Value) (hA : ∀ w, (isAgg T).run P w = .ok false w) (k : Sq P cx ops F rest ss (upd e d v) L)
  (hw : Xt ops ⟨some d, .load T A, ty, pos, af, g⟩ e = true := by exact rfl) (hp : ev e A = .pointer (some ⟨b, o, none⟩) := by exact rfl) (hL : L[i]? = some (Ji b cs T0) := by exact rfl) (hv : rg cs o = some v := by exact rfl) :
  Sq P cx ops F (⟨some d, .load T A, ty, pos, af, g⟩ :: rest) (.d [i] v :: ss) e L := Jej hA hw hp hL hv k
end
section
variable {P : Program} {cx : Cx} {e : Xc} {L : List Chunk}
theorem r1 {fn : Func} {t : Tmp} {v : Value} {w0 : World} (V : Value) (hr : fn.results = #[.tmp t] := by exact rfl) (ht : e t = V := by exact rfl) (h : V = v := by exact rfl) :
  At ⟨w0, fun _ => False⟩ (Jfy P fn (fun v' w' => v' = v ∧ Grow w0 w') .ret) e L := Uh hr ht (fin h)
end
abbrev pz (b : Nat) : Value := .pointer (some ⟨b, 0, none⟩)
abbrev z0s : Value := .slice none 0 0
abbrev AN : Type := Option Addr × Nat
abbrev _root_.List.l {α : Type} (x : List α) : Nat := x.length
end Go.Lx

namespace Go.Lx
open Go Go.Vc Go.Md
section
variable {P : Program} {n : Nat} {cx : Cx} {Q : Jae} {e : Xc} {L : List Chunk} {ops : Array Oper} {rest : List Oper} {d : Nat} {ty : TypeId} {pos : String} {af : Array Edge} {g : Option (Nat × Bool)}
end
section
variable {P : Program} {cx : Cx} {e : Xc} {L : List Chunk} {d : Nat} {ty : TypeId} {pos : String} {af : Array Edge} {g : Option (Nat × Bool)}
end
section
variable {P : Program} {cx : Cx} {e : Xc} {L : List Chunk} {ops : Array Oper} {F : Xc → List Chunk → Prop} {rest : List Oper} {ss : List Kd} {d : Nat} {ty : TypeId} {pos : String} {af : Array Edge} {g : Option (Nat × Bool)}
end
section
variable {P : Program} {cx : Cx} {e : Xc} {L : List Chunk} {d : Nat} {ty : TypeId} {pos : String} {af : Array Edge} {g : Option (Nat × Bool)}
end
section
variable {α : Type} {G : Js → (Nat → Value) → α → Prop} {h : Js} {sz : Nat} {css : List (List Value)} {xs : List α}
end
end Go.Lx

namespace Go.Lx
open Go Go.Vc Go.Md
section
variable {P : Program} {cx : Cx} {e : Xc} {L : List Chunk} {ops : Array Oper} {F : Xc → List Chunk → Prop} {rest : List Oper} {ss : List Kd}
variable {d : Nat} {ty : TypeId} {pos : String} {af : Array Edge} {g : Option (Nat × Bool)}
end
section
variable {α : Type} {G : Js → (Nat → Value) → α → Prop} {h : Js} {sz : Nat} {v : Value} {xs : List α}
theorem elC_getD (h : Js) (v : Value) (sz i : Nat) : (fun j => (elC h v sz i).getD j undef) = Xr h v sz i := by
 funext j
 rw [List.getD_eq_getElem?_getD]
 unfold elC
 by_cases hj : j < sz
 ·simp [List.getElem?_range hj]
 ·rw [List.getElem?_eq_none (by simp; omega)]
  simp [Xr, hj]
theorem FrN.allC (f : FrN h sz v G xs) : AllC G h sz ((List.range xs.length).map (elC h v sz)) xs := by
 refine ⟨by simp, fun i cs x hc hxi => ?_⟩
 have hi : i < xs.length := (List.getElem?_eq_some_iff.1 hxi).1
 rw [List.getElem?_map, List.getElem?_range hi] at hc
 cases hc
 refine ⟨by simp [elC], ?_⟩
 rw [elC_getD]
 exact f.el i x hxi
theorem AllC.oneN {css : List (List Value)} (hG : ∀ {c : Nat → Value} {x : α}, G h c x → ∀ j, j < sz → (c j).oneCell' = true) (p : AllC G h sz css xs) : ∀ x ∈ css, (Z6 x).all Value.oneCell' = true := by
 intro x hx
 obtain ⟨i, hi, rfl⟩ := List.getElem_of_mem hx
 have hi2 : i < xs.length := p.len ▸ hi
 obtain ⟨h1, h2⟩ := p.el i css[i] xs[i] (List.getElem?_eq_getElem hi) (List.getElem?_eq_getElem hi2)
 show css[i].all Value.oneCell' = true
 refine List.all_eq_true.2 fun u hu => ?_
 obtain ⟨j, hj, rfl⟩ := List.getElem_of_mem hu
 have h3 := hG h2 j (h1 ▸ hj)
 rwa [List.getD_eq_getElem?_getD, List.getElem?_eq_getElem hj, Option.getD_some] at h3
end
end Go.Lx

namespace Go.Lx
open Go Go.Vc Go.Md
section
variable {P : Program} {cx : Cx} {e : Xc} {L : List Chunk}
end
end Go.Lx

namespace Go.Lx
open Go Go.Vc Go.Md
def Jgn (base : Js) (Φ : Js → Prop) : Chunk where
 P S w := ∃ hp, Φ hp ∧ (Y7 base hp).P S w
 loc S w w' h := fun ⟨hp, h1, h2⟩ => ⟨hp, h1, Chunk.loc _ _ _ _ h h2⟩
noncomputable def Jga (w : World) (S : Nat → Prop) : Js := open Classical in fun b => if S b then w.heap[b]? else none
theorem restr_some {w : World} {S : Nat → Prop} {b : Nat} {o : Obj} : Jga w S b = some o ↔ S b ∧ w.heap[b]? = some o := by
 classical
 unfold Jga
 split
 ·rename_i h; exact ⟨fun k => ⟨h, k⟩, fun k => k.2⟩
 ·rename_i h; exact ⟨fun k => (by cases k), fun k => absurd k.1 h⟩
theorem Jfa (w : World) (S : Nat → Prop) : (Y7 Y2 (Jga w S)).P S w := ⟨Yx, fun b o h => .inr (restr_some.1 h)⟩
def RowP (h : Js) (E sz : Nat) (v : Value) (css : List (List Value)) : Prop :=
 (∀ x ∈ css, x.length = sz) ∧ ((v = .slice none 0 0 ∧ css = []) ∨
  ∃ g cap cur, v = .slice (some ⟨g, 0, none⟩) css.length cap ∧ h g = some (.cells cur E (0, 0)) ∧ css.length ≤ cap ∧ cap ≤ maxLen ∧ cur.size = cap * sz ∧ cur.toList.take (css.length * sz) = css.flatten)
theorem RowP.mono {h h' : Js} {E sz : Nat} {v : Value} {css : List (List Value)} (r : RowP h E sz v css) (k : ∀ b, v.ownBlock = some b → ∀ o, h b = some o → h' b = some o) : RowP h' E sz v css := by
 refine ⟨r.1, r.2.imp id ?_⟩
 rintro ⟨g, cap, cur, rfl, hb, rest⟩
 exact ⟨g, cap, cur, rfl, k g rfl _ hb, rest⟩
theorem RowP.of {w : World} {S : Nat → Prop} {E sz n : Nat} {v : Value} {css : List (List Value)} (h : (Ju E sz v n css).P S w) : RowP (Jga w S) E sz v css ∧ n = css.length ∧ ∀ b, v.ownBlock = some b → S b := by
 obtain ⟨⟨⟨h1, h2⟩, h3, h5⟩, h4⟩ := h
 subst h3
 refine ⟨⟨h5, ?_⟩, rfl, h4⟩
 rcases h2 with ⟨rfl, h0⟩ | ⟨g, cap, cur, rfl, _, hh, q1, q2, q3, q4⟩
 ·exact .inl ⟨rfl, List.length_eq_zero_iff.1 h0⟩
 ·exact .inr ⟨g, cap, cur, rfl, restr_some.2 ⟨h4 g rfl, hh⟩, q1, q2, q3, q4⟩
theorem RowP.row {h : Js} {E sz : Nat} {v : Value} {css : List (List Value)} (r : RowP h E sz v css) {w : World} {S : Nat → Prop} (hw : ∀ b, v.ownBlock = some b → S b ∧ ∀ o, h b = some o → w.heap[b]? = some o) : (Ju E sz v css.length css).P S w := by
 have hfl : css.flatten.length = css.length * sz := by
  have := r.1
  clear r hw
  induction css with
  | nil => simp
  | cons x l ih =>
   rw [List.flatten_cons, List.length_append, ih (fun y hy => this y (.tail _ hy)), this x (.head _), List.length_cons, Nat.add_mul]; omega
 refine ⟨⟨⟨hfl, ?_⟩, rfl, r.1⟩, fun b hb => (hw b hb).1⟩
 rcases r.2 with ⟨rfl, h0⟩ | ⟨g, cap, cur, rfl, hb, q1, q2, q3, q4⟩
 ·exact .inl ⟨rfl, by rw [h0]; rfl⟩
 ·exact .inr ⟨g, cap, cur, rfl, Nat.zero_le _, (hw g rfl).2 _ hb, q1, q2, q3, q4⟩
theorem RowP.frs {h : Js} {E sz : Nat} {v : Value} {css : List (List Value)} (r : RowP h E sz v css) : FrS h sz v css := by
 rcases r.2 with ⟨rfl, rfl⟩ | ⟨g, cap, cur, rfl, hb, q1, q2, q3, q4⟩
 ·exact ⟨none, 0, rfl, Nat.le_refl _, by decide, .inl rfl⟩
 ·refine ⟨some ⟨g, 0, none⟩, cap, rfl, q1, by simpa [maxLen] using q2, .inr ⟨g, 0, cur, E, (0, 0), rfl, hb, fun i x hx => ⟨r.1 x (List.mem_of_getElem? hx), fun j v hv => ?_⟩⟩⟩
  have hr := Jc4 css i x (List.all_eq_true.2 fun x hx => by simpa using r.1 x hx) hx j v hv
  rw [← q4, List.getElem?_take] at hr
  split at hr
  ·rw [Array.getElem?_toList] at hr
   rw [← hr, Nat.zero_add]
  ·cases hr
def rmV (h : Js) (v : Value) : Js := fun b => if v.ownBlock = some b then none else h b
section
variable {P : Program} {cx : Cx} {e : Xc} {L : List Chunk} {K : Xc → World → Prop} {ops : Array Oper} {rest : List Oper} {d : Nat} {ty : TypeId} {pos : String} {af : Array Edge} {g : Option (Nat × Bool)}
theorem Jjs {base : Js} {Φ : Js → Prop} (i : Nat) (hi : L[i]? = some (Jgn base Φ)) (k : ∀ hp, Φ hp → At cx K e (L.set i (Y7 base hp))) : At cx K e L :=
 Jau (τ := Js) (D := fun hp => Y7 base hp) (φ := Φ) i hi (fun S w h => h) k
theorem imp_thaw {hp : Js} {E sz n : Nat} {v : Value} {css : List (List Value)} (r : RowP hp E sz v css) (hn : n = css.length) : Imp (Y7 Y2 hp) (Jz (Y7 Y2 (rmV hp v)) (Ju E sz v n css)) := ⟨fun S w ⟨h1, h2⟩ => by
 subst hn
 have own : ∀ b, v.ownBlock = some b → ∃ o, hp b = some o := by
  rcases r.2 with ⟨rfl, _⟩ | ⟨g, cap, cur, rfl, hb, _⟩
  ·intro b hb; cases hb
  ·intro b hb'; cases hb'; exact ⟨_, hb⟩
 have key : ∀ b o, hp b = some o → S b ∧ w.heap[b]? = some o := fun b o h => (h2 b o h).elim (fun h => by cases h) id
 refine ⟨fun b => S b ∧ v.ownBlock ≠ some b, fun b => v.ownBlock = some b, ⟨Yx, fun b o h => ?_⟩, r.row fun b hb => ⟨hb, fun o ho => (key b o ho).2⟩, fun b h => h.1, fun b h => ?_, fun b h h' => h.2 h'⟩
 ·have h : (if v.ownBlock = some b then none else hp b) = some o := h
  split at h
  ·cases h
  ·rename_i hb; exact .inr ⟨⟨(key b o h).1, hb⟩, (key b o h).2⟩
 ·obtain ⟨o, ho⟩ := own b h
  exact (key b o ho).1⟩
end
def Jaf (Φ : Js → List Nat → Prop) : Chunk := Jgn Y2 fun hp => ∃ bs, Φ hp bs ∧ bs.Nodup ∧ ∀ b ∈ bs, ∃ o, hp b = some o
theorem Jja {Φ Ψ : Js → List Nat → Prop} (k : ∀ h bs, Φ h bs → Ψ h bs) : Imp (Jaf Φ) (Jaf Ψ) :=
 ⟨fun _ _ ⟨hp, ⟨bs, h1, h2⟩, h3⟩ => ⟨hp, ⟨bs, k _ _ h1, h2⟩, h3⟩⟩
theorem Jdy {Φ Ψ Χ : Js → List Nat → Prop} (m1 : ∀ h h' bs, (∀ b o, h b = some o → h' b = some o) → Φ h bs → Φ h' bs) (m2 : ∀ h h' bs, (∀ b o, h b = some o → h' b = some o) → Ψ h bs → Ψ h' bs)
  (k : ∀ h b1 b2, Φ h b1 → Ψ h b2 → Χ h (b1 ++ b2)) : Imp (Jz (Jaf Φ) (Jaf Ψ)) (Jaf Χ) := ⟨fun S w => by
 rintro ⟨S1, S2, ⟨h1, ⟨b1, f1, n1, d1⟩, p1⟩, ⟨h2, ⟨b2, f2, n2, d2⟩, p2⟩, s1, s2, sd⟩
 have q1 : ∀ b o, h1 b = some o → S1 b ∧ w.heap[b]? = some o := fun b o h => (p1.2 b o h).elim (fun h => by cases h) id
 have q2 : ∀ b o, h2 b = some o → S2 b ∧ w.heap[b]? = some o := fun b o h => (p2.2 b o h).elim (fun h => by cases h) id
 have l1 : ∀ b o, h1 b = some o → Jga w S b = some o := fun b o h => restr_some.2 ⟨s1 b (q1 b o h).1, (q1 b o h).2⟩
 have l2 : ∀ b o, h2 b = some o → Jga w S b = some o := fun b o h => restr_some.2 ⟨s2 b (q2 b o h).1, (q2 b o h).2⟩
 refine ⟨Jga w S, ⟨b1 ++ b2, k _ _ _ (m1 _ _ _ l1 f1) (m2 _ _ _ l2 f2), List.nodup_append.2 ⟨n1, n2, fun a ha b hb e => ?_⟩, fun b hb => ?_⟩, Jfa w S⟩
 ·subst e
  obtain ⟨o1, g1⟩ := d1 a ha
  obtain ⟨o2, g2⟩ := d2 a hb
  exact sd a (q1 a o1 g1).1 (q2 a o2 g2).1
 ·rcases List.mem_append.1 hb with h | h
  ·obtain ⟨o, g⟩ := d1 b h; exact ⟨o, l1 b o g⟩
  ·obtain ⟨o, g⟩ := d2 b h; exact ⟨o, l2 b o g⟩⟩
theorem Jb0 {C C' D D' : Chunk} (h1 : Imp C C') (h2 : Imp D D') : Imp (Jz C D) (Jz C' D') :=
 ⟨fun _ _ ⟨S1, S2, a, b, c⟩ => ⟨S1, S2, h1.out _ _ a, h2.out _ _ b, c⟩⟩
theorem Xs {C D F : Chunk} (h1 : Imp C D) (h2 : Imp D F) : Imp C F := ⟨fun _ _ k => h2.out _ _ (h1.out _ _ k)⟩
theorem own_nodup {v : Value} : v.ownBlock.toList.Nodup := by cases v.ownBlock <;> simp
theorem imp_rowOwn {E sz n : Nat} {v : Value} {css : List (List Value)} : Imp (Ju E sz v n css) (Jaf fun h bs => RowP h E sz v css ∧ n = css.length ∧ bs = v.ownBlock.toList) := ⟨fun S w k => by
 obtain ⟨r, hn, hb⟩ := RowP.of k
 refine ⟨Jga w S, ⟨_, ⟨r, hn, rfl⟩, own_nodup, fun b h => ?_⟩, Jfa w S⟩
 rcases r.2 with ⟨rfl, _⟩ | ⟨g, cap, cur, rfl, hg, _⟩
 ·cases h
 ·simp [Value.ownBlock] at h; subst h; exact ⟨_, hg⟩⟩
def roB (v : Value) (n : Nat) : List Nat := if n = 0 then [] else v.ownBlock.toList
theorem imp_roOwn {sz n : Nat} {v : Value} {xs : List (List Value)} : Imp (roV sz v n xs) (Jaf fun h bs => FrS h sz v xs ∧ bs = roB v xs.length) := ⟨fun S w ⟨hn, f, hb⟩ => by
 have f' : FrS (Jga w S) sz v xs := f.sub hb fun b o hs h => restr_some.2 ⟨hs, h⟩
 refine ⟨Jga w S, ⟨_, ⟨f', rfl⟩, ?_, fun b h => ?_⟩, Jfa w S⟩
 ·unfold roB; split
  ·exact List.nodup_nil
  ·exact own_nodup
 ·unfold roB at h
  split at h
  ·cases h
  ·rename_i hne
   obtain ⟨a, c, rfl, _, _, r⟩ := f'.out
   rcases r with r | ⟨g, off, cs, T, m, rfl, hg, _⟩
   ·rw [r] at hne; simp at hne
   ·simp [Value.ownBlock] at h; subst h; exact ⟨_, hg⟩⟩
theorem Jb7 {Φ : Js → List Nat → Prop} (h : Φ Y2 []) : Imp empC (Jaf Φ) := ⟨fun S w k => ⟨Y2, ⟨[], h, List.nodup_nil, fun b hb => by cases hb⟩, Yx, fun b o hb => by cases hb⟩⟩
theorem FrS.agree {h h' : Js} {sz : Nat} {v : Value} {xs : List (List Value)} (f : FrS h sz v xs) (k : ∀ b ∈ roB v xs.length, ∀ o, h b = some o → h' b = some o) : FrS h' sz v xs := by
 obtain ⟨a, c, rfl, h1, h2, r⟩ := f.out
 refine ⟨a, c, rfl, h1, h2, ?_⟩
 rcases r with r | ⟨b, off, cs, T, m, rfl, hb, r⟩
 ·exact .inl r
 ·by_cases h0 : xs.length = 0
  ·exact .inl (List.length_eq_zero_iff.1 h0)
  ·exact .inr ⟨b, off, cs, T, m, rfl, k b (by unfold roB; rw [if_neg h0]; simp [Value.ownBlock]) _ hb, r⟩
end Go.Lx
namespace Go.Lx
open Go Go.Vc Go.Md
def cntB (n : Nat) (next : Nat → Option Unit) (i : Nat) : Option Unit := if i < n then next (i + 1) else some ()
theorem cnt_fix (n : Nat) : Z8 (cntB n) 0 = some () :=
 fix_of (F := cntB n) (fun _ => some ()) (fun _ => True) (fun i => n - i) (fun next i _ ih => by
  unfold cntB
  split
  ·exact ih (i + 1) trivial (by omega)
  ·rfl) 0 trivial
theorem cnt_step {n i m : Nat} (h : cntB n (it (cntB n) m) i = some ()) (hi : i < n) : it (cntB n) m (i + 1) = some () := by
 unfold cntB at h; rwa [if_pos hi] at h
end Go.Lx
namespace Go.Lx
theorem Jg5 {α : Type} {xs : List α} {i : Nat} (h : i < xs.length) : xs.take (i + 1) = xs.take i ++ [xs[i]] := by
 rw [List.take_add_one, List.getElem?_eq_getElem h]; rfl
theorem take_setS {α : Type} {xs : List α} {i : Nat} {c : α} (h : i < xs.length) : (xs.set i c).take (i + 1) = xs.take i ++ [c] := by
 rw [Jg5 (by simpa using h), List.getElem_set_self, List.take_set_of_le (Nat.le_refl _)]
end Go.Lx
namespace Go.Lx
open Go Go.Vc Go.Md
def KidsG {α : Type} (T : Js → List Value → α → List Nat → Prop) (h : Js) : List (List Value) → List α → List Nat → Prop
 | [], [], bs => bs = []
 | c :: css, x :: xs, bs => ∃ b1 b2, T h c x b1 ∧ KidsG T h css xs b2 ∧ bs = b1 ++ b2
 | _, _, _ => False
section
variable {α : Type} {T : Js → List Value → α → List Nat → Prop} {h h' : Js}
theorem KidsG.len : ∀ {css : List (List Value)} {xs : List α} {bs : List Nat}, KidsG T h css xs bs → css.length = xs.length
 | [], [], _, _ => rfl
 | _ :: _, _ :: _, _, ⟨_, _, _, k, _⟩ => by rw [List.length_cons, List.length_cons, k.len]
theorem KidsG.snoc {c : List Value} {x : α} {b : List Nat} (e : T h c x b) : ∀ {css : List (List Value)} {xs : List α} {bs : List Nat}, KidsG T h css xs bs → KidsG T h (css ++ [c]) (xs ++ [x]) (bs ++ b)
 | [], [], _, k => ⟨b, [], e, rfl, by rw [show _ = _ from k]; simp⟩
 | _ :: _, _ :: _, _, ⟨b1, b2, k1, k2, k3⟩ => ⟨b1, b2 ++ b, k1, k2.snoc e, by rw [k3, List.append_assoc]⟩
theorem KidsG.agree (hT : ∀ c x b, T h c x b → (∀ q ∈ b, ∀ o, h q = some o → h' q = some o) → T h' c x b) :
  ∀ {css : List (List Value)} {xs : List α} {bs : List Nat}, KidsG T h css xs bs → (∀ q ∈ bs, ∀ o, h q = some o → h' q = some o) → KidsG T h' css xs bs
 | [], [], _, k, _ => k
 | _ :: _, _ :: _, _, ⟨b1, b2, k1, k2, k3⟩, q => by
  subst k3
  exact ⟨b1, b2, hT _ _ _ k1 fun y hy => q y (List.mem_append_left _ hy), k2.agree hT fun y hy => q y (List.mem_append_right _ hy), rfl⟩
theorem KidsG.allC {G : Js → (Nat → Value) → α → Prop} {sz : Nat} (hT : ∀ c x b, T h c x b → c.length = sz ∧ G h (fun j => c.getD j undef) x) : ∀ {css : List (List Value)} {xs : List α} {bs : List Nat}, KidsG T h css xs bs → AllC G h sz css xs
 | [], [], _, _ => AllC.nil
 | c :: css, x :: xs, _, ⟨b1, b2, k1, k2, _⟩ => by
  have hk := k2.allC hT
  refine ⟨by rw [List.length_cons, List.length_cons, hk.len], fun i c' x' hc hx => ?_⟩
  cases i with
  | zero => cases hc; cases hx; exact hT _ _ _ k1
  | succ i => exact hk.el i c' x' hc hx
theorem KidsG.map {T2 : Js → List Value → α → List Nat → Prop} (hT : ∀ c x b, T h c x b → (∀ q ∈ b, ∀ o, h q = some o → h' q = some o) → T2 h' c x b) :
  ∀ {css : List (List Value)} {xs : List α} {bs : List Nat}, KidsG T h css xs bs → (∀ q ∈ bs, ∀ o, h q = some o → h' q = some o) → KidsG T2 h' css xs bs
 | [], [], _, k, _ => k
 | _ :: _, _ :: _, _, ⟨b1, b2, k1, k2, k3⟩, q => by
  subst k3
  exact ⟨b1, b2, hT _ _ _ k1 fun y hy => q y (List.mem_append_left _ hy), k2.map hT fun y hy => q y (List.mem_append_right _ hy), rfl⟩
theorem KidsG.at : ∀ {css : List (List Value)} {xs : List α} {bs : List Nat} (k : Nat) {c : List Value} {x : α}, KidsG T h css xs bs → css[k]? = some c → xs[k]? = some x → bs.Nodup →
  ∃ b, T h c x b ∧ (∀ q ∈ b, q ∈ bs) ∧ b.Nodup ∧ ∀ (T2 : Js → List Value → α → List Nat → Prop) (h' : Js) (c' : List Value) (x' : α), (∀ c x b, T h c x b → (∀ q ∈ b, ∀ o, h q = some o → h' q = some o) → T2 h' c x b) → (∀ q ∈ bs, q ∉ b → ∀ o, h q = some o → h' q = some o) → T2 h' c' x' b →
   KidsG T2 h' (css.set k c') (xs.set k x') bs
 | [], [], _, _, _, _, _, hc, _, _ => by cases hc
 | [], _ :: _, _, _, _, _, k, _, _, _ => k.elim
 | _ :: _, [], _, _, _, _, k, _, _, _ => k.elim
 | c0 :: css, x0 :: xs, bs, k, c, x, ⟨b1, b2, k1, k2, k3⟩, hc, hx, hn => by
  subst k3
  obtain ⟨n1, n2, n3⟩ := List.nodup_append.1 hn
  cases k with
  | zero =>
   cases hc; cases hx
   refine ⟨b1, k1, fun q hq => List.mem_append_left _ hq, n1, fun T2 h' c' x' hT ha t => ⟨b1, b2, t, k2.map (fun c x b t k => hT c x b t k) fun q hq => ha q (List.mem_append_right _ hq) fun hq1 => n3 q hq1 q hq rfl, rfl⟩⟩
  | succ k =>
   obtain ⟨b, t1, t2, t3, t4⟩ := KidsG.at k k2 hc hx n2
   refine ⟨b, t1, fun q hq => List.mem_append_right _ (t2 q hq), t3, fun T2 h' c' x' hT ha t => ?_⟩
   have g := t4 T2 h' c' x' hT (fun q hq hb => ha q (List.mem_append_right _ hq) hb) t
   exact ⟨b1, b2, hT _ _ _ k1 (fun q hq => ha q (List.mem_append_left _ hq) fun hb => n3 q hq q (t2 q hb) rfl), g, rfl⟩
end
end Go.Lx
namespace Go.Lx
open Go Go.Vc Go.Md
section
variable {P : Program} {cx : Cx} {e : Xc} {L : List Chunk} {ops : Array Oper} {F : Xc → List Chunk → Prop} {rest : List Oper} {ss : List Kd}
def _root_.Go.Vc.Kd.sp (a q i : Nat) (C : Value → Chunk) : Kd := .g [a, q] [i] [i] (fun _ _ v => v = undef) (fun vs _ _ => [C (vs.getD 1 undef)])
theorem Jji {o : Oper} {i a q : Nat} {C : Value → Chunk} (h : Turns P cx e o L i [] (fun _ : Unit => undef) (fun _ => C (e q))) (hw : Xt ops o e = true) (hd : o.dst = none) (k : Sq P cx ops F rest ss e (L.set i (C (e q)))) : Sq P cx ops F (o :: rest) (.sp a q i C :: ss) e L := by
 have hq : C (([a, q].map e).getD 1 undef) = C (e q) := rfl
 refine .take hw ⟨undef, rfl⟩ ⟨fun w L' hF hS hl hi => ?_⟩ fun v' hv' => ?_
 ·refine (h w L' hF hS hl fun j hj => hi j (by simpa [Kd.sp, Kd.rds, Kd.wrs] using hj)).mono fun v w' ⟨x, hv, hF', hS'⟩ => ?_
  subst hv
  exact ⟨rfl, hF', hS'⟩
 ·obtain rfl : v' = undef := hv'
  show Sq P cx ops F rest ss (Jdh e o.dst undef) (L.set i (C (e q)))
  rw [hd]
  exact k
end
end Go.Lx
namespace Go.Lx
open Go Go.Vc Go.Md
section
variable {cx : Cx} {K : Xc → World → Prop} {e : Xc} {L : List Chunk} {base hp hp1 : Js}
end
end Go.Lx

namespace Go.Lx
open Go Go.Vc Go.Md
section plain
variable {P : Program}
def offK (n : Nat) (k : Nat × Nat) : Prop := k.2 ≤ k.1 ∨ n ≤ k.1
theorem Jbv (g o : Nat) (t : TypeId) (k : Nat × Nat) : ∀ (vs : List Value) (i : Nat) (cur : Array Value) (w : World), offK cur.size k → w.heap[g]? = some (.cells cur t k) → o + i + vs.length ≤ cur.size → (∀ v ∈ vs, v.oneCell' = true) →
  (storeCells ⟨g, o, none⟩ vs i).run P w = .ok () (w.setRow g (cur.toList.take (o + i) ++ vs ++ cur.toList.drop (o + i + vs.length)).toArray)
 | [], i, cur, w, _, hg, _, _ => by
  simp only [storeCells, List.append_nil, List.length_nil, Nat.add_zero, List.take_append_drop, Array.toArray_toList]
  rw [setRow_self w g cur t k hg]
  rfl
 | v :: rest, i, cur, w, hk, hg, hl, h1 => by
  have hi : o + i < cur.size := by simp at hl; omega
  have hadd : (⟨g, o, none⟩ : Addr).add i = ⟨g, o + i, none⟩ := by unfold Addr.add; split <;> simp_all
  have hcell : w.cell? ⟨g, o + i, none⟩ = some cur[o + i] := by simp [World.cell?, hg, hi]
  have hfro : w.frozen? ⟨g, o + i, none⟩ = false := by obtain ⟨k0, k1⟩ := k; unfold offK at hk; simp only at hk; simp [World.frozen?, hg]; omega
  have hst : (store ((⟨g, o, none⟩ : Addr).add i) v).run P w = .ok () (w.setRow g (cur.setIfInBounds (o + i) v)) := by
   rw [hadd, run_store P w _ v _ (h1 v (by simp)), hcell]
   simp [hfro, setCell_eq_setRow w g (o + i) cur t k v hg]
  have ih := Jbv g o t k rest (i + 1) (cur.setIfInBounds (o + i) v) (w.setRow g (cur.setIfInBounds (o + i) v)) (by simpa using hk) (setRow_heap w g cur _ t _ hg) (by simp at hl ⊢; omega) (fun x hx => h1 x (by simp [hx]))
  simp only [storeCells, Sem.run_bind, hst, Result.andThen_ok, ih, setRow_setRow]
  congr 3
  have e := list_seg_step cur.toList (o + i) v rest (by simp at hl ⊢; omega)
  simpa [Array.toList_setIfInBounds, Nat.add_assoc] using e
theorem Jii (w : World) (t ty e : TypeId) (i : TypeInfo) (ht : P.underlying t = some (.slice e)) (hi : P.info? e = some i)
  (g sLen sCap : Nat) (cur : Array Value) (k : Nat × Nat) (hk : offK cur.size k) (hg : w.heap[g]? = some (.cells cur e k))
  (a : Addr) (m c : Nat) (news : List Value) (hl : news.length = m * i.size) (hnews : ∀ j u, news[j]? = some u → w.cell? (a.add j) = some u) (h1 : ∀ u ∈ news, u.oneCell' = true)
  (hroom : sLen + m ≤ sCap) (hfit : sLen * i.size + news.length ≤ cur.size) :
  (Builtin.append_ #[t, t] ty #[.slice (some ⟨g, 0, none⟩) sLen sCap, .slice (some a) m c]).run P w =
   .ok (.slice (some ⟨g, 0, none⟩) (sLen + m) sCap) (w.setRow g (cur.toList.take (sLen * i.size) ++ news ++ cur.toList.drop (sLen * i.size + news.length)).toArray) := by
 have hf := run_firstCells_some (P := P) w i.size m a m c news hl hnews
 have hst := Jbv (P := P) g (sLen * i.size) e k news 0 cur w hk hg (by simpa using hfit) h1
 simp only [Nat.add_zero] at hst
 simp [Builtin.append_, run_underlying ht, sizeOf, typeInfo, hi, Builtin.lenOf, hroom, hf, Addr.add_lit, hst]
theorem Jkt (w : World) (dT sT ty elem : TypeId) (g o dLen dCap : Nat) (a : Addr) (sLen sCap : Nat) (cur : Array Value) (t : TypeId) (k : Nat × Nat) (cs : List Value)
  (hu : P.underlying dT = some (.slice elem)) (hs : (P.info? elem).map (·.size) = some 1) (hk : offK cur.size k)
  (hg : w.heap[g]? = some (.cells cur t k)) (hn : cs.length = Nat.min sLen dLen)
  (hsrc : ∀ j v, cs[j]? = some v → w.cell? (a.add j) = some v) (hfit : o + cs.length ≤ cur.size) (h1 : ∀ v ∈ cs, v.oneCell' = true) :
  (Builtin.copy_ #[dT, sT] ty #[.slice (some ⟨g, o, none⟩) dLen dCap, .slice (some a) sLen sCap]).run P w =
   .ok (goInt cs.length) (w.setRow g (cur.toList.take o ++ cs ++ cur.toList.drop (o + cs.length)).toArray) := by
 have hl := run_loadCells_list (P := P) w a cs hsrc
 have hst := Jbv (P := P) g o t k cs 0 cur w hk hg (by simpa using hfit) h1
 cases hq : P.info? elem with
 | none => simp [hq] at hs
 | some i =>
  have hi : i.size = 1 := by simpa [hq] using hs
  simp [Builtin.copy_, run_underlying hu, Builtin.lenOf, Builtin.firstCells, sizeOf, typeInfo, hq, hi, ← hn, hl, hst]
end plain
def rowK (w : World) (E sz : Nat) (v : Value) (n : Nat) (xs : List Value) : Prop :=
 xs.length = n * sz ∧ ((v = .slice none 0 0 ∧ n = 0) ∨ ∃ g cap cur k, v = .slice (some ⟨g, 0, none⟩) n cap ∧ w.heap[g]? = some (.cells cur E k) ∧ offK cur.size k ∧ n ≤ cap ∧ cap ≤ maxLen ∧ cur.size = cap * sz ∧ cur.toList.take (n * sz) = xs)
theorem rowK_of {w : World} {E sz : Nat} {v : Value} {n : Nat} {xs : List Value} (h : w.ownsRow 0 E sz v n xs) : rowK w E sz v n xs := by
 refine ⟨h.1, ?_⟩
 rcases h.2 with h | ⟨g, cap, cur, h1, _, h2, h3⟩
 ·exact .inl h
 ·exact .inr ⟨g, cap, cur, (0, 0), h1, h2, .inl (Nat.le_refl _), h3⟩
def wrC (w : World) (E sz : Nat) (v : Value) (n : Nat) (xs : List (List Value)) : Prop := rowK w E sz v n xs.flatten ∧ xs.length = n ∧ ∀ x ∈ xs, x.length = sz
theorem wrC.mk' {w : World} {E sz : Nat} {v : Value} {n : Nat} {xs : List (List Value)} (h : wrC w E sz v n xs) : v = .slice none 0 0 ∧ n = 0 ∧ xs = [] ∨ ∃ g cap cur k, v = .slice (some ⟨g, 0, none⟩) n cap ∧ w.heap[g]? = some (.cells cur E k) ∧ offK cur.size k ∧ n ≤ cap ∧ cap ≤ maxLen ∧ cur.size = cap * sz ∧ cur.toList.take (n * sz) = xs.flatten := by
 rcases h.1.2 with ⟨h1, h2⟩ | h1
 ·refine .inl ⟨h1, h2, List.eq_nil_of_length_eq_zero (by rw [h.2.1]; exact h2)⟩
 ·exact .inr h1
theorem wrC.frs {w : World} {E sz : Nat} {v : Value} {n : Nat} {xs : List (List Value)} (h : wrC w E sz v n xs) : FrS (fun b => w.heap[b]?) sz v xs := by
 rcases h.mk' with ⟨rfl, _, rfl⟩ | ⟨g, cap, cur, k, rfl, hh, _, hnc, hm, hcs, ht⟩
 ·exact FrS.nil _ _
 obtain ⟨_, hn, hl⟩ := h
 subst hn
 refine ⟨some ⟨g, 0, none⟩, cap, rfl, hnc, by simpa [maxLen] using hm, .inr ⟨g, 0, cur, E, k, rfl, hh, fun i x hx => ⟨hl x (List.mem_of_getElem? hx), fun j v hv => ?_⟩⟩⟩
 have hi : i < xs.length := by
  rcases Nat.lt_or_ge i xs.length with h | h
  ·exact h
  ·rw [List.getElem?_eq_none h] at hx; cases hx
 have hj : j < sz := by
  have := hl x (List.mem_of_getElem? hx)
  rcases Nat.lt_or_ge j x.length with h | h
  ·omega
  ·rw [List.getElem?_eq_none h] at hv; cases hv
 have hr := Jc4 xs i x (List.all_eq_true.2 fun x hx => by simpa using hl x hx) hx j v hv
 rw [← ht, List.getElem?_take] at hr
 split at hr
 ·rw [Nat.zero_add, ← Array.getElem?_toList]; exact hr
 ·cases hr
theorem wrC.lt {w : World} {E sz : Nat} {v : Value} {n : Nat} {xs : List (List Value)} (h : wrC w E sz v n xs) (b : Nat) (hb : v.ownBlock = some b) : b < w.heap.size := by
 rcases h.mk' with ⟨rfl, _, _⟩ | ⟨g, cap, cur, k, rfl, h1, _⟩
 ·simp [Value.ownBlock] at hb
 ·simp [Value.ownBlock] at hb
  subst hb
  exact (Array.getElem?_eq_some_iff.1 h1).1
theorem wrC.slice {w : World} {E sz : Nat} {v : Value} {n : Nat} {xs : List (List Value)} (h : wrC w E sz v n xs) : ∃ p : Option Addr × Nat, v = .slice p.1 n p.2 := by
 rcases h.mk' with ⟨rfl, rfl, _⟩ | ⟨g, cap, cur, k, rfl, _⟩
 ·exact ⟨(none, 0), rfl⟩
 ·exact ⟨(some ⟨g, 0, none⟩, cap), rfl⟩
def wrV (E : TypeId) (sz : Nat) (v : Value) (n : Nat) (xs : List (List Value)) : Chunk where
 P S w := wrC w E sz v n xs ∧ ∀ b, v.ownBlock = some b → S b
 loc S w w' h := by
  rintro ⟨⟨⟨h1, h2⟩, h3⟩, h4⟩
  refine ⟨⟨⟨h1, ?_⟩, h3⟩, h4⟩
  rcases h2 with h2 | ⟨g, cap, cur, k, rfl, hh, hr⟩
  ·exact .inl h2
  ·exact .inr ⟨g, cap, cur, k, rfl, (h g (h4 g rfl)).trans hh, hr⟩
theorem imp_wr (E sz : Nat) (v : Value) (n : Nat) (xs : List (List Value)) : Imp (Ju E sz v n xs) (wrV E sz v n xs) := ⟨fun _ _ ⟨⟨h1, h2⟩, h3⟩ => ⟨⟨rowK_of h1, h2⟩, h3⟩⟩
theorem turn_wr {w w' : World} {E sz m' : Nat} {v v' : Value} {xs' : List (List Value)} {S : Nat → Prop} (hS : ∀ b, v.ownBlock = some b → S b) (ho : wrC w' E sz v' m' xs') (hg : w.grownBy w' v.ownBlock)
  (h5 : v'.ownBlock = v.ownBlock ∨ v'.ownBlock = some w.heap.size) : Turn w w' S (wrV E sz v' m' xs') := by
 refine ⟨hg.os, hg.tape, hg.output, hg.size, fun b hb hn => hg.block b hb (fun h => hn (hS b h.symm)), fun b => v'.ownBlock = some b, ⟨ho, fun b h => h⟩, fun b hb => ⟨ho.lt b hb, ?_⟩⟩
 rcases h5 with h | h
 ·exact .inl (hS b (h ▸ hb))
 ·rw [h] at hb; cases hb; exact .inr (Nat.le_refl _)
section rules
variable {P : Program} {n : Nat} {cx : Cx} {e : Xc} {L : List Chunk} {d : Nat} {ty : TypeId} {pos : String} {af : Array Edge} {g : Option (Nat × Bool)}
theorem wrOf {w : World} {i E sz m c : Nat} {a : Option Addr} {xs : List (List Value)} (hS : Sat cx w L) (hL : L[i]? = some (wrV E sz (.slice a m c) m xs)) : Row w a sz xs := by
 obtain ⟨S, ⟨h, _⟩, _⟩ := hS.at hL
 obtain ⟨a', c', h0, _, _, r⟩ := h.frs.out
 simp only [Value.slice.injEq] at h0
 obtain ⟨rfl, _, rfl⟩ := h0
 exact r.row fun b o h => h
theorem wr_full {w : World} {i E sz m c : Nat} {a : Option Addr} {xs : List (List Value)} (hS : Sat cx w L) (hL : L[i]? = some (wrV E sz (.slice a m c) m xs)) : m ≤ c := by
 obtain ⟨S, ⟨h, _⟩, _⟩ := hS.at hL
 obtain ⟨a', c', h0, h1, _, _⟩ := h.frs.out
 simp only [Value.slice.injEq] at h0
 rw [h.2.1] at h1
 omega
theorem app_wr {w : World} {t E sz by_ : Nat} {I : TypeInfo} {z : Value} {v : Value} {m q c : Nat} {xs news : List (List Value)} {a : Option Addr} (ht : P.underlying t = some (.slice E)) (hi : P.info? E = some I) (hz : I.zero = some z) (hsize : I.size = sz) (hby : I.bytes = by_) (hzs : z.cells.size = sz) (hsz : 0 < sz)
  (hc : wrC w E sz v m xs) (hq : news.length = q) (hnl : ∀ x ∈ news, x.length = sz) (hR : Row w a sz news) (h1 : ∀ x ∈ news, ∀ u ∈ x, u.oneCell' = true) (h63 : m + q ≤ maxLen) (hbytes : (m + q) * by_ ≤ 140739635838976) (hy : by_ ≤ 1048576) :
  ∃ v' w', (Builtin.append_ #[t, t] ty #[v, .slice a q c]).run P w = .ok v' w' ∧ wrC w' E sz v' (m + q) (xs ++ news) ∧ w.grownBy w' v.ownBlock ∧ (v'.ownBlock = v.ownBlock ∨ v'.ownBlock = some w.heap.size) := by
 have same : w.grownBy w v.ownBlock := ⟨rfl, rfl, rfl, Nat.le_refl _, fun _ _ _ => rfl⟩
 have hfl : news.flatten.length = q * sz := by rw [Zd news hnl, hq]
 have hone : ∀ u ∈ news.flatten, u.oneCell' = true := by
  intro u hu
  obtain ⟨x, hx, hux⟩ := List.mem_flatten.1 hu
  exact h1 x hx u hux
 obtain ⟨hc1, hc2, hc3⟩ := hc
 have lens : (xs ++ news).length = m + q ∧ ∀ x ∈ xs ++ news, x.length = sz := ⟨by simp [hc2, hq], fun x hx => (List.mem_append.1 hx).elim (hc3 x) (hnl x)⟩
 rcases hc1.2 with ⟨rfl, h0⟩ | ⟨g', cap, cur, k, rfl, hg, hk, hnc, hcm, hcs, htake⟩
 ·have hx0 : xs = [] := List.eq_nil_of_length_eq_zero (by rw [hc2]; exact h0)
  have ho : w.ownsRow 0 E sz (.slice none 0 0) m xs.flatten := ⟨hc1.1, .inl ⟨rfl, h0⟩⟩
  by_cases hq0 : q = 0
  ·have hn0 : news = [] := List.eq_nil_of_length_eq_zero (by omega)
   subst hn0 hx0 hq0 h0
   refine ⟨.slice none 0 0, w, ?_, ⟨⟨by simp, .inl ⟨rfl, rfl⟩⟩, rfl, fun x hx => by cases hx⟩, same, .inl rfl⟩
   cases a <;> simp [Builtin.append_, run_underlying ht, sizeOf, typeInfo, hi, Builtin.lenOf, Builtin.firstCells, loadCells, loadCellsFrom, storeCells]
  ·cases a with
   | none =>
    rcases hR with h | ⟨b, off, h, _⟩
    ·subst h; exact absurd hq.symm hq0
    ·cases h
   | some ad =>
    obtain ⟨v', w', hr, h2, h3, h5⟩ := app_own (P := P) (ty := ty) (c := c) ht hi hz hsize hby hzs ho (by omega) hfl (Jew hnl hR) hone h63 hbytes hy
    exact ⟨v', w', hr, ⟨rowK_of (by rw [List.flatten_append]; exact h2), lens⟩, h3, h5⟩
 ·have hxf : xs.flatten.length = m * sz := by rw [Zd xs hc3, hc2]
  by_cases hq0 : q = 0
  ·subst hq0
   have hn0 : news = [] := List.eq_nil_of_length_eq_zero hq
   subst hn0
   refine ⟨.slice (some ⟨g', 0, none⟩) m cap, w, ?_, ⟨⟨by rw [Zd _ lens.2, lens.1], .inr ⟨g', cap, cur, k, rfl, hg, hk, hnc, hcm, hcs, by simpa using htake⟩⟩, lens⟩, same, .inl rfl⟩
   cases a <;> simp [Builtin.append_, run_underlying ht, sizeOf, typeInfo, hi, Builtin.lenOf, Builtin.firstCells, loadCells, loadCellsFrom, hnc, storeCells]
  ·cases a with
   | none =>
    rcases hR with h | ⟨b, off, h, _⟩
    ·subst h; exact absurd hq.symm hq0
    ·cases h
   | some ad =>
    have hcell := Jew hnl hR
    subst hsize hby
    by_cases hroom : m + q ≤ cap
    ·have hfit : m * I.size + news.flatten.length ≤ cur.size := by rw [hfl, hcs, ← Nat.add_mul]; exact Nat.mul_le_mul_right _ hroom
     have hr := Jii (P := P) w t ty E I ht hi g' m cap cur k hk hg ad q c news.flatten hfl hcell hone hroom hfit
     refine ⟨_, _, hr, ⟨⟨by rw [Zd _ lens.2, lens.1], .inr ⟨g', cap, _, k, rfl, setRow_heap w g' cur _ E _ hg, ?_, hroom, hcm, ?_, ?_⟩⟩, lens⟩, ⟨rfl, rfl, rfl, by simp, fun k _ hk => setRow_other w g' k _ (fun e => hk (by simp [Value.ownBlock, e]))⟩, .inl rfl⟩
     ·have e_ : ∀ n, n = cur.size → offK n k := fun n h => h ▸ hk
      refine e_ _ ?_
      simp only [List.size_toArray, List.length_append, List.length_take, List.length_drop, Array.length_toList]
      omega
     ·simp only [List.size_toArray, List.length_append, List.length_take, List.length_drop, Array.length_toList]
      omega
     ·rw [htake, List.flatten_append, Nat.add_mul, ← hxf, ← hfl, ← List.length_append]
      exact List.take_left
    ·have hm63 : m + q ≤ 9223372036854775807 := by simpa [maxLen] using h63
     have hold : ∀ j u, xs.flatten[j]? = some u → w.cell? ((⟨g', 0, none⟩ : Addr).add j) = some u := by
      intro j u hj
      rw [← htake, List.getElem?_take] at hj
      split at hj
      ·rw [Addr.add_lit]; simp only [World.cell?, hg, Nat.zero_add]; rw [← Array.getElem?_toList]; exact hj
      ·cases hj
     have hr := run_append_grow (P := P) w t ty E I z ht hi hz ⟨g', 0, none⟩ m cap xs.flatten hxf hold ad q c news.flatten hfl hcell (by omega) (by omega) (fits2 (by omega) hbytes hy)
     refine ⟨_, _, hr, ⟨rowK_of ?_, lens⟩, Je5 _ _ _, .inr rfl⟩
     rw [List.flatten_append]
     exact Jcv hzs (by rw [List.length_append, hxf, hfl, Nat.add_mul]) h63
theorem Ut {α : Type} {f : α → List Value} {ys ls zs : List α} {i : Nat} {S X : Operand} {t E : TypeId} {I : TypeInfo} {z : Value} {sz by_ : Nat} {p : Option Addr × Nat} {rds : List Nat} {V : Value} {a : Option Addr} {c m q : Nat} (hn : m = ys.length)
  (ht : P.underlying t = some (.slice E)) (hi : P.info? E = some I) (hz : I.zero = some z) (hsize : I.size = sz) (hby : I.bytes = by_) (hzs : z.cells.size = sz) (hsz : (Nat.blt 0 sz && Nat.ble by_ 1048576) = true)
  (hL : L[i]? = some (wrV E sz (.slice p.1 m p.2) m (ys.map f))) (hs : ev e S = .slice p.1 m p.2) (hx : ev e X = V) (hV : V = .slice a q c) (hq : q = ls.length)
  (hnews : ∀ w L', Fr cx w → Sat cx w L' → (∀ j, j ∈ rds → L'[j]? = L[j]?) → Row w a sz (ls.map f)) (hf : ∀ x, (f x).length = sz) (h1 : ∀ x, (f x).all Value.oneCell' = true) (hg : Xk by_ ys ls = some zs) :
  Turns P cx e ⟨some d, .call ⟨.builtin .append, #[S, X], #[t, t]⟩, ty, pos, af, g⟩ L i rds (fun p' : Option Addr × Nat => .slice p'.1 zs.length p'.2) (fun p' => wrV E sz (.slice p'.1 zs.length p'.2) zs.length (zs.map f)) := fun w L' hF hS hl hi' => by
 subst hn hq
 obtain ⟨rfl, hb1, hb2⟩ := Uj hg
 rw [List.length_append, List.map_append]
 have hL' := (hi' i (.inr rfl)).trans hL
 obtain ⟨S0, ⟨hc, _⟩, _⟩ := hS.at hL'
 obtain ⟨v', w', hr, h2, h3, h5⟩ := app_wr (P := P) (ty := ty) (c := c) ht hi hz hsize hby hzs (by simp at hsz; exact hsz.1) hc (List.length_map _) (fun x hx => by
   obtain ⟨y, _, rfl⟩ := List.mem_map.1 hx; exact hf y) (hnews w L' hF hS fun j hj => hi' j (.inl hj)) (fun x hx u hu => by
   obtain ⟨y, _, rfl⟩ := List.mem_map.1 hx; exact List.all_eq_true.1 (h1 y) u hu) (by simp only [maxLen]; omega) (by omega) (by simp at hsz; exact hsz.2)
 obtain ⟨p', rfl⟩ := h2.slice
 obtain ⟨hF', hS'⟩ := hS.turnOf hF hL' (C := wrV E sz (.slice p'.1 (ys.length + ls.length) p'.2) (ys.length + ls.length) (ys.map f ++ ls.map f)) fun S1 hp => turn_wr hp.2 h2 h3 h5
 have he : (execOp (ev e) ⟨some d, .call ⟨.builtin .append, #[S, X], #[t, t]⟩, ty, pos, af, g⟩).run P w = .ok (.value (.slice p'.1 (ys.length + ls.length) p'.2)) w' := by
  simp only [execOp, resolve, invoke, builtin, Sem.run_bind, Sem.run_pure, Result.andThen_ok, List.map_toArray, List.map_cons, List.map_nil, hs, hx, hV, hr]
 unfold RunsTo
 rw [he]
 exact ⟨p', rfl, hF', hS'⟩
theorem offOfW {w : World} {i E sz n c : Nat} {a : Option Addr} {xs : List (List Value)} (hS : Sat cx w L) (hL : L[i]? = some (wrV E sz (.slice a n c) n xs)) : Row w a sz xs := wrOf hS hL
theorem capOfW {w : World} {i E sz n c : Nat} {a : Option Addr} {xs : List (List Value)} (hS : Sat cx w L) (hL : L[i]? = some (wrV E sz (.slice a n c) n xs)) : n ≤ c := wr_full hS hL
theorem makes_bytesW {f : Int → List Value} {X : Operand} {src dst E : TypeId} {s : List UInt8} {rds : List Nat} (hs : P.underlying src = some .string) (hd : P.underlying dst = some (.slice E)) (he : P.underlying E = some (.int .u8)) (hx : ev e X = str s) (hf : ∀ x, f x = [.int .u8 x]) (hl : s.length ≤ 9223372036854775807) :
  Jhl P cx e ⟨some d, .convert src dst X, ty, pos, af, g⟩ L rds (fun p : Option Addr × Nat => .slice p.1 (Jv s).length p.2) (fun p => wrV E 1 (.slice p.1 (Jv s).length p.2) (Jv s).length ((Jv s).map f)) := fun w L' hF hS hi' => by
 have hr := Lib.run_convert_string_bytes (P := P) w src dst E ⟨s.toArray⟩ hs hd he
 have hsz : (⟨s.toArray⟩ : ByteArray).size = s.length := Ji5 s
 have hlen : (Jv s).length = s.length := by unfold Jv; simp
 have hcs : (Lib.bytesCells w E ⟨s.toArray⟩).size = grownCap w s.length 0 E := by
  have := grownCap_ge w s.length 0 E
  unfold Lib.bytesCells
  rw [hsz]; simp; omega
 have hx' : (execOp (ev e) ⟨some d, .convert src dst X, ty, pos, af, g⟩).run P w = .ok (.value (.slice (some ⟨w.heap.size, 0, none⟩) s.length (grownCap w s.length 0 E))) (Lib.bytesWorld w E ⟨s.toArray⟩) := by
  have hr' : (convert src dst (str s)).run P w = .ok (.slice (some ⟨w.heap.size, 0, none⟩) s.length (grownCap w s.length 0 E)) (Lib.bytesWorld w E ⟨s.toArray⟩) := by
   rw [hsz] at hr; exact hr
  simp only [execOp, Sem.run_bind, hx, hr', Result.andThen_ok, Sem.run_pure]
 unfold RunsTo
 rw [hx']
 refine ⟨(some ⟨w.heap.size, 0, none⟩, grownCap w s.length 0 E), by rw [hlen], ?_⟩
 have hsize := Lib.bytesWorld_size w E ⟨s.toArray⟩
 rw [hlen]
 refine ⟨by simp [Lib.bytesWorld, World.freeze, World.alloc, World.drew, -World.alloc_eq, -World.drew_eq], by simp [Lib.bytesWorld, World.freeze, World.alloc, World.drew, -World.alloc_eq, -World.drew_eq], by simp [Lib.bytesWorld, World.freeze, World.alloc, World.drew, -World.alloc_eq, -World.drew_eq], by rw [hsize]; omega, fun b hb _ => Lib.bytesWorld_at_old w E _ b hb, fun b => b = w.heap.size, ⟨⟨⟨by rw [Jgl (fun x => by rw [hf]; rfl), hlen, Nat.mul_one], .inr ?_⟩, by rw [List.length_map, hlen], fun x hx' => ?_⟩, fun b hb => ?_⟩, fun b hb => ?_⟩
 ·refine ⟨w.heap.size, _, _, _, rfl, Lib.bytesWorld_at_new w E ⟨s.toArray⟩, .inr (Nat.le_refl _), grownCap_ge w _ 0 E, grownCap_le_maxLen w _ 0 E (by simp only [maxLen]; exact hl), by rw [hcs, Nat.mul_one], ?_⟩
  rw [bytes_flat hf, Nat.mul_one]
  unfold Lib.bytesCells
  simp
 ·obtain ⟨y, _, rfl⟩ := List.mem_map.1 hx'
  rw [hf]; rfl
 ·simp [Value.ownBlock] at hb; exact hb.symm
 ·subst hb
  exact ⟨by rw [hsize]; omega, .inr (Nat.le_refl _)⟩
theorem Jjt {f : Int → List Value} {X : Operand} {src dst E : TypeId} {s : List UInt8} {xs : List Int} {rds : List Nat} (hs : P.underlying src = some .string) (hd : P.underlying dst = some (.slice E)) (he : P.underlying E = some (.int .u8)) (hx : ev e X = str s) (hf : ∀ x, f x = [.int .u8 x]) (hg : gByt s = some xs) :
  Jhl P cx e ⟨some d, .convert src dst X, ty, pos, af, g⟩ L rds (fun p : Option Addr × Nat => .slice p.1 xs.length p.2) (fun p => wrV E 1 (.slice p.1 xs.length p.2) xs.length (xs.map f)) := by
 obtain ⟨rfl, hl⟩ := gByt_some hg
 exact makes_bytesW hs hd he hx hf hl
theorem run_copyW {α : Type} {f : α → List Value} {xs ts ys : List α} {t u E m q c cd : Nat} {p : Option Addr × Nat} {a : Option Addr} {lo hi : Int} {w : World} {D X : Operand} (hm : m = xs.length) (ht : P.underlying t = some (.slice E)) (hi1 : (P.info? E).map (·.size) = some 1)
  (ho : rowK w E 1 (.slice p.1 m p.2) m (xs.map f).flatten) (hd : ev e D = .slice (Ya p.1 lo.toNat p.2 1) ts.length cd) (hcut : Yw xs lo hi = some ts)
  (hx : ev e X = .slice a q c) (hq : q = ys.length) (hR : Row w a 1 (ys.map f)) (hf : ∀ x, (f x).length = 1) (h1 : ∀ x, (f x).all Value.oneCell' = true) :
  ∃ w', (execOp (ev e) ⟨d, .call ⟨.builtin .copy, #[D, X], #[t, u]⟩, ty, pos, af, g⟩).run P w = .ok (.value (.int .i64 (min ts.length ys.length : Nat))) w' ∧ rowK w' E 1 (.slice p.1 m p.2) m ((cpyL xs lo ts.length ys).map f).flatten ∧ w.grownBy w' (Value.slice p.1 m p.2).ownBlock := by
 subst hm hq
 obtain ⟨g0, g1, g2, hts⟩ := Zg hcut
 have htl : ts.length = hi.toNat - lo.toNat := Jd5 hcut
 by_cases h0 : min ts.length ys.length = 0
 ·have hc : cpyL xs lo ts.length ys = xs := by
   unfold cpyL
   have h2 : ys.take ts.length = [] := by
    apply List.eq_nil_of_length_eq_zero; rw [List.length_take]; exact h0
   rw [h2, h0, List.nil_append, Nat.add_zero, List.take_append_drop]
  refine ⟨w, ?_, by rw [hc]; exact ho, ⟨rfl, rfl, rfl, Nat.le_refl _, fun _ _ _ => rfl⟩⟩
  have hrun := run_copy_none (P := P) w t u ty E (Ya p.1 lo.toNat p.2 1) a ts.length cd ys.length c ht hi1 (by show min ys.length ts.length = 0; omega)
  simp only [execOp, resolve, invoke, builtin, Sem.run_bind, Sem.run_pure, Result.andThen_ok, List.map_toArray, List.map_cons, List.map_nil, hd, hx, hrun, h0]
  rfl
 ·have hxs : 0 < xs.length := by omega
  rcases ho.2 with ⟨_, hz⟩ | ⟨g0', cap, cur, kk, hv0, hh, hkk, hnc, hcm, hcs, htk⟩
  ·omega
  ·simp only [Value.slice.injEq] at hv0
   obtain ⟨hp1, _, rfl⟩ := hv0
   have hcut' : Ya p.1 lo.toNat p.2 1 = some ⟨g0', lo.toNat, none⟩ := by
    rw [hp1]; unfold Ya
    rw [if_neg (by omega)]; simp [Addr.add_lit]
   rcases hR with hR | ⟨b, off, rfl, hR⟩
   ·have : ys.length = 0 := by simpa using congrArg List.length hR
    omega
   ·let k := min ts.length ys.length
    have hcsl : (((ys.take k).map f).flatten).length = k := by
     rw [Jgl hf, List.length_take]; omega
    have hone : ∀ v ∈ ((ys.take k).map f).flatten, v.oneCell' = true := by
     intro v hv
     rw [List.mem_flatten] at hv
     obtain ⟨l, hl, hv⟩ := hv
     obtain ⟨y, _, rfl⟩ := List.mem_map.1 hl
     exact List.all_eq_true.1 (h1 y) v hv
    have hlen : ∀ x ∈ ys.map f, x.length = 1 := fun x hx => by
     obtain ⟨y, _, rfl⟩ := List.mem_map.1 hx; exact hf y
    have hsrc : ∀ j v, (((ys.take k).map f).flatten)[j]? = some v → w.cell? ((⟨b, off, none⟩ : Addr).add j) = some v := by
     intro j v hj
     rw [← Jg2 hf, List.getElem?_take] at hj
     split at hj
     ·obtain ⟨i, q, x, hx, hq, rfl⟩ := Jgc _ hlen j v hj
      have := (hR i x hx).2 q v hq
      rw [Addr.add_lit, ← Nat.add_assoc]; exact this
     ·cases hj
    have hcur : cur.size = p.2 := by omega
    have hfit : lo.toNat + (((ys.take k).map f).flatten).length ≤ cur.size := by rw [hcsl]; omega
    have hrun := Jkt (P := P) w t u ty E g0' lo.toNat ts.length cd ⟨b, off, none⟩ ys.length c cur E kk _ ht hi1 hkk hh (by rw [hcsl]; show k = min ys.length ts.length; omega) hsrc hfit hone
    let new : Array Value := (cur.toList.take lo.toNat ++ ((ys.take k).map f).flatten ++ cur.toList.drop (lo.toNat + (((ys.take k).map f).flatten).length)).toArray
    refine ⟨w.setRow g0' new, ?_, ⟨?_, .inr ⟨g0', p.2, new, kk, by rw [hp1], setRow_heap w g0' cur new E kk hh, ?_, hnc, hcm, ?_, ?_⟩⟩, ⟨rfl, rfl, rfl, by simp, fun b' _ hb => setRow_other w g0' b' _ (fun e => hb (by simp [Value.ownBlock, hp1, e]))⟩⟩
    ·simp only [execOp, resolve, invoke, builtin, Sem.run_bind, Sem.run_pure, Result.andThen_ok, List.map_toArray, List.map_cons, List.map_nil, hd, hx, hcut', hrun, new, hcsl]
     rfl
    ·rw [Jgl hf, Jjq (by omega)]; omega
    ·have e_ : ∀ n, n = cur.size → offK n kk := fun n h => h ▸ hkk
     refine e_ _ ?_
     simp only [new, List.size_toArray, List.length_append, List.length_take, List.length_drop, Array.length_toList, hcsl]
     omega
    ·simp only [new, List.size_toArray, List.length_append, List.length_take, List.length_drop, Array.length_toList, hcsl]
     omega
    ·simp only [new]
     rw [List.toList_toArray, hcsl]
     rw [Nat.mul_one] at htk ⊢
     have e1 : cur.toList = ((xs.map f).flatten) ++ cur.toList.drop xs.length := by rw [← htk, List.take_append_drop]
     have hcl : ((xs.map f).flatten).length = xs.length := Jgl hf xs
     have e2 : (cpyL xs lo ts.length ys).map f = (xs.take lo.toNat).map f ++ ((ys.take k).map f ++ (xs.drop (lo.toNat + k)).map f) := by
      unfold cpyL
      have : ys.take ts.length = ys.take k := by
       rcases Nat.le_total ts.length ys.length with h | h
       ·show _ = ys.take (min ts.length ys.length); rw [Nat.min_eq_left h]
       ·show _ = ys.take (min ts.length ys.length); rw [Nat.min_eq_right h, List.take_of_length_le h, List.take_of_length_le (Nat.le_refl _)]
      rw [this, List.map_append, List.map_append]
     rw [e2, List.flatten_append, List.flatten_append, ← Jg2 hf xs, ← Jkk hf xs]
     generalize hX : (xs.map f).flatten = X at *
     generalize hY : ((ys.take k).map f).flatten = Y at *
     have hlo : lo.toNat + k ≤ xs.length := by show lo.toNat + min ts.length ys.length ≤ _; omega
     have e3 : cur.toList.take lo.toNat = X.take lo.toNat := by
      rw [e1, List.take_append_of_le_length (by omega)]
     have e4 : cur.toList.drop (lo.toNat + k) = X.drop (lo.toNat + k) ++ cur.toList.drop xs.length := by
      conv => lhs; rw [e1]
      rw [List.drop_append_of_le_length (by omega)]
     rw [e3, e4, List.append_assoc, ← List.append_assoc, ← List.append_assoc]
     rw [List.take_append_of_le_length, List.take_of_length_le]
     ·rw [List.append_assoc]
     ·simp only [List.length_append, List.length_take, List.length_drop]; omega
     ·simp only [List.length_append, List.length_take, List.length_drop]; omega
theorem Jiw {α : Type} {f : α → List Value} {xs ts ys : List α} {i t u E m q c cd : Nat} {p : Option Addr × Nat} {a : Option Addr} {lo hi : Int} {D X : Operand} {rds : List Nat} (hm : m = xs.length) (ht : P.underlying t = some (.slice E)) (hi1 : (P.info? E).map (·.size) = some 1)
  (hL : L[i]? = some (wrV E 1 (.slice p.1 m p.2) m (xs.map f))) (hd : ev e D = .slice (Ya p.1 lo.toNat p.2 1) ts.length cd) (hcut : Yw xs lo hi = some ts)
  (hx : ev e X = .slice a q c) (hq : q = ys.length) (hnews : ∀ w L', Fr cx w → Sat cx w L' → (∀ j, j ∈ rds → L'[j]? = L[j]?) → Row w a 1 (ys.map f)) (hf : ∀ x, (f x).length = 1) (h1 : ∀ x, (f x).all Value.oneCell' = true) :
  Turns P cx e ⟨d, .call ⟨.builtin .copy, #[D, X], #[t, u]⟩, ty, pos, af, g⟩ L i rds (fun _ : Unit => .int .i64 (min ts.length ys.length : Nat)) (fun _ => wrV E 1 (.slice p.1 m p.2) m ((cpyL xs lo ts.length ys).map f)) := by
 intro w L' hF hS hl hi'
 have hL' := (hi' i (.inr rfl)).trans hL
 obtain ⟨S0, ⟨⟨ho, hlen, hlx⟩, hob⟩, _⟩ := hS.at hL'
 obtain ⟨w', hr, h2, h3⟩ := run_copyW (P := P) (d := d) (ty := ty) (pos := pos) (af := af) (g := g) (u := u) hm ht hi1 ho hd hcut hx hq (hnews w L' hF hS fun j hj => hi' j (.inl hj)) hf h1
 obtain ⟨g0, g1, g2, hts⟩ := Zg hcut
 have htl : ts.length = hi.toNat - lo.toNat := Jd5 hcut
 obtain ⟨hF', hS'⟩ := hS.turnOf hF hL' (C := wrV E 1 (.slice p.1 m p.2) m ((cpyL xs lo ts.length ys).map f)) fun S1 hp => turn_wr hp.2 ⟨h2, by rw [List.length_map, Jjq (by omega)]; exact hm.symm, by
  intro z hz
  obtain ⟨y, _, rfl⟩ := List.mem_map.1 hz; exact hf y⟩ h3 (.inl rfl)
 unfold RunsTo
 rw [hr]
 exact ⟨(), rfl, hF', hS'⟩
variable {ops : Array Oper} {F : Xc → List Chunk → Prop} {rest : List Oper} {ss : List Kd}
end rules
end Go.Lx
