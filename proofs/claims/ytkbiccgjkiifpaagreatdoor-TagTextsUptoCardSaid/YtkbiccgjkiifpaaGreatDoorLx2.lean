/- More rules for walks that are led by a model: kinds of numbers, shifts, arrays, stores, appends, several results. Conditions: none. -/
import Derived.Test.YtkbiccgjkiifpaaGreatDoorMd
import Derived.Lib.AppendStr
import Derived.Laws.BytesString
import Derived.Laws.RangeString
import Derived.Laws.CopyRow
import Derived.Laws.IdiomCopy
import Derived.Lib.UnsafeStr
import Derived.Lib.Builder
import Derived.Laws.Pointers
import Derived.Lib.AppendZeros
import Derived.Shelf.Sort.Plain
import Derived.Shelf.Slices.In.SortNone
import Derived.Sort.OwnSortedInts
import Derived.Lib.Bytealg
import Derived.Lib.SmallJoins
import Derived.Lib.AppendIntMem
import Derived.Shelf.Strconv.Itoa3
import Derived.Shelf.Strconv.Atoi
import Derived.Shelf.Strings.Repeat
import Derived.Shelf.Strings.OnBuilder
import Derived.Shelf.Slices.CompactS
import Derived.Sort.OwnSorted
import Derived.Lib.ConvBytes
import Derived.Maps.RangeRun
import Derived.Shelf.Slices.CompactI
import Derived.Shelf.SlSortCmp.WholeK
import Derived.Shelf.SlSortCmp.NoneTotal
import Derived.ArgAppend
import Derived.LoopN
import Derived.Lib.Overlaps
set_option linter.unusedVariables false
namespace Go.Lx
open Go Go.Vc Go.Md
theorem Jg8 (x : Int) : IntKind.u8.wrap x = wU8 x := by simp [IntKind.wrap, IntKind.bits, IntKind.signed, wU8]
theorem wr_i32 (x : Int) : IntKind.i32.wrap x = wI32 x := by simp [IntKind.wrap, IntKind.bits, IntKind.signed, wI32]
theorem wr_i64 (x : Int) : IntKind.i64.wrap x = wI64 x := by simp [IntKind.wrap, IntKind.bits, IntKind.signed, wI64]
theorem gK_i32 {x y : Int} (h : gK (-2147483648) 2147483647 x = some y) : IntKind.i32.wrap x = y := by obtain ⟨rfl, h⟩ := gK_some h; rw [wr_i32]; unfold wI32; split <;> omega
section ops
variable {P : Program} {e : Xl} {d : Option Nat} {ty : TypeId} {pos : String} {af : Array Edge} {g : Option (Nat × Bool)}
section bin
variable {X Y : Operand} {x y z u : Int} {t t' : TypeId} {kd k2 : IntKind} {bits : Nat}
theorem r_addW (hx : ev e X = .int kd x) (hy : ev e Y = .int kd y) (h : kd.wrap (x + y) = z) (w : World) :
  (execOp (ev e) ⟨d, .binOp .add t X Y t', ty, pos, af, g⟩).run P w = .ok (.value (.int kd z)) w :=
 Jez hx hy (fun w => by simp [binOp, Op.intArith, h]) w
theorem r_bin2 {op : BinOp} {v : Value} (hx : ev e X = .int kd x) (hy : ev e Y = .int k2 y) (hg : ∀ w, (eqGuard op t X Y (.int kd x) (.int k2 y)).run P w = .ok () w)
  (hr : ∀ w, (binOp op t (.int kd x) (.int k2 y)).run P w = .ok v w) (w : World) :
  (execOp (ev e) ⟨d, .binOp op t X Y t', ty, pos, af, g⟩).run P w = .ok (.value v) w := by
 simp [execOp, hx, hy, hg, hr]
theorem r_shlG (hx : ev e X = .int .i64 x) (hy : ev e Y = .int k2 y) (h : gShl x y = some z) (w : World) :
  (execOp (ev e) ⟨d, .binOp .shl t X Y t', ty, pos, af, g⟩).run P w = .ok (.value (.int .i64 z)) w := by
 obtain ⟨h0, h1, rfl, hb⟩ := gShl_some h
 refine r_bin2 hx hy (fun w => rfl) (fun w => ?_) w
 have h2 : min y.toNat IntKind.i64.bits = y.toNat := by show min y.toNat 64 = y.toNat; omega
 have hn : ¬ y < 0 := by omega
 rw [binOp_shl]
 unfold Op.shift
 rw [if_neg hn]
 simp only [h2, IntWalk.i64_in _ hb, Sem.run_pure]
theorem r_shrG (hx : ev e X = .int kd x) (hy : ev e Y = .int k2 y) (hbits : kd.bits = bits) (h : gShr bits x y = some z) (w : World) :
  (execOp (ev e) ⟨d, .binOp .shr t X Y t', ty, pos, af, g⟩).run P w = .ok (.value (.int kd z)) w := by
 subst hbits
 unfold gShr at h; split at h
 ·cases h
  refine r_bin2 hx hy (fun w => rfl) (fun w => ?_) w
  have hf : x.fdiv (2 ^ min y.toNat kd.bits) = x / 2 ^ min y.toNat kd.bits := Int.fdiv_eq_ediv_of_nonneg _ (Int.pow_nonneg (by omega))
  have hn : ¬ y < 0 := by omega
  rw [show binOp .shr t (.int kd x) (.int k2 y) = Op.shift .shr kd x k2 y from rfl]
  unfold Op.shift
  rw [if_neg hn]
  simp only [hf, Sem.run_pure]
 ·cases h
theorem Jgu (hx : ev e X = .int kd x) (hy : ev e Y = .int kd y) (hbits : kd.bits = bits) (hw : kd.wrap (bAnd bits x y) = z) (w : World) :
  (execOp (ev e) ⟨d, .binOp .and t X Y t', ty, pos, af, g⟩).run P w = .ok (.value (.int kd z)) w := by
 subst hbits hw
 exact Jez hx hy (fun w => by rw [binOp_and]; rfl) w
theorem r_bitsOr (hx : ev e X = .int kd x) (hy : ev e Y = .int kd y) (hbits : kd.bits = bits) (hw : kd.wrap (bOr bits x y) = z) (w : World) :
  (execOp (ev e) ⟨d, .binOp .or t X Y t', ty, pos, af, g⟩).run P w = .ok (.value (.int kd z)) w := by
 subst hbits hw
 exact Jez hx hy (fun w => by rw [binOp_or]; rfl) w
end bin
theorem Jfm {X : Operand} {s t : TypeId} {k0 k1 : IntKind} {x y : Int} {su : TypeDesc} (hs : ∀ w, (underlying s).run P w = .ok su w) (ht : ∀ w, (underlying t).run P w = .ok (.int k1) w)
  (hx : ev e X = .int k0 x) (hr : k1.wrap x = y) (w : World) :
  (execOp (ev e) ⟨d, .convert s t X, ty, pos, af, g⟩).run P w = .ok (.value (.int k1 y)) w := by
 subst hr
 simp [execOp, hx, convert, hs, ht, Conv.intToInt]
theorem Jir (w : World) (d t : Nat) (a b : List UInt8) (h : P.underlying t = some .string) : (Op.equalIn (d + 1) t (str a) (str b)).run P w = .ok (decide (a = b)) w := by
 rw [run_equalIn_string (h := h)]
 have : ((ByteArray.mk a.toArray).toList == (ByteArray.mk b.toArray).toList) = decide (a = b) := by
  rw [Jkd, Jkd, Bool.eq_iff_iff]; simp
 rw [this]
theorem r_indexS {X I : Operand} {b m c : Nat} {t u sz : Nat} {k : IntKind} {i : Int} {α : Type} {xs : List α} {x : α} (hu : P.underlying t = some (.slice u)) (hs : ∀ w, (sizeOf u).run P w = .ok sz w)
  (hx : ev e X = .slice (some ⟨b, 0, none⟩) m c) (hi : ev e I = .int k i) (hg : Yv xs i = some x) (hm : xs.length = m) (w : World) :
  (execOp (ev e) ⟨d, .indexAddr t X I, ty, pos, af, g⟩).run P w = .ok (.value (X1 (some ⟨b, 0, none⟩) (i.toNat * sz))) w := by
 obtain ⟨h0, h1, _⟩ := Vn hg
 exact r_index hu hs hx hi ⟨_, _, rfl⟩ h0 (by omega) w
theorem Jhd {f : Nat → List Value} {sz : Nat} (hf : ∀ j, (f j).length = sz) : ∀ (n i : Nat), i < n → ((List.range n).flatMap f).length = n * sz ∧ (((List.range n).flatMap f).drop (i * sz)).take sz = f i := by
 intro n
 induction n with
 | zero => intro i h; omega
 | succ n ih =>
  intro i hi
  rw [List.range_succ, List.flatMap_append, List.flatMap_singleton]
  have hl : ((List.range n).flatMap f).length = n * sz := by
   cases n with
   | zero => simp
   | succ n => exact (ih 0 (by omega)).1
  refine ⟨by rw [List.length_append, hl, hf, Nat.succ_mul], ?_⟩
  rcases Nat.lt_or_ge i n with h | h
  ·have hle : (i + 1) * sz ≤ n * sz := Nat.mul_le_mul_right _ h
   rw [Nat.succ_mul] at hle
   rw [List.drop_append_of_le_length (by omega), List.take_append_of_le_length (by rw [List.length_drop]; omega)]
   exact (ih i h).2
  ·have : i = n := by omega
   subst this
   rw [← hl, List.drop_left, List.take_of_length_le (by rw [hf]; omega)]
theorem r_indexPG {t u len sz b o : Nat} {X I : Operand} {k : IntKind} {i : Int} {q : Nat} (hu : ∀ w, (underlying t).run P w = .ok (.array len u) w) (hs : ∀ w, (sizeOf u).run P w = .ok sz w)
  (hx : ev e X = .pointer (some ⟨b, o, none⟩)) (hi : ev e I = .int k i) (h : gIx len i = some q) (w : World) :
  (execOp (ev e) ⟨d, .indexAddr t X I, ty, pos, af, g⟩).run P w = .ok (.value (.pointer (some ⟨b, o + q * sz, none⟩))) w := by
 obtain ⟨h0, h1, rfl⟩ := gIx_some h
 exact r_indexPA hu hs hx hi h0 h1 w
theorem rg_arr {pre post cs : List Value} {f : Nat → List Value} {n sz q o k : Nat} {v : Value} (hcs : cs = pre ++ ((List.range n).flatMap f ++ post)) (ho : pre.length = o) (hf : ∀ j, (f j).length = sz) (hk : k < n) (hv : rg (f k) q = some v) : rg cs (o + k * sz + q) = some v := by
 subst hcs ho
 obtain ⟨hl, ht⟩ := Jhd hf n k hk
 rw [rg_eq] at hv ⊢
 have hq : q < sz := by
  rcases Nat.lt_or_ge q sz with h | h
  ·exact h
  ·rw [List.getElem?_eq_none (by rw [hf]; exact h)] at hv; cases hv
 have hle : k * sz + sz ≤ n * sz := by rw [← Nat.succ_mul]; exact Nat.mul_le_mul_right _ (by omega)
 rw [Nat.add_assoc, List.getElem?_append_right (by omega), Nat.add_sub_cancel_left, List.getElem?_append_left (by omega), ← hv, ← ht, List.getElem?_take, if_pos hq, List.getElem?_drop]
theorem wr_of {cs vs : List Value} {o : Nat} (h : o + vs.length ≤ cs.length) : wr cs o vs = some (cs.take o ++ vs ++ cs.drop (o + vs.length)) := by
 have wn : ∀ (vs cs : List Value), vs.length ≤ cs.length → wrn cs vs = some (vs ++ cs.drop vs.length) := by
  intro vs
  induction vs with
  | nil => intro cs _; cases cs <;> simp [wrn]
  | cons v vs ih =>
   intro cs h
   cases cs with
   | nil => simp at h
   | cons c r => simp [wrn, ih r (by simpa using h)]
 induction cs generalizing o with
 | nil =>
  simp at h
  obtain ⟨rfl, h⟩ := h
  subst h
  simp [wr, wrn]
 | cons c r ih =>
  cases o with
  | zero => simpa [wr] using wn vs (c :: r) (by simpa using h)
  | succ o =>
   simp only [wr]
   rw [ih (by simp at h; omega)]
   simp [show o + 1 + vs.length = (o + vs.length) + 1 from by omega]
theorem wr_arr {α : Type} {pre post cs cs' vs : List Value} {f : α → List Value} {n sz o k : Nat} {a : Nat → α} {x : α} (hcs : cs = pre ++ ((List.range n).flatMap (fun j => f (a j)) ++ post)) (ho : pre.length = o) (hf : ∀ y, (f y).length = sz) (hk : k < n) (hvs : vs = f x)
  (hcs' : cs' = pre ++ ((List.range n).flatMap (fun j => f (setA a k x j)) ++ post)) : wr cs (o + k * sz) vs = some cs' := by
 subst hcs hcs' ho hvs
 obtain ⟨hl, ht⟩ := Jhd (f := fun j => f (a j)) (fun j => hf _) n k hk
 obtain ⟨hl', ht'⟩ := Jhd (f := fun j => f (setA a k x j)) (fun j => hf _) n k hk
 have hle : k * sz + sz ≤ n * sz := by rw [← Nat.succ_mul]; exact Nat.mul_le_mul_right _ (by omega)
 rw [wr_of (by simp only [List.length_append, hl, hf]; omega), hf]
 congr 1
 have key : (List.range n).flatMap (fun j => f (setA a k x j)) = ((List.range n).flatMap fun j => f (a j)).take (k * sz) ++ f x ++ ((List.range n).flatMap fun j => f (a j)).drop (k * sz + sz) := by
  have h1 : (List.range n).flatMap (fun j => f (a j)) = ((List.range n).map fun j => f (a j)).flatten := by rw [List.flatMap_def]
  have h2 : (List.range n).flatMap (fun j => f (setA a k x j)) = (((List.range n).map fun j => f (a j)).set k (f x)).flatten := by
   rw [List.flatMap_def]
   congr 1
   refine List.ext_getElem? fun j => ?_
   rw [List.getElem?_set]
   simp only [List.getElem?_map, List.length_map, List.length_range]
   by_cases hj : k = j
   ·subst hj; simp [hk, setA]
   ·rw [if_neg hj]
    rcases Nat.lt_or_ge j n with h | h
    ·simp [h, setA, show ¬ j = k from fun e => hj e.symm]
    ·simp [Nat.not_lt.2 h]
  rw [h2, Jgd (sz := sz) _ _ _ (by intro y hy; obtain ⟨j, _, rfl⟩ := List.mem_map.1 hy; exact hf _) (by simpa using hk), ← h1, Nat.succ_mul]
 rw [key]
 generalize hT : (List.range n).flatMap (fun j => f (a j)) = T at *
 rw [List.take_append, List.take_of_length_le (l := pre) (by omega), Nat.add_sub_cancel_left, List.take_append_of_le_length (by omega), show pre.length + k * sz + sz = pre.length + (k * sz + sz) from by omega, List.drop_append, List.drop_of_length_le (l := pre) (by omega), Nat.add_sub_cancel_left, List.drop_append_of_le_length (by omega)]
 simp
end ops
section rules
variable {P : Program} {n : Nat} {cx : Cx} {Q : Jax} {e : Xl} {L : List Chunk} {ops : Array Oper} {F : Xl → List Chunk → Prop} {rest : List Oper} {ss : List Kd}
variable {d : Nat} {ty : TypeId} {pos : String} {af : Array Edge} {g : Option (Nat × Bool)}
def Qy (C D : Chunk) : Chunk where
 P S w := ∃ S1 S2 : Nat → Prop, C.P S1 w ∧ D.P S2 w ∧ (∀ b, S1 b → S b) ∧ (∀ b, S2 b → S b) ∧ ∀ b, S1 b → ¬ S2 b
 loc S w w' h := by
  rintro ⟨S1, S2, h1, h2, h3, h4, h5⟩
  exact ⟨S1, S2, C.loc _ _ _ (fun b hb => h b (h3 b hb)) h1, D.loc _ _ _ (fun b hb => h b (h4 b hb)) h2, h3, h4, h5⟩
theorem Xo {K : Xl → World → Prop} (i : Nat) {C D : Chunk} (hL : L[i]? = some (Qy C D)) (k : At cx K e (L.set i C ++ [D])) : At cx K e L :=
 ⟨fun w hF hS => k.out w hF (by
  obtain ⟨fp, h1, h2, h3⟩ := hS.out
  obtain ⟨S1, S2, k1, k2, k3, k4, k5⟩ := h1 i _ hL
  have hil : i < L.length := by
   rcases Nat.lt_or_ge i L.length with h | h
   ·exact h
   ·simp [List.getElem?_eq_none h] at hL
  refine ⟨fun j b => if j = i then S1 b else if j = L.length then S2 b else fp j b, ?_, ?_, ?_⟩
  ·intro j c hc
   by_cases hj : j = L.length
   ·subst hj
    rw [List.getElem?_append_right (by simp)] at hc
    simp at hc
    subst hc
    have : ¬ L.length = i := by omega
    simpa [this] using k2
   ·have hjl : j < L.length := by
     rcases Nat.lt_or_ge j L.length with h | h
     ·exact h
     ·rw [List.getElem?_append_right (by simpa using h)] at hc
      rw [List.getElem?_eq_none (by simp; omega)] at hc
      cases hc
    rw [List.getElem?_append_left (by simpa using hjl)] at hc
    by_cases hji : j = i
    ·subst hji
     rw [List.getElem?_set_self hil] at hc
     cases hc
     simpa using k1
    ·rw [List.getElem?_set_ne (fun h => hji h.symm)] at hc
     simpa [hji, hj] using h1 j c hc
  ·intro j b hb
   by_cases hji : j = i
   ·simp only [hji, if_true] at hb
    have := h2 i b (k3 b hb)
    exact ⟨by simp; omega, this.2⟩
   ·by_cases hj : j = L.length
    ·subst hj
     have hne : ¬ L.length = i := by omega
     simp only [hne, if_true, if_false] at hb
     exact ⟨by simp, (h2 i b (k4 b hb)).2⟩
    ·simp only [hji, hj, if_false] at hb
     obtain ⟨a1, a2⟩ := h2 j b hb
     exact ⟨by simp; omega, a2⟩
  ·intro j q b hj hq
   have key : ∀ j, (if j = i then S1 b else if j = L.length then S2 b else fp j b) → (j = i ∧ S1 b) ∨ (j = L.length ∧ j ≠ i ∧ S2 b) ∨ (j ≠ i ∧ j ≠ L.length ∧ fp j b) := by
    intro j h
    by_cases hji : j = i
    ·simp only [hji, if_true] at h; exact .inl ⟨hji, h⟩
    ·by_cases hjl : j = L.length
     ·simp only [hji, hjl, if_true, if_false] at h
      have hne : ¬ L.length = i := by omega
      simp only [hne, if_false] at h
      exact .inr (.inl ⟨hjl, hji, h⟩)
     ·simp only [hji, hjl, if_false] at h; exact .inr (.inr ⟨hji, hjl, h⟩)
   rcases key j hj with ⟨a1, a2⟩ | ⟨a1, a0, a2⟩ | ⟨a1, a3, a2⟩ <;> rcases key q hq with ⟨c1, c2⟩ | ⟨c1, c0, c2⟩ | ⟨c1, c3, c2⟩
   ·omega
   ·exact absurd c2 (k5 b a2)
   ·exact absurd (h3 i q b (k3 b a2) c2) (fun h => c1 h.symm)
   ·exact absurd a2 (k5 b c2)
   ·omega
   ·exact absurd (h3 i q b (k4 b a2) c2) (fun h => c1 h.symm)
   ·exact absurd (h3 i j b (k3 b c2) a2) (fun h => a1 h.symm)
   ·exact absurd (h3 i j b (k4 b c2) a2) (fun h => a1 h.symm)
   ·exact h3 j q b a2 c2)⟩
theorem Qc {K : Xl → World → Prop} (i j : Nat) {C D : Chunk} (hi : L[i]? = some C) (hj : L[j]? = some D) (hne : i ≠ j) (k : At cx K e ((L.set i (Qy C D)).set j empC)) : At cx K e L :=
 ⟨fun w hF hS => k.out w hF (by
  obtain ⟨fp, h1, h2, h3⟩ := hS.out
  have hil : i < L.length := by
   rcases Nat.lt_or_ge i L.length with h | h
   ·exact h
   ·simp [List.getElem?_eq_none h] at hi
  have hjl : j < L.length := by
   rcases Nat.lt_or_ge j L.length with h | h
   ·exact h
   ·simp [List.getElem?_eq_none h] at hj
  refine ⟨fun q b => if q = i then fp i b ∨ fp j b else if q = j then False else fp q b, ?_, ?_, ?_⟩
  ·intro q c hc
   by_cases hqj : q = j
   ·subst hqj
    rw [List.getElem?_set_self (by simpa using hjl)] at hc
    cases hc
    have : ¬ q = i := fun h => hne h.symm
    simp only [this, if_true, if_false]
    exact fun b h => h
   ·rw [List.getElem?_set_ne (fun h => hqj h.symm)] at hc
    by_cases hqi : q = i
    ·subst hqi
     rw [List.getElem?_set_self hil] at hc
     cases hc
     simp only [if_true]
     exact ⟨fp q, fp j, h1 q C hi, h1 j D hj, fun b h => .inl h, fun b h => .inr h, fun b a c => hne (h3 q j b a c)⟩
    ·rw [List.getElem?_set_ne (fun h => hqi h.symm)] at hc
     simp only [hqi, hqj, if_false]
     exact h1 q c hc
  ·intro q b hb
   by_cases hqi : q = i
   ·simp only [hqi, if_true] at hb
    refine ⟨by simp [hqi, hil], ?_⟩
    rcases hb with hb | hb
    ·exact (h2 i b hb).2
    ·exact (h2 j b hb).2
   ·by_cases hqj : q = j
    ·have hji : ¬ j = i := fun h => hne h.symm
     simp only [hqj, hji, if_true, if_false] at hb
    ·simp only [hqi, hqj, if_false] at hb
     obtain ⟨a1, a2⟩ := h2 q b hb
     exact ⟨by simpa using a1, a2⟩
  ·intro p q b hp hq
   have key : ∀ q, (if q = i then fp i b ∨ fp j b else if q = j then False else fp q b) → (q = i ∧ (fp i b ∨ fp j b)) ∨ (q ≠ i ∧ q ≠ j ∧ fp q b) := by
    intro q h
    by_cases hqi : q = i
    ·simp only [hqi, if_true] at h; exact .inl ⟨hqi, h⟩
    ·by_cases hqj : q = j
     ·have hji : ¬ j = i := fun h => hne h.symm
      simp only [hqj, hji, if_true, if_false] at h
     ·simp only [hqi, hqj, if_false] at h; exact .inr ⟨hqi, hqj, h⟩
   rcases key p hp with ⟨a1, a2⟩ | ⟨a1, a3, a2⟩ <;> rcases key q hq with ⟨c1, c2⟩ | ⟨c1, c3, c2⟩
   ·omega
   ·rcases a2 with a2 | a2
    ·exact absurd (h3 i q b a2 c2) (fun h => c1 h.symm)
    ·exact absurd (h3 j q b a2 c2) (fun h => c3 h.symm)
   ·rcases c2 with c2 | c2
    ·exact absurd (h3 i p b c2 a2) (fun h => a1 h.symm)
    ·exact absurd (h3 j p b c2 a2) (fun h => a3 h.symm)
   ·exact h3 p q b a2 c2)⟩
def roV (sz : Nat) (v : Value) (n : Nat) (xs : List (List Value)) : Chunk where
 P S w := n = xs.length ∧ FrS (fun b => w.heap[b]?) sz v xs ∧ ∀ b, v.ownBlock = some b → S b
 loc S w w' h := by
  rintro ⟨h1, h2, h3⟩
  refine ⟨h1, ?_, h3⟩
  obtain ⟨a, c, rfl, g1, g2, r⟩ := h2.out
  refine ⟨a, c, rfl, g1, g2, ?_⟩
  rcases r with r | ⟨b, off, cs, T, m, rfl, hb, r⟩
  ·exact .inl r
  ·exact .inr ⟨b, off, cs, T, m, rfl, (h b (h3 b rfl)).trans hb, r⟩
theorem row_FrS {w : World} {E sz : Nat} {v : Value} {n : Nat} {xs : List (List Value)} (h : w.ownsRow 0 E sz v n xs.flatten) (hn : xs.length = n) (hl : ∀ x ∈ xs, x.length = sz) : FrS (fun b => w.heap[b]?) sz v xs := by
 rcases h.2 with ⟨rfl, h0⟩ | ⟨g, cap, cur, rfl, _, hh, hnc, hm, hcs, ht⟩
 ·have : xs = [] := List.eq_nil_of_length_eq_zero (hn.trans h0)
  subst this
  exact ⟨none, 0, by simp, by simp, by simp, .inl rfl⟩
 ·subst hn
  have hr := Jgl h rfl hl
  refine ⟨some ⟨g, 0, none⟩, cap, rfl, hnc, by simpa [maxLen] using hm, ?_⟩
  rcases hr with hr | ⟨b, off, ha, hr⟩
  ·exact .inl hr
  ·simp only [Option.some.injEq, Addr.mk.injEq] at ha
   obtain ⟨rfl, rfl, _⟩ := ha
   refine .inr ⟨g, 0, cur, E, _, rfl, hh, fun i x hx => ⟨(hr i x hx).1, fun j v hv => ?_⟩⟩
   have := (hr i x hx).2 j v hv
   simpa [World.cell?, hh] using this
theorem Je2 (E sz : Nat) (v : Value) (n : Nat) (xs : List (List Value)) : Imp (J3 E sz v n xs) (roV sz v n xs) := ⟨fun S w ⟨⟨h1, h2, h3⟩, h4⟩ => ⟨h2.symm, row_FrS h1 h2 h3, h4⟩⟩
theorem Jgx (E sz : Nat) (a : Option Addr) (n c : Nat) (xs : List (List Value)) : Imp (J3 E sz (.slice a n c) n xs) (roV sz (.slice (X0 a 0 n sz) n n) n xs) := ⟨fun S w ⟨⟨h1, h2, h3⟩, h4⟩ => by
 have hf := row_FrS h1 h2 h3
 subst h2
 obtain ⟨a', c', hv, g1, g2, r⟩ := hf.out
 simp only [Value.slice.injEq] at hv
 obtain ⟨rfl, _, rfl⟩ := hv
 refine ⟨rfl, ⟨_, _, rfl, Nat.le_refl _, by omega, ?_⟩, fun b hb => h4 b ?_⟩
 ·have := r.cut 0 xs.length xs.length (by omega)
  rwa [List.drop_zero, List.take_of_length_le (Nat.le_refl _)] at this
 ·rw [Jib (y := xs.length)] at hb; rw [← hb]; cases a <;> rfl⟩
theorem ret0 {fn : Func} {R : Value → World → Prop} (hr : fn.results = #[]) (k : ∀ w, Fr cx w → Sat cx w L → R (.tuple #[]) w) : At cx (Jfh P fn R .ret) e L :=
 ⟨fun w hF hS tmps hs => ⟨.tuple #[], by simp [results, hr], k w hF hS⟩⟩
theorem ret0n {fn : Func} {R : Value → World → Prop} (hr : fn.results = #[]) (k : ∀ w, Fr cx w → Sat cx w L → R (.tuple #[]) w) : At cx (Jfh P fn R .normal) e L :=
 ⟨fun w hF hS tmps hs => ⟨.tuple #[], by simp [results, hr], k w hF hS⟩⟩
theorem Jds {α : Type} {q T j sz szT k c E m : Nat} {A X : Operand} {x : Value} {a : Option Addr} {vs : List Value} {f : α → List Value} {xs ys : List α} {i : Int} {z : α} (hm : m = xs.length) (hs : ∀ w, (sizeOf T).run P w = .ok szT w)
  (hw : X3 ops ⟨none, .store T A X, ty, pos, af, g⟩ e = true) (hp : ev e A = X1 a k) (hk : k = i.toNat * sz + j) (hx : ev e X = x) (hc : x.cells.toList = vs) (hsz : vs.length = szT)
  (hpos : Nat.blt 0 szT = true) (hone : vs.all Value.oneCell' = true) (hL : L[q]? = some (J3 E sz (.slice a m c) m (xs.map f))) (hv : ∀ y, Yv xs i = some y → wr (f y) j vs = some (f z)) (hg : gSet xs i z = some ys)
  (k' : At cx (WL P n ops Q rest) e (L.set q (J3 E sz (.slice a m c) m (ys.map f)))) : At cx (WL P n ops Q (⟨none, .store T A X, ty, pos, af, g⟩ :: rest)) e L := by
 subst hm
 obtain ⟨h0, h1, rfl⟩ := Je6 hg
 have hat : Yv xs i = some xs[i.toNat] := gAt_ok h0 h1
 exact l_storeR (i := i.toNat) (j := j) (y := f xs[i.toNat]) hs hw hp hk hx hc hsz hpos hone hL (map_at hat) (hv _ hat) (by rw [List.map_set]) k'
theorem Jgr {α : Type} {N C : Operand} {t E : TypeId} {I : TypeInfo} {z : Value} {sz by_ : Nat} {m : Int} {rds : List Nat} {f : α → List Value} {zz : α} {xs : List α} (ht : P.underlying t = some (.slice E)) (hi : P.info? E = some I) (hz : I.zero = some z) (hsize : I.size = sz) (hby : I.bytes = by_)
  (hzs : z.cells.toList = f zz) (hsz : Nat.blt 0 sz = true) (hl : (f zz).length = sz) (hnc : ev e N = .int .i64 m ∧ ev e C = .int .i64 m) (hg : gMake by_ m zz = some xs) :
  Makes P cx e ⟨some d, .makeSlice t N C, ty, pos, af, g⟩ L rds (fun p : Option Addr × Nat => .slice p.1 xs.length p.2) (fun p => J3 E sz (.slice p.1 xs.length p.2) xs.length (xs.map f)) := by
 obtain ⟨h0, hn, hb, rfl⟩ := gMake_some hg
 obtain ⟨k, rfl⟩ := Int.eq_ofNat_of_zero_le h0
 rw [Int.toNat_natCast] at *
 rw [List.length_replicate, List.map_replicate]
 exact Jdx (m := k) (c := k) ht hi hz hsize hby (by rw [hzs, hl]) hsz hnc.1 hnc.2 rfl (by omega) (by omega) (by rw [hzs])
theorem Jg4 {w : World} {base : Nat} (t ty e : TypeId) (i : TypeInfo) (size : Nat) (ht : P.underlying t = some (.slice e)) (hi : P.info? e = some i)
  (v : Value) (n : Nat) (xs : List Value) (c : Nat) (hown : w.ownsRow base e size v n xs) :
  (Builtin.append_ #[t, t] ty #[v, .slice none 0 c]).run P w = .ok v w := by
 rcases hown.2 with ⟨rfl, rfl⟩ | ⟨g, cap, cur, rfl, _, _, hnc, _⟩
 ·simp [Builtin.append_, run_underlying ht, sizeOf, typeInfo, hi, Builtin.lenOf, Builtin.firstCells]
 ·simp [Builtin.append_, run_underlying ht, sizeOf, typeInfo, hi, Builtin.lenOf, Builtin.firstCells, hnc, storeCells]
theorem Y0 {α : Type} {f : α → List Value} {ys ls zs : List α} {i : Nat} {S X : Operand} {t E : TypeId} {I : TypeInfo} {z : Value} {sz by_ : Nat} {p : Option Addr × Nat} {rds : List Nat} {V : Value} {a : Option Addr} {c m q : Nat} (hn : m = ys.length)
  (ht : P.underlying t = some (.slice E)) (hi : P.info? E = some I) (hz : I.zero = some z) (hsize : I.size = sz) (hby : I.bytes = by_) (hzs : z.cells.size = sz) (hsz : Nat.blt 0 sz = true)
  (hL : L[i]? = some (J3 E sz (.slice p.1 m p.2) m (ys.map f))) (hs : ev e S = .slice p.1 m p.2) (hx : ev e X = V) (hV : V = .slice a q c) (hq : q = ls.length)
  (hnews : ∀ w L', Fr cx w → Sat cx w L' → (∀ j, j ∈ rds → L'[j]? = L[j]?) → Row w a sz (ls.map f)) (hf : ∀ x, (f x).length = sz) (h1 : ∀ x, (f x).all Value.oneCell' = true) (hg : Wz by_ ys ls = some zs) :
  Turns P cx e ⟨some d, .call ⟨.builtin .append, #[S, X], #[t, t]⟩, ty, pos, af, g⟩ L i rds (fun p' : Option Addr × Nat => .slice p'.1 zs.length p'.2) (fun p' => J3 E sz (.slice p'.1 zs.length p'.2) zs.length (zs.map f)) := by
 subst hn hq
 obtain ⟨rfl, hb1, hb2⟩ := Jch hg
 rw [List.length_append]
 cases ha : a with
 | some ad =>
  subst ha
  exact Jie (ad := ad) ht hi hz hsize hby hzs hsz hL hs (hx.trans hV) (by rw [List.length_map]) (fun x hx => by
   obtain ⟨y, _, rfl⟩ := List.mem_map.1 hx; exact hf y) hnews (fun x hx u hu => by
   obtain ⟨y, _, rfl⟩ := List.mem_map.1 hx; exact List.all_eq_true.1 (h1 y) u hu) (by rw [List.map_append]) rfl (by omega) hb2
 | none =>
  subst ha
  intro w L' hF hS hl hi'
  have hr := hnews w L' hF hS fun j hj => hi' j (.inl hj)
  have hls : ls = [] := by
   rcases hr with h | ⟨b, off, h, _⟩
   ·simpa using h
   ·cases h
  subst hls
  have hL' := (hi' i (.inr rfl)).trans hL
  obtain ⟨S0, ⟨⟨ho, _⟩, _⟩, _⟩ := hS.at hL'
  have he : (execOp (ev e) ⟨some d, .call ⟨.builtin .append, #[S, X], #[t, t]⟩, ty, pos, af, g⟩).run P w = .ok (.value (.slice p.1 ys.length p.2)) w := by
   simp only [execOp, resolve, invoke, builtin, Sem.run_bind, Sem.run_pure, Result.andThen_ok, List.map_toArray, List.map_cons, List.map_nil, hs, hx, hV, List.length_nil, Jg4 t ty E I sz ht hi _ _ _ c ho]
  unfold RunsTo
  rw [he]
  refine ⟨p, by simp, hF, ?_⟩
  have : L'.set i (J3 E sz (.slice p.1 (ys.length + 0) p.2) (ys.length + 0) ((ys ++ []).map f)) = L' := by
   rw [List.append_nil, Nat.add_zero]
   refine List.ext_getElem? fun j => ?_
   rw [List.getElem?_set]
   split
   ·rename_i h; subst h
    split
    ·exact hL'.symm
    ·rename_i h; rw [List.getElem?_eq_none (by omega)]
   ·rfl
  show Sat cx w (L'.set i (J3 E sz (.slice p.1 (ys.length + ([] : List α).length) p.2) (ys.length + ([] : List α).length) ((ys ++ []).map f)))
  rw [List.length_nil, this]
  exact hS
end rules
end Go.Lx

namespace Go.Lx
open Go Go.Vc Go.Md
theorem Jj7 {w : World} {E sz k old : Nat} {z : Value} {xs news : List Value} (hzs : z.cells.size = sz) (hl : (xs ++ news).length = k * sz) (h63 : k ≤ maxLen) :
  (w.drew.alloc (.cells (xs.toArray ++ news.toArray ++ Builtin.zeroCells z.cells (grownCap w k old E - k)) E)).ownsRow 0 E sz (.slice (some ⟨w.heap.size, 0, none⟩) k (grownCap w k old E)) k (xs ++ news) := by
 have hge := grownCap_ge w k old E
 have hcm : grownCap w k old E ≤ maxLen := grownCap_le_maxLen w k old E h63
 refine ⟨hl, .inr ⟨w.heap.size, _, _, rfl, Nat.zero_le _, heap_alloc_new w.drew _, hge, hcm, ?_, ?_⟩⟩
 ·have h2 : xs.length + news.length = k * sz := by rw [← List.length_append]; exact hl
  simp only [Array.size_append, List.size_toArray, size_zeroCells, hzs]
  rw [h2, ← Nat.add_mul]
  congr 1
  omega
 ·simp only [Array.toList_append, List.append_assoc]
  rw [← List.append_assoc, ← hl]
  exact List.take_left
theorem grown_by (w : World) (o : Obj) (row : Option Nat) : w.grownBy (w.drew.alloc o) row := ⟨rfl, rfl, rfl, by simp, fun k hk _ => (by first | exact heap_alloc_old w.drew _ k hk | exact heap_alloc_old w.drew _ hk)⟩
theorem fits2 {need old bytes : Nat} (h : old < need) (hb : need * bytes ≤ 140739635838976) (hy : bytes ≤ 1048576) : Builtin.nextslicecap need old * bytes ≤ 281474976710656 := by
 have h1 : Builtin.nextslicecap need old ≤ need + (need + 768) / 4 + 512 := by
  unfold Builtin.nextslicecap
  split
  ·omega
  ·split
   ·omega
   ·rw [growBy_four]
    repeat' split
    all_goals omega
 have h2 : 4 * Builtin.nextslicecap need old ≤ 5 * need + 2816 := by omega
 have h3 := Nat.mul_le_mul_right bytes h2
 rw [Nat.mul_assoc, Nat.add_mul, Nat.mul_assoc] at h3
 omega
def apC (w : World) (E sz : Nat) (v : Value) (n : Nat) (xs : List (List Value)) : Prop :=
 (w.ownsRow 0 E sz v n xs.flatten ∨ (FrS (fun b => w.heap[b]?) sz v xs ∧ ∃ b o, v = .slice (some ⟨b, 0, none⟩) n n ∧ w.heap[b]? = some o)) ∧ xs.length = n ∧ ∀ x ∈ xs, x.length = sz
theorem apC.frs {w : World} {E sz : Nat} {v : Value} {n : Nat} {xs : List (List Value)} (h : apC w E sz v n xs) : FrS (fun b => w.heap[b]?) sz v xs :=
 h.1.elim (fun h1 => row_FrS h1 h.2.1 h.2.2) (fun h1 => h1.1)
theorem apC.slice {w : World} {E sz : Nat} {v : Value} {n : Nat} {xs : List (List Value)} (h : apC w E sz v n xs) : ∃ p : Option Addr × Nat, v = .slice p.1 n p.2 := by
 rcases h.1 with h1 | ⟨_, b', o, rfl, h1⟩
 ·exact Jfv h1
 ·exact ⟨(some ⟨b', 0, none⟩, n), rfl⟩
section rules
variable {P : Program} {n : Nat} {cx : Cx} {e : Xl} {L : List Chunk} {d : Nat} {ty : TypeId} {pos : String} {af : Array Edge} {g : Option (Nat × Bool)}
theorem row_cells {w : World} {ad : Addr} {sz : Nat} {news : List (List Value)} (hnl : ∀ x ∈ news, x.length = sz) (hR : Row w (some ad) sz news) : ∀ j u, news.flatten[j]? = some u → w.cell? (ad.add j) = some u := by
 intro j u hj
 obtain ⟨i', k', x, g1, g2, g3⟩ := Jif news hnl j u hj
 rcases hR with h | ⟨b, off, ha, h⟩
 ·subst h; simp at g1
 ·cases ha
  have := (h i' x g1).2 k' u g2
  rw [Addr.add_lit, g3, ← Nat.add_assoc]
  exact this
theorem app_str_own {w : World} {t u E : Nat} {I : TypeInfo} {v : Value} {m : Nat} {xs : List Value} {s : ByteArray} (ht : P.underlying t = some (.slice E)) (hu : P.underlying u = some .string) (hi : P.info? E = some I) (hz : I.zero = some (.int .u8 0)) (hsize : I.size = 1) (hby : I.bytes = 1)
  (ho : w.ownsRow 0 E 1 v m xs) (h63 : m + s.size ≤ maxLen) (hbytes : m + s.size ≤ 140739635838976) :
  ∃ v' w', (Builtin.append_ #[t, u] ty #[v, .string s]).run P w = .ok v' w' ∧ w'.ownsRow 0 E 1 v' (m + s.size) (xs ++ Lib.strCells s) ∧ w.grownBy w' v.ownBlock ∧ (v'.ownBlock = v.ownBlock ∨ v'.ownBlock = some w.heap.size) := by
 have hsmall : m + s.size ≤ 9223372036854775807 := by simpa [maxLen] using h63
 have hxl : xs.length = m := by simpa using ho.1
 have hlen : (xs ++ Lib.strCells s).length = (m + s.size) * 1 := by rw [List.length_append, hxl, Lib.strCells_length, Nat.mul_one]
 rcases ho.2 with ⟨rfl, rfl⟩ | ⟨g', cap, cur, rfl, hbg, hg, hnc, hcm, hcs, htake⟩
 ·have hx : xs = [] := List.eq_nil_of_length_eq_zero hxl
  subst hx
  by_cases hm : s.size = 0
  ·have hn : Lib.strCells s = [] := List.eq_nil_of_length_eq_zero (by rw [Lib.strCells_length]; exact hm)
   refine ⟨.slice none 0 0, w, ?_, by rw [hm, hn]; exact World.ownsRow_nil w 0 E 1, ⟨rfl, rfl, rfl, Nat.le_refl _, fun _ _ _ => rfl⟩, .inl rfl⟩
   have hf := Lib.run_firstCells_string (P := P) w 1 s
   rw [hm] at hf
   simp [Builtin.append_, run_underlying ht, run_underlying hu, sizeOf, typeInfo, hi, hsize, Builtin.lenOf, hm, hf]
  ·have hr := run_append_nil_string (P := P) w t u ty E I (.int .u8 0) ht hu hi hz s (by omega) (by omega) (by rw [hby]; omega)
   have hgr := Jj7 (w := w) (E := E) (sz := 1) (k := 0 + s.size) (old := 0) (z := .int .u8 0) (xs := []) (news := Lib.strCells s) rfl hlen h63
   have e1 : (s.data.map fun b => Value.int .u8 b.toNat) = (Lib.strCells s).toArray := by
    apply Array.ext'
    simp [Lib.strCells]
   rw [e1] at hr
   refine ⟨_, _, hr, ?_, grown_by _ _ _, .inr rfl⟩
   simpa only [Nat.zero_add, List.nil_append, Array.empty_append] using hgr
 ·by_cases hroom : m + s.size ≤ cap
  ·have hcs' : cur.size = cap := by simpa using hcs
   have hr := Lib.run_append_room_string (P := P) w t u ty E I ht hu hi hsize g' m cap cur hg s hroom (by omega)
   refine ⟨_, _, hr, ⟨hlen, .inr ⟨g', cap, _, rfl, hbg, setRow_heap w g' cur _ E _ hg, hroom, hcm, ?_, ?_⟩⟩, ⟨rfl, rfl, rfl, by simp, fun k _ hk => setRow_other w g' k _ (fun e => hk (by simp [Value.ownBlock, e]))⟩, .inl rfl⟩
   ·simp only [List.size_toArray, List.length_append, List.length_take, List.length_drop, Array.length_toList, Lib.strCells_length]
    omega
   ·have ht' : cur.toList.take m = xs := by simpa using htake
    rw [ht', ← hlen]
    exact List.take_left
  ·have holds : ∀ j u, xs[j]? = some u → w.cell? ((⟨g', 0, none⟩ : Addr).add j) = some u := ho.cells (g := g') rfl
   have hr := Lib.run_append_grow_string (P := P) w t u ty E I (.int .u8 0) ht hu hi hz ⟨g', 0, none⟩ m cap xs (by rw [hsize]; simpa using hxl) holds s (by omega) (by omega) (by rw [hby]; exact fits2 (by omega) (by omega) (by omega))
   exact ⟨_, _, hr, Jj7 rfl hlen h63, grown_by _ _ _, .inr rfl⟩
theorem strCells_map (s : List UInt8) : Lib.strCells ⟨s.toArray⟩ = s.map fun b => Value.int .u8 (b.toNat : Int) := by simp [Lib.strCells]
theorem strSize (s : List UInt8) : (⟨s.toArray⟩ : ByteArray).size = s.length := by simp [ByteArray.size]
theorem turns_strG {f : Int → List Value} {ys zs : List Int} {s : List UInt8} {i : Nat} {S X : Operand} {t u E : TypeId} {I : TypeInfo} {p : Option Addr × Nat} {rds : List Nat} {m : Nat} (hn : m = ys.length)
  (ht : P.underlying t = some (.slice E)) (hu : P.underlying u = some .string) (hi : P.info? E = some I) (hz : I.zero = some (.int .u8 0)) (hsize : I.size = 1) (hby : I.bytes = 1)
  (hL : L[i]? = some (J3 E 1 (.slice p.1 m p.2) m (ys.map f))) (hs : ev e S = .slice p.1 m p.2) (hx : ev e X = str s) (hf : ∀ x, f x = [.int .u8 x]) (hg : gApL 1 ys (Xa s) = some zs) :
  Turns P cx e ⟨some d, .call ⟨.builtin .append, #[S, X], #[t, u]⟩, ty, pos, af, g⟩ L i rds (fun p' : Option Addr × Nat => .slice p'.1 zs.length p'.2) (fun p' => J3 E 1 (.slice p'.1 zs.length p'.2) zs.length (zs.map f)) := fun w L' hF hS hl hi' => by
 subst hn
 obtain ⟨rfl, hb1, hb2⟩ := gApL_some hg
 have hls : (Xa s).length = s.length := by simp [Xa]
 have hL' := (hi' i (.inr rfl)).trans hL
 obtain ⟨S0, ⟨⟨ho, hlen, hlx⟩, _⟩, _⟩ := hS.at hL'
 obtain ⟨v', w', hr, h2, h3, h5⟩ := app_str_own (P := P) (ty := ty) (s := ⟨s.toArray⟩) ht hu hi hz hsize hby ho (by rw [strSize]; simp only [maxLen]; omega) (by rw [strSize]; omega)
 have hm : Lib.strCells ⟨s.toArray⟩ = ((Xa s).map f).flatten := by
  rw [strCells_map, ← List.flatMap_def, Xa, List.flatMap_map]
  simp only [hf]
  exact (List.flatMap_singleton' _).symm.trans (by rw [List.flatMap_map])
 rw [hm, strSize, ← hls, ← List.flatten_append, ← List.map_append] at h2
 rw [List.length_append]
 obtain ⟨p', rfl⟩ := Jfv h2
 obtain ⟨hF', hS'⟩ := hS.turnOf hF hL' (C := J3 E 1 (.slice p'.1 (ys.length + (Xa s).length) p'.2) (ys.length + (Xa s).length) ((ys ++ Xa s).map f)) fun S1 hp => Jdi hp.2 h2 h3 h5 (by simp) (by
  intro x hx
  obtain ⟨y, _, rfl⟩ := List.mem_map.1 hx
  rw [hf]; rfl)
 have he : (execOp (ev e) ⟨some d, .call ⟨.builtin .append, #[S, X], #[t, u]⟩, ty, pos, af, g⟩).run P w = .ok (.value (.slice p'.1 (ys.length + (Xa s).length) p'.2)) w' := by
  simp only [execOp, resolve, invoke, builtin, Sem.run_bind, Sem.run_pure, Result.andThen_ok, List.map_toArray, List.map_cons, List.map_nil, hs, hx, str, hr]
 unfold RunsTo
 rw [he]
 exact ⟨p', rfl, hF', hS'⟩
theorem fold_push (ns : List Int) : ∀ (r : List UInt8), ns.foldl (fun r n => r.push (UInt8.ofNat n.toNat)) (⟨r.toArray⟩ : ByteArray) = ⟨(r ++ Jaz ns).toArray⟩ := by
 induction ns with
 | nil => intro r; simp [Jaz]
 | cons n ns ih =>
  intro r
  have : (⟨r.toArray⟩ : ByteArray).push (UInt8.ofNat n.toNat) = ⟨(r ++ [UInt8.ofNat n.toNat]).toArray⟩ := by simp [ByteArray.push]
  rw [List.foldl_cons, this, ih]
  simp [Jaz]
theorem Ji1 {w : World} {f : Int → List Value} {xs : List Int} {X : Operand} {s t E : TypeId} {a : Option Addr} {c m : Nat} {dd : Option Nat} (hm : m = xs.length) (hs : P.underlying s = some (.slice E)) (he : P.underlying E = some (.int .u8)) (ht : P.underlying t = some .string)
  (hx : ev e X = .slice a m c) (hf : ∀ x, f x = [.int .u8 x]) (hR : Row w a 1 (xs.map f)) : (execOp (ev e) ⟨dd, .convert s t X, ty, pos, af, g⟩).run P w = .ok (.value (str (Jaz xs))) w := by
 subst hm
 have hc := run_convert_bytes_string w s t E a xs.length c hs he ht
 have key : (Conv.bytesToString (.slice a xs.length c)).run P w = .ok (str (Jaz xs)) w := by
  cases a with
  | none =>
   rcases hR with h | ⟨b, off, h, _⟩
   ·have : xs = [] := by simpa using h
    subst this
    simp [Conv.bytesToString, Jaz, str]; rfl
   ·cases h
  | some ad =>
   have hfl : (xs.map f).flatten = xs.map (Value.int .u8) := by
    rw [show f = fun x => [Value.int .u8 x] from funext hf]
    clear hR hc hx
    induction xs with
    | nil => rfl
    | cons x r ih => rw [List.map_cons, List.flatten_cons, ih]; rfl
   have hcell := row_cells (w := w) (fun x hx => by obtain ⟨y, _, rfl⟩ := List.mem_map.1 hx; rw [hf]; rfl) hR
   rw [hfl] at hcell
   have hl := run_loadCells_list (P := P) (w := w) ad (xs.map (Value.int .u8)) hcell
   rw [List.length_map] at hl
   have h0 := run_bytesToString (P := P) w ad xs.length c xs hl
   rw [h0]
   have := fold_push xs []
   rw [List.nil_append] at this
   exact congrArg (fun b => Result.ok (Value.string b) w) this
 simp [execOp, hx, hc, key]
end rules
end Go.Lx

namespace Go.Lx
open Go Go.Vc Go.Md
structure FnH (P : Program) (h : Jw) (v : Value) (R : World → List Value → (Value → World → Prop) → Prop) : Prop where
 out : ∃ (f : FuncId) (pre caps : Array Value), v = .func (.func f) pre caps ∧ (∀ args w, (callFunc f args).run P w = .ok (.enter f args) w) ∧
  ∀ args post w, Know h w Ys → R w args post → Does P f (pre.toList ++ (args ++ caps.toList)).toArray w post
theorem FnH.mono {P : Program} {h h' : Jw} {v : Value} {R : World → List Value → (Value → World → Prop) → Prop} (f : FnH P h v R) (k : ∀ b o, h b = some o → h' b = some o) : FnH P h' v R := by
 obtain ⟨g, pre, caps, h1, h2, h3⟩ := f.out
 exact ⟨g, pre, caps, h1, h2, fun args r w hw hR => h3 args r w (fun b o hb => hw b o (k b o hb)) hR⟩
theorem FnH.cells {P : Program} {h : Jw} {v : Value} {R : World → List Value → (Value → World → Prop) → Prop} (f : FnH P h v R) : v.cells.toList = [v] := by
 obtain ⟨g, pre, caps, rfl, _⟩ := f.out; rfl
theorem FnH.one {P : Program} {h : Jw} {v : Value} {R : World → List Value → (Value → World → Prop) → Prop} (f : FnH P h v R) : v.oneCell' = true := by
 obtain ⟨g, pre, caps, rfl, _⟩ := f.out; rfl
theorem FrS.cells {h : Jw} {sz : Nat} {v : Value} {xs : List (List Value)} (f : FrS h sz v xs) : v.cells.toList = [v] := by
 obtain ⟨a, c, rfl, _⟩ := f.out; rfl
theorem FrS.one {h : Jw} {sz : Nat} {v : Value} {xs : List (List Value)} (f : FrS h sz v xs) : v.oneCell' = true := by
 obtain ⟨a, c, rfl, _⟩ := f.out; rfl
section rules
variable {P : Program} {n : Nat} {cx : Cx} {e : Xl} {L : List Chunk} {ops : Array Oper} {rest : List Oper} {Q : Jax} {F : Xl → List Chunk → Prop} {ss : List Kd} {d : Nat} {ty : TypeId} {pos : String} {af : Array Edge} {g : Option (Nat × Bool)}
theorem run_callVP {f : FuncId} {X : Operand} {A : Array Operand} {tys : Array TypeId} {args : List Value} {pre caps : Array Value} (hc : ∀ args w, (callFunc f args).run P w = .ok (.enter f args) w) (hX : ev e X = .func (.func f) pre caps) (ha : A.toList.map (ev e) = args) (w : World) :
  (execOp (ev e) ⟨some d, .call ⟨.value X, A, tys⟩, ty, pos, af, g⟩).run P w = .ok (.enter f (pre.toList ++ (args ++ caps.toList)).toArray) w := by
 subst ha
 have : (pre.toList ++ (A.toList.map (ev e) ++ caps.toList)).toArray = pre ++ A.map (ev e) ++ caps := by
  apply Array.ext'
  simp
 rw [this]
 simp only [execOp, resolve, hX, Deferred.ofValue, Sem.run_bind, Sem.run_pure, Result.andThen_ok, invoke, hc]
theorem runs_callV {X : Operand} {A : Array Operand} {tys : Array TypeId} {args : List Value} {v : Value} {h : Jw} {R : World → List Value → (Value → World → Prop) → Prop} {post : Value → World → Prop} {w : World} (hf : FnH P h v R) (hk : Know h w Ys) (hR : R w args post) (hX : ev e X = v) (ha : A.toList.map (ev e) = args) :
  RunsTo P (ev e) ⟨some d, .call ⟨.value X, A, tys⟩, ty, pos, af, g⟩ w post := by
 obtain ⟨f, pre, caps, rfl, hc, hd⟩ := hf.out
 unfold RunsTo
 rw [run_callVP hc hX ha]
 exact hd args post w hk hR
theorem l_callV {X : Operand} {A : Array Operand} {tys : Array TypeId} {args : List Value} {v r : Value} {R : World → List Value → (Value → World → Prop) → Prop} (hf : ∀ w, Fr cx w → Sat cx w L → FnH P (fun b => w.heap[b]?) v R ∧ R w args (fun v' w' => v' = r ∧ Grow w w')) (hX : ev e X = v)
  (hw : X3 ops ⟨some d, .call ⟨.value X, A, tys⟩, ty, pos, af, g⟩ e = true) (hn : Nat.blt d n = true) (ha : A.toList.map (ev e) = args)
  (k : At cx (WL P n ops Q rest) (upd e d r) L) : At cx (WL P n ops Q (⟨some d, .call ⟨.value X, A, tys⟩, ty, pos, af, g⟩ :: rest)) e L :=
 l_runs hw rfl hn fun w hF hS => (runs_callV (hf w hF hS).1 (Ju w) (hf w hF hS).2 hX ha).mono fun v' w' ⟨hv, hg⟩ => by
  subst hv
  exact k.out w' (hF.grow hg) (hS.grow hg)
end rules
end Go.Lx

namespace Go.Lx
open Go Go.Vc Go.Md
open Classical in
noncomputable def but (w : World) (S : Nat → Prop) : Jw := fun b => if S b then none else w.heap[b]?
theorem but_some {w : World} {S : Nat → Prop} {b : Nat} {o : Obj} (hb : w.heap[b]? = some o) (hn : ¬ S b) : but w S b = some o := by
 unfold but; rw [if_neg hn]; exact hb
theorem Xm (w : World) (S : Nat → Prop) : Know (but w S) w S := fun b o h => by
 unfold but at h
 split at h
 ·cases h
 ·exact ⟨h, by assumption⟩
section rules
variable {P : Program} {n : Nat} {cx : Cx} {e : Xl} {L : List Chunk} {d : Nat} {ty : TypeId} {pos : String} {af : Array Edge} {g : Option (Nat × Bool)}
theorem Know.but {h : Jw} {w0 w : World} {S0 S : Nat → Prop} (k : Know h w0 S0) (hF : Fr ⟨w0, S0⟩ w) (ho : ∀ b, S b → Cx.own ⟨w0, S0⟩ b) : ∀ b o, h b = some o → but w S b = some o := fun b o hb => by
 refine but_some (k.now hF b o hb) fun hs => ?_
 obtain ⟨h1, h2⟩ := k b o hb
 have hlt : b < w0.heap.size := by
  rcases Nat.lt_or_ge b w0.heap.size with h | h
  ·exact h
  ·rw [Array.getElem?_eq_none h] at h1; cases h1
 rcases ho b hs with h | h
 ·exact absurd h (by show ¬ w0.heap.size ≤ b; omega)
 ·exact h2 h
theorem FrS.but {w : World} {S : Nat → Prop} {sz : Nat} {v : Value} {xs : List (List Value)} (f : FrS (fun b => w.heap[b]?) sz v xs) (hd : ∀ b, v.ownBlock = some b → ¬ S b) : FrS (but w S) sz v xs := by
 obtain ⟨a, c, rfl, h1, h2, r⟩ := f.out
 refine ⟨a, c, rfl, h1, h2, ?_⟩
 rcases r with r | ⟨b, off, cs, T, m, rfl, hb, r⟩
 ·exact .inl r
 ·exact .inr ⟨b, off, cs, T, m, rfl, but_some hb (hd b rfl), r⟩
def Apart (L' : List Chunk) (i : Nat) (w : World) (S : Nat → Prop) : Prop := ∀ j C, j ≠ i → L'[j]? = some C → ∃ S', C.P S' w ∧ ∀ b, S' b → ¬ S b
theorem c_sel {K : Xl → World → Prop} (sel : List Nat) (L' : List Chunk) (hs : sel.map (fun i => L[i]?) = L'.map some) (hnd : sel.Nodup) (k : At cx K e L') : At cx K e L :=
 ⟨fun w hF hS => k.out w hF (hS.select sel hnd hs)⟩
theorem c_splitAt {K : Xl → World → Prop} (i j : Nat) {C D : Chunk} (hL : L[i]? = some (Qy C D)) (hjL : L[j]? = some empC) (hne : i ≠ j) (k : At cx K e ((L.set i C).set j D)) : At cx K e L :=
 ⟨fun w hF hS => k.out w hF (by
  obtain ⟨fp, h1, h2, h3⟩ := hS.out
  obtain ⟨S1, S2, k1, k2, k3, k4, k5⟩ := h1 i _ hL
  have hil : i < L.length := by
   rcases Nat.lt_or_ge i L.length with h | h
   ·exact h
   ·simp [List.getElem?_eq_none h] at hL
  have hjl : j < L.length := by
   rcases Nat.lt_or_ge j L.length with h | h
   ·exact h
   ·simp [List.getElem?_eq_none h] at hjL
  have hji : ¬ j = i := fun h => hne h.symm
  have key : ∀ q b, (if q = i then S1 b else if q = j then S2 b else fp q b) → (q = i ∧ S1 b) ∨ (q = j ∧ S2 b) ∨ (q ≠ i ∧ q ≠ j ∧ fp q b) := by
   intro q b h
   by_cases hqi : q = i
   ·simp only [hqi, if_true] at h; exact .inl ⟨hqi, h⟩
   ·by_cases hqj : q = j
    ·simp only [hqi, hqj, hji, if_true, if_false] at h; exact .inr (.inl ⟨hqj, h⟩)
    ·simp only [hqi, hqj, if_false] at h; exact .inr (.inr ⟨hqi, hqj, h⟩)
  refine ⟨fun q b => if q = i then S1 b else if q = j then S2 b else fp q b, ?_, ?_, ?_⟩
  ·intro q c hc
   by_cases hqj : q = j
   ·subst hqj
    rw [List.getElem?_set_self (by simpa using hjl)] at hc
    cases hc
    simpa [hji] using k2
   ·rw [List.getElem?_set_ne (fun h => hqj h.symm)] at hc
    by_cases hqi : q = i
    ·subst hqi
     rw [List.getElem?_set_self hil] at hc
     cases hc
     simpa using k1
    ·rw [List.getElem?_set_ne (fun h => hqi h.symm)] at hc
     simpa [hqi, hqj] using h1 q c hc
  ·intro q b hb
   rcases key q b hb with ⟨rfl, h⟩ | ⟨rfl, h⟩ | ⟨_, _, h⟩
   ·exact ⟨by simpa using hil, (h2 _ b (k3 b h)).2⟩
   ·exact ⟨by simpa using hjl, (h2 _ b (k4 b h)).2⟩
   ·obtain ⟨a1, a2⟩ := h2 q b h
    exact ⟨by simpa using a1, a2⟩
  ·intro p q b hp hq
   rcases key p b hp with ⟨rfl, h⟩ | ⟨rfl, h⟩ | ⟨n1, n2, h⟩ <;> rcases key q b hq with ⟨e1, h'⟩ | ⟨e1, h'⟩ | ⟨m1, m2, h'⟩
   ·exact e1.symm
   ·exact absurd h' (k5 b h)
   ·exact absurd (h3 _ _ b (k3 b h) h') (fun h => m1 h.symm)
   ·exact absurd h (k5 b h')
   ·exact e1.symm
   ·exact absurd (h3 _ _ b (k4 b h) h') (fun h => m1 h.symm)
   ·exact absurd (h3 _ _ b h (e1 ▸ k3 b h')) (fun hh => n1 hh)
   ·exact absurd (h3 _ _ b h (k4 b h')) n1
   ·exact h3 p q b h h')⟩
theorem turns_opB {σ : Type} {o : Oper} {i : Nat} {f : FuncId} {args : List Value} {rds : List Nat} {G : σ → Value} {C0 : Chunk} {C : σ → Chunk} (hL : L[i]? = some C0)
  (h : ∀ w L' S, Fr cx w → Sat cx w L' → (∀ j ∈ rds, L'[j]? = L[j]?) → C0.P S w → (∀ b, S b → b < w.heap.size) → (∀ b, S b → cx.own b) → Apart L' i w S → Does P f args.toArray w fun v w' => ∃ x, v = G x ∧ Turn w w' S (C x)) (hr : ∀ w, (execOp (ev e) o).run P w = .ok (.enter f args.toArray) w) : Turns P cx e o L i rds G C := fun w L' hF hS hl hi => by
 unfold RunsTo
 rw [hr w]
 have hL' := (hi i (.inr rfl)).trans hL
 show Does P f args.toArray w _
 obtain ⟨fp, h1, h2, h3⟩ := hS.out
 have hSi : ∀ b, fp i b → b < w.heap.size ∧ cx.own b := fun b hb => (h2 i b hb).2
 refine (h w L' (fp i) hF hS (fun j hj => hi j (.inl hj)) (h1 i C0 hL') (fun b hb => (hSi b hb).1) (fun b hb => (hSi b hb).2) (fun j C hji hC => ⟨fp j, h1 j C hC, fun b hb hbi => hji (h3 j i b hb hbi)⟩)).mono fun v' w' ⟨x, hv, ht⟩ => ⟨x, hv, hF.turn ht fun b hb => (hSi b hb).2, ?_⟩
 obtain ⟨S', k1, k2⟩ := ht.out
 have hil : i < L'.length := by
  rcases Nat.lt_or_ge i L'.length with h | h
  ·exact h
  ·simp [List.getElem?_eq_none h] at hL'
 refine ⟨fun j b => if j = i then S' b else fp j b, ?_, ?_, ?_⟩
 ·intro j c hc'
  by_cases hji : j = i
  ·subst hji
   simp [List.getElem?_set_self hil] at hc'
   subst hc'
   simpa using k1
  ·rw [List.getElem?_set_ne (fun e => hji e.symm)] at hc'
   simp only [hji, if_false]
   exact c.loc _ _ _ (fun b hb => ht.block b (h2 j b hb).2.1 (fun hib => hji (h3 j i b hb hib))) (h1 j c hc')
 ·intro j b hb
  by_cases hji : j = i
  ·simp only [hji, if_true] at hb
   refine ⟨by simp [hji, hil], (k2 b hb).1, ?_⟩
   rcases (k2 b hb).2 with h | h
   ·exact (h2 i b h).2.2
   ·exact .inl (Nat.le_trans hF.size h)
  ·simp only [hji, if_false] at hb
   obtain ⟨a1, a2, a3⟩ := h2 j b hb
   exact ⟨by simpa using a1, Nat.lt_of_lt_of_le a2 ht.size, a3⟩
 ·intro j q b hj hq
  by_cases hji : j = i <;> by_cases hqi : q = i <;> simp only [hji, hqi, if_true, if_false] at hj hq
  ·omega
  ·obtain ⟨_, a2, _⟩ := h2 q b hq
   rcases (k2 b hj).2 with h | h
   ·exact absurd (h3 q i b hq h) hqi
   ·omega
  ·obtain ⟨_, a2, _⟩ := h2 j b hj
   rcases (k2 b hq).2 with h | h
   ·exact absurd (h3 j i b hj h) hji
   ·omega
  ·exact h3 j q b hj hq
theorem Qa {σ : Type} {i : Nat} {f : FuncId} {A : Array Operand} {tys : Array TypeId} {args : List Value} {rds : List Nat} {G : σ → Value} {C0 : Chunk} {C : σ → Chunk} (hL : L[i]? = some C0)
  (h : ∀ w L' S, Fr cx w → Sat cx w L' → (∀ j ∈ rds, L'[j]? = L[j]?) → C0.P S w → (∀ b, S b → b < w.heap.size) → (∀ b, S b → cx.own b) → Apart L' i w S → Does P f args.toArray w fun v w' => ∃ x, v = G x ∧ Turn w w' S (C x)) (hc : ∀ args w, (callFunc f args).run P w = .ok (.enter f args) w)
  (ha : A.toList.map (ev e) = args) : Turns P cx e ⟨some d, .call ⟨.value (.func f), A, tys⟩, ty, pos, af, g⟩ L i rds G C :=
 turns_opB hL h (Jfc hc ha)
end rules
end Go.Lx

namespace Go.Lx
open Go Go.Vc Go.Md
section ops
variable {P : Program} {e : Xl} {d : Option Nat} {ty : TypeId} {pos : String} {af : Array Edge} {g : Option (Nat × Bool)}
end ops
section rules
variable {P : Program} {n : Nat} {cx : Cx} {e : Xl} {L : List Chunk} {ops : Array Oper} {rest : List Oper} {F : Xl → List Chunk → Prop} {ss : List Kd} {ty : TypeId} {pos : String} {af : Array Edge} {g : Option (Nat × Bool)}
end rules
end Go.Lx

namespace Go.Lx
open Go Go.Vc Go.Md
theorem caseB {p : Prop} (b : Bool) (ht : b = true → p) (hf : b = false → p) : p := by
 cases b
 ·exact hf rfl
 ·exact ht rfl
def Jae (n : Nat) (f : Nat → List Value) : List Value := (List.range n).flatMap f
theorem Jiw (n : Nat) (f : Nat → List Value) : Jae n f = [] ++ ((List.range n).flatMap f ++ []) := by rw [List.nil_append, List.append_nil]; rfl
theorem Us {n : Nat} {f : Nat → List Value} (hf : ∀ j, (f j).length = 1) : (Jae n f).length = n := by
 unfold Jae
 induction n with
 | zero => rfl
 | succ n ih => rw [List.range_succ, List.flatMap_append, List.flatMap_singleton, List.length_append, ih, hf]
theorem Jjr {n : Nat} {f : Nat → List Value} (hf : ∀ j, (f j).all Value.oneCell' = true) : (Jae n f).all Value.oneCell' = true := by
 unfold Jae
 rw [List.all_eq_true]
 intro v hv
 obtain ⟨j, _, h⟩ := List.mem_flatMap.1 hv
 exact List.all_eq_true.1 (hf j) v h
theorem Jke {cs vs : List Value} (h : cs.length = vs.length) : wr cs 0 vs = some vs := by
 rw [wr_of (by omega), Nat.zero_add, ← h, List.drop_length]; simp
theorem Jh9 {cs : List Value} {n : Nat} (h : cs.length = n) : rd cs 0 n = some cs := by
 subst h
 induction cs with
 | nil => rfl
 | cons c cs ih =>
  have e : ∀ (l : List Value) (k : Nat), rd l 0 k = rdn l k := fun l k => by cases l <;> rfl
  rw [e] at *
  show rdn (c :: cs) (cs.length + 1) = some (c :: cs)
  unfold rdn
  rw [ih]; rfl
section ops
variable {P : Program} {cx : Cx} {e : Xl} {L : List Chunk} {d : Option Nat} {ty : TypeId} {pos : String} {af : Array Edge} {g : Option (Nat × Bool)}
theorem Jm {X : Operand} {a : Addr} (hx : ev e X = .pointer (some a)) (w : World) :
  (execOp (ev e) ⟨d, .nilCheck X, ty, pos, af, g⟩).run P w = .ok (.value (.pointer (some a))) w := by
 simp only [execOp, hx, Sem.run_pure]
def iterC (b : Nat) (s : List UInt8) (k : Nat) : Chunk where
 P S w := (∀ x, S x ↔ x = b) ∧ w.heap[b]? = some (.stringIter ⟨s.toArray⟩ k)
 loc S w w' h hp := ⟨hp.1, by rw [h b ((hp.1 b).2 rfl)]; exact hp.2⟩
theorem Jjb {X : Operand} {t d : Nat} {s : List UInt8} {rds : List Nat} (ht : P.underlying t = some .string) (hx : ev e X = str s) :
  Makes P cx e ⟨some d, .range t X, ty, pos, af, g⟩ L rds (fun b : Nat => .pointer (some ⟨b, 0, none⟩)) (fun b => iterC b s 0) := fun w L' hF hS _ => by
 unfold RunsTo
 have hr : (execOp (ev e) ⟨some d, .range t X, ty, pos, af, g⟩).run P w = .ok (.value (.pointer (some ⟨w.heap.size, 0, none⟩))) (w.alloc (.stringIter ⟨s.toArray⟩ 0)) := by
  simp [execOp, Instr.range, hx, run_underlying ht, newObj, Sem.run]
 rw [hr]
 have gr := Ja7 w (.stringIter ⟨s.toArray⟩ 0)
 exact ⟨w.heap.size, rfl, gr.os, gr.tape, gr.output, gr.size, fun b hb _ => gr.block b hb, fun x => x = w.heap.size, ⟨fun _ => Iff.rfl, heap_alloc_new w _⟩, fun b hb => by subst hb; exact ⟨by simp, .inr (Nat.le_refl _)⟩⟩
theorem Jkb {X : Operand} {d i b k : Nat} {s : List UInt8} {c : Int} {rds : List Nat} (hL : L[i]? = some (iterC b s k)) (hx : ev e X = .pointer (some ⟨b, 0, none⟩)) (hg : gNx s k = some c) :
  Turns P cx e ⟨some d, .next X true, ty, pos, af, g⟩ L i rds (fun _ : Unit => .tuple #[.bool true, .int .i64 (k : Nat), .int .i32 c]) (fun _ => iterC b s (k + 1)) := fun w L' hF hS _ hi' => by
 have hL' := (hi' i (.inr rfl)).trans hL
 obtain ⟨hk, hc, rfl⟩ := gNx_some hg
 obtain ⟨S, hp, hb⟩ := hS.at hL'
 have hh := hp.2
 have hlt : b < w.heap.size := (Array.getElem?_eq_some_iff.1 hh).1
 have hw' : (execOp (ev e) ⟨some d, .next X true, ty, pos, af, g⟩).run P w = .ok (.value (.tuple #[.bool true, .int .i64 (k : Nat), .int .i32 ((s[k]).toNat : Nat)])) { w with heap := w.heap.setIfInBounds b (.stringIter ⟨s.toArray⟩ (k + 1)) } := by
  have hs : k < (⟨s.toArray⟩ : ByteArray).size := by simpa [ByteArray.size] using hk
  have e : (⟨s.toArray⟩ : ByteArray)[k]'hs = s[k] := by show s.toArray[k] = s[k]; simp
  have hd := decode_ascii (⟨s.toArray⟩ : ByteArray) k hs (by rw [e]; exact hc)
  simp only [execOp, hx, Instr.next, getObj, setObj, Sem.run_bind, Sem.run, hh, Result.andThen, hs, if_true, hd]
  simp [goInt, Sem.run, hh, e]
 unfold RunsTo
 rw [hw']
 have hS' := hS.turnOf (w' := { w with heap := w.heap.setIfInBounds b (.stringIter ⟨s.toArray⟩ (k + 1)) }) hF hL' (C := iterC b s (k + 1)) fun S1 hp1 =>
  ⟨rfl, rfl, rfl, by simp, fun x _ hx => by rw [Array.getElem?_setIfInBounds_ne (fun h => hx ((hp1.1 x).2 h.symm))], S1, ⟨hp1.1, by simp [hlt]⟩, fun x hx => ⟨by rw [(hp1.1 x).1 hx]; simpa using hlt, .inl hx⟩⟩
 exact ⟨(), rfl, hS'.1, hS'.2⟩
theorem Jj2 {X : Operand} {i b k : Nat} {s : List UInt8} {w : World} (hS : Sat cx w L) (hL : L[i]? = some (iterC b s k)) (hx : ev e X = .pointer (some ⟨b, 0, none⟩)) (hk : decide (k < s.length) = false) :
  (execOp (ev e) ⟨d, .next X true, ty, pos, af, g⟩).run P w = .ok (.value (.tuple #[.bool false])) w := by
 obtain ⟨S, hp, _⟩ := hS.at hL
 have hh := hp.2
 have hk' : ¬ k < s.length := of_decide_eq_false hk
 have hs : ¬ k < (⟨s.toArray⟩ : ByteArray).size := by simpa [ByteArray.size] using hk'
 simp only [execOp, hx, Instr.next, getObj, Sem.run_bind, Sem.run, hh, Result.andThen, hs, if_false]
 simp [Sem.run]
end ops
end Go.Lx

namespace Go.Lx
open Go Go.Vc Go.Md
section ops
variable {P : Program} {e : Xl} {d : Option Nat} {ty : TypeId} {pos : String} {af : Array Edge} {g : Option (Nat × Bool)}
end ops
end Go.Lx

namespace Go.Lx
open Go Go.Vc Go.Md
theorem Jgn {α : Type} {xs ys : List α} {l q : Int} (e : Xx xs l q = some ys) : ys.length = q.toNat - l.toNat := by
 obtain ⟨g0, g1, g2, rfl⟩ := Z0 e
 rw [List.length_take, List.length_drop]; omega
theorem Row.cutG {α : Type} {w : World} {a : Option Addr} {m c sz : Nat} {f : α → List Value} {xs ys : List α} {l q : Int} (h : Row w a sz (xs.map f)) (hm : m = xs.length) (hc : m ≤ c) (e : Xx xs l q = some ys) : Row w (X0 a l.toNat c sz) sz (ys.map f) := by
 obtain ⟨g0, g1, g2, rfl⟩ := Z0 e
 have := Row.cut h l.toNat (q.toNat - l.toNat) c (by omega)
 rw [← List.map_drop, ← List.map_take] at this
 exact this
section ops
variable {P : Program} {e : Xl} {d : Option Nat} {ty : TypeId} {pos : String} {af : Array Edge} {g : Option (Nat × Bool)}
theorem Jjd {α : Type} {X A : Operand} {a : Option Addr} {m c : Nat} {t u sz : Nat} {ka : IntKind} {l : Int} {xs ys : List α} {w : World} (hu : P.underlying t = some (.slice u)) (hs : ∀ w, (sizeOf u).run P w = .ok sz w)
  (hx : ev e X = .slice a m c) (ha : ev e A = .int ka l) (hm : m = xs.length) (_hc : m ≤ c) (hg : Xx xs l xs.length = some ys) :
  (execOp (ev e) ⟨d, .slice t X (some A) none none, ty, pos, af, g⟩).run P w = .ok (.value (.slice (X0 a l.toNat c sz) ys.length (c - l.toNat))) w := by
 obtain ⟨g0, g1, g2, _⟩ := Z0 hg
 have hl := Jgn hg
 rw [r_sliceL hu hs hx ha g0 (by omega) w]
 congr 4; omega
theorem Ji4 {α : Type} {X B : Operand} {a : Option Addr} {m c : Nat} {t u sz : Nat} {kb : IntKind} {q : Int} {xs ys : List α} {w : World} (hu : P.underlying t = some (.slice u)) (hs : ∀ w, (sizeOf u).run P w = .ok sz w)
  (hx : ev e X = .slice a m c) (hb : ev e B = .int kb q) (hm : m = xs.length) (hc : m ≤ c) (hg : Xx xs 0 q = some ys) :
  (execOp (ev e) ⟨d, .slice t X none (some B) none, ty, pos, af, g⟩).run P w = .ok (.value (.slice (X0 a (0 : Int).toNat c sz) ys.length (c - (0 : Int).toNat))) w := by
 obtain ⟨g0, g1, g2, _⟩ := Z0 hg
 have hl := Jgn hg
 rw [r_sliceH hu hs hx hb g1 (by omega) w, hl]; rfl
end ops
end Go.Lx

namespace Go.Lx
open Go Go.Vc Go.Md
section rules
variable {cx : Cx} {K : Xl → World → Prop} {e : Xl} {L : List Chunk}
end rules
def FnV {μ : Type} (P : Program) (v : Value) (m : Option μ) (R : μ → World → List Value → (Value → World → Prop) → Prop) : Prop := (m = none ∧ v = .nilFunc) ∨ ∃ g, m = some g ∧ ∀ h, FnH P h v (R g)
theorem FnV.nil {μ : Type} {P : Program} {R : μ → World → List Value → (Value → World → Prop) → Prop} : FnV P .nilFunc none R := .inl ⟨rfl, rfl⟩
theorem FnV.mk {μ : Type} {P : Program} {v : Value} {g : μ} {R : μ → World → List Value → (Value → World → Prop) → Prop} (h : ∀ h, FnH P h v (R g)) : FnV P v (some g) R := .inr ⟨g, rfl, h⟩
theorem FnV.cells {μ : Type} {P : Program} {v : Value} {m : Option μ} {R : μ → World → List Value → (Value → World → Prop) → Prop} (f : FnV P v m R) : v.cells.toList = [v] := by
 rcases f with ⟨_, rfl⟩ | ⟨g, _, f⟩
 ·rfl
 ·exact (f fun _ => none).cells
theorem FnV.one {μ : Type} {P : Program} {v : Value} {m : Option μ} {R : μ → World → List Value → (Value → World → Prop) → Prop} (f : FnV P v m R) : v.oneCell' = true := by
 rcases f with ⟨_, rfl⟩ | ⟨g, _, f⟩
 ·rfl
 ·exact (f fun _ => none).one
theorem FnV.fn {μ : Type} {P : Program} {v : Value} {m : Option μ} {g : μ} {R : μ → World → List Value → (Value → World → Prop) → Prop} (f : FnV P v m R) (hm : m = some g) (h : Jw) : FnH P h v (R g) := by
 rcases f with ⟨h1, _⟩ | ⟨g', h1, f⟩
 ·rw [hm] at h1; cases h1
 ·rw [hm] at h1; cases h1; exact f h
section ops
variable {P : Program} {e : Xl} {d : Option Nat} {ty : TypeId} {pos : String} {af : Array Edge} {g : Option (Nat × Bool)}
end ops
section rules
variable {P : Program} {n : Nat} {cx : Cx} {e : Xl} {L : List Chunk} {ops : Array Oper} {rest : List Oper} {Q : Jax} {F : Xl → List Chunk → Prop} {ss : List Kd} {d : Option Nat} {ty : TypeId} {pos : String} {af : Array Edge} {g : Option (Nat × Bool)}
theorem Jf2 {σ : Type} {o : Oper} {i : Nat} {rds : List Nat} {G : σ → Value} {C : σ → Chunk} (h : Turns P cx e o L i rds G C) (hw : X3 ops o e = true) (hd : o.dst = none)
  (k : ∀ x, At cx (WL P n ops Q rest) e (L.set i (C x))) : At cx (WL P n ops Q (o :: rest)) e L :=
 ⟨fun w hF hS => ⟨fun a ha => by
  have hr := (h w L hF hS rfl (fun _ _ => rfl)).mono (R' := fun _ w' => WL P n ops Q rest e w') fun v w' ⟨x, hv, hF', hS'⟩ => (k x).out w' hF' hS'
  unfold RunsTo at hr
  unfold wpList
  rw [Jfx ha, hw, if_pos rfl]
  refine .inl ?_
  unfold Oper.wp
  rw [ha.ev]
  generalize (execOp (ev e) o).run P w = r at hr
  cases r with
  | halt x w' => exact hr.elim
  | ok nx w' =>
   cases nx with
   | value v =>
    show wpList P ops (lift n Q) rest (a.put o.dst v) w'
    rw [hd]
    exact hr.out _ ha
   | skip =>
    show wpList P ops (lift n Q) rest (a.put o.dst undef) w'
    rw [hd]
    exact hr.out _ ha
   | enter f args =>
    refine Calls.mono hr ?_
    rintro en w'' ⟨v, rfl, hk⟩
    show wpList P ops (lift n Q) rest (a.put o.dst v) w''
    rw [hd]
    exact hk.out _ ha
   | _ => exact hr.elim⟩⟩
end rules
def _root_.Go.Vc.Kd.fv (φ : Value → Prop) : Kd := .g [] [] [] (fun _ _ v => φ v) (fun _ _ _ => [])
section rules
variable {P : Program} {n : Nat} {cx : Cx} {e : Xl} {L : List Chunk} {ops : Array Oper} {rest : List Oper} {Q : Jax} {F : Xl → List Chunk → Prop} {ss : List Kd} {d : Nat} {ty : TypeId} {pos : String} {af : Array Edge} {g : Option (Nat × Bool)}
end rules
end Go.Lx

namespace Go.Lx
open Go Go.Vc Go.Md
theorem Know.at {h : Jw} {w0 w : World} {S : Nat → Prop} (k : Know h w0 S) (hF : Fr ⟨w0, S⟩ w) : Know h w Ys := fun b o hb => ⟨k.now hF b o hb, fun x => x⟩
theorem FrS.cutL {α : Type} {h : Jw} {sz : Nat} {a : Option Addr} {n c : Nat} {f : α → List Value} {xs ys : List α} {l q : Int} (s : FrS h sz (.slice a n c) (xs.map f)) (e : Xx xs l q = some ys) : FrS h sz (.slice (X0 a l.toNat c sz) ys.length (c - l.toNat)) (ys.map f) := by
 have := s.cut e
 rw [Jgn e]
 exact this
def Jf9 : Value → Bool | .slice none _ _ => true | _ => false
theorem FrS.nilV {h : Jw} {sz : Nat} {v : Value} {α : Type} {f : α → List Value} {xs : List α} (s : FrS h sz v (xs.map f)) (hb : Jf9 v = true) : xs = [] := by
 obtain ⟨a, c, rfl, _, _, r⟩ := s.out
 rcases r with r | ⟨b, off, cs, T, m, rfl, _⟩
 ·simpa using r
 ·simp [Jf9] at hb
section ops
variable {P : Program} {e : Xl} {d : Option Nat} {ty : TypeId} {pos : String} {af : Array Edge} {g : Option (Nat × Bool)}
theorem eq_nilS {a : Option Addr} {m c : Nat} {t u : TypeId} (ht : P.underlying t = some (.slice u)) (n : Nat) (w : World) : (Op.equalIn (n + 1) t (.slice a m c) (.slice none 0 0)).run P w = .ok (Jf9 (.slice a m c)) w := by
 cases a <;> simp [Op.equalIn, run_underlying ht, Jf9]
theorem r_eqlNilS {X Y : Operand} {v : Value} {t t' u sz : TypeId} {h : Jw} {xs : List (List Value)} (ht : P.underlying t = some (.slice u)) (s : FrS h sz v xs) (hx : ev e X = v) (hy : ev e Y = .slice none 0 0) (w : World) :
  (execOp (ev e) ⟨d, .binOp .eql t X Y t', ty, pos, af, g⟩).run P w = .ok (.value (.bool (Jf9 v))) w := by
 obtain ⟨a, c, rfl, _⟩ := s.out
 have h0 := eq_nilS (P := P) (a := a) (m := xs.length) (c := c) ht 9999 w
 simp [execOp, hx, hy, eqGuard, binOp, Op.equal, Op.maxDepth, h0]
end ops
section rules
variable {P : Program} {n : Nat} {cx : Cx} {e : Xl} {L : List Chunk} {ops : Array Oper} {rest : List Oper} {Q : Jax} {F : Xl → List Chunk → Prop} {ss : List Kd} {d : Nat} {ty : TypeId} {pos : String} {af : Array Edge} {g : Option (Nat × Bool)}
def _root_.Go.Vc.Kd.sv (a b i : Nat) (cs : Value → List Value) (T : TypeId) : Kd := .g [a, b] [i] [i] (fun _ _ v => v = undef) (fun vs _ _ => [Jh1 (vs.headD undef) (cs (vs.getD 1 undef)) T])
theorem d_storeV {i : Nat} {a q T T0 b o sz : Nat} {x : Value} {cs vs : List Value} {cs' : Value → List Value} (hs : ∀ w, (sizeOf T).run P w = .ok sz w)
  (hw : X3 ops ⟨none, .store T (.tmp a) (.tmp q), ty, pos, af, g⟩ e = true) (hp : e a = .pointer (some ⟨b, o, none⟩)) (hx : e q = x) (hc : x.cells.toList = vs) (hsz : vs.length = sz) (hpos : Nat.blt 0 sz = true)
  (hone : vs.all Value.oneCell' = true) (hL : L[i]? = some (Jn b cs T0)) (hv : wr cs o vs = some (cs' x))
  (k : Sq P cx ops F rest ss e (L.set i (Jn b (cs' x) T0))) : Sq P cx ops F (⟨none, .store T (.tmp a) (.tmp q), ty, pos, af, g⟩ :: rest) (.sv a q i cs' T0 :: ss) e L := by
 have hbox : Jh1 (([a, q].map e).headD undef) (cs' (([a, q].map e).getD 1 undef)) T0 = Jn b (cs' x) T0 := by
  have h1 : ([a, q].map e).headD undef = e a := rfl
  have h2 : ([a, q].map e).getD 1 undef = e q := rfl
  rw [h1, h2, hp, hx]; rfl
 refine .take hw ⟨undef, rfl⟩ ⟨fun w L' hF hS _ hi => ?_⟩ fun v' hv' => ?_
 ·have hL' := (hi i (.inl (by simp [Kd.sv, Kd.rds]))).trans hL
  have hb := Ut hS hL'
  unfold RunsTo
  rw [Go.Vc.run_store hs (by exact hp) (by exact hx) hc hsz hpos hone hv hb]
  have hset := setRow_heap w b cs.toArray (cs' x).toArray T0 (0, 0) hb
  refine ⟨rfl, ⟨hF.os, hF.tape, hF.output, by simpa using hF.size, fun c hcn => ?_⟩, ?_⟩
  ·rw [setRow_other w b c _ (fun e => ?_)]
   ·exact hF.block c hcn
   ·obtain ⟨fp, f1, f2, _⟩ := hS.out
    have := (f2 i b ((f1 i _ hL').1 b |>.2 rfl)).2.2
    subst e
    exact hcn this
  ·show Sat cx _ (L'.set i (Jh1 (([a, q].map e).headD undef) (cs' (([a, q].map e).getD 1 undef)) T0))
   rw [hbox]
   exact hS.set hF hL' (by simp) fun S hSp hSo => ⟨S, ⟨hSp.1, hset⟩, fun c hc => ⟨by simpa using (hSo c hc).1, .inl hc⟩, fun c _ hcS => setRow_other w b c _ (fun e => hcS ((hSp.1 c).2 e))⟩
 ·have hbox' := hbox
  show Sq P cx ops F rest ss (Jdv e none v') (L.set i (Jh1 (([a, q].map e).headD undef) (cs' (([a, q].map e).getD 1 undef)) T0))
  rw [hbox]
  exact k
end rules
end Go.Lx

namespace Go.Lx
open Go Go.Vc Go.Md
def Qq (h : Jw) (v : Value) (sz i j : Nat) : Value :=
 if j < sz then match v with
 | .slice (some ⟨b, off, _⟩) _ _ => match h b with
  | some (.cells cs _ _) => cs.getD (off + i * sz + j) undef
  | _ => undef
 | _ => undef else undef
def elC (h : Jw) (v : Value) (sz i : Nat) : List Value := (List.range sz).map (Qq h v sz i)
class Mon {α : Type} (G : Jw → (Nat → Value) → α → Prop) : Prop where
 mono : ∀ {h h' : Jw}, (∀ b o, h b = some o → h' b = some o) → ∀ c x, G h c x → G h' c x
structure FrN {α : Type} (h : Jw) (sz : Nat) (v : Value) (G : Jw → (Nat → Value) → α → Prop) (xs : List α) : Prop where
 frs : FrS h sz v ((List.range xs.length).map (elC h v sz))
 el : ∀ (i : Nat) (x : α), xs[i]? = some x → G h (Qq h v sz i) x
theorem Jkg {h h' : Jw} {v : Value} {sz : Nat} {ys : List (List Value)} (f : FrS h sz v ys) (hy : 0 < ys.length) (k : ∀ b o, h b = some o → h' b = some o) (i : Nat) : Qq h v sz i = Qq h' v sz i := by
 funext j
 obtain ⟨a, c, rfl, _, _, r⟩ := f.out
 rcases r with r | ⟨b, off, cs, T, m, rfl, hb, _⟩
 ·subst r; simp at hy
 ·simp only [Qq, hb, k b _ hb]
theorem FrN.mono {α : Type} {h h' : Jw} {sz : Nat} {v : Value} {G : Jw → (Nat → Value) → α → Prop} [M : Mon G] {xs : List α} (f : FrN h sz v G xs) (k : ∀ b o, h b = some o → h' b = some o) : FrN h' sz v G xs := by
 have key : ∀ i, i < xs.length → Qq h v sz i = Qq h' v sz i := fun i hi => Jkg f.frs (by simp; omega) k i
 refine ⟨?_, fun i x hx => ?_⟩
 ·have := f.frs.mono k
  have e : (List.range xs.length).map (elC h v sz) = (List.range xs.length).map (elC h' v sz) := by
   apply List.map_congr_left
   intro i hi
   unfold elC
   rw [key i (by simpa using hi)]
  rwa [e] at this
 ·have hi : i < xs.length := by
   rcases Nat.lt_or_ge i xs.length with h | h
   ·exact h
   ·rw [List.getElem?_eq_none h] at hx; cases hx
  rw [← key i hi]
  exact M.mono k _ _ (f.el i x hx)
theorem FrN.nil {α : Type} (h : Jw) (sz : Nat) (G : Jw → (Nat → Value) → α → Prop) : FrN h sz (.slice none 0 0) G [] := ⟨FrS.nil _ _, by simp⟩
section acc
variable {α : Type} {h : Jw} {sz : Nat} {v : Value} {G : Jw → (Nat → Value) → α → Prop} {xs ys : List α}
theorem FrN.cells (f : FrN h sz v G xs) : v.cells.toList = [v] := f.frs.cells
theorem FrN.one (f : FrN h sz v G xs) : v.oneCell' = true := f.frs.one
theorem FrN.eq (f : FrN h sz v G xs) : v = .slice (sa v) xs.length (sc v) := by
 have := f.frs.eq; rwa [List.length_map, List.length_range] at this
theorem FrN.len (f : FrN h sz v G xs) : xs.length ≤ sc v ∧ sc v ≤ 9223372036854775807 := by
 have := f.frs.len; rwa [List.length_map, List.length_range] at this
theorem FrN.at (f : FrN h sz v G xs) {i : Int} {x : α} (g : Yv xs i = some x) : G h (Qq h v sz i.toNat) x := f.el _ _ (Vn g).2.2
theorem FrN.ix (_ : FrN h sz v G xs) {i : Int} {x : α} (g : Yv xs i = some x) : Yv (List.range xs.length) i = some i.toNat := by
 obtain ⟨h0, h1, _⟩ := Vn g
 rw [gAt_ok h0 (by simpa using h1)]; simp
theorem FrN.nilV (f : FrN h sz v G xs) (hb : Jf9 v = true) : xs = [] := by
 have := FrS.nilV f.frs hb
 exact List.eq_nil_of_length_eq_zero (by simpa using congrArg List.length this)
theorem gCut_range {l q : Int} (e : Xx xs l q = some ys) : Xx (List.range xs.length) l q = some (((List.range xs.length).drop l.toNat).take (q.toNat - l.toNat)) := by
 obtain ⟨g0, g1, g2, _⟩ := Z0 e
 exact Jht ⟨g0, g1, by simpa using g2⟩
theorem FrN.cut (f : FrN h sz v G xs) {l q : Int} (e : Xx xs l q = some ys) : FrN h sz (cutV sz v l q) G ys := by
 obtain ⟨g0, g1, g2, rfl⟩ := Z0 e
 have hl := f.len
 have h0 := FrS.cut f.frs (gCut_range e)
 have hlen : ((xs.drop l.toNat).take (q.toNat - l.toNat)).length = q.toNat - l.toNat := by rw [List.length_take, List.length_drop]; omega
 have key : ∀ i, i < q.toNat - l.toNat → Qq h (cutV sz v l q) sz i = Qq h v sz (l.toNat + i) := by
  intro i hi
  funext j
  obtain ⟨a, c, hva, h1, _, r⟩ := f.frs.out
  simp only [List.length_map, List.length_range] at hva h1
  rcases r with r | ⟨b, off, cs, T, m, ha, hb, _⟩
  ·have := congrArg List.length r
   simp at this
   rw [this] at g2
   simp at g2
   omega
  ·have hm : ¬ c = l.toNat := by omega
   rw [hva, ha]
   simp only [cutV, sa, sc, X0, if_neg hm, Option.map_some, Addr.add_lit, Qq, hb]
   rw [show off + l.toNat * sz + i * sz + j = off + (l.toNat + i) * sz + j from by rw [Nat.add_mul]; omega]
 refine ⟨?_, fun i x hx => ?_⟩
 ·have e1 : ((List.range ((xs.drop l.toNat).take (q.toNat - l.toNat)).length).map (elC h (cutV sz v l q) sz)) = (((List.range xs.length).drop l.toNat).take (q.toNat - l.toNat)).map (elC h v sz) := by
   rw [hlen]
   apply List.ext_getElem
   ·simp; omega
   ·intro i h1 h2
    simp only [List.length_map, List.length_range] at h1
    simp only [List.getElem_map, List.getElem_range, List.getElem_take, List.getElem_drop]
    unfold elC
    rw [key i h1]
  rw [e1]; exact h0
 ·have hi : i < q.toNat - l.toNat := by
   rcases Nat.lt_or_ge i (q.toNat - l.toNat) with h | h
   ·exact h
   ·rw [List.getElem?_eq_none (by rw [hlen]; exact h)] at hx; cases hx
  rw [key i hi]
  rw [List.getElem?_take, if_pos hi, List.getElem?_drop] at hx
  exact f.el _ _ hx
end acc
theorem FrN.cutL {α : Type} {h : Jw} {sz : Nat} {a : Option Addr} {n c : Nat} {G : Jw → (Nat → Value) → α → Prop} {xs ys : List α} {l q : Int} (s : FrN h sz (.slice a n c) G xs) (e : Xx xs l q = some ys) : FrN h sz (.slice (X0 a l.toNat c sz) ys.length (c - l.toNat)) G ys := by
 have := s.cut e
 rw [Jgn e]
 exact this
theorem rd_of {l l' vs : List Value} {j n : Nat} (e : l = l') (h : rd l' j n = some vs) : rd l j n = some vs := by subst e; exact h
theorem Jgi {l l' : List Value} {j : Nat} {v : Value} (e : l = l') (h : rg l' j = some v) : rg l j = some v := by subst e; exact h
def AllG {α : Type} (G : Jw → (Nat → Value) → α → Prop) (h : Jw) (sz : Nat) : List Value → List α → Prop
 | cs, [] => cs = []
 | cs, x :: r => G h (fun j => (cs.take sz).getD j undef) x ∧ AllG G h sz (cs.drop sz) r
theorem AllG.el {α : Type} {G : Jw → (Nat → Value) → α → Prop} {h : Jw} {sz : Nat} : ∀ {cs : List Value} {xs : List α}, AllG G h sz cs xs → ∀ (i : Nat) (x : α), xs[i]? = some x → G h (fun j => ((cs.drop (i * sz)).take sz).getD j undef) x
 | _, [], _, i, x, hx => by simp at hx
 | cs, y :: r, hp, 0, x, hx => by
  simp at hx; subst hx
  have := hp.1
  simpa using this
 | cs, y :: r, hp, i + 1, x, hx => by
  have := AllG.el hp.2 i x (by simpa using hx)
  rw [List.drop_drop, show sz + i * sz = (i + 1) * sz from by rw [Nat.succ_mul]; omega] at this
  exact this
section rules
variable {P : Program} {n : Nat} {cx : Cx} {e : Xl} {L : List Chunk}
section ops
variable {d : Option Nat} {ty : TypeId} {pos : String} {af : Array Edge} {g : Option (Nat × Bool)}
theorem Xw {α : Type} {G : Jw → (Nat → Value) → α → Prop} {X : Operand} {t u sz : TypeId} {h : Jw} {v : Value} {xs : List α} (hu : P.underlying t = some (.slice u)) (hx : ev e X = v) (hs : FrN h sz v G xs) (w : World) :
  (execOp (ev e) ⟨d, .call ⟨.builtin .len, #[X], #[t]⟩, ty, pos, af, g⟩).run P w = .ok (.value (.int .i64 xs.length)) w :=
 Wl (P := P) (d := d) (ty := ty) (pos := pos) (af := af) (g := g) hu (hx.trans hs.eq) w
end ops
end rules
end Go.Lx

namespace Go.Lx
open Go Go.Vc Go.Md
abbrev e8 (x : Int) : List Value := [.int .u8 x]
def U5 (b T E : Nat) (bs : List UInt8) : Chunk where
 P S w := ∃ (q : Value) (p : Option Addr × Nat), (q = .pointer none ∨ q = .pointer (some ⟨b, 0, none⟩)) ∧ (p = (none, 0) ∨ p.2 ≠ 0) ∧
  (Qy (Jn b [q, .slice p.1 (Xa bs).length p.2] T) (J3 E 1 (.slice p.1 (Xa bs).length p.2) (Xa bs).length ((Xa bs).map e8))).P S w
 loc S w w' h := by
  rintro ⟨q, p, hq, hp, hc⟩
  exact ⟨q, p, hq, hp, Chunk.loc _ _ _ _ h hc⟩
theorem Jjp (b T E : Nat) : Imp (Jn b [.pointer none, .slice none 0 0] T) (U5 b T E []) := ⟨fun S w h =>
 ⟨.pointer none, (none, 0), .inl rfl, .inl rfl, S, fun _ => False, h, ⟨⟨World.ownsRow_nil _ _ _ _, rfl, by simp [Xa]⟩, by simp [Value.ownBlock]⟩, fun _ h => h, fun _ h => h.elim, fun _ _ h => h⟩⟩
theorem row_cap {E n : Nat} {p : Option Addr × Nat} {xs : List (List Value)} {S : Nat → Prop} {w : World} (h : (J3 E 1 (.slice p.1 n p.2) n xs).P S w) (hn : n ≠ 0) : p.2 ≠ 0 := by
 rcases h.1.1.2 with ⟨_, h0⟩ | ⟨g, cap, cur, hv, _, _, hc, _⟩
 ·exact absurd h0 hn
 ·simp only [Value.slice.injEq] at hv; omega
theorem imp_bld {b T E : Nat} {p : Option Addr × Nat} {bs : List UInt8} (hb : bs ≠ []) : Imp (Qy (Jn b [.pointer (some ⟨b, 0, none⟩), .slice p.1 (Xa bs).length p.2] T) (J3 E 1 (.slice p.1 (Xa bs).length p.2) (Xa bs).length ((Xa bs).map e8))) (U5 b T E bs) := ⟨fun S w h => by
 refine ⟨_, p, .inr rfl, .inr ?_, h⟩
 obtain ⟨S1, S2, _, h2, _⟩ := h
 exact row_cap h2 (by simpa [Xa] using hb)⟩
section rules
variable {P : Program} {n : Nat} {cx : Cx} {Q : Jax} {K : Xl → World → Prop} {e : Xl} {L : List Chunk} {ops : Array Oper} {F : Xl → List Chunk → Prop} {rest : List Oper} {ss : List Kd} {d : Nat} {ty : TypeId} {pos : String} {af : Array Edge} {g : Option (Nat × Bool)}
theorem c_bld (i : Nat) {b T E : Nat} {bs : List UInt8} (hL : L[i]? = some (U5 b T E bs))
  (k : ∀ (q : Value) (p : Option Addr × Nat), (q = .pointer none ∨ q = .pointer (some ⟨b, 0, none⟩)) → (p = (none, 0) ∨ p.2 ≠ 0) →
   At cx K e (L.set i (Qy (Jn b [q, .slice p.1 (Xa bs).length p.2] T) (J3 E 1 (.slice p.1 (Xa bs).length p.2) (Xa bs).length ((Xa bs).map e8))))) : At cx K e L :=
 ⟨fun w hF hS => by
  obtain ⟨fp, h1, h2, h3⟩ := hS.out
  obtain ⟨q, p, hq, hp, hc⟩ := h1 i _ hL
  have hil : i < L.length := by
   rcases Nat.lt_or_ge i L.length with h | h
   ·exact h
   ·simp [List.getElem?_eq_none h] at hL
  refine (k q p hq hp).out w hF ⟨fp, fun j c hj => ?_, fun j b hb => by simpa using h2 j b hb, h3⟩
  by_cases hji : j = i
  ·subst hji
   rw [List.getElem?_set_self hil] at hj
   cases hj
   exact hc
  ·rw [List.getElem?_set_ne (fun h => hji h.symm)] at hj
   exact h1 j c hj⟩
section ops
theorem r_nilP {dd : Option Nat} {X Y : Operand} {t t' u : TypeId} {a : Option Addr} (ht : P.underlying t = some (.pointer u)) (hx : ev e X = .pointer a) (hy : ev e Y = .pointer none) (w : World) :
  (execOp (ev e) ⟨dd, .binOp .eql t X Y t', ty, pos, af, g⟩).run P w = .ok (.value (.bool a.isNone)) w := by
 have hp : P.underlying t = some (.pointer (P.pointee t)) := by simp [Program.pointee, ht]
 have h0 := run_eql_pointer_nil (P := P) (w := w) t a hp
 simp only [execOp, hx, hy, eqGuard, Sem.run_bind, Sem.run_pure, Result.andThen_ok, h0, Bool.not_true, Bool.false_eq_true, if_false]
theorem r_sameP {dd : Option Nat} {X Y : Operand} {t t' u : TypeId} {a : Addr} {j : TypeInfo} (ht : P.underlying t = some (.pointer u)) (hu : P.info? u = some j) (hx : ev e X = .pointer (some a)) (hy : ev e Y = .pointer (some a)) (w : World) :
  (execOp (ev e) ⟨dd, .binOp .neq t X Y t', ty, pos, af, g⟩).run P w = .ok (.value (.bool false)) w := by
 have h0 := Lib.run_neq_ptr_same (P := P) w (tp := t) a ht hu
 simp only [execOp, hx, hy, eqGuard, Sem.run_bind, Sem.run_pure, Result.andThen_ok, h0, Bool.not_true, Bool.false_eq_true, if_false]
theorem run_toU {dd : Option Nat} {X : Operand} {src dst t T b : TypeId} {j : TypeInfo} {cs : List Value} {w : World} (hs : P.underlying src = some (.pointer t)) (hd : P.underlying dst = some .unsafePointer) (ht : P.info? t = some j) (hj : j.size ≠ 0)
  (hb : w.heap[b]? = some (.cells cs.toArray T (0, 0))) (hcs : Nat.blt 0 cs.length = true) (hx : ev e X = .pointer (some ⟨b, 0, none⟩)) :
  (execOp (ev e) ⟨dd, .convert src dst X, ty, pos, af, g⟩).run P w = .ok (.value (.pointer (some ⟨b, 0, none⟩))) w := by
 have h0 := Lib.run_to_unsafe (P := P) (w := w) (cells := cs.length) ⟨b, 0, none⟩ hs hd ht hj (e := T) (by simp [World.shape?, hb]) (by simpa using hcs)
 simp only [execOp, hx, Sem.run_bind, h0, Result.andThen_ok, Sem.run_pure]
theorem run_fromU {dd : Option Nat} {X : Operand} {src dst u T b : TypeId} {j : TypeInfo} {cs : List Value} {w : World} (hs : P.underlying src = some .unsafePointer) (hd : P.underlying dst = some (.pointer u)) (hu : P.info? u = some j)
  (hb : w.heap[b]? = some (.cells cs.toArray T (0, 0))) (hlies : liesAt P P.depth T (cs.length / P.cellsOf T) 0 u 1 = true) (hx : ev e X = .pointer (some ⟨b, 0, none⟩)) :
  (execOp (ev e) ⟨dd, .convert src dst X, ty, pos, af, g⟩).run P w = .ok (.value (.pointer (some ⟨b, 0, none⟩))) w := by
 have h0 := Lib.run_from_unsafe (P := P) (w := w) (cells := cs.length) ⟨b, 0, none⟩ hs hd hu (e := T) (by simp [World.shape?, hb]) hlies
 simp only [execOp, hx, Sem.run_bind, h0, Result.andThen_ok, Sem.run_pure]
theorem r_ssd {dd : Option Nat} {X : Operand} {tys : Array TypeId} {p : Option Addr × Nat} {m : Nat} (hp : p = (none, 0) ∨ p.2 ≠ 0) (hx : ev e X = .slice p.1 m p.2) (w : World) :
  (execOp (ev e) ⟨dd, .call ⟨.builtin .unsafeSliceData, #[X], tys⟩, ty, pos, af, g⟩).run P w = .ok (.value (.pointer p.1)) w := by
 have h0 : (Builtin.unsafeSliceData_ tys ty #[.slice p.1 m p.2]).run P w = .ok (.pointer p.1) w := by
  rcases hp with rfl | hp
  ·exact Lib.run_unsafeSliceData_nil _ _ _ _ _
  ·obtain ⟨a, c⟩ := p
   cases a with
   | none => exact Lib.run_unsafeSliceData_nil _ _ _ _ _
   | some a => exact Lib.run_unsafeSliceData_row _ _ _ _ _ _ hp
 simp only [execOp, resolve, invoke, builtin, Sem.run_bind, Sem.run_pure, Result.andThen_ok, List.map_toArray, List.map_cons, List.map_nil, hx, h0]
end ops
theorem e8_flat (bs : List UInt8) : ((Xa bs).map e8).flatten = bs.map fun c => Value.int .u8 (c.toNat : Int) := by
 induction bs with
 | nil => rfl
 | cons c r ih =>
  simp only [Xa, List.map_cons, List.flatten_cons] at ih ⊢
  rw [ih]; rfl
theorem turns_ustr {X Y : Operand} {i pt it E : TypeId} {p : Option Addr × Nat} {bs : List UInt8} {rds : List Nat} (hpt : P.underlying pt = some (.pointer E)) (hc : P.cellsOf E = 1)
  (hL : L[i]? = some (J3 E 1 (.slice p.1 (Xa bs).length p.2) (Xa bs).length ((Xa bs).map e8))) (hx : ev e X = .pointer p.1) (hy : ev e Y = .int .i64 ((Xa bs).length : Nat)) :
  Turns P cx e ⟨some d, .call ⟨.builtin .unsafeString, #[X, Y], #[pt, it]⟩, ty, pos, af, g⟩ L i rds (fun _ : Unit => str bs) (fun _ => empC) := fun w L' hF hS _ hi' => by
 have hL' := (hi' i (.inr rfl)).trans hL
 obtain ⟨S0, ⟨⟨ho, _⟩, hob⟩, _⟩ := hS.at hL'
 have hlen : (Xa bs).length = bs.length := by simp [Xa]
 have key : ∃ w', (Builtin.unsafeString_ #[pt, it] ty #[.pointer p.1, .int .i64 ((Xa bs).length : Nat)]).run P w = .ok (str bs) w' ∧ ∀ S : Nat → Prop, (J3 E 1 (.slice p.1 (Xa bs).length p.2) (Xa bs).length ((Xa bs).map e8)).P S w → Turn w w' S empC := by
  by_cases h0 : bs = []
  ·subst h0
   refine ⟨w, Lib.run_unsafeString_none w pt it ty p.1, fun S _ => ⟨rfl, rfl, rfl, Nat.le_refl _, fun _ _ _ => rfl, fun _ => False, fun _ h => h, fun _ h => h.elim⟩⟩
  ·rcases ho.2 with ⟨_, hz⟩ | ⟨g0, cap, cur, hv, _, hh, hnc, hm, hcs, ht⟩
   ·rw [hlen] at hz; exact absurd (List.eq_nil_of_length_eq_zero hz) h0
   ·simp only [Value.slice.injEq, true_and] at hv
    obtain ⟨hp1, hp2⟩ := hv
    rw [hp1, hlen]
    have hcell : ∀ (j : Nat) (x : UInt8), bs[j]? = some x → w.cell? ((⟨g0, 0, none⟩ : Addr).add j) = some (.int .u8 x.toNat) := fun j x hj => by
     rw [e8_flat] at ht
     have hjl : j < bs.length := by
      rcases Nat.lt_or_ge j bs.length with h | h
      ·exact h
      ·rw [List.getElem?_eq_none h] at hj; cases hj
     have h1 : (cur.toList.take ((Xa bs).length * 1))[j]? = some (.int .u8 (x.toNat : Int)) := by rw [ht]; simp [hj]
     rw [List.getElem?_take, if_pos (by rw [hlen]; omega)] at h1
     rw [Addr.add_lit]
     simp only [World.cell?, hh, Nat.zero_add]
     simpa using h1
    have hr := Lib.run_unsafeString_row (P := P) w pt it ty E hpt hc g0 cur.size (by simp [World.shape?, hh]) bs h0 (by rw [hcs]; omega) (by simp only [maxLen] at hm; omega) hcell
    have hg : ∀ S : Nat → Prop, (J3 E 1 (.slice (some ⟨g0, 0, none⟩) bs.length p.2) bs.length ((Xa bs).map e8)).P S w → S g0 := fun S hS => hS.2 g0 rfl
    have hn0 : ¬ bs.length = 0 := fun h => h0 (List.eq_nil_of_length_eq_zero h)
    refine ⟨_, hr, fun S hS => ⟨by simp [World.freeze, h0], by simp [World.freeze, h0], by simp [World.freeze, h0], by simp [World.freeze, h0], fun k hk hn => ?_, fun _ => False, fun _ h => h, fun _ h => h.elim⟩⟩
    have hne : ¬ g0 = k := fun h => hn (h ▸ hg S hS)
    simp [World.freeze, Array.getElem?_modify, hne, h0]
 obtain ⟨w', hr, ht⟩ := key
 obtain ⟨hF', hS'⟩ := hS.turnOf hF hL' ht
 have he : (execOp (ev e) ⟨some d, .call ⟨.builtin .unsafeString, #[X, Y], #[pt, it]⟩, ty, pos, af, g⟩).run P w = .ok (.value (str bs)) w' := by
  simp only [execOp, resolve, invoke, builtin, Sem.run_bind, Sem.run_pure, Result.andThen_ok, List.map_toArray, List.map_cons, List.map_nil, hx, hy, hr]
 unfold RunsTo
 rw [he]
 exact ⟨(), rfl, hF', hS'⟩
end rules
end Go.Lx

namespace Go.Lx
open Go Go.Vc Go.Md
section rules
variable {P : Program} {cx : Cx} {e : Xl} {L : List Chunk}
end rules
section rules
variable {P : Program} {n : Nat} {cx : Cx} {e : Xl} {L : List Chunk} {d : Nat} {ty : TypeId} {pos : String} {af : Array Edge} {g : Option (Nat × Bool)}
end rules
end Go.Lx

namespace Go.Lx
open Go Go.Vc Go.Md
def Vp (l : List Value) : List Value := l
def Wa : Jw := fun _ => none
structure AllC {α : Type} (G : Jw → (Nat → Value) → α → Prop) (h : Jw) (sz : Nat) (css : List (List Value)) (xs : List α) : Prop where
 len : css.length = xs.length
 el : ∀ (i : Nat) (cs : List Value) (x : α), css[i]? = some cs → xs[i]? = some x → cs.length = sz ∧ G h (fun j => cs.getD j undef) x
section allc
variable {α : Type} {G : Jw → (Nat → Value) → α → Prop} {h h' : Jw} {sz : Nat} {css : List (List Value)} {xs ys : List α}
theorem AllC.nil : AllC G h sz [] ([] : List α) := ⟨rfl, by simp⟩
theorem AllC.mono [M : Mon G] (p : AllC G h sz css xs) (k : ∀ b o, h b = some o → h' b = some o) : AllC G h' sz css xs :=
 ⟨p.len, fun i c x hc hx => ⟨(p.el i c x hc hx).1, M.mono k _ _ (p.el i c x hc hx).2⟩⟩
theorem AllC.get (p : AllC G h sz css xs) {i : Int} {x : α} (g : Yv xs i = some x) : css[i.toNat]? = some (css.getD i.toNat []) := by
 obtain ⟨h0, h1, _⟩ := Vn g
 rw [List.getD_eq_getElem?_getD, List.getElem?_eq_getElem (by rw [p.len]; exact h1)]; rfl
theorem AllC.ix (p : AllC G h sz css xs) {i : Int} {x : α} (g : Yv xs i = some x) : Yv css i = some (css.getD i.toNat []) := by
 unfold Yv; rw [if_pos (Vn g).1]; exact p.get g
theorem AllC.at (p : AllC G h sz css xs) {i : Int} {x : α} (g : Yv xs i = some x) : G h (fun j => (css.getD i.toNat []).getD j undef) x := (p.el _ _ _ (p.get g) (Vn g).2.2).2
end allc
def Vi (base hp : Jw) : Chunk where
 P S w := (∀ b o, base b = some o → hp b = some o) ∧ ∀ b o, hp b = some o → base b = some o ∨ (S b ∧ w.heap[b]? = some o)
 loc S w w' h := fun ⟨h1, h2⟩ => ⟨h1, fun b o hb => (h2 b o hb).imp id fun ⟨hs, hw⟩ => ⟨hs, (h b hs).trans hw⟩⟩
section rules
variable {cx : Cx} {K : Xl → World → Prop} {e : Xl} {L : List Chunk} {base hp : Jw}
theorem Jcy (base : Jw) (k : At cx K e (L ++ [Vi base base])) : At cx K e L :=
 ⟨fun w hF hS => k.out w hF (hS.snoc hF (Grow.refl w) (S := Ys) ⟨fun _ _ h => h, fun _ _ h => .inl h⟩ (fun _ h => h.elim))⟩
theorem Jdq {w : World} {i : Nat} (hS : Sat cx w L) (hi : L[i]? = some (Vi base hp)) (hb : ∀ b o, base b = some o → w.heap[b]? = some o) : ∀ b o, hp b = some o → w.heap[b]? = some o := fun b o h => by
 obtain ⟨S, hP, _⟩ := hS.at hi
 rcases hP.2 b o h with h | h
 ·exact hb b o h
 ·exact h.2
theorem Jbr {h : Jw} : ∀ b o, Wa b = some o → h b = some o := fun _ _ h => by cases h
open Classical in
theorem c_freeze {C : Chunk} {Φ : Jw → Prop} (i j : Nat) (hi : L[i]? = some (Vi base hp)) (hj : L[j]? = some C) (hne : i ≠ j) (hb : ∀ w, Fr cx w → ∀ b o, base b = some o → w.heap[b]? = some o)
  (hC : ∀ S w (H : Jw), C.P S w → (∀ b o, S b → w.heap[b]? = some o → H b = some o) → (∀ b o, hp b = some o → H b = some o) → Φ H)
  (k : ∀ hp', (∀ b o, hp b = some o → hp' b = some o) → Φ hp' → At cx K e ((L.set i (Vi base hp')).set j empC)) : At cx K e L :=
 ⟨fun w hF hS => by
  have hnow := Jdq hS hi (hb w hF)
  obtain ⟨fp, h1, h2, h3⟩ := hS.out
  have hil : i < L.length := by
   rcases Nat.lt_or_ge i L.length with h | h
   ·exact h
   ·simp [List.getElem?_eq_none h] at hi
  have hjl : j < L.length := by
   rcases Nat.lt_or_ge j L.length with h | h
   ·exact h
   ·simp [List.getElem?_eq_none h] at hj
  have hji : ¬ j = i := fun h => hne h.symm
  have le : ∀ b o, hp b = some o → (fun b => if fp j b then w.heap[b]? else hp b) b = some o := fun b o h => by
   show (if fp j b then w.heap[b]? else hp b) = some o
   split
   ·exact hnow b o h
   ·exact h
  refine (k (fun b => if fp j b then w.heap[b]? else hp b) le (hC (fp j) w _ (h1 j C hj) (fun b o hs h => by show (if fp j b then w.heap[b]? else hp b) = some o; rw [if_pos hs]; exact h) le)).out w hF ?_
  have key : ∀ q b, (if q = i then fp i b ∨ fp j b else if q = j then False else fp q b) → (q = i ∧ (fp i b ∨ fp j b)) ∨ (q ≠ i ∧ q ≠ j ∧ fp q b) := by
   intro q b h
   by_cases hqi : q = i
   ·simp only [hqi, if_true] at h; exact .inl ⟨hqi, h⟩
   ·by_cases hqj : q = j
    ·simp only [hqj, hji, if_true, if_false] at h
    ·simp only [hqi, hqj, if_false] at h; exact .inr ⟨hqi, hqj, h⟩
  refine ⟨fun q b => if q = i then fp i b ∨ fp j b else if q = j then False else fp q b, ?_, ?_, ?_⟩
  ·intro q c hc
   by_cases hqj : q = j
   ·subst hqj
    rw [List.getElem?_set_self (by simpa using hjl)] at hc
    cases hc
    show ∀ b, ¬ _
    intro b h
    simp [hji] at h
   ·rw [List.getElem?_set_ne (fun h => hqj h.symm)] at hc
    by_cases hqi : q = i
    ·subst hqi
     rw [List.getElem?_set_self hil] at hc
     cases hc
     simp only [if_true]
     have hP := h1 q _ hi
     refine ⟨fun b o h => le b o (hP.1 b o h), fun b o h => ?_⟩
     have h : (if fp j b then w.heap[b]? else hp b) = some o := h
     split at h
     ·rename_i hs; exact .inr ⟨.inr hs, h⟩
     ·rcases hP.2 b o h with h | h
      ·exact .inl h
      ·exact .inr ⟨.inl h.1, h.2⟩
    ·rw [List.getElem?_set_ne (fun h => hqi h.symm)] at hc
     simp only [hqi, hqj, if_false]
     exact h1 q c hc
  ·intro q b h
   rcases key q b h with ⟨rfl, h | h⟩ | ⟨_, _, h⟩
   ·have := h2 q b h; exact ⟨by simpa using hil, this.2⟩
   ·have := h2 j b h; exact ⟨by simpa using hil, this.2⟩
   ·have := h2 q b h; exact ⟨by simpa using this.1, this.2⟩
  ·intro q r b hq hr
   rcases key q b hq with ⟨hqi, hq | hq⟩ | ⟨hqi, hqj, hq⟩ <;> rcases key r b hr with ⟨hri, hr | hr⟩ | ⟨hri, hrj, hr⟩
   ·omega
   ·omega
   ·exact absurd (h3 i r b hq hr) (fun h => hri h.symm)
   ·omega
   ·omega
   ·exact absurd (h3 j r b hq hr) (fun h => hrj h.symm)
   ·exact absurd (h3 q i b hq hr) hqi
   ·exact absurd (h3 q j b hq hr) hqj
   ·exact h3 q r b hq hr⟩
theorem FrS.sub {w : World} {S : Nat → Prop} {H : Jw} {sz : Nat} {v : Value} {xs : List (List Value)} (f : FrS (fun b => w.heap[b]?) sz v xs) (hd : ∀ b, v.ownBlock = some b → S b) (hH : ∀ b o, S b → w.heap[b]? = some o → H b = some o) : FrS H sz v xs := by
 obtain ⟨a, c, rfl, h1, h2, r⟩ := f.out
 refine ⟨a, c, rfl, h1, h2, ?_⟩
 rcases r with r | ⟨b, off, cs, T, m, rfl, hb, r⟩
 ·exact .inl r
 ·exact .inr ⟨b, off, cs, T, m, rfl, hH b _ (hd b rfl) hb, r⟩
theorem frn_of {α : Type} {G : Jw → (Nat → Value) → α → Prop} {h : Jw} {sz : Nat} {v : Value} {css : List (List Value)} {xs : List α} (f : FrS h sz v (css.map Vp)) (p : AllC G h sz css xs) : FrN h sz v G xs := by
 have hid : css.map Vp = css := by unfold Vp; simp
 rw [hid] at f
 have cellE : ∀ i, i < xs.length → Qq h v sz i = fun j => (css.getD i []).getD j undef := by
  intro i hi
  funext j
  have hi' : i < css.length := by rw [p.len]; exact hi
  have hcl : (css[i]).length = sz := (p.el i css[i] xs[i] (List.getElem?_eq_getElem hi') (List.getElem?_eq_getElem hi)).1
  have e1 : css.getD i [] = css[i] := by simp [List.getD_eq_getElem?_getD, List.getElem?_eq_getElem hi']
  rw [e1]
  by_cases hj : j < sz
  ·obtain ⟨a, c, rfl, _, _, r⟩ := f.out
   rcases r with r | ⟨b, off, cs, T, m, rfl, hb, r⟩
   ·subst r; simp at hi'
   ·have h2 := (r i css[i] (List.getElem?_eq_getElem hi')).2 j ((css[i])[j]'(by omega)) (List.getElem?_eq_getElem (by omega))
    simp only [Qq, if_pos hj, hb]
    rw [Array.getD_eq_getD_getElem?, h2]
    simp [List.getD_eq_getElem?_getD, List.getElem?_eq_getElem (show j < (css[i]).length by omega)]
  ·unfold Qq
   rw [if_neg hj, List.getD_eq_getElem?_getD, List.getElem?_eq_none (by omega)]; rfl
 have cells : ∀ i, i < xs.length → elC h v sz i = css.getD i [] := by
  intro i hi
  have hi' : i < css.length := by rw [p.len]; exact hi
  have hcl : (css[i]).length = sz := (p.el i css[i] xs[i] (List.getElem?_eq_getElem hi') (List.getElem?_eq_getElem hi)).1
  unfold elC
  rw [cellE i hi]
  have e1 : css.getD i [] = css[i] := by simp [List.getD_eq_getElem?_getD, List.getElem?_eq_getElem hi']
  rw [e1]
  apply List.ext_getElem
  ·simp [hcl]
  ·intro j h1 h2
   simp only [List.length_map, List.length_range] at h1
   simp [List.getD_eq_getElem?_getD, List.getElem?_eq_getElem h2]
 refine ⟨?_, fun i x hx => ?_⟩
 ·have e : (List.range xs.length).map (elC h v sz) = css := by
   apply List.ext_getElem
   ·simp [p.len]
   ·intro i h1 h2
    simp only [List.length_map, List.length_range] at h1
    rw [List.getElem_map, List.getElem_range, cells i h1]
    simp [List.getD_eq_getElem?_getD, List.getElem?_eq_getElem h2]
  rw [e]; exact f
 ·have hi : i < xs.length := by
   rcases Nat.lt_or_ge i xs.length with h | h
   ·exact h
   ·rw [List.getElem?_eq_none h] at hx; cases hx
  have hi' : i < css.length := by rw [p.len]; exact hi
  rw [cellE i hi]
  have e1 : css.getD i [] = css[i] := by simp [List.getD_eq_getElem?_getD, List.getElem?_eq_getElem hi']
  rw [e1]
  exact (p.el i css[i] x (List.getElem?_eq_getElem hi') hx).2
open Classical in
theorem Jem {hp1 : Jw} (i j : Nat) (hi : L[i]? = some (Vi base hp)) (hj : L[j]? = some (Vi Wa hp1)) (hne : i ≠ j) (hb : ∀ w, Fr cx w → ∀ b o, base b = some o → w.heap[b]? = some o)
  (k : ∀ hp', (∀ b o, hp b = some o → hp' b = some o) → (∀ b o, hp1 b = some o → hp' b = some o) → At cx K e ((L.set i (Vi base hp')).set j empC)) : At cx K e L :=
 c_freeze (Φ := fun H => ∀ b o, hp1 b = some o → H b = some o) i j hi hj hne hb (fun S w H hP hH _ b o h => (hP.2 b o h).elim (fun h => by cases h) fun h => hH b o h.1 h.2) k
def rowD {α : Type} (E sz : Nat) (G : Jw → (Nat → Value) → α → Prop) (v : Value) (n : Nat) (xs : List α) : Chunk where
 P S w := ∃ (hp : Jw) (css : List (List Value)), AllC G hp sz css xs ∧ n = css.length ∧ (Qy (Vi Wa hp) (J3 E sz v n (css.map Vp))).P S w
 loc S w w' h := by
  rintro ⟨hp, css, h1, h2, h3⟩
  exact ⟨hp, css, h1, h2, Chunk.loc _ _ _ _ h h3⟩
theorem Vm {α : Type} {G : Jw → (Nat → Value) → α → Prop} {E sz n : Nat} {p : Option Addr × Nat} {css : List (List Value)} {xs : List α} (hn : n = css.length) (f : AllC G hp sz css xs) :
  Imp (Qy (Vi Wa hp) (J3 E sz (.slice p.1 n p.2) n (css.map Vp))) (rowD E sz G (.slice p.1 n p.2) n xs) := ⟨fun S w h => ⟨hp, css, f, hn, h⟩⟩
theorem Uq {C : Chunk} {τ : Type} {D : τ → Chunk} {φ : τ → Prop} (i : Nat) (hi : L[i]? = some C) (h : ∀ S w, C.P S w → ∃ t, φ t ∧ (D t).P S w) (k : ∀ t, φ t → At cx K e (L.set i (D t))) : At cx K e L :=
 ⟨fun w hF hS => by
  obtain ⟨fp, h1, h2, h3⟩ := hS.out
  obtain ⟨t, ht, hD⟩ := h _ _ (h1 i _ hi)
  have hil : i < L.length := by
   rcases Nat.lt_or_ge i L.length with h | h
   ·exact h
   ·simp [List.getElem?_eq_none h] at hi
  refine (k t ht).out w hF ⟨fp, fun j c hj => ?_, fun j b hb => by simpa using h2 j b hb, h3⟩
  by_cases hji : j = i
  ·subst hji
   rw [List.getElem?_set_self hil] at hj
   cases hj
   exact hD
  ·rw [List.getElem?_set_ne (fun h => hji h.symm)] at hj
   exact h1 j c hj⟩
theorem c_rowD {α : Type} {G : Jw → (Nat → Value) → α → Prop} {E sz n : Nat} {p : Option Addr × Nat} {xs : List α} (i : Nat) (hi : L[i]? = some (rowD E sz G (.slice p.1 n p.2) n xs))
  (k : ∀ (hp : Jw) (css : List (List Value)), n = css.length → AllC G hp sz css xs → At cx K e (L.set i (Qy (Vi Wa hp) (J3 E sz (.slice p.1 n p.2) n (css.map Vp))))) : At cx K e L :=
 Uq (τ := Jw × List (List Value)) (D := fun t => Qy (Vi Wa t.1) (J3 E sz (.slice p.1 n p.2) n (t.2.map Vp))) (φ := fun t => n = t.2.length ∧ AllC G t.1 sz t.2 xs) i hi (fun S w ⟨hp, css, h1, h2, h3⟩ => ⟨(hp, css), ⟨h2, h1⟩, h3⟩) fun t ht => k t.1 t.2 ht.1 ht.2
end rules
end Go.Lx

namespace Go.Vc
open Go Go.Md Go.Shelf Go.Sort Go.Proofs
end Go.Vc

namespace Go.Lx
open Go Go.Vc Go.Md Go.Shelf Go.Proofs
theorem ixB_lib (l : List UInt8) (c : UInt8) : ixB l c = Lib.indexByte l c := by
 induction l with
 | nil => rfl
 | cons b l ih => simp only [ixB, Lib.indexByte, ih, beq_iff_eq]
theorem run_ixB {P : Program} {s : List UInt8} {c r : Int} (h : gIxB s c = some r) (w : World) : (Extern.BytealgIndexByte.indexByte #[str s, .int .u8 c]).run P w = .ok (.int .i64 r) w := by
 cases h
 rw [Lib.run_indexByteString, ixB_lib]
theorem run_cnB {P : Program} {s : List UInt8} {c r : Int} (h : gCnB s c = some r) (w : World) : (Extern.BytealgCount.count #[str s, .int .u8 c]).run P w = .ok (.int .i64 r) w := by
 cases h
 rw [Lib.run_countString]; rfl
def TabH (P : Program) (h : Jw) (name : String) (k : IntKind) (zs : List Int) : Prop := ∃ g T m, P.globalNamed name = some g ∧ h g = some (.cells (zs.map fun z => Value.int k z).toArray T m)
theorem TabH.mono {P : Program} {h h' : Jw} {name : String} {k : IntKind} {zs : List Int} (t : TabH P h name k zs) (hh : ∀ b o, h b = some o → h' b = some o) : TabH P h' name k zs := by
 obtain ⟨g, T, m, h1, h2⟩ := t
 exact ⟨g, T, m, h1, hh _ _ h2⟩
theorem TabH.tab {P : Program} {h : Jw} {name : String} {k : IntKind} {zs : List Int} (t : TabH P h name k zs) {w : World} (hw : ∀ b o, h b = some o → w.heap[b]? = some o) : Lib.TabIs P w name k zs := by
 obtain ⟨g, T, m, h1, h2⟩ := t
 unfold Lib.TabIs World.var?
 rw [h1]
 show (match w.heap[g]? with | some (.cells cs _ _) => some cs | _ => none) = _
 rw [hw _ _ h2]
theorem tabH_of {P : Program} {w : World} {name : String} {k : IntKind} {zs : List Int} (t : Lib.TabIs P w name k zs) : TabH P (fun b => w.heap[b]?) name k zs := by
 unfold Lib.TabIs World.var? at t
 cases hg : P.globalNamed name with
 | none => rw [hg] at t; cases t
 | some g =>
  rw [hg] at t
  have t : (match w.heap[g]? with | some (.cells cs _ _) => some cs | _ => none) = some (zs.map fun z => Value.int k z).toArray := t
  split at t
  ·rename_i cs T m hc
   cases t
   exact ⟨g, T, m, hg, hc⟩
  ·cases t
theorem decD_lib (u : Nat) : Jdw u = Lib.decDigits u := by
 induction u using Nat.strongRecOn with
 | ind u ih =>
  rw [Jdw, Lib.decDigits]
  by_cases h : u < 10
  ·rw [if_pos h, dif_pos h]
  ·rw [if_neg h, dif_neg h, ih _ (by omega)]
theorem itoaL_lib (n : Int) : Wq n = Lib.itoa n := by
 unfold Wq Lib.itoa; rw [decD_lib, decD_lib]
theorem itoa_does {P : Program} {ρ : Ren} (L : LaysM.n171 P ρ) {n : Int} {r : List UInt8} {w : World} {h : Jw} (hw : Know h w Ys) (ht : TabH P h "internal/strconv.uint64pow10" .u64 Lib.pow10Tab) (H : Y8 n = some r) :
  Does P (ρ.f 171) (List.toArray [.int .i64 n]) w (fun v w' => v = str r ∧ Grow w w') := by
 unfold Y8 at H
 split at H
 case isFalse => cases H
 rename_i hr
 cases H
 refine Calls.mono (Any.strconv_Itoa L n hr.1 hr.2 w (ht.tab fun b o hb => (hw b o hb).1)) ?_
 rintro e w' ⟨rfl, k, os, rfl⟩
 exact ⟨_, rfl, by rw [itoaL_lib], Lib.below_grow _ _ (Nat.le_refl _) _ _⟩
theorem digV_lib (b : UInt8) : digV b = Lib.digitVal b := rfl
theorem decF_lib (acc : Nat) (l : List UInt8) : decF acc l = Lib.decFrom acc l := by
 induction l generalizing acc with
 | nil => rfl
 | cons b l ih =>
  simp only [decF, Lib.decFrom, digV_lib, ih]
  cases Lib.digitVal b <;> rfl
theorem decN_lib (l : List UInt8) : decN l = Lib.decNat l := by simp only [decN, Lib.decNat, decF_lib]
theorem atoiL_lib (l : List UInt8) : atoiL l = Lib.atoi l := by
 cases l with
 | nil => rfl
 | cons b l => simp only [atoiL, Lib.atoi, decN_lib]
theorem atoi_ret {P : Program} {ρ : Ren} (L : Lays.n172 P ρ) {s : List UInt8} {n : Int} (H : Jhx s = some n) : Ret P (ρ.f 172) [str s] (.tuple #[.int .i64 n, .nilIface]) := fun w => by
 unfold Jhx at H
 split at H
 case isFalse => cases H
 rename_i hr
 refine Calls.mono (Any.strconv_Atoi L ⟨s.toArray⟩ n (by simpa [ByteArray.size] using hr) (by rw [atoiL_lib] at H; exact H) w) ?_
 rintro e w' ⟨rfl, t, rfl⟩
 exact ⟨_, rfl, rfl, Go.Joins.below_bytesWorld _ _ _ _ (Nat.le_refl _)⟩
theorem repeat_lib (s : List UInt8) (n : Nat) : (List.replicate n s).flatten = Lib.repeatL s n := by
 induction n with
 | zero => rfl
 | succ n ih => rw [List.replicate_succ, List.flatten_cons, ih]; rfl
theorem rep_ret {P : Program} {ρ : Ren} (L : Lays.n105 P ρ) (X : Builder.Extra P ρ) {s r : List UInt8} {n : Int} (H : gRep s n = some r) : Ret P (ρ.f 105) [str s, .int .i64 n] (str r) := fun w => by
 unfold gRep at H
 split at H
 case isFalse => cases H
 rename_i hr
 cases H
 obtain ⟨k, rfl⟩ : ∃ k : Nat, n = k := ⟨n.toNat, by omega⟩
 refine Calls.mono (Any.strings_Repeat L X ⟨s.toArray⟩ k w (by omega) (by simpa [ByteArray.size] using hr.2.2)) ?_
 rintro e w' ⟨rfl, hb⟩
 exact ⟨_, rfl, by rw [repeat_lib]; rfl, hb⟩
theorem join_does {P : Program} {ρ : Ren} (L : Lays.n156 P ρ) (X : Builder.Extra P ρ) {l : List (List UInt8)} {sep r : List UInt8} {v : Value} {w : World} {h : Jw} (hw : Know h w Ys) (f : FrS h 1 v (l.map fun x => [str x])) (H : Jev l sep = some r) :
  Does P (ρ.f 156) (List.toArray [v, str sep]) w (fun v w' => v = str r ∧ Grow w w') := by
 unfold Jev at H
 split at H
 case isFalse => cases H
 rename_i hr
 cases H
 obtain ⟨a, c, rfl, h1, h2, hrow⟩ := f.out
 simp only [List.length_map] at h1 ⊢
 have hm : (l.map fun x => (⟨x.toArray⟩ : ByteArray)).map (·.data.toList) = l := by rw [List.map_map]; exact List.map_id'' (fun _ => by simp) l
 rcases hrow with hn | ⟨b, off, cs, T, m, rfl, hb, hc⟩
 ·have hl : l = [] := by simpa using hn
  subst hl
  refine Calls.mono (Any.strings_Join_none L X a c ⟨sep.toArray⟩ w) ?_
  rintro e w' ⟨rfl, rfl⟩
  exact ⟨_, rfl, by simp [List.intercalate], Grow.refl _⟩
 ·have hh := (hw _ _ hb).1
  have hlt : b < w.heap.size := (Array.getElem?_eq_some_iff.1 hh).1
  have := Any.strings_Join L X b off c (l.map fun x => (⟨x.toArray⟩ : ByteArray)) ⟨sep.toArray⟩ w (fun j x hx => by
   rw [List.getElem?_map, Option.map_eq_some_iff] at hx
   obtain ⟨y, hy, rfl⟩ := hx
   have := (hc j [str y] (by rw [List.getElem?_map, hy]; rfl)).2 0 (str y) rfl
   simp only [Nat.mul_one, Nat.add_zero] at this
   simp [World.cell?, hh, this]) hlt (by simpa using hr.1) (by simpa using h1) (by rw [hm]; exact hr.2)
  rw [List.length_map, hm] at this
  refine Calls.mono this ?_
  rintro e w' ⟨rfl, hb⟩
  exact ⟨_, rfl, rfl, hb⟩
end Go.Lx

namespace Go.Vc
open Go Go.Md Go.Shelf Go.Sort Go.Proofs
end Go.Vc
namespace Go.Lx
open Go Go.Vc
section ops
variable {P : Program} {e : Xl} {d : Option Nat} {ty : TypeId} {pos : String} {af : Array Edge} {g : Option (Nat × Bool)}
theorem r_eqlErr {X : Operand} {t : TypeId} (hx : ev e X = .nilIface) (ht : ∀ w, (Op.equalIn Op.maxDepth t .nilIface .nilIface).run P w = .ok true w) {t' : TypeId} (w : World) :
  (execOp (ev e) ⟨d, .binOp .eql t X (.const .nilIface) t', ty, pos, af, g⟩).run P w = .ok (.value (.bool true)) w := by
 have hy : ev e (.const .nilIface) = .nilIface := rfl
 simp [execOp, hx, hy, eqGuard, binOp, Op.equal, ht]
end ops
end Go.Lx

namespace Go.Lx
open Go Go.Vc Go.Md
def _root_.Go.Vc.Kd.dv (a : Nat) (rds : List Nat) (φ : Value → Value) : Kd := .g [a] rds [] (fun vs _ v => v = φ (vs.headD undef)) (fun _ _ _ => [])
section rules
variable {P : Program} {cx : Cx} {ops : Array Oper} {F : Xl → List Chunk → Prop} {ss : List Kd} {rest : List Oper} {e : Xl} {L : List Chunk}
theorem d_readV {o : Oper} {d a : Nat} {v : Value} {φ : Value → Value} {rds : List Nat} (hv : φ (e a) = v) (hr : ∀ w L', Fr cx w → Sat cx w L' → (∀ i ∈ rds, L'[i]? = L[i]?) → (execOp (ev e) o).run P w = .ok (.value v) w) (hw : X3 ops o e = true) (hd : o.dst = some d)
  (k : Sq P cx ops F rest ss (upd e d v) L) : Sq P cx ops F (o :: rest) (.dv a rds φ :: ss) e L := by
 subst hv
 refine .take hw ⟨_, rfl⟩ ⟨fun w L' hF hS _ hi => ?_⟩ fun v' hv' => ?_
 ·unfold RunsTo
  rw [hr w L' hF hS fun i hm => hi i (.inl hm)]
  exact ⟨rfl, hF.grow (Grow.refl w), hS.grow (Grow.refl w)⟩
 ·have : v' = φ (e a) := hv'
  subst this
  rw [hd]
  exact k
end rules
def rowC (E : TypeId) (sz : Nat) (v : Value) (n : Nat) (xs : List (List Value)) (c : Nat) : Chunk where
 P S w := (J3 E sz v n xs).P S w ∧ c ≤ sc v
 loc S w w' h := fun ⟨h1, h2⟩ => ⟨(J3 E sz v n xs).loc S w w' h h1, h2⟩
theorem imp_rowC (E : TypeId) (sz : Nat) (v : Value) (n : Nat) (xs : List (List Value)) (c : Nat) : Imp (rowC E sz v n xs c) (J3 E sz v n xs) := ⟨fun _ _ h => h.1⟩
section rules
variable {P : Program} {n : Nat} {cx : Cx} {e : Xl} {L : List Chunk} {d : Nat} {ty : TypeId} {pos : String} {af : Array Edge} {g : Option (Nat × Bool)}
end rules
end Go.Lx

namespace Go.Lx
open Go Go.Vc Go.Md
section rules
variable {P : Program} {n : Nat} {cx : Cx} {e : Xl} {L : List Chunk} {d : Nat} {ty : TypeId} {pos : String} {af : Array Edge} {g : Option (Nat × Bool)}
theorem owns_take {w : World} {E : TypeId} {sz m a : Nat} {p : Option Addr × Nat} {xs : List Value} (h : w.ownsRow 0 E sz (.slice p.1 m p.2) m xs) (ha : a ≤ m) : w.ownsRow 0 E sz (.slice p.1 a p.2) a (xs.take (a * sz)) := by
 have hle : a * sz ≤ m * sz := Nat.mul_le_mul_right _ ha
 refine ⟨by rw [List.length_take, h.1]; omega, ?_⟩
 rcases h.2 with ⟨hv, hm⟩ | ⟨g0, cap, cur, hv, hbg, hg, hnc, hcm, hcs, htake⟩
 ·injection hv with h1 h2 h3
  subst h2
  have : a = 0 := by omega
  subst this
  exact .inl ⟨by rw [h1, h3], by simp⟩
 ·injection hv with h1 h2 h3
  refine .inr ⟨g0, cap, cur, by rw [h1, h3], hbg, hg, by omega, hcm, hcs, ?_⟩
  rw [← htake, List.take_take, Nat.min_eq_left hle]
theorem ownBlock_len (x : Option Addr) (a m c : Nat) : (Value.slice x a c).ownBlock = (Value.slice x m c).ownBlock := by cases x <;> rfl
theorem Jhl {sz : Nat} : ∀ {xs : List (List Value)} (a : Nat), (∀ x ∈ xs, x.length = sz) → xs.flatten.take (a * sz) = (xs.take a).flatten
 | [], a, _ => by simp
 | x :: xs, 0, _ => by simp
 | x :: xs, a + 1, h => by
  have hx := h x (by simp)
  rw [List.take_succ_cons, List.flatten_cons, List.flatten_cons, Nat.succ_mul, List.take_append, hx, List.take_of_length_le (by omega), show a * sz + sz - sz = a * sz from by omega, Jhl a fun y hy => h y (by simp [hy])]
end rules
end Go.Lx

namespace Go.Lx
open Go Go.Vc Go.Md
theorem Jgw (a : Option Addr) (m sz : Nat) : X0 a 0 m sz = a := by
 unfold X0
 split
 ·rfl
 ·cases a with
  | none => rfl
  | some x => obtain ⟨b, o, f⟩ := x; simp [Addr.add]
section ops
variable {P : Program} {e : Xl} {d : Option Nat} {ty : TypeId} {pos : String} {af : Array Edge} {g : Option (Nat × Bool)}
theorem run_sliceHO0 {α : Type} {X B : Operand} {a : Option Addr} {m c : Nat} {t u sz : Nat} {kb : IntKind} {q : Int} {xs ys : List α} {w : World} (hu : P.underlying t = some (.slice u)) (hs : ∀ w, (sizeOf u).run P w = .ok sz w)
  (hx : ev e X = .slice a m c) (hb : ev e B = .int kb q) (hm : m = xs.length) (hc : m ≤ c) (hg : Xx xs 0 q = some ys) :
  (execOp (ev e) ⟨d, .slice t X none (some B) none, ty, pos, af, g⟩).run P w = .ok (.value (.slice a ys.length c)) w := by
 obtain ⟨g0, g1, g2, _⟩ := Z0 hg
 have hl := Jgn hg
 rw [r_sliceH hu hs hx hb g1 (by omega) w, hl, Jgw]; rfl
end ops
section rules
variable {P : Program} {n : Nat} {cx : Cx} {e : Xl} {L : List Chunk} {d : Nat} {ty : TypeId} {pos : String} {af : Array Edge} {g : Option (Nat × Bool)}
theorem imp_shrink {α : Type} {E sz m : Nat} {p : Option Addr × Nat} {f : α → List Value} {xs ys : List α} {q : Int} (hm : m = xs.length) (g : Xx xs 0 q = some ys) :
  Imp (J3 E sz (.slice p.1 m p.2) m (xs.map f)) (rowC E sz (.slice p.1 ys.length p.2) ys.length (ys.map f) xs.length) := by
 refine ⟨fun S w => ?_⟩
 obtain ⟨g0, g1, g2, rfl⟩ := Z0 g
 subst hm
 rintro ⟨⟨ho, hlen, hlx⟩, hob⟩
 have hl : ((xs.drop (0 : Int).toNat).take (q.toNat - (0 : Int).toNat)).length = q.toNat := by rw [List.length_take, List.length_drop]; simp; omega
 rw [hl]
 have hoa := owns_take ho (a := q.toNat) (by omega)
 rw [Jhl q.toNat hlx, ← List.map_take] at hoa
 have e : (xs.drop (0 : Int).toNat).take (q.toNat - (0 : Int).toNat) = xs.take q.toNat := by simp
 rw [e]
 refine ⟨⟨⟨hoa, by rw [List.length_map, List.length_take]; omega, fun x hx => ?_⟩, fun b hb => hob b ((ownBlock_len _ _ _ _) ▸ hb)⟩, ?_⟩
 ·obtain ⟨y, hy, rfl⟩ := List.mem_map.1 hx
  exact hlx _ (List.mem_map_of_mem (List.mem_of_mem_take hy))
 ·rcases ho.2 with ⟨hv, h0⟩ | ⟨g, cap, cur, hv, _, hh, hnc, _⟩
  ·simp only [Value.slice.injEq] at hv; simp only [sc]; omega
  ·simp only [Value.slice.injEq] at hv; simp only [sc]; omega
theorem Turns.pre {σ : Type} {o : Oper} {i : Nat} {rds : List Nat} {G : σ → Value} {D : σ → Chunk} {C C' : Chunk} (hI : Imp C C') (hL : L[i]? = some C) (hr : i ∉ rds) (h : Turns P cx e o (L.set i C') i rds G D) : Turns P cx e o L i rds G D := by
 intro w L' hF hS hl hi
 have hLi := (hi i (.inr rfl)).trans hL
 have hS' : Sat cx w (L'.set i C') := hS.set hF hLi (Nat.le_refl _) fun S hp hb => ⟨S, hI.out S w hp, fun b hs => ⟨(hb b hs).1, .inl hs⟩, fun _ _ _ => rfl⟩
 have hil : i < L.length := by
  rcases Nat.lt_or_ge i L.length with h | h
  ·exact h
  ·rw [List.getElem?_eq_none h] at hL; cases hL
 have := h w (L'.set i C') hF hS' (by simp [hl]) fun j hj => by
  by_cases hji : j = i
  ·subst hji; rw [List.getElem?_set_self (by omega), List.getElem?_set_self hil]
  ·rw [List.getElem?_set_ne (fun e => hji e.symm), List.getElem?_set_ne (fun e => hji e.symm)]
   exact hi j (hj.imp_right fun h => h)
 simpa [List.set_set] using this
theorem Jj6 {sz : Nat} : ∀ {xs : List (List Value)} (a : Nat), (∀ x ∈ xs, x.length = sz) → xs.flatten.drop (a * sz) = (xs.drop a).flatten
 | [], a, _ => by simp
 | x :: xs, 0, _ => by simp
 | x :: xs, a + 1, h => by
  have hx := h x (by simp)
  rw [List.drop_succ_cons, List.flatten_cons, Nat.succ_mul, List.drop_append, hx, List.drop_eq_nil_of_le (by omega), List.nil_append, show a * sz + sz - sz = a * sz from by omega, Jj6 a fun y hy => h y (by simp [hy])]
end rules
end Go.Lx

namespace Go.Lx
open Go Go.Vc Go.Md
section rules
variable {cx : Cx} {K : Xl → World → Prop} {e : Xl} {L : List Chunk}
theorem Jed (k : At cx K e (L ++ [empC])) : At cx K e L := ⟨fun w hF hS => k.out w hF (hS.emp hF)⟩
end rules
section ops
variable {P : Program} {cx : Cx} {e : Xl} {L : List Chunk} {d : Option Nat} {ty : TypeId} {pos : String} {af : Array Edge} {g : Option (Nat × Bool)}
end ops
section rules
variable {P : Program} {cx : Cx} {ops : Array Oper} {F : Xl → List Chunk → Prop} {rest : List Oper} {ss : List Kd} {e : Xl} {L : List Chunk} {d : Nat}
end rules
end Go.Lx

namespace Go.Lx
open Go Go.Vc Go.Md
section plain
variable {P : Program}
end plain
def markR (w : World) (E sz : Nat) (v : Value) (n : Nat) (xs : List (List Value)) : Prop :=
 ∃ g cap cur k, v = .slice (some ⟨g, 0, none⟩) n cap ∧ w.heap[g]? = some (.cells cur E k) ∧ cur.size ≤ k.1 ∧ n ≤ cap ∧ cap ≤ maxLen ∧ cur.size = cap * sz ∧ cur.toList.take (n * sz) = xs.flatten
def mkC (w : World) (E sz : Nat) (v : Value) (n : Nat) (xs : List (List Value)) : Prop :=
 (apC w E sz v n xs ∨ markR w E sz v n xs) ∧ xs.length = n ∧ ∀ x ∈ xs, x.length = sz
theorem markR.frs {w : World} {E sz : Nat} {v : Value} {n : Nat} {xs : List (List Value)} (h : markR w E sz v n xs) (hn : xs.length = n) (hl : ∀ x ∈ xs, x.length = sz) : FrS (fun b => w.heap[b]?) sz v xs := by
 obtain ⟨g, cap, cur, k, rfl, hh, _, hnc, hm, hcs, ht⟩ := h
 subst hn
 refine ⟨some ⟨g, 0, none⟩, cap, rfl, hnc, by simpa [maxLen] using hm, .inr ⟨g, 0, cur, E, k, rfl, hh, fun i x hx => ⟨hl x (List.mem_of_getElem? hx), fun j v hv => ?_⟩⟩⟩
 have hi : i < xs.length := by
  rcases Nat.lt_or_ge i xs.length with h | h
  ·exact h
  ·rw [List.getElem?_eq_none h] at hx; cases hx
 have hj : j < sz := by
  have := hl x (List.mem_of_getElem? hx)
  rcases Nat.lt_or_ge j x.length with h | h
  ·omega
  ·rw [List.getElem?_eq_none h] at hv; cases hv
 have hr := Jex xs i x (List.all_eq_true.2 fun x hx => by simpa using hl x hx) hx j v hv
 rw [← ht, List.getElem?_take] at hr
 split at hr
 ·rw [Nat.zero_add, ← Array.getElem?_toList]; exact hr
 ·cases hr
theorem mkC.frs {w : World} {E sz : Nat} {v : Value} {n : Nat} {xs : List (List Value)} (h : mkC w E sz v n xs) : FrS (fun b => w.heap[b]?) sz v xs :=
 h.1.elim (fun h1 => h1.frs) (fun h1 => h1.frs h.2.1 h.2.2)
theorem mkC.slice {w : World} {E sz : Nat} {v : Value} {n : Nat} {xs : List (List Value)} (h : mkC w E sz v n xs) : ∃ p : Option Addr × Nat, v = .slice p.1 n p.2 := by
 rcases h.1 with h1 | ⟨g, cap, cur, k, rfl, _⟩
 ·exact h1.slice
 ·exact ⟨(some ⟨g, 0, none⟩, cap), rfl⟩
section rules
variable {P : Program} {n : Nat} {cx : Cx} {e : Xl} {L : List Chunk} {d : Nat} {ty : TypeId} {pos : String} {af : Array Edge} {g : Option (Nat × Bool)}
end rules
theorem frsMono {h h' : Jw} {sz n : Nat} {v : Value} (f : FrS h sz v ((List.range n).map (elC h v sz))) (k : ∀ b o, h b = some o → h' b = some o) : FrS h' sz v ((List.range n).map (elC h' v sz)) := by
 have := f.mono k
 have e : (List.range n).map (elC h v sz) = (List.range n).map (elC h' v sz) := by
  apply List.map_congr_left
  intro i hi
  unfold elC
  rw [Jkg f (by rw [List.length_map, List.length_range]; have := List.mem_range.1 hi; omega) k i]
 rwa [e] at this
theorem elMonoE {α : Type} {h h' : Jw} {sz i : Nat} {v : Value} {xs : List α} {y : α} (f : FrS h sz v ((List.range xs.length).map (elC h v sz))) (k : ∀ b o, h b = some o → h' b = some o) (hy : xs[i]? = some y) : Qq h v sz i = Qq h' v sz i := by
 have hi : i < xs.length := (List.getElem?_eq_some_iff.1 hy).1
 exact Jkg f (by rw [List.length_map, List.length_range]; omega) k i
end Go.Lx

namespace Go.Lx
open Go Go.Vc Go.Md
open Go.MapKept (IsKey Stamped)
structure KeyF {κ : Type} (d : TypeDesc) (fk : κ → Value) : Prop where
 isKey : ∀ k, IsKey d (fk k)
 inj : ∀ a b, fk a = fk b → a = b
theorem Jdd {k : IntKind} : KeyF (.int k) (fun x : Int => Value.int k x) := ⟨fun x => by simp [IsKey], fun a b h => by simpa using h⟩
def Ents {κ ν : Type} (fk : κ → Value) (fv : ν → Value) (es : List MapEntry) (xs : List (κ × ν)) : Prop := es.map (fun e => (e.key, e.val)) = xs.map (fun p => (fk p.1, fv p.2))
def mapC {κ ν : Type} (fk : κ → Value) (fv : ν → Value) (b : Nat) (xs : List (κ × ν)) : Chunk where
 P S w := (∀ x, S x ↔ x = b) ∧ ∃ es clock, w.heap[b]? = some (.map es clock) ∧ Stamped es clock ∧ Ents fk fv es.toList xs
 loc S w w' h hp := ⟨hp.1, by rw [h b ((hp.1 b).2 rfl)]; exact hp.2⟩
theorem Ents.len {κ ν : Type} {fk : κ → Value} {fv : ν → Value} {es : List MapEntry} {xs : List (κ × ν)} (h : Ents fk fv es xs) : es.length = xs.length := by
 have := congrArg List.length h; simpa using this
theorem Ents.keys {κ ν : Type} {fk : κ → Value} {fv : ν → Value} {es : List MapEntry} {xs : List (κ × ν)} (h : Ents fk fv es xs) : es.map (·.key) = xs.map (fun p => fk p.1) := by
 have := congrArg (List.map Prod.fst) h; simpa [Function.comp_def] using this
theorem Ents.isKey {κ ν : Type} {d : TypeDesc} {fk : κ → Value} {fv : ν → Value} (K : KeyF d fk) {es : List MapEntry} {xs : List (κ × ν)} (h : Ents fk fv es xs) : ∀ x ∈ es, IsKey d x.key := by
 intro x hx
 have : x.key ∈ es.map (·.key) := List.mem_map.2 ⟨x, hx, rfl⟩
 rw [h.keys] at this
 obtain ⟨p, _, hp⟩ := List.mem_map.1 this
 rw [← hp]; exact K.isKey _
theorem Ents.at {κ ν : Type} {fk : κ → Value} {fv : ν → Value} {es : List MapEntry} {xs : List (κ × ν)} (h : Ents fk fv es xs) {j : Nat} {e : MapEntry} (he : es[j]? = some e) : ∃ p, xs[j]? = some p ∧ e.key = fk p.1 ∧ e.val = fv p.2 := by
 have := congrArg (fun l => l[j]?) h
 simp only [List.getElem?_map, he, Option.map_some] at this
 cases hx : xs[j]? with
 | none => rw [hx] at this; simp at this
 | some p => rw [hx] at this; simp at this; exact ⟨p, rfl, this.1, this.2⟩
section find
variable {κ ν : Type} [DecidableEq κ] {d : TypeDesc} {fk : κ → Value} {fv : ν → Value}
theorem mGet_none {xs : List (κ × ν)} {k : κ} (h : ∀ p ∈ xs, p.1 ≠ k) : mGet xs k = none ∧ mHas xs k = false := by
 constructor
 ·unfold mGet
  rw [List.find?_eq_none.2 (fun p hp => by simpa using h p hp)]; rfl
 ·unfold mHas
  rw [List.any_eq_false]
  intro p hp; simpa using h p hp
theorem mGet_at : ∀ {xs : List (κ × ν)} {k : κ} {j : Nat} {v : ν}, (xs.map (·.1)).Nodup → xs[j]? = some (k, v) → mGet xs k = some v ∧ mHas xs k = true
 | [], _, j, _, _, h => by simp at h
 | p :: xs, k, 0, v, _, h => by simp at h; subst h; simp [mGet, mHas]
 | p :: xs, k, j + 1, v, hn, h => by
  simp only [List.getElem?_cons_succ] at h
  simp only [List.map_cons, List.nodup_cons] at hn
  have hne : p.1 ≠ k := fun q => hn.1 (q ▸ List.mem_map.2 ⟨(k, v), List.mem_of_getElem? h, rfl⟩)
  obtain ⟨h1, h2⟩ := mGet_at hn.2 h
  constructor
  ·unfold mGet at h1 ⊢
   rw [List.find?_cons_of_neg (by simpa using hne)]; exact h1
  ·unfold mHas at h2 ⊢
   simp only [List.any_cons, h2, Bool.or_true]
omit [DecidableEq κ] in
theorem nodup_of (K : KeyF d fk) {es : List MapEntry} {xs : List (κ × ν)} (h : Ents fk fv es xs) (hn : (es.map (·.key)).Nodup) : (xs.map (·.1)).Nodup := by
 rw [h.keys] at hn
 have : xs.map (fun p => fk p.1) = (xs.map (·.1)).map fk := by simp
 rw [this] at hn
 exact (List.pairwise_map.1 hn).imp fun h q => h (congrArg fk q)
theorem find_map (K : KeyF d fk) {es : List MapEntry} {xs : List (κ × ν)} (h : Ents fk fv es xs) (hn : (es.map (·.key)).Nodup) (k : κ) :
  (Instr.findNow d (fk k) es 0 = some none ∧ (∀ x ∈ es, x.key ≠ fk k) ∧ mGet xs k = none ∧ mHas xs k = false) ∨
  ∃ j e v, Instr.findNow d (fk k) es 0 = some (some (j, e.val)) ∧ es[j]? = some e ∧ e.key = fk k ∧ e.val = fv v ∧ xs[j]? = some (k, v) ∧ mGet xs k = some v ∧ mHas xs k = true := by
 rcases Go.MapKept.findNow_spec (K.isKey k) es 0 (h.isKey K) with ⟨h1, h2⟩ | ⟨j, e, h1, h2, h3⟩
 ·refine .inl ⟨h1, h2, mGet_none fun p hp q => ?_⟩
  have : fk p.1 ∈ es.map (·.key) := by rw [h.keys]; exact List.mem_map.2 ⟨p, hp, rfl⟩
  obtain ⟨x, hx, hk⟩ := List.mem_map.1 this
  exact h2 x hx (by rw [hk, q])
 ·obtain ⟨p, hp, e1, e2⟩ := h.at h2
  have hk : p.1 = k := K.inj _ _ (e1.symm.trans h3)
  have hp' : xs[j]? = some (k, p.2) := by rw [hp, ← hk]
  have := mGet_at (nodup_of K h hn) hp'
  exact .inr ⟨j, e, p.2, by simpa using h1, h2, h3, e2, hp', this.1, this.2⟩
end find
theorem ents_modify {κ ν : Type} [DecidableEq κ] {fk : κ → Value} {fv : ν → Value} {es : Array MapEntry} {xs : List (κ × ν)} {j : Nat} {k : κ} {v v0 : ν} (h : Ents fk fv es.toList xs) (hn : (xs.map (·.1)).Nodup) (hj : xs[j]? = some (k, v0)) (hh : mHas xs k = true) :
  Ents fk fv (es.modify j fun e => { e with key := fk k, val := fv v }).toList (mSet xs k v) := by
 have hm : mSet xs k v = xs.map fun p => if p.1 = k then (k, v) else p := by unfold mSet; rw [if_pos hh]
 rw [hm]
 unfold Ents
 apply List.ext_getElem?
 intro i
 have hi := congrArg (fun l => l[i]?) h
 simp only [List.getElem?_map, Array.getElem?_toList, Array.getElem?_modify] at hi ⊢
 by_cases hij : j = i
 ·subst hij
  rw [hj] at hi ⊢
  simp only [if_true, Option.map_some, Option.map_map]
  cases he : es[j]? with
  | none => rw [he] at hi; simp at hi
  | some e => simp
 ·rw [if_neg hij, hi]
  cases hx : xs[i]? with
  | none => rfl
  | some p =>
   have hne : p.1 ≠ k := by
    intro q
    have hil : i < xs.length := by
     rcases Nat.lt_or_ge i xs.length with h | h
     ·exact h
     ·rw [List.getElem?_eq_none h] at hx; cases hx
    have hjl : j < xs.length := by
     rcases Nat.lt_or_ge j xs.length with h | h
     ·exact h
     ·rw [List.getElem?_eq_none h] at hj; cases hj
    have H := List.pairwise_iff_getElem.1 hn
    have ej : (xs.map (·.1))[j]'(by simpa using hjl) = k := by
     have := (List.getElem?_eq_some_iff.1 hj).2; simp [this]
    have ei : (xs.map (·.1))[i]'(by simpa using hil) = k := by
     have := (List.getElem?_eq_some_iff.1 hx).2; simp [this, q]
    rcases Nat.lt_trichotomy j i with l | l | l
    ·exact H j i (by simpa using hjl) (by simpa using hil) l (ej.trans ei.symm)
    ·exact hij l
    ·exact H i j (by simpa using hil) (by simpa using hjl) l (ei.trans ej.symm)
   simp [hne]
theorem ents_push {κ ν : Type} [DecidableEq κ] {fk : κ → Value} {fv : ν → Value} {es : Array MapEntry} {xs : List (κ × ν)} {k : κ} {v : ν} {c : Nat} (h : Ents fk fv es.toList xs) (hh : mHas xs k = false) :
  Ents fk fv (es.push { key := fk k, val := fv v, born := c }).toList (mSet xs k v) := by
 have hm : mSet xs k v = xs ++ [(k, v)] := by unfold mSet; rw [if_neg (by simp [hh])]
 rw [hm]
 unfold Ents at h ⊢
 simp [h]
section ops
variable {P : Program} {cx : Cx} {e : Xl} {L : List Chunk} {ty : TypeId} {pos : String} {af : Array Edge} {g : Option (Nat × Bool)}
variable {κ ν : Type} [DecidableEq κ] {fk : κ → Value} {fv : ν → Value}
omit [DecidableEq κ] in
theorem makes_map {t d : Nat} {rds : List Nat} : Makes P cx e ⟨some d, .makeMap t none, ty, pos, af, g⟩ L rds (fun b : Nat => .map (some b)) (fun b => mapC fk fv b ([] : List (κ × ν))) := fun w L' hF hS _ => by
 unfold RunsTo
 have hr : (execOp (ev e) ⟨some d, .makeMap t none, ty, pos, af, g⟩).run P w = .ok (.value (.map (some w.heap.size))) (w.alloc (.map #[] 0)) := by
  simp [execOp, Instr.makeMap]
 rw [hr]
 have gr := Ja7 w (.map #[] 0)
 exact ⟨w.heap.size, rfl, gr.os, gr.tape, gr.output, gr.size, fun b hb _ => gr.block b hb, fun x => x = w.heap.size, ⟨fun _ => Iff.rfl, #[], 0, Go.heap_alloc_new w _, Go.MapKept.stamped_empty 0, rfl⟩, fun b hb => by subst hb; exact ⟨by simp, .inr (Nat.le_refl _)⟩⟩
theorem run_lookup {d : Option Nat} {dk : TypeDesc} {t kt et : TypeId} {X I : Operand} {b i : Nat} {xs : List (κ × ν)} {k : κ} {z : ν} {w : World} (K : KeyF dk fk) (ht : P.underlying t = some (.map kt et)) (hk : P.underlying kt = some dk) (hz : ∀ w, (zeroValue et).run P w = .ok (fv z) w)
  (hx : ev e X = .map (some b)) (hi : ev e I = fk k) (hS : Sat cx w L) (hL : L[i]? = some (mapC fk fv b xs)) :
  (execOp (ev e) ⟨d, .lookup t X I false, ty, pos, af, g⟩).run P w = .ok (.value (fv ((mGet xs k).getD z))) w := by
 obtain ⟨S, ⟨_, es, clock, hb, hst, hen⟩, _⟩ := hS.at hL
 rcases find_map K hen hst.2.2 k with ⟨h1, _, h3, _⟩ | ⟨j, e0, v, h1, _, _, h4, _, h6, _⟩
 ·simp [execOp, Instr.lookup, hx, hi, run_underlying ht, Go.MapKept.run_getObj_map hb, Go.MapKept.run_checkKey hk (K.isKey k), Go.MapKept.run_findKey hk h1, hz w, h3, Result.andThen]
 ·simp [execOp, Instr.lookup, hx, hi, run_underlying ht, Go.MapKept.run_getObj_map hb, Go.MapKept.run_checkKey hk (K.isKey k), Go.MapKept.run_findKey hk h1, h6, h4, Result.andThen]
theorem Jb5 {u : Bool} {dk : TypeDesc} {t kt et : TypeId} {M I X : Operand} {b i : Nat} {xs : List (κ × ν)} {k : κ} {v : ν} {rds : List Nat} {o : Op} (K : KeyF dk fk) (ho : o = .insert t M I X ∨ o = .mapUpdate t M I X) (ht : P.underlying t = some (.map kt et)) (hk : P.underlying kt = some dk)
  (hm : ev e M = .map (some b)) (hi : ev e I = fk k) (hx : ev e X = fv v) (hL : L[i]? = some (mapC fk fv b xs)) {dst : Option Nat} :
  Turns P cx e ⟨dst, o, ty, pos, af, g⟩ L i rds (fun _ : Unit => undef) (fun _ => mapC fk fv b (mSet xs k v)) := fun w L' hF hS _ hi' => by
 have hL' := (hi' i (.inr rfl)).trans hL
 obtain ⟨S, ⟨_, es, clock, hb, hst, hen⟩, _⟩ := hS.at hL'
 have hlt : b < w.heap.size := (Array.getElem?_eq_some_iff.1 hb).1
 obtain ⟨es', clock', hrun, hst', hen'⟩ : ∃ es' clock', (execOp (ev e) ⟨dst, o, ty, pos, af, g⟩).run P w = .ok .skip { w with heap := w.heap.setIfInBounds b (.map es' clock') } ∧ Stamped es' clock' ∧ Ents fk fv es'.toList (mSet xs k v) := by
  rcases find_map K hen hst.2.2 k with ⟨h1, h2, _, h4⟩ | ⟨j, e0, v0, h1, h2, h3, _, h5, _, h7⟩
  ·refine ⟨_, _, ?_, Go.MapKept.stamped_push hst h2, ents_push (v := v) hen h4⟩
   rcases ho with rfl | rfl <;> simp [execOp, Instr.mapUpdate, hm, hi, hx, run_underlying ht, Go.MapKept.run_getObj_map hb, Go.MapKept.run_checkKey hk (K.isKey k), Go.MapKept.run_findKey hk h1, Go.MapKept.run_setObj_map _ hb, Result.andThen]
  ·have h2' : es[j]? = some e0 := by simpa using h2
   refine ⟨es.modify j fun e => { e with key := fk k, val := fv v }, clock, ?_, Go.MapKept.stamped_modify hst j _ (fun _ _ => rfl) (fun x _ hx => by rw [h2'] at hx; cases hx; exact h3.symm), ents_modify (v := v) hen (nodup_of K hen hst.2.2) h5 h7⟩
   rcases ho with rfl | rfl <;> simp [execOp, Instr.mapUpdate, hm, hi, hx, run_underlying ht, Go.MapKept.run_getObj_map hb, Go.MapKept.run_checkKey hk (K.isKey k), Go.MapKept.run_findKey hk h1, h2', h3, Go.MapKept.run_keyThatStays (K.isKey k), Go.MapKept.run_setObj_map _ hb, Result.andThen]
 unfold RunsTo
 rw [hrun]
 have hS' := hS.turnOf (w' := { w with heap := w.heap.setIfInBounds b (.map es' clock') }) hF hL' (C := mapC fk fv b (mSet xs k v)) fun S1 hp1 =>
  ⟨rfl, rfl, rfl, by simp, fun x _ hx => by rw [Array.getElem?_setIfInBounds_ne (fun h => hx ((hp1.1 x).2 h.symm))], S1, ⟨hp1.1, es', clock', by simp [hlt], hst', hen'⟩, fun x hx => ⟨by rw [(hp1.1 x).1 hx]; simpa using hlt, .inl hx⟩⟩
 exact ⟨(), rfl, hS'.1, hS'.2⟩
def mitC {κ ν : Type} (fk : κ → Value) (fv : ν → Value) (b r : Nat) (xs rest : List (κ × ν)) (cur : Option (κ × ν)) : Chunk where
 P S w := (∀ x, S x ↔ x = b ∨ x = r) ∧ b ≠ r ∧ ∃ (es : Array MapEntry) (clock : Nat) (seen : Array Nat), w.heap[b]? = some (.map es clock) ∧ w.heap[r]? = some (.mapIter (some b) clock seen clock) ∧ Stamped es clock ∧ Ents fk fv es.toList xs ∧ Ents fk fv (leftOf es seen).toList rest ∧
  ∀ p, cur = some p → ∃ (seen0 : Array Nat) (e : MapEntry), seen = seen0.push e.born ∧ e ∈ es.toList ∧ e.key = fk p.1 ∧ e.val = fv p.2
 loc S w w' h hp := ⟨hp.1, hp.2.1, by rw [h b ((hp.1 b).2 (.inl rfl)), h r ((hp.1 r).2 (.inr rfl))]; exact hp.2.2⟩
omit [DecidableEq κ] in
theorem imp_mit {b r : Nat} {xs rest : List (κ × ν)} (cur : Option (κ × ν)) : Imp (mitC fk fv b r xs rest cur) (mitC fk fv b r xs rest none) :=
 ⟨fun S w ⟨h1, h2, es, clock, seen, h3, h4, h5, h6, h7, _⟩ => ⟨h1, h2, es, clock, seen, h3, h4, h5, h6, h7, fun p hp => by cases hp⟩⟩
omit [DecidableEq κ] in
theorem turns_rangeM {t kt et d i b : Nat} {X : Operand} {xs : List (κ × ν)} {rds : List Nat} (ht : P.underlying t = some (.map kt et)) (hx : ev e X = .map (some b)) (hL : L[i]? = some (mapC fk fv b xs)) :
  Turns P cx e ⟨some d, .range t X, ty, pos, af, g⟩ L i rds (fun r : Nat => .pointer (some ⟨r, 0, none⟩)) (fun r => mitC fk fv b r xs xs none) := fun w L' hF hS _ hi' => by
 have hL' := (hi' i (.inr rfl)).trans hL
 obtain ⟨S, ⟨_, es, clock, hb, hst, hen⟩, _⟩ := hS.at hL'
 have hlt : b < w.heap.size := (Array.getElem?_eq_some_iff.1 hb).1
 unfold RunsTo
 have hr : (execOp (ev e) ⟨some d, .range t X, ty, pos, af, g⟩).run P w = .ok (.value (.pointer (some ⟨w.heap.size, 0, none⟩))) (w.alloc (.mapIter (some b) clock #[] clock)) := by
  have := run_range_map (P := P) w t kt et b es clock ht hb
  simp [execOp, hx, this, Result.andThen]
 rw [hr]
 have gr := Ja7 w (.mapIter (some b) clock #[] clock)
 have hleft : leftOf es #[] = es := by unfold leftOf; simp
 have hS' := hS.turnOf (w' := w.alloc (.mapIter (some b) clock #[] clock)) hF hL' (C := mitC fk fv b w.heap.size xs xs none) fun S1 hp1 =>
  ⟨gr.os, gr.tape, gr.output, gr.size, fun x hx _ => gr.block x hx, fun x => x = b ∨ x = w.heap.size, ⟨fun _ => Iff.rfl, by omega, es, clock, #[], by (first | rw [heap_alloc_old w _ hlt] | rw [heap_alloc_old w _ _ hlt]); exact hb, Go.heap_alloc_new w _, hst, hen, by rw [hleft]; exact hen, fun p hp => by cases hp⟩, fun x hx => by
   rcases hx with rfl | rfl
   ·exact ⟨by simp; omega, .inl ((hp1.1 _).2 rfl)⟩
   ·exact ⟨by simp, .inr (Nat.le_refl _)⟩⟩
 exact ⟨_, rfl, hS'.1, hS'.2⟩
theorem Jja : ∀ {l : List MapEntry} {j : Nat} {e : MapEntry}, (l.map (·.born)).Nodup → l[j]? = some e → l.filter (fun x => decide (x.born ≠ e.born)) = l.eraseIdx j
 | [], _, _, _, h => by simp at h
 | x :: l, 0, e, hn, h => by
  simp at h; subst h
  simp only [List.map_cons, List.nodup_cons] at hn
  rw [List.filter_cons_of_neg (by simp)]
  simp only [List.eraseIdx_cons_zero]
  exact List.filter_eq_self.2 fun y hy => by
   have : y.born ≠ x.born := fun q => hn.1 (q ▸ List.mem_map.2 ⟨y, hy, rfl⟩)
   simpa using this
 | x :: l, j + 1, e, hn, h => by
  simp only [List.getElem?_cons_succ] at h
  simp only [List.map_cons, List.nodup_cons] at hn
  have : x.born ≠ e.born := fun q => hn.1 (q ▸ List.mem_map.2 ⟨e, List.mem_of_getElem? h, rfl⟩)
  rw [List.filter_cons_of_pos (by simpa using this), List.eraseIdx_cons_succ, Jja hn.2 h]
omit [DecidableEq κ] in
theorem Ents.erase {es : List MapEntry} {xs : List (κ × ν)} (h : Ents fk fv es xs) (j : Nat) : Ents fk fv (es.eraseIdx j) (xs.eraseIdx j) := by
 unfold Ents at h ⊢
 have E : ∀ {α β : Type} (f : α → β) (l : List α) (j : Nat), (l.eraseIdx j).map f = (l.map f).eraseIdx j := by
  intro α β f l
  induction l with
  | nil => intro j; simp
  | cons x l ih => intro j; cases j <;> simp [ih]
 rw [E, E, h]
omit [DecidableEq κ] in
theorem turns_nextM {d i b r : Nat} {X : Operand} {xs rest : List (κ × ν)} {cur : Option (κ × ν)} {rds : List Nat} (hx : ev e X = .pointer (some ⟨r, 0, none⟩)) (hL : L[i]? = some (mitC fk fv b r xs rest cur)) (hr : (!rest.isEmpty) = true) :
  Turns P cx e ⟨some d, .next X false, ty, pos, af, g⟩ L i rds (fun q : { q : (κ × ν) × List (κ × ν) // Pick rest q.1 q.2 } => .tuple #[.bool true, fk q.1.1.1, fv q.1.1.2]) (fun q => mitC fk fv b r xs q.1.2 (some q.1.1)) := fun w L' hF hS _ hi' => by
 have hL' := (hi' i (.inr rfl)).trans hL
 obtain ⟨S, ⟨_, hbr, es, clock, seen, hb, hit, hst, hen, hlf, _⟩, _⟩ := hS.at hL'
 have hlb : b < w.heap.size := (Array.getElem?_eq_some_iff.1 hb).1
 have hlr : r < w.heap.size := (Array.getElem?_eq_some_iff.1 hit).1
 rcases run_next_at (P := P) w ty r b clock clock seen es clock hit hb hst.1 (Nat.le_refl _) with ⟨h0, _⟩ | ⟨en, hen0, w1, hw1, hrun⟩
 ·exfalso
  have := hlf.len
  simp at this
  have h0' : rest.length = 0 := by omega
  have : rest = [] := List.eq_nil_of_length_eq_zero h0'
  subst this; simp at hr
 ·obtain ⟨j, hj⟩ := List.mem_iff_getElem?.1 hen0
  obtain ⟨p, hp, hk, hv⟩ := hlf.at hj
  have hall : ∀ x, x ∈ (leftOf es seen).toList → x ∈ es.toList := by
   intro x hx; unfold leftOf at hx; simp at hx; simpa using hx.1
  have hnod : ((leftOf es seen).toList.map (·.born)).Nodup := by
   have hs : (leftOf es seen).toList.Sublist es.toList := by unfold leftOf; simp only [Array.toList_filter]; exact List.filter_sublist
   exact (hs.map _).nodup hst.2.1
  have hleft : (leftOf es (seen.push en.born)).toList = (leftOf es seen).toList.eraseIdx j := by
   rw [← Jja hnod hj]
   unfold leftOf
   simp only [Array.toList_filter, List.filter_filter]
   refine List.filter_congr fun x _ => ?_
   simp only [Array.contains_push]
   by_cases hxe : x.born = en.born <;> simp [hxe, Bool.and_comm]
   all_goals try (cases seen.contains x.born <;> simp_all [eq_comm])
  have hpick : Pick rest p (rest.eraseIdx j) := ⟨j, hp, rfl⟩
  unfold RunsTo
  have hr' : (execOp (ev e) ⟨some d, .next X false, ty, pos, af, g⟩).run P w = .ok (.value (.tuple #[.bool true, en.key, en.val])) (Go.ChangeMaps.setBlock w1 r (.mapIter (some b) clock (seen.push en.born) clock)) := by
   simp [execOp, hx, hrun, Result.andThen]
  rw [hr']
  have hw : w1.heap = w.heap ∧ w1.os = w.os ∧ w1.tape = w.tape ∧ w1.output = w.output := by rcases hw1 with rfl | rfl <;> exact ⟨rfl, rfl, rfl, rfl⟩
  obtain ⟨e1, e2, e3, e4⟩ := hw
  have hS' := hS.turnOf (w' := Go.ChangeMaps.setBlock w1 r (.mapIter (some b) clock (seen.push en.born) clock)) hF hL' (C := mitC fk fv b r xs (rest.eraseIdx j) (some p)) fun S1 hp1 =>
   ⟨e2, e3, e4, by simp [Go.ChangeMaps.setBlock, e1], fun x _ hx => by
    have : r ≠ x := fun q => hx ((hp1.1 x).2 (.inr q.symm))
    simp only [Go.ChangeMaps.setBlock, e1]
    rw [Array.getElem?_setIfInBounds_ne this], S1, ⟨hp1.1, hbr, es, clock, seen.push en.born, by
     simp only [Go.ChangeMaps.setBlock, e1]; rw [Array.getElem?_setIfInBounds_ne (Ne.symm hbr)]; exact hb, by simp [Go.ChangeMaps.setBlock, e1, hlr], hst, hen, by rw [hleft]; exact hlf.erase j, fun q hq => by cases hq; exact ⟨seen, en, rfl, hall _ hen0, hk, hv⟩⟩, fun x hx => by
     refine ⟨?_, .inl hx⟩
     rcases (hp1.1 x).1 hx with rfl | rfl
     ·simpa [Go.ChangeMaps.setBlock, e1] using hlb
     ·simpa [Go.ChangeMaps.setBlock, e1] using hlr⟩
  exact ⟨⟨(p, rest.eraseIdx j), hpick⟩, by simp [hk, hv], hS'.1, hS'.2⟩
omit [DecidableEq κ] in
theorem r_nextOverM {d : Option Nat} {X : Operand} {i b r : Nat} {xs rest : List (κ × ν)} {cur : Option (κ × ν)} {w : World} (hS : Sat cx w L) (hL : L[i]? = some (mitC fk fv b r xs rest cur)) (hx : ev e X = .pointer (some ⟨r, 0, none⟩)) (hr : (!rest.isEmpty) = false) :
  (execOp (ev e) ⟨d, .next X false, ty, pos, af, g⟩).run P w = .ok (.value (.tuple #[.bool false])) w := by
 obtain ⟨S, ⟨_, hbr, es, clock, seen, hb, hit, hst, hen, hlf, _⟩, _⟩ := hS.at hL
 rcases run_next_at (P := P) w ty r b clock clock seen es clock hit hb hst.1 (Nat.le_refl _) with ⟨_, hrun⟩ | ⟨en, hen0, _⟩
 ·simp [execOp, hx, hrun, Result.andThen]
 ·exfalso
  have h1 := hlf.len
  have h2 : rest = [] := by simpa using hr
  subst h2
  have h3 := List.length_pos_of_mem hen0
  rw [h1] at h3; simp at h3
omit [DecidableEq κ] in
theorem r_entryM {d : Option Nat} {X : Operand} {i b r : Nat} {xs rest : List (κ × ν)} {p : κ × ν} {w : World} (hS : Sat cx w L) (hL : L[i]? = some (mitC fk fv b r xs rest (some p))) (hx : ev e X = .pointer (some ⟨r, 0, none⟩)) :
  (execOp (ev e) ⟨d, .entry X, ty, pos, af, g⟩).run P w = .ok (.value (.tuple #[fk p.1, fv p.2])) w := by
 obtain ⟨S, ⟨_, hbr, es, clock, seen, hb, hit, hst, hen, hlf, hcur⟩, _⟩ := hS.at hL
 obtain ⟨seen0, en, rfl, hm, hk, hv⟩ := hcur p rfl
 have hrun := run_entry_at (P := P) w r b clock seen0 es clock en hit hb hm hst.2.1
 simp [execOp, hx, hrun, hk, hv, Result.andThen]
end ops
def mapB (v : Value) : Nat := match v with | .map (some b) => b | _ => 0
section rules
variable {P : Program} {n : Nat} {cx : Cx} {Q : Jax} {e : Xl} {L : List Chunk} {ops : Array Oper} {rest_ : List Oper} {ty : TypeId} {pos : String} {af : Array Edge} {g : Option (Nat × Bool)} {κ ν : Type} {fk : κ → Value} {fv : ν → Value}
theorem l_nextM {d i b r : Nat} {X : Operand} {xs rest : List (κ × ν)} {cur : Option (κ × ν)} (hx : ev e X = .pointer (some ⟨r, 0, none⟩)) (hL : L[i]? = some (mitC fk fv b r xs rest cur)) (hr : (!rest.isEmpty) = true)
  (hw : X3 ops ⟨some d, .next X false, ty, pos, af, g⟩ e = true) (hd : Nat.blt d n = true) (_ : True = True)
  (k : ∀ p rest', Pick rest p rest' → At cx (WL P n ops Q rest_) (upd e d (.tuple #[.bool true, fk p.1, fv p.2])) (L.set i (mitC fk fv b r xs rest' (some p)))) : At cx (WL P n ops Q (⟨some d, .next X false, ty, pos, af, g⟩ :: rest_)) e L :=
 Q1 (turns_nextM (rds := []) hx hL hr) hw rfl hd fun q => k q.1.1 q.1.2 q.2
end rules
end Go.Lx

namespace Go.Lx
open Go Go.Vc Go.Md
open Go.MapKept (IsKey Stamped)
structure FrM {κ ν : Type} (h : Jw) (fk : κ → Value) (fv : ν → Value) (v : Value) (xs : List (κ × ν)) : Prop where
 out : ∃ b es clock, v = .map (some b) ∧ h b = some (.map es clock) ∧ Stamped es clock ∧ Ents fk fv es.toList xs
section
variable {κ ν : Type} {fk : κ → Value} {fv : ν → Value} {h h' : Jw} {v : Value} {xs : List (κ × ν)}
theorem FrM.mono (f : FrM h fk fv v xs) (k : ∀ b o, h b = some o → h' b = some o) : FrM h' fk fv v xs := by
 obtain ⟨b, es, c, h1, h2, h3, h4⟩ := f.out
 exact ⟨b, es, c, h1, k _ _ h2, h3, h4⟩
theorem FrM.cells (f : FrM h fk fv v xs) : v.cells.toList = [v] := by
 obtain ⟨b, es, c, rfl, _⟩ := f.out; rfl
theorem FrM.one (f : FrM h fk fv v xs) : v.oneCell' = true := by
 obtain ⟨b, es, c, rfl, _⟩ := f.out; rfl
end
section
variable {P : Program} {cx : Cx} {e : Xl} {L : List Chunk} {ty : TypeId} {pos : String} {af : Array Edge} {g : Option (Nat × Bool)}
variable {κ ν : Type} {fk : κ → Value} {fv : ν → Value}
end
end Go.Lx
namespace Go.Vc
open Go Go.Md Go.Shelf Go.Sort Go.Proofs
end Go.Vc

namespace Go.Vc
open Go Go.Md Go.Shelf Go.Sort Go.Proofs
end Go.Vc

namespace Go.Lx
open Go Go.Vc Go.Md
def cutL {β : Type} (xs : List β) (l q : Int) : List β := (xs.drop l.toNat).take (q.toNat - l.toNat)
section allc
variable {α : Type} {G : Jw → (Nat → Value) → α → Prop} {h : Jw} {sz : Nat} {css : List (List Value)} {xs ys : List α} {l q : Int}
theorem AllC.cutG (p : AllC G h sz css xs) (g : Xx xs l q = some ys) : Xx css l q = some (cutL css l q) := by
 obtain ⟨g0, g1, g2, _⟩ := Z0 g
 exact Jht ⟨g0, g1, by rw [p.len]; exact g2⟩
theorem AllC.cut (p : AllC G h sz css xs) (g : Xx xs l q = some ys) : AllC G h sz (cutL css l q) ys := by
 obtain ⟨g0, g1, g2, rfl⟩ := Z0 g
 refine ⟨by simp [cutL, p.len], fun i cs x h1 h2 => ?_⟩
 unfold cutL at h1
 rw [List.getElem?_take] at h1 h2
 split at h1
 ·rename_i hi
  rw [if_pos hi] at h2
  rw [List.getElem?_drop] at h1 h2
  exact p.el _ cs x h1 h2
 ·cases h1
end allc
section rules
variable {P : Program} {n : Nat} {cx : Cx} {e : Xl} {L : List Chunk} {d : Nat} {ty : TypeId} {pos : String} {af : Array Edge} {g : Option (Nat × Bool)}
def offR (w : World) (E sz : Nat) (v : Value) (n : Nat) (xs : List (List Value)) : Prop :=
 ∃ g off cap cur, v = .slice (some ⟨g, off, none⟩) n cap ∧ w.heap[g]? = some (.cells cur E (0, 0)) ∧ n ≤ cap ∧ cap ≤ maxLen ∧ off + cap * sz ≤ cur.size ∧ (cur.toList.drop off).take (n * sz) = xs.flatten
theorem offR.frs {w : World} {E sz : Nat} {v : Value} {n : Nat} {xs : List (List Value)} (h : offR w E sz v n xs) (hn : xs.length = n) (hl : ∀ x ∈ xs, x.length = sz) : FrS (fun b => w.heap[b]?) sz v xs := by
 obtain ⟨g, off, cap, cur, rfl, hh, hnc, hm, hcs, ht⟩ := h
 subst hn
 refine ⟨some ⟨g, off, none⟩, cap, rfl, hnc, by simpa [maxLen] using hm, .inr ⟨g, off, cur, E, (0, 0), rfl, hh, fun i x hx => ⟨hl x (List.mem_of_getElem? hx), fun j v hv => ?_⟩⟩⟩
 have hr := Jex xs i x (List.all_eq_true.2 fun x hx => by simpa using hl x hx) hx j v hv
 rw [← ht, List.getElem?_take] at hr
 split at hr
 ·rw [List.getElem?_drop, Array.getElem?_toList] at hr
  rw [← hr, Nat.add_assoc]
 ·cases hr
end rules
section rules
variable {P : Program} {cx : Cx} {ops : Array Oper} {F : Xl → List Chunk → Prop} {rest : List Oper} {ss : List Kd} {e : Xl} {L : List Chunk} {d : Nat}
end rules
end Go.Lx

namespace Go.Lx
open Go Go.Vc Go.Md
def setR (css : List (List Value)) (i : Int) (j : Nat) (v : Value) : List (List Value) := css.set i.toNat ((css.getD i.toNat []).set j v)
def updF (c : Nat → Value) (j : Nat) (v : Value) (q : Nat) : Value := cond (Nat.beq q j) v (c q)
theorem setR_len (css : List (List Value)) (i : Int) (j : Nat) (v : Value) : (setR css i j v).length = css.length := by simp [setR]
theorem ixR {α : Type} {css : List (List Value)} {xs : List α} {i : Int} {x : α} (h : css.length = xs.length) (g : Yv xs i = some x) : Yv css i = some (css.getD i.toNat []) := by
 obtain ⟨h0, h1, _⟩ := Vn g
 unfold Yv
 rw [if_pos h0, List.getD_eq_getElem?_getD, List.getElem?_eq_getElem (by rw [h]; exact h1)]; rfl
theorem AllC.setR {α : Type} {G : Jw → (Nat → Value) → α → Prop} {h : Jw} {sz : Nat} {css : List (List Value)} {xs ys : List α} (p : AllC G h sz css xs) {i : Int} {x x' : α} {j : Nat} {v : Value} (g : Yv xs i = some x) (g2 : gSet xs i x' = some ys) (hj : Nat.blt j sz = true)
  (hG : G h (updF (fun q => (css.getD i.toNat []).getD q undef) j v) x') : AllC G h sz (Go.Lx.setR css i j v) ys := by
 have hj' : j < sz := by simpa using hj
 obtain ⟨h0, h1, rfl⟩ := Je6 g2
 have hget := p.get g
 have hl := (p.el _ _ _ hget (Vn g).2.2).1
 refine ⟨by rw [setR_len, p.len, List.length_set], fun k c y hc hy => ?_⟩
 unfold Go.Lx.setR at hc
 rw [List.getElem?_set] at hc hy
 by_cases hk : i.toNat = k
 ·subst hk
  rw [if_pos rfl, if_pos (by rw [p.len]; exact h1)] at hc
  rw [if_pos rfl, if_pos h1] at hy
  cases hc; cases hy
  refine ⟨by rw [List.length_set]; exact hl, ?_⟩
  have : (fun q => ((css.getD i.toNat []).set j v).getD q undef) = updF (fun q => (css.getD i.toNat []).getD q undef) j v := by
   funext q
   unfold updF
   simp only [List.getD_eq_getElem?_getD, List.getElem?_set]
   by_cases hq : j = q
   ·subst hq
    have : Nat.beq j j = true := by simp
    simp only [List.getD_eq_getElem?_getD] at hl
    rw [this, if_pos rfl, if_pos (by rw [hl]; exact hj')]; rfl
   ·have : Nat.beq q j = false := by
     cases hb : Nat.beq q j with
     | false => rfl
     | true => exact absurd (Nat.eq_of_beq_eq_true hb).symm hq
    rw [this, if_neg hq]; rfl
  rw [this]; exact hG
 ·rw [if_neg hk] at hc hy
  exact p.el k c y hc hy
theorem wr_set {y : List Value} {j : Nat} {v : Value} (h : j < y.length) : wr y j [v] = some (y.set j v) := by
 induction y generalizing j with
 | nil => simp at h
 | cons a y ih =>
  cases j with
  | zero => simp [wr, wrn]
  | succ j =>
   show (wr y j [v]).map (a :: ·) = _
   rw [ih (by simpa using h)]; rfl
end Go.Lx
namespace Go.Lx
open Go Go.Vc Go.Md
section rules
variable {P : Program} {n : Nat} {cx : Cx} {e : Xl} {L : List Chunk} {ops : Array Oper} {rest : List Oper} {F : Xl → List Chunk → Prop} {ss : List Kd} {ty : TypeId} {pos : String} {af : Array Edge} {g : Option (Nat × Bool)}
end rules
end Go.Lx
namespace Go.Lx
open Go Go.Vc Go.Md
section
variable {cx : Cx} {K : Xl → World → Prop} {e : Xl} {L : List Chunk}
end
end Go.Lx
namespace Go.Lx
open Go Go.Vc Go.Md
section
variable {P : Program} {n : Nat} {cx : Cx} {e : Xl} {L : List Chunk} {ops : Array Oper} {rest : List Oper} {F : Xl → List Chunk → Prop} {ss : List Kd} {ty : TypeId} {pos : String} {af : Array Edge} {g : Option (Nat × Bool)}
theorem Uf {α : Type} {f : α → List Value} {xs : List α} {x' : α} {i : Int} {d : Option Nat} {T fld k fo ft fsz bo : Nat} {a : Option Addr} {nm tg pk : String} {em : Bool} {X : Operand} {fs : Array Field} {sz' : Nat} {w : World} (hu : ∀ w, (underlying T).run P w = .ok (.struct fs) w)
  (hf : fs[fld]? = some ⟨nm, ft, fo, em, tg, pk, bo⟩) (hs : ∀ w, (sizeOf ft).run P w = .ok fsz w) (hsz : Nat.blt 0 fsz = true) (hp : ev e X = X1 a k) (hR : Row w a sz' (xs.map f)) (hg : Yv xs i = some x') :
  (execOp (ev e) ⟨d, .fieldAddr T X fld, ty, pos, af, g⟩).run P w = .ok (.value (X1 a (k + fo))) w :=
 Jjs hu hf hs hsz hp (hR.some (by rw [List.length_map]; exact (Vn hg).2.1)) w
end
end Go.Lx
namespace Go.Lx
open Go Go.Vc Go.Md
theorem W7 (l : List (List Value)) : l.map Vp = l := by
 have : (Vp : List Value → List Value) = id := rfl
 rw [this, List.map_id]
section
variable {P : Program} {n : Nat} {cx : Cx} {e : Xl} {L : List Chunk} {ops : Array Oper} {rest : List Oper} {F : Xl → List Chunk → Prop} {ss : List Kd} {ty : TypeId} {pos : String} {af : Array Edge} {g : Option (Nat × Bool)}
end
end Go.Lx
namespace Go.Lx
open Go Go.Vc Go.Md
section
variable {P : Program} {n : Nat} {cx : Cx} {e : Xl} {L : List Chunk} {ty : TypeId} {pos : String} {af : Array Edge} {g : Option (Nat × Bool)}
theorem Jf1 {α : Type} {q T j sz k c E m : Nat} {A X : Operand} {x : Value} {a : Option Addr} {css : List (List Value)} {xs : List α} {i : Int} {xe : α} (hm : m = css.length) (hml : css.length = xs.length) (hs : ∀ w, (sizeOf T).run P w = .ok 1 w)
  (hp : ev e A = X1 a k) (hk : k = i.toNat * sz + j) (hx : ev e X = x) (hc : x.cells.toList = [x]) (hone : [x].all Value.oneCell' = true) (hj : Nat.blt j sz = true)
  (hL : L[q]? = some (J3 E sz (.slice a m c) m (css.map Vp))) (hg : Yv xs i = some xe) :
  Turns P cx e ⟨none, .store T A X, ty, pos, af, g⟩ L q [] (fun _ : Unit => undef) (fun _ => J3 E sz (.slice a m c) m ((setR css i j x).map Vp)) := by
 subst hm
 intro w L' hF hS hl hi
 have hL' := (hi q (.inr rfl)).trans hL
 rw [W7] at hL'
 rw [W7]
 obtain ⟨_, h1, hget⟩ := Vn (ixR hml hg)
 obtain ⟨S0, ⟨⟨ho, hlen, hlx⟩, hob⟩, hlt⟩ := hS.at hL'
 have hyl := hlx _ (List.mem_of_getElem? hget)
 have hv' : wr (css.getD i.toNat []) j [x] = some ((css.getD i.toNat []).set j x) := wr_set (by rw [hyl]; simpa using hj)
 obtain ⟨w', hr, h2, h3⟩ := Jkv (P := P) (ty := ty) (pos := pos) (af := af) (g := g) hs hp hk hx hc rfl rfl hone hget hv' ho hlen hlx
 obtain ⟨hF', hS'⟩ := hS.turnOf hF hL' (C := J3 E sz (.slice a css.length c) css.length (css.set i.toNat ((css.getD i.toNat []).set j x))) fun S1 hp => Jdi hp.2 h2 h3 (.inl rfl) (by simp [hlen]) (by
  intro z' hz
  rcases List.mem_or_eq_of_mem_set hz with h | h
  ·exact hlx z' h
  ·subst h; rw [List.length_set]; exact hyl)
 unfold RunsTo
 rw [hr]
 exact ⟨(), rfl, hF', hS'⟩
end
end Go.Lx

namespace Go.Lx
open Go Go.Vc Go.Md
section
variable {P : Program} {n : Nat} {cx : Cx} {e : Xl} {L : List Chunk} {d : Option Nat} {ty : TypeId} {pos : String} {af : Array Edge} {g : Option (Nat × Bool)}
end
end Go.Lx
namespace Go.Lx
open Go Go.Vc Go.Md
section
variable {cx : Cx} {L : List Chunk} {w : World}
end
end Go.Lx
namespace Go.Lx
open Go Go.Vc Go.Md
end Go.Lx

namespace Go.Lx
open Go Go.Vc Go.Md
section
variable {P : Program} {n : Nat} {cx : Cx} {e : Xl} {L : List Chunk} {d : Nat} {ty : TypeId} {pos : String} {af : Array Edge} {g : Option (Nat × Bool)}
theorem turns_copyK {xs news : List (List Value)} {i : Nat} {D X : Operand} {t u E : TypeId} {I : TypeInfo} {sz : Nat} {p : Option Addr × Nat} {rds : List Nat} {ax : Option Addr} {dl cd c m a q : Nat} {dst : Option Nat}
  (ht : P.underlying t = some (.slice E)) (hi : P.info? E = some I) (hsize : I.size = sz)
  (hL : L[i]? = some (J3 E sz (.slice p.1 m p.2) m xs)) (hm : m = xs.length) (hd : ev e D = .slice (X0 p.1 a p.2 sz) dl cd) (ha : a + dl ≤ m) (hx : ev e X = .slice ax q c) (hql : q ≤ dl) (hq : q = news.length) (hq0 : 0 < q)
  (hnews : ∀ w L', Fr cx w → Sat cx w L' → (∀ j, j ∈ rds → L'[j]? = L[j]?) → Row w ax sz news) (hnl : ∀ x ∈ news, x.length = sz) (h1 : ∀ x ∈ news, ∀ u ∈ x, u.oneCell' = true) :
  Turns P cx e ⟨dst, .call ⟨.builtin .copy, #[D, X], #[t, u]⟩, ty, pos, af, g⟩ L i rds (fun _ : Unit => .int .i64 (q : Int)) (fun _ => J3 E sz (.slice p.1 m p.2) m (xs.take a ++ news ++ xs.drop (a + q))) := by
 subst hsize hq hm
 intro w L' hF hS hl hi'
 have hr := hnews w L' hF hS (fun j hj => hi' j (.inl hj))
 have hL' := (hi' i (.inr rfl)).trans hL
 obtain ⟨S0, ⟨⟨ho, hlen, hlx⟩, hob⟩, hlt⟩ := hS.at hL'
 have hall : ∀ x ∈ xs.take a ++ news ++ xs.drop (a + news.length), x.length = I.size := fun x hx => by
  rcases List.mem_append.1 hx with h | h
  ·rcases List.mem_append.1 h with h | h
   ·exact hlx x (List.mem_of_mem_take h)
   ·exact hnl x h
  ·exact hlx x (List.mem_of_mem_drop h)
 have hle : (xs.take a ++ news ++ xs.drop (a + news.length)).length = xs.length := by
  simp only [List.length_append, List.length_take, List.length_drop]; omega
 have hmin : Nat.min news.length dl = news.length := Nat.min_eq_left hql
 ·rcases ho.2 with ⟨_, hz⟩ | ⟨g0, cap, cur, hv0, hb0, hh, hnc, hcm, hcs, htk⟩
  ·omega
  ·simp only [Value.slice.injEq] at hv0
   obtain ⟨hp1, _, hp2⟩ := hv0
   have hcut : X0 p.1 a p.2 I.size = some ⟨g0, a * I.size, none⟩ := by
    rw [hp1]; unfold X0
    rw [if_neg (by omega)]; simp [Addr.add_lit]
   rcases hr with hr | ⟨b, off, hax, hr⟩
   ·rw [hr] at hq0; exact absurd hq0 (by simp)
   subst hax
   have hfl : news.flatten.length = news.length * I.size := by rw [Jag news hnl]
   have hcell : ∀ j u, news.flatten[j]? = some u → w.cell? ((⟨b, off, none⟩ : Addr).add j) = some u := by
    intro j u hj
    obtain ⟨i', k', x, g1, g2, g3⟩ := Jif news hnl j u hj
    have := (hr i' x g1).2 k' u g2
    rw [Addr.add_lit, g3, ← Nat.add_assoc]
    exact this
   have hone : ∀ u ∈ news.flatten, u.oneCell' = true := fun u hu => by
    obtain ⟨x, hx, hux⟩ := List.mem_flatten.1 hu
    exact h1 x hx u hux
   have hcur : cur.toList.length = cur.size := Array.length_toList
   have hsum : (a + news.length) * I.size ≤ xs.length * I.size := Nat.mul_le_mul_right _ (by omega)
   have hsum2 : xs.length * I.size ≤ cap * I.size := Nat.mul_le_mul_right _ hnc
   have hfit : a * I.size + news.flatten.length ≤ cur.size := by
    rw [Nat.add_mul] at hsum; omega
   have hfc := run_firstCells_some (P := P) w I.size news.length ⟨b, off, none⟩ news.length c news.flatten hfl hcell
   have hst := run_storeCells_at (P := P) g0 (a * I.size) E news.flatten 0 cur w hh (by simpa using hfit) hone
   simp only [Nat.add_zero] at hst
   have hr2 : (Builtin.copy_ #[t, u] ty #[.slice (some ⟨g0, a * I.size, none⟩) dl cd, .slice (some ⟨b, off, none⟩) news.length c]).run P w = .ok (goInt news.length) (w.setRow g0 (cur.toList.take (a * I.size) ++ news.flatten ++ cur.toList.drop (a * I.size + news.flatten.length)).toArray) := by
    have hmin2 : min news.length dl = news.length := hmin
    simp [Builtin.copy_, run_underlying ht, Builtin.lenOf, sizeOf, typeInfo, hi, hmin, hmin2, hfc, hst]
   have hexec : (execOp (ev e) ⟨dst, .call ⟨.builtin .copy, #[D, X], #[t, u]⟩, ty, pos, af, g⟩).run P w = .ok (.value (.int .i64 (news.length : Int))) (w.setRow g0 (cur.toList.take (a * I.size) ++ news.flatten ++ cur.toList.drop (a * I.size + news.flatten.length)).toArray) := by
    simp only [execOp, resolve, invoke, builtin, Sem.run_bind, Sem.run_pure, Result.andThen_ok, List.map_toArray, List.map_cons, List.map_nil, hd, hcut, hx, hr2]
    rfl
   have hxf : xs.flatten.length = xs.length * I.size := Jag xs hlx
   have e2 : (xs.take a ++ news ++ xs.drop (a + news.length)).flatten = xs.flatten.take (a * I.size) ++ news.flatten ++ xs.flatten.drop ((a + news.length) * I.size) := by
    rw [List.flatten_append, List.flatten_append, ← Jhl _ hlx, ← Jj6 _ hlx]
   have hlen2 : (cur.toList.take (a * I.size) ++ news.flatten ++ cur.toList.drop (a * I.size + news.flatten.length)).length = cur.size := by
    simp only [List.length_append, List.length_take, List.length_drop, hcur]; omega
   have e1 : cur.toList = xs.flatten ++ cur.toList.drop (xs.length * I.size) := by rw [← htk, List.take_append_drop]
   have hown : (w.setRow g0 (cur.toList.take (a * I.size) ++ news.flatten ++ cur.toList.drop (a * I.size + news.flatten.length)).toArray).ownsRow 0 E I.size (.slice p.1 xs.length p.2) xs.length (xs.take a ++ news ++ xs.drop (a + news.length)).flatten := by
    refine ⟨by rw [Jag _ hall, hle], .inr ⟨g0, cap, _, by rw [hp1, hp2], hb0, setRow_heap w g0 cur _ E (0, 0) hh, hnc, hcm, by rw [List.size_toArray, hlen2]; exact hcs, ?_⟩⟩
    rw [List.toList_toArray, e2]
    have hal : a * I.size ≤ xs.flatten.length := by rw [hxf]; exact Nat.mul_le_mul_right _ (by omega)
    have e3 : cur.toList.take (a * I.size) = xs.flatten.take (a * I.size) := by
     rw [e1, List.take_append_of_le_length hal]
    have e4 : cur.toList.drop (a * I.size + news.flatten.length) = xs.flatten.drop ((a + news.length) * I.size) ++ cur.toList.drop (xs.length * I.size) := by
     conv => lhs; rw [e1]
     rw [hfl, ← Nat.add_mul, List.drop_append_of_le_length (by rw [hxf]; exact hsum)]
    rw [e3, e4, ← List.append_assoc]
    have hl3 : (xs.flatten.take (a * I.size) ++ news.flatten ++ xs.flatten.drop ((a + news.length) * I.size)).length = xs.length * I.size := by
     rw [← e2, Jag _ hall, hle]
    rw [← hl3, List.take_left]
   have hgb : w.grownBy (w.setRow g0 (cur.toList.take (a * I.size) ++ news.flatten ++ cur.toList.drop (a * I.size + news.flatten.length)).toArray) (Value.slice p.1 xs.length p.2).ownBlock :=
    ⟨rfl, rfl, rfl, by simp, fun b' _ hb => setRow_other w g0 b' _ (fun e => hb (by simp [Value.ownBlock, hp1, e]))⟩
   obtain ⟨hF', hS'⟩ := hS.turnOf hF hL' (C := J3 E I.size (.slice p.1 xs.length p.2) xs.length (xs.take a ++ news ++ xs.drop (a + news.length))) fun S1 hp => Jdi hp.2 hown hgb (.inl rfl) hle hall
   unfold RunsTo
   rw [hexec]
   exact ⟨(), rfl, hF', hS'⟩
end
end Go.Lx
namespace Go.Lx
open Go Go.Vc Go.Md
end Go.Lx
namespace Go.Vc
open Go
section
variable {P : Program} {cx : Cx} {e : Xl} {L : List Chunk}
end
end Go.Vc

namespace Go.Lx
open Go Go.Vc Go.Md
section
variable {cx : Cx} {L : List Chunk}
end
end Go.Lx

namespace Go.Lx
open Go Go.Md Go.Vc Go.Shelf Go.Sort Go.Proofs
end Go.Lx

namespace Go.Lx
open Go Go.Md Go.Vc Go.Shelf Go.Sort Go.Proofs
abbrev nn : Option Addr × Nat := (none, 0)
abbrev i6 (x : Int) : Value := .int .i64 x
abbrev sl (p : Option Addr × Nat) (n : Nat) : Value := .slice p.1 n p.2
section
variable {P : Program} {n : Nat} {cx : Cx} {Q : Jax} {e : Xl} {L : List Chunk} {ops : Array Oper} {rest : List Oper} {d : Nat} {ty : TypeId} {pos : String} {af : Array Edge} {g : Option (Nat × Bool)} {X : Operand}
theorem mv (v : Value) (k : At cx (WL P n ops Q rest) (upd e d v) L) (hw : X3 ops ⟨some d, .move X, ty, pos, af, g⟩ e = true := by exact rfl) (hn : Nat.blt d n = true := by exact rfl) (hx : ev e X = v := by exact rfl) :
  At cx (WL P n ops Q (⟨some d, .move X, ty, pos, af, g⟩ :: rest)) e L := Jf hw rfl hn (Jk hx) k
theorem ag (v : Value) (k : At cx (WL P n ops Q rest) (upd e d v) L) (hw : X3 ops ⟨some d, .assign X, ty, pos, af, g⟩ e = true := by exact rfl) (hn : Nat.blt d n = true := by exact rfl) (hx : ev e X = v := by exact rfl) :
  At cx (WL P n ops Q (⟨some d, .assign X, ty, pos, af, g⟩ :: rest)) e L := Jf hw rfl hn (Jg hx) k
theorem pa {o : Op} (k : At cx (WL P n ops Q rest) (upd e d undef) L) (hw : X3 ops ⟨some d, o, ty, pos, af, g⟩ e = false := by exact rfl) (hn : Nat.blt d n = true := by exact rfl) :
  At cx (WL P n ops Q (⟨some d, o, ty, pos, af, g⟩ :: rest)) e L := Jx hw rfl hn k
theorem Ur {K : Xl → World → Prop} (i : Nat) (k : At cx K e (L.eraseIdx i)) : At cx K e L := by
 refine c_sel ((List.range L.length).eraseIdx i) (L.eraseIdx i) ?_ (List.nodup_range.sublist (List.eraseIdx_sublist _ _)) k
 refine List.ext_getElem? fun j => ?_
 rw [List.getElem?_map, List.getElem?_map, List.getElem?_eraseIdx, List.getElem?_eraseIdx]
 split
 ·by_cases h : j < L.length
  ·rw [List.getElem?_range h]; simp [List.getElem?_eq_getElem h]
  ·rw [List.getElem?_eq_none (by simpa using h), List.getElem?_eq_none (by simpa using h)]; rfl
 ·by_cases h : j + 1 < L.length
  ·rw [List.getElem?_range h]; simp [List.getElem?_eq_getElem h]
  ·rw [List.getElem?_eq_none (by simpa using h), List.getElem?_eq_none (by simpa using h)]; rfl
end
section
variable {P : Program} {cx : Cx} {e : Xl} {L : List Chunk} {ops : Array Oper} {F : Xl → List Chunk → Prop} {rest : List Oper} {ss : List Kd} {d : Nat} {ty : TypeId} {pos : String} {af : Array Edge} {g : Option (Nat × Bool)} {X : Operand}
theorem dm (v : Value) (k : Sq P cx ops F rest ss (upd e d v) L) (hw : X3 ops ⟨some d, .move X, ty, pos, af, g⟩ e = true := by exact rfl) (hx : ev e X = v := by exact rfl) :
  Sq P cx ops F (⟨some d, .move X, ty, pos, af, g⟩ :: rest) (.p :: ss) e L := Jq hw rfl (Jk hx) k
theorem dp {o : Op} {s : Kd} (k : Sq P cx ops F rest ss (upd e d undef) L) (hw : X3 ops ⟨some d, o, ty, pos, af, g⟩ e = false := by exact rfl) :
  Sq P cx ops F (⟨some d, o, ty, pos, af, g⟩ :: rest) (s :: ss) e L := Q3 hw rfl k
end
section
variable {α : Type} {a b : α} {l : List α} {n : Nat}
theorem z1 : (a :: l).set 0 b = b :: l := rfl
theorem z2 : (a :: l).set (n + 1) b = a :: l.set n b := rfl
theorem z3 : (a :: l).eraseIdx 0 = l := rfl
theorem z4 : (a :: l).eraseIdx (n + 1) = a :: l.eraseIdx n := rfl
theorem z5 {m : List α} : (a :: l) ++ m = a :: (l ++ m) := rfl
theorem z6 {m : List α} : [] ++ m = m := rfl
theorem z7 : List.replicate (n + 1) a = a :: List.replicate n a := rfl
theorem z8 : List.replicate 0 a = [] := rfl
end
end Go.Lx

namespace Go.Lx
open Go Go.Vc Go.Md
open Go.MapKept (IsKey Stamped)
structure KeyG {κ : Type} [DecidableEq κ] (P : Program) (kt : TypeId) (fk : κ → Value) : Prop where
 inj : ∀ a b, fk a = fk b → a = b
 chk : ∀ k em w, (Instr.checkKey em 10000 kt (fk k)).run P w = .ok () w
 now : ∃ d, P.underlying kt = some d ∧ ∀ a b, Instr.sameNow d (fk a) (fk b) = none
 eql : ∀ a b w, (Op.equal kt (fk a) (fk b)).run P w = .ok (decide (a = b)) w
 bits : ∀ k, Instr.sameBits 10000 (fk k) (fk k) = true
section find
variable {κ ν : Type} [DecidableEq κ] {P : Program} {kt : TypeId} {fk : κ → Value} {fv : ν → Value}
end find
section rules
variable {P : Program} {cx : Cx} {e : Xl} {L : List Chunk} {ty : TypeId} {pos : String} {af : Array Edge} {g : Option (Nat × Bool)}
variable {κ ν : Type} [DecidableEq κ] {fk : κ → Value} {fv : ν → Value}
end rules
end Go.Lx

namespace Go.Lx
open Go Go.Vc Go.Md
def exC {σ : Type} (C : σ → Chunk) : Chunk where
 P S w := ∃ x, (C x).P S w
 loc S w w' h := fun ⟨x, hx⟩ => ⟨x, (C x).loc S w w' h hx⟩
section
variable {P : Program} {cx : Cx} {e : Xl} {L : List Chunk} {ops : Array Oper} {F : Xl → List Chunk → Prop} {rest : List Oper} {ss : List Kd}
theorem sat_ex {σ : Type} {w : World} {i : Nat} {C : σ → Chunk} (hL : L[i]? = some (exC C)) (hS : Sat cx w L) : ∃ x, Sat cx w (L.set i (C x)) := by
 obtain ⟨fp, h1, h2, h3⟩ := hS.out
 obtain ⟨x, hx⟩ := h1 i _ hL
 have hil : i < L.length := by
  rcases Nat.lt_or_ge i L.length with h | h
  ·exact h
  ·simp [List.getElem?_eq_none h] at hL
 refine ⟨x, fp, fun j c hc => ?_, fun j b hb => ?_, h3⟩
 ·by_cases hji : j = i
  ·subst hji
   rw [List.getElem?_set_self hil] at hc
   cases hc; exact hx
  ·rw [List.getElem?_set_ne (fun h => hji h.symm)] at hc
   exact h1 j c hc
 ·have := h2 j b hb
  exact ⟨by simpa using this.1, this.2⟩
theorem c_ex {σ : Type} {K : Xl → World → Prop} (i : Nat) {C : σ → Chunk} (hL : L[i]? = some (exC C)) (k : ∀ x, At cx K e (L.set i (C x))) : At cx K e L :=
 ⟨fun w hF hS => by
  obtain ⟨x, hx⟩ := sat_ex hL hS
  exact (k x).out w hF hx⟩
def _root_.Go.Vc.Kd.t2 (i j : Nat) (rds : List Nat) (v0 : Value) (C : Chunk) : Kd := .g [] rds [i, j] (fun _ _ v => v = v0) (fun _ _ _ => [C, empC])
end
end Go.Lx

namespace Go.Lx
open Go Go.Vc Go.Md
section rules
variable {P : Program} {n : Nat} {cx : Cx} {e : Xl} {L : List Chunk} {ops : Array Oper} {rest : List Oper} {ty : TypeId} {pos : String} {af : Array Edge} {g : Option (Nat × Bool)}
end rules
end Go.Lx

namespace Go.Lx
open Go Go.Vc Go.Md Go.Shelf Go.Sort Go.Proofs
section ops
variable {P : Program} {e : Xl} {d : Option Nat} {ty : TypeId} {pos : String} {af : Array Edge} {g : Option (Nat × Bool)}
end ops
end Go.Lx

namespace Go.Lx
open Go Go.Vc Go.Md
structure RC (P : Program) (n : Nat) (c : Code) (Q : Jax) (m : Nat) (e : Xl) (w : World) : Prop where
 out : ∀ a, Sim n a e → Code.rounds P c (lift n Q) m a w
section rules
variable {P : Program} {n : Nat} {Q : Jax} {cx : Cx} {K : Xl → World → Prop} {e : Xl} {L : List Chunk}
end rules
end Go.Lx

namespace Go.Lx
open Go Go.Vc Go.Md Go.Shelf Go.Sort Go.Proofs
variable {P : Program} {cx : Cx} {L : List Chunk} {e : Xl}
theorem Jje {fn : Func} {t T b u u' : Nat} {v : Value} (h : fn.results = #[.cell t T, .tmp u, .tmp u']) (tmps : Array Value) (w : World) (ht : tmps.getD t undef = .pointer (some ⟨b, 0, none⟩)) (hl : (loadVar T ⟨b, 0, none⟩).run P w = .ok v w) :
  (results fn tmps).run P w = .ok (.tuple #[v, tmps.getD u undef, tmps.getD u' undef]) w := by
 rw [Array.getD_eq_getD_getElem?] at ht
 simp [results, h, ht, asAddr, hl]
theorem retCtt {i : Nat} {fn : Func} {R : Value → World → Prop} {t T T0 b sz u u' : Nat} {cs vs : List Value} {v2 v3 : Value} (hA : ∀ w, (isAgg T).run P w = .ok true w) (hs : ∀ w, (sizeOf T).run P w = .ok sz w) (hr : fn.results = #[.cell t T, .tmp u, .tmp u'])
  (ht : e t = .pointer (some ⟨b, 0, none⟩)) (hL : L[i]? = some (Jn b cs T0)) (hv : rd cs 0 sz = some vs) (h2 : e u = v2) (h3 : e u' = v3) (k : ∀ w, Fr cx w → Sat cx w L → R (.tuple #[.agg vs.toArray, v2, v3]) w) : At cx (Jfh P fn R .ret) e L :=
 ⟨fun w hF hS tmps hts => ⟨.tuple #[.agg vs.toArray, v2, v3], by
  obtain ⟨h1, h2'⟩ := Jil hv
  have hl := Ww (P := P) (w := w) (b := b) (o := 0) hA hs h1 (fun j v hj => by rw [Jey (Ut hS hL)]; exact h2' j v hj)
  rw [Jje hr tmps w (by rw [hts, ht]) hl, hts, hts, h2, h3], k w hF hS⟩⟩
section
open Go.Sort Go.Shelf
end
end Go.Lx

namespace Go.Lx
open Go Go.Vc Go.Md
section
variable {α : Type} {G : Jw → (Nat → Value) → α → Prop} {h : Jw} {sz : Nat} {css : List (List Value)} {xs ys : List α} {i : Int} {x' : α} {vs : List Value}
end
end Go.Lx

namespace Go.Lx
open Go Go.Vc Go.Md Go.Shelf Go.Sort Go.Proofs
section rules
variable {P : Program} {n : Nat} {cx : Cx} {Q : Jax} {e : Xl} {L : List Chunk} {ops : Array Oper} {rest : List Oper} {ty : TypeId} {pos : String} {af : Array Edge} {g : Option (Nat × Bool)}
end rules
section
end
section
open Go.Vc
variable {P : Program} {n : Nat} {cx : Cx} {e : Xl} {L : List Chunk} {d : Nat} {ty : TypeId} {pos : String} {af : Array Edge} {g : Option (Nat × Bool)}
end
section
variable {P : Program} {e : Xl} {d : Option Nat} {ty : TypeId} {pos : String} {af : Array Edge} {g : Option (Nat × Bool)}
theorem Row.pre {w : World} {a : Option Addr} {sz : Nat} {xs ys : List (List Value)} (h : Row w a sz (xs ++ ys)) : Row w a sz xs := by
 rcases h with h | ⟨b, off, ha, h⟩
 ·exact .inl (List.append_eq_nil_iff.1 h).1
 ·refine .inr ⟨b, off, ha, fun i x hx => h i x ?_⟩
  rw [List.getElem?_append_left (List.getElem?_eq_some_iff.1 hx).1]; exact hx
end
section
open Go.Vc
theorem imp_bldQ {b T E : Nat} {q : Value} {p : Option Addr × Nat} {bs : List UInt8} (hq : q = .pointer none ∨ q = .pointer (some ⟨b, 0, none⟩)) (hp : p = (none, 0) ∨ p.2 ≠ 0) :
  Imp (Qy (Jn b [q, .slice p.1 (Xa bs).length p.2] T) (J3 E 1 (.slice p.1 (Xa bs).length p.2) (Xa bs).length ((Xa bs).map e8))) (U5 b T E bs) := ⟨fun _ _ h => ⟨q, p, hq, hp, h⟩⟩
variable {P : Program} {cx : Cx} {e : Xl} {L : List Chunk} {d : Option Nat} {ty : TypeId} {pos : String} {af : Array Edge} {g : Option (Nat × Bool)}
end
end Go.Lx

namespace Go.Lx
open Go Go.Md Go.Vc Go.Shelf Go.Sort Go.Proofs
theorem sj {α : Type} {a b : α} (h : some a = some b) : a = b := Option.some.inj h
section
variable {P : Program} {n : Nat} {cx : Cx} {Q : Jax} {e : Xl} {L : List Chunk} {ops : Array Oper} {rest : List Oper} {d : Nat} {ty : TypeId} {pos : String} {af : Array Edge} {g : Option (Nat × Bool)}
theorem lv {o : Op} {v : Value} (hr : ∀ w, (execOp (ev e) ⟨some d, o, ty, pos, af, g⟩).run P w = .ok (.value v) w) (k : At cx (WL P n ops Q rest) (upd e d v) L)
  (hw : X3 ops ⟨some d, o, ty, pos, af, g⟩ e = true := by exact rfl) (hn : Nat.blt d n = true := by exact rfl) : At cx (WL P n ops Q (⟨some d, o, ty, pos, af, g⟩ :: rest)) e L := Jf hw rfl hn hr k
theorem pT {c A B : Operand} (v : Value) (k : At cx (WL P n ops Q rest) (upd e d v) L) (hw : X3 ops ⟨some d, .pick c A B, ty, pos, af, g⟩ e = true := by exact rfl) (hn : Nat.blt d n = true := by exact rfl)
  (hc : ev e c = .bool true := by exact rfl) (hx : ev e A = v := by exact rfl) : At cx (WL P n ops Q (⟨some d, .pick c A B, ty, pos, af, g⟩ :: rest)) e L := Jf hw rfl hn (Xp hc hx) k
theorem pF {c A B : Operand} (v : Value) (k : At cx (WL P n ops Q rest) (upd e d v) L) (hw : X3 ops ⟨some d, .pick c A B, ty, pos, af, g⟩ e = true := by exact rfl) (hn : Nat.blt d n = true := by exact rfl)
  (hc : ev e c = .bool false := by exact rfl) (hx : ev e B = v := by exact rfl) : At cx (WL P n ops Q (⟨some d, .pick c A B, ty, pos, af, g⟩ :: rest)) e L := Jf hw rfl hn (X4 hc hx) k
theorem lf {T fld b o fo ft fsz bo : Nat} {nm tg pk : String} {em : Bool} {X : Operand} {fs : Array Field} (hu : ∀ w, (underlying T).run P w = .ok (.struct fs) w)
  (hf : fs[fld]? = some ⟨nm, ft, fo, em, tg, pk, bo⟩) (hs : ∀ w, (sizeOf ft).run P w = .ok fsz w) (hp : ev e X = .pointer (some ⟨b, o, none⟩))
  (k : At cx (WL P n ops Q rest) (upd e d (.pointer (some ⟨b, o + fo, none⟩))) L) (hsz : Nat.blt 0 fsz = true := by exact rfl) (hw : X3 ops ⟨some d, .fieldAddr T X fld, ty, pos, af, g⟩ e = true := by exact rfl) (hn : Nat.blt d n = true := by exact rfl) :
  At cx (WL P n ops Q (⟨some d, .fieldAddr T X fld, ty, pos, af, g⟩ :: rest)) e L := Jf hw rfl hn (Jr hu hf hs hsz hp) k
theorem ll {T T0 b o : Nat} {A : Operand} {cs : List Value} (i : Nat) (v : Value) (hA : ∀ w, (isAgg T).run P w = .ok false w) (k : At cx (WL P n ops Q rest) (upd e d v) L)
  (hw : X3 ops ⟨some d, .load T A, ty, pos, af, g⟩ e = true := by exact rfl) (hn : Nat.blt d n = true := by exact rfl) (hp : ev e A = .pointer (some ⟨b, o, none⟩) := by exact rfl) (hL : L[i]? = some (Jn b cs T0) := by exact rfl) (hv : rg cs o = some v := by exact rfl) :
  At cx (WL P n ops Q (⟨some d, .load T A, ty, pos, af, g⟩ :: rest)) e L := Y7 hA hw hn hp hL hv k
theorem st {i : Nat} {T T0 b o sz : Nat} {A X : Operand} {x : Value} {cs : List Value} (vs cs' : List Value) (hs : ∀ w, (sizeOf T).run P w = .ok sz w)
  (hp : ev e A = .pointer (some ⟨b, o, none⟩)) (hL : L[i]? = some (Jn b cs T0)) (k : At cx (WL P n ops Q rest) e (L.set i (Jn b cs' T0)))
  (hw : X3 ops ⟨none, .store T A X, ty, pos, af, g⟩ e = true := by exact rfl) (hx : ev e X = x := by exact rfl) (hc : x.cells.toList = vs := by exact rfl) (hsz : vs.length = sz := by exact rfl) (hpos : Nat.blt 0 sz = true := by exact rfl)
  (hone : vs.all Value.oneCell' = true := by exact rfl) (hv : wr cs o vs = some cs' := by exact rfl) :
  At cx (WL P n ops Q (⟨none, .store T A X, ty, pos, af, g⟩ :: rest)) e L := Qu hs hw hp hx hc hsz hpos hone hL hv k
theorem bo {K : Xl → World → Prop} (i j : Nat) {C D : Chunk} (hi : L[i]? = some C) (hj : L[j]? = some D) (k : At cx K e ((L.set i (Qy C D)).set j empC)) (hne : i ≠ j := by decide) : At cx K e L := Qc i j hi hj hne k
theorem cl {σ τ : Type} {sv : σ → τ → List (Nat × Value)} {hp : σ → τ → List Chunk} {I : σ → τ → Nat → Prop} {m : Nat} (s : σ) (t : τ) (k : Nat) (sel : List Nat) (hI : I s t k)
  (hst : Jh4 e (sv s t) := by (repeat (first | exact trivial | refine ⟨rfl, ?_⟩))) (hnd : sel.Nodup := by decide) (hL : sel.map (fun i => L[i]?) = (hp s t).map some := by kernel_rfl) (hm : k < m := by exact Nat.lt_succ_self _) :
  At cx (RoundA cx sv hp I m) e L := Ze s t k sel hst hnd hL hI hm
theorem ci {α : Type} {x y r : Option α} {c : Operand} {p q : Code} (b : Bool) (hc : ev e c = .bool b) (ht : b = true → x = r → At cx (WC P n p Q) e L) (hf : b = false → y = r → At cx (WC P n q Q) e L) (H : J2 b x y = r) :
  At cx (WC P n (.cond c p q) Q) e L := Jak hc (fun h => ht h (Xn h H)) (fun h => hf h (Xg h H))
theorem sp {α : Type} {x y r : Option α} {K : Xl → World → Prop} {b : Bool} (ht : b = true → x = r → At cx K (upd e d (.bool true)) L) (hf : b = false → y = r → At cx K (upd e d (.bool false)) L) (H : J2 b x y = r) :
  At cx K (upd e d (.bool b)) L := split (fun h => ht h (Xn h H)) (fun h => hf h (Xg h H))
end
section
variable {P : Program} {cx : Cx} {e : Xl} {L : List Chunk} {ops : Array Oper} {F : Xl → List Chunk → Prop} {rest : List Oper} {ss : List Kd} {d : Nat} {ty : TypeId} {pos : String} {af : Array Edge} {g : Option (Nat × Bool)}
theorem dv {o : Op} {v : Value} (hr : ∀ w, (execOp (ev e) ⟨some d, o, ty, pos, af, g⟩).run P w = .ok (.value v) w) (k : Sq P cx ops F rest ss (upd e d v) L) (hw : X3 ops ⟨some d, o, ty, pos, af, g⟩ e = true := by exact rfl) :
  Sq P cx ops F (⟨some d, o, ty, pos, af, g⟩ :: rest) (.p :: ss) e L := Jq hw rfl hr k
theorem dl {i : Nat} {T T0 b o : Nat} {A : Operand} {cs : List Value} (v : Value) (hA : ∀ w, (isAgg T).run P w = .ok false w) (k : Sq P cx ops F rest ss (upd e d v) L)
  (hw : X3 ops ⟨some d, .load T A, ty, pos, af, g⟩ e = true := by exact rfl) (hp : ev e A = .pointer (some ⟨b, o, none⟩) := by exact rfl) (hL : L[i]? = some (Jn b cs T0) := by exact rfl) (hv : rg cs o = some v := by exact rfl) :
  Sq P cx ops F (⟨some d, .load T A, ty, pos, af, g⟩ :: rest) (.d [i] v :: ss) e L := X9 hA hw hp hL hv k
end
section
variable {P : Program} {cx : Cx} {e : Xl} {L : List Chunk}
theorem r1 {fn : Func} {t : Tmp} {v : Value} {w0 : World} (V : Value) (hr : fn.results = #[.tmp t] := by exact rfl) (ht : e t = V := by exact rfl) (h : V = v := by exact rfl) :
  At ⟨w0, fun _ => False⟩ (Jfh P fn (fun v' w' => v' = v ∧ Grow w0 w') .ret) e L := Ja1 hr ht (fin h)
end
abbrev pz (b : Nat) : Value := .pointer (some ⟨b, 0, none⟩)
abbrev z0s : Value := .slice none 0 0
abbrev AN : Type := Option Addr × Nat
abbrev _root_.List.l {α : Type} (x : List α) : Nat := x.length
end Go.Lx

namespace Go.Lx
open Go Go.Vc Go.Md
section
variable {P : Program} {n : Nat} {cx : Cx} {Q : Jax} {e : Xl} {L : List Chunk} {ops : Array Oper} {rest : List Oper} {d : Nat} {ty : TypeId} {pos : String} {af : Array Edge} {g : Option (Nat × Bool)}
end
section
variable {P : Program} {cx : Cx} {e : Xl} {L : List Chunk} {d : Nat} {ty : TypeId} {pos : String} {af : Array Edge} {g : Option (Nat × Bool)}
end
section
variable {P : Program} {cx : Cx} {e : Xl} {L : List Chunk} {ops : Array Oper} {F : Xl → List Chunk → Prop} {rest : List Oper} {ss : List Kd} {d : Nat} {ty : TypeId} {pos : String} {af : Array Edge} {g : Option (Nat × Bool)}
end
section
variable {P : Program} {cx : Cx} {e : Xl} {L : List Chunk} {d : Nat} {ty : TypeId} {pos : String} {af : Array Edge} {g : Option (Nat × Bool)}
end
section
variable {α : Type} {G : Jw → (Nat → Value) → α → Prop} {h : Jw} {sz : Nat} {css : List (List Value)} {xs : List α}
end
end Go.Lx

namespace Go.Lx
open Go Go.Vc Go.Md
section
variable {P : Program} {cx : Cx} {e : Xl} {L : List Chunk} {ops : Array Oper} {F : Xl → List Chunk → Prop} {rest : List Oper} {ss : List Kd}
variable {d : Nat} {ty : TypeId} {pos : String} {af : Array Edge} {g : Option (Nat × Bool)}
end
section
variable {α : Type} {G : Jw → (Nat → Value) → α → Prop} {h : Jw} {sz : Nat} {v : Value} {xs : List α}
theorem elC_getD (h : Jw) (v : Value) (sz i : Nat) : (fun j => (elC h v sz i).getD j undef) = Qq h v sz i := by
 funext j
 rw [List.getD_eq_getElem?_getD]
 unfold elC
 by_cases hj : j < sz
 ·simp [List.getElem?_range hj]
 ·rw [List.getElem?_eq_none (by simp; omega)]
  simp [Qq, hj]
theorem FrN.allC (f : FrN h sz v G xs) : AllC G h sz ((List.range xs.length).map (elC h v sz)) xs := by
 refine ⟨by simp, fun i cs x hc hxi => ?_⟩
 have hi : i < xs.length := (List.getElem?_eq_some_iff.1 hxi).1
 rw [List.getElem?_map, List.getElem?_range hi] at hc
 cases hc
 refine ⟨by simp [elC], ?_⟩
 rw [elC_getD]
 exact f.el i x hxi
theorem AllC.oneN {css : List (List Value)} (hG : ∀ {c : Nat → Value} {x : α}, G h c x → ∀ j, j < sz → (c j).oneCell' = true) (p : AllC G h sz css xs) : ∀ x ∈ css, (Vp x).all Value.oneCell' = true := by
 intro x hx
 obtain ⟨i, hi, rfl⟩ := List.getElem_of_mem hx
 have hi2 : i < xs.length := p.len ▸ hi
 obtain ⟨h1, h2⟩ := p.el i css[i] xs[i] (List.getElem?_eq_getElem hi) (List.getElem?_eq_getElem hi2)
 show css[i].all Value.oneCell' = true
 refine List.all_eq_true.2 fun u hu => ?_
 obtain ⟨j, hj, rfl⟩ := List.getElem_of_mem hu
 have h3 := hG h2 j (h1 ▸ hj)
 rwa [List.getD_eq_getElem?_getD, List.getElem?_eq_getElem hj, Option.getD_some] at h3
end
end Go.Lx

namespace Go.Lx
open Go Go.Vc Go.Md
section
variable {P : Program} {cx : Cx} {e : Xl} {L : List Chunk}
end
end Go.Lx

namespace Go.Lx
open Go Go.Vc Go.Md
def Jd4 (base : Jw) (Φ : Jw → Prop) : Chunk where
 P S w := ∃ hp, Φ hp ∧ (Vi base hp).P S w
 loc S w w' h := fun ⟨hp, h1, h2⟩ => ⟨hp, h1, Chunk.loc _ _ _ _ h h2⟩
theorem imp_pooled {base hp : Jw} {Φ : Jw → Prop} (h : Φ hp) : Imp (Vi base hp) (Jd4 base Φ) := ⟨fun _ _ k => ⟨hp, h, k⟩⟩
noncomputable def Jgm (w : World) (S : Nat → Prop) : Jw := open Classical in fun b => if S b then w.heap[b]? else none
theorem restr_some {w : World} {S : Nat → Prop} {b : Nat} {o : Obj} : Jgm w S b = some o ↔ S b ∧ w.heap[b]? = some o := by
 classical
 unfold Jgm
 split
 ·rename_i h; exact ⟨fun k => ⟨h, k⟩, fun k => k.2⟩
 ·rename_i h; exact ⟨fun k => (by cases k), fun k => absurd k.1 h⟩
theorem Jfi (w : World) (S : Nat → Prop) : (Vi Wa (Jgm w S)).P S w := ⟨Jbr, fun b o h => .inr (restr_some.1 h)⟩
def RowP (h : Jw) (E sz : Nat) (v : Value) (css : List (List Value)) : Prop :=
 (∀ x ∈ css, x.length = sz) ∧ ((v = .slice none 0 0 ∧ css = []) ∨
  ∃ g cap cur, v = .slice (some ⟨g, 0, none⟩) css.length cap ∧ h g = some (.cells cur E (0, 0)) ∧ css.length ≤ cap ∧ cap ≤ maxLen ∧ cur.size = cap * sz ∧ cur.toList.take (css.length * sz) = css.flatten)
theorem RowP.mono {h h' : Jw} {E sz : Nat} {v : Value} {css : List (List Value)} (r : RowP h E sz v css) (k : ∀ b, v.ownBlock = some b → ∀ o, h b = some o → h' b = some o) : RowP h' E sz v css := by
 refine ⟨r.1, r.2.imp id ?_⟩
 rintro ⟨g, cap, cur, rfl, hb, rest⟩
 exact ⟨g, cap, cur, rfl, k g rfl _ hb, rest⟩
theorem RowP.of {w : World} {S : Nat → Prop} {E sz n : Nat} {v : Value} {css : List (List Value)} (h : (J3 E sz v n css).P S w) : RowP (Jgm w S) E sz v css ∧ n = css.length ∧ ∀ b, v.ownBlock = some b → S b := by
 obtain ⟨⟨⟨h1, h2⟩, h3, h5⟩, h4⟩ := h
 subst h3
 refine ⟨⟨h5, ?_⟩, rfl, h4⟩
 rcases h2 with ⟨rfl, h0⟩ | ⟨g, cap, cur, rfl, _, hh, q1, q2, q3, q4⟩
 ·exact .inl ⟨rfl, List.length_eq_zero_iff.1 h0⟩
 ·exact .inr ⟨g, cap, cur, rfl, restr_some.2 ⟨h4 g rfl, hh⟩, q1, q2, q3, q4⟩
theorem RowP.row {h : Jw} {E sz : Nat} {v : Value} {css : List (List Value)} (r : RowP h E sz v css) {w : World} {S : Nat → Prop} (hw : ∀ b, v.ownBlock = some b → S b ∧ ∀ o, h b = some o → w.heap[b]? = some o) : (J3 E sz v css.length css).P S w := by
 have hfl : css.flatten.length = css.length * sz := by
  have := r.1
  clear r hw
  induction css with
  | nil => simp
  | cons x l ih =>
   rw [List.flatten_cons, List.length_append, ih (fun y hy => this y (.tail _ hy)), this x (.head _), List.length_cons, Nat.add_mul]; omega
 refine ⟨⟨⟨hfl, ?_⟩, rfl, r.1⟩, fun b hb => (hw b hb).1⟩
 rcases r.2 with ⟨rfl, h0⟩ | ⟨g, cap, cur, rfl, hb, q1, q2, q3, q4⟩
 ·exact .inl ⟨rfl, by rw [h0]; rfl⟩
 ·exact .inr ⟨g, cap, cur, rfl, Nat.zero_le _, (hw g rfl).2 _ hb, q1, q2, q3, q4⟩
theorem RowP.frs {h : Jw} {E sz : Nat} {v : Value} {css : List (List Value)} (r : RowP h E sz v css) : FrS h sz v css := by
 rcases r.2 with ⟨rfl, rfl⟩ | ⟨g, cap, cur, rfl, hb, q1, q2, q3, q4⟩
 ·exact ⟨none, 0, rfl, Nat.le_refl _, by decide, .inl rfl⟩
 ·refine ⟨some ⟨g, 0, none⟩, cap, rfl, q1, by simpa [maxLen] using q2, .inr ⟨g, 0, cur, E, (0, 0), rfl, hb, fun i x hx => ⟨r.1 x (List.mem_of_getElem? hx), fun j v hv => ?_⟩⟩⟩
  have hr := Jex css i x (List.all_eq_true.2 fun x hx => by simpa using r.1 x hx) hx j v hv
  rw [← q4, List.getElem?_take] at hr
  split at hr
  ·rw [Array.getElem?_toList] at hr
   rw [← hr, Nat.zero_add]
  ·cases hr
def rmV (h : Jw) (v : Value) : Jw := fun b => if v.ownBlock = some b then none else h b
section
variable {P : Program} {cx : Cx} {e : Xl} {L : List Chunk} {K : Xl → World → Prop} {ops : Array Oper} {rest : List Oper} {d : Nat} {ty : TypeId} {pos : String} {af : Array Edge} {g : Option (Nat × Bool)}
theorem Jh2 {base : Jw} {Φ : Jw → Prop} (i : Nat) (hi : L[i]? = some (Jd4 base Φ)) (k : ∀ hp, Φ hp → At cx K e (L.set i (Vi base hp))) : At cx K e L :=
 Uq (τ := Jw) (D := fun hp => Vi base hp) (φ := Φ) i hi (fun S w h => h) k
theorem imp_thaw {hp : Jw} {E sz n : Nat} {v : Value} {css : List (List Value)} (r : RowP hp E sz v css) (hn : n = css.length) : Imp (Vi Wa hp) (Qy (Vi Wa (rmV hp v)) (J3 E sz v n css)) := ⟨fun S w ⟨h1, h2⟩ => by
 subst hn
 have own : ∀ b, v.ownBlock = some b → ∃ o, hp b = some o := by
  rcases r.2 with ⟨rfl, _⟩ | ⟨g, cap, cur, rfl, hb, _⟩
  ·intro b hb; cases hb
  ·intro b hb'; cases hb'; exact ⟨_, hb⟩
 have key : ∀ b o, hp b = some o → S b ∧ w.heap[b]? = some o := fun b o h => (h2 b o h).elim (fun h => by cases h) id
 refine ⟨fun b => S b ∧ v.ownBlock ≠ some b, fun b => v.ownBlock = some b, ⟨Jbr, fun b o h => ?_⟩, r.row fun b hb => ⟨hb, fun o ho => (key b o ho).2⟩, fun b h => h.1, fun b h => ?_, fun b h h' => h.2 h'⟩
 ·have h : (if v.ownBlock = some b then none else hp b) = some o := h
  split at h
  ·cases h
  ·rename_i hb; exact .inr ⟨⟨(key b o h).1, hb⟩, (key b o h).2⟩
 ·obtain ⟨o, ho⟩ := own b h
  exact (key b o ho).1⟩
end
def Uj (Φ : Jw → List Nat → Prop) : Chunk := Jd4 Wa fun hp => ∃ bs, Φ hp bs ∧ bs.Nodup ∧ ∀ b ∈ bs, ∃ o, hp b = some o
theorem Jid {Φ Ψ : Jw → List Nat → Prop} (k : ∀ h bs, Φ h bs → Ψ h bs) : Imp (Uj Φ) (Uj Ψ) :=
 ⟨fun _ _ ⟨hp, ⟨bs, h1, h2⟩, h3⟩ => ⟨hp, ⟨bs, k _ _ h1, h2⟩, h3⟩⟩
theorem Jee {Φ Ψ Χ : Jw → List Nat → Prop} (m1 : ∀ h h' bs, (∀ b o, h b = some o → h' b = some o) → Φ h bs → Φ h' bs) (m2 : ∀ h h' bs, (∀ b o, h b = some o → h' b = some o) → Ψ h bs → Ψ h' bs)
  (k : ∀ h b1 b2, Φ h b1 → Ψ h b2 → Χ h (b1 ++ b2)) : Imp (Qy (Uj Φ) (Uj Ψ)) (Uj Χ) := ⟨fun S w => by
 rintro ⟨S1, S2, ⟨h1, ⟨b1, f1, n1, d1⟩, p1⟩, ⟨h2, ⟨b2, f2, n2, d2⟩, p2⟩, s1, s2, sd⟩
 have q1 : ∀ b o, h1 b = some o → S1 b ∧ w.heap[b]? = some o := fun b o h => (p1.2 b o h).elim (fun h => by cases h) id
 have q2 : ∀ b o, h2 b = some o → S2 b ∧ w.heap[b]? = some o := fun b o h => (p2.2 b o h).elim (fun h => by cases h) id
 have l1 : ∀ b o, h1 b = some o → Jgm w S b = some o := fun b o h => restr_some.2 ⟨s1 b (q1 b o h).1, (q1 b o h).2⟩
 have l2 : ∀ b o, h2 b = some o → Jgm w S b = some o := fun b o h => restr_some.2 ⟨s2 b (q2 b o h).1, (q2 b o h).2⟩
 refine ⟨Jgm w S, ⟨b1 ++ b2, k _ _ _ (m1 _ _ _ l1 f1) (m2 _ _ _ l2 f2), List.nodup_append.2 ⟨n1, n2, fun a ha b hb e => ?_⟩, fun b hb => ?_⟩, Jfi w S⟩
 ·subst e
  obtain ⟨o1, g1⟩ := d1 a ha
  obtain ⟨o2, g2⟩ := d2 a hb
  exact sd a (q1 a o1 g1).1 (q2 a o2 g2).1
 ·rcases List.mem_append.1 hb with h | h
  ·obtain ⟨o, g⟩ := d1 b h; exact ⟨o, l1 b o g⟩
  ·obtain ⟨o, g⟩ := d2 b h; exact ⟨o, l2 b o g⟩⟩
theorem Jat {C C' D D' : Chunk} (h1 : Imp C C') (h2 : Imp D D') : Imp (Qy C D) (Qy C' D') :=
 ⟨fun _ _ ⟨S1, S2, a, b, c⟩ => ⟨S1, S2, h1.out _ _ a, h2.out _ _ b, c⟩⟩
theorem Xe {C D F : Chunk} (h1 : Imp C D) (h2 : Imp D F) : Imp C F := ⟨fun _ _ k => h2.out _ _ (h1.out _ _ k)⟩
theorem own_nodup {v : Value} : v.ownBlock.toList.Nodup := by cases v.ownBlock <;> simp
theorem imp_rowOwn {E sz n : Nat} {v : Value} {css : List (List Value)} : Imp (J3 E sz v n css) (Uj fun h bs => RowP h E sz v css ∧ n = css.length ∧ bs = v.ownBlock.toList) := ⟨fun S w k => by
 obtain ⟨r, hn, hb⟩ := RowP.of k
 refine ⟨Jgm w S, ⟨_, ⟨r, hn, rfl⟩, own_nodup, fun b h => ?_⟩, Jfi w S⟩
 rcases r.2 with ⟨rfl, _⟩ | ⟨g, cap, cur, rfl, hg, _⟩
 ·cases h
 ·simp [Value.ownBlock] at h; subst h; exact ⟨_, hg⟩⟩
def roB (v : Value) (n : Nat) : List Nat := if n = 0 then [] else v.ownBlock.toList
theorem imp_roOwn {sz n : Nat} {v : Value} {xs : List (List Value)} : Imp (roV sz v n xs) (Uj fun h bs => FrS h sz v xs ∧ bs = roB v xs.length) := ⟨fun S w ⟨hn, f, hb⟩ => by
 have f' : FrS (Jgm w S) sz v xs := f.sub hb fun b o hs h => restr_some.2 ⟨hs, h⟩
 refine ⟨Jgm w S, ⟨_, ⟨f', rfl⟩, ?_, fun b h => ?_⟩, Jfi w S⟩
 ·unfold roB; split
  ·exact List.nodup_nil
  ·exact own_nodup
 ·unfold roB at h
  split at h
  ·cases h
  ·rename_i hne
   obtain ⟨a, c, rfl, _, _, r⟩ := f'.out
   rcases r with r | ⟨g, off, cs, T, m, rfl, hg, _⟩
   ·rw [r] at hne; simp at hne
   ·simp [Value.ownBlock] at h; subst h; exact ⟨_, hg⟩⟩
theorem Jbh {Φ : Jw → List Nat → Prop} (h : Φ Wa []) : Imp empC (Uj Φ) := ⟨fun S w k => ⟨Wa, ⟨[], h, List.nodup_nil, fun b hb => by cases hb⟩, Jbr, fun b o hb => by cases hb⟩⟩
theorem FrS.agree {h h' : Jw} {sz : Nat} {v : Value} {xs : List (List Value)} (f : FrS h sz v xs) (k : ∀ b ∈ roB v xs.length, ∀ o, h b = some o → h' b = some o) : FrS h' sz v xs := by
 obtain ⟨a, c, rfl, h1, h2, r⟩ := f.out
 refine ⟨a, c, rfl, h1, h2, ?_⟩
 rcases r with r | ⟨b, off, cs, T, m, rfl, hb, r⟩
 ·exact .inl r
 ·by_cases h0 : xs.length = 0
  ·exact .inl (List.length_eq_zero_iff.1 h0)
  ·exact .inr ⟨b, off, cs, T, m, rfl, k b (by unfold roB; rw [if_neg h0]; simp [Value.ownBlock]) _ hb, r⟩
end Go.Lx
namespace Go.Lx
open Go Go.Vc Go.Md
def cntB (n : Nat) (next : Nat → Option Unit) (i : Nat) : Option Unit := if i < n then next (i + 1) else some ()
theorem cnt_fix (n : Nat) : Yz (cntB n) 0 = some () :=
 fix_of (F := cntB n) (fun _ => some ()) (fun _ => True) (fun i => n - i) (fun next i _ ih => by
  unfold cntB
  split
  ·exact ih (i + 1) trivial (by omega)
  ·rfl) 0 trivial
theorem cnt_step {n i m : Nat} (h : cntB n (it (cntB n) m) i = some ()) (hi : i < n) : it (cntB n) m (i + 1) = some () := by
 unfold cntB at h; rwa [if_pos hi] at h
end Go.Lx
namespace Go.Lx
theorem Jhi {α : Type} {xs : List α} {i : Nat} (h : i < xs.length) : xs.take (i + 1) = xs.take i ++ [xs[i]] := by
 rw [List.take_add_one, List.getElem?_eq_getElem h]; rfl
theorem take_setS {α : Type} {xs : List α} {i : Nat} {c : α} (h : i < xs.length) : (xs.set i c).take (i + 1) = xs.take i ++ [c] := by
 rw [Jhi (by simpa using h), List.getElem_set_self, List.take_set_of_le (Nat.le_refl _)]
end Go.Lx
namespace Go.Lx
open Go Go.Vc Go.Md
def KidsG {α : Type} (T : Jw → List Value → α → List Nat → Prop) (h : Jw) : List (List Value) → List α → List Nat → Prop
 | [], [], bs => bs = []
 | c :: css, x :: xs, bs => ∃ b1 b2, T h c x b1 ∧ KidsG T h css xs b2 ∧ bs = b1 ++ b2
 | _, _, _ => False
section
variable {α : Type} {T : Jw → List Value → α → List Nat → Prop} {h h' : Jw}
theorem KidsG.len : ∀ {css : List (List Value)} {xs : List α} {bs : List Nat}, KidsG T h css xs bs → css.length = xs.length
 | [], [], _, _ => rfl
 | _ :: _, _ :: _, _, ⟨_, _, _, k, _⟩ => by rw [List.length_cons, List.length_cons, k.len]
theorem KidsG.snoc {c : List Value} {x : α} {b : List Nat} (e : T h c x b) : ∀ {css : List (List Value)} {xs : List α} {bs : List Nat}, KidsG T h css xs bs → KidsG T h (css ++ [c]) (xs ++ [x]) (bs ++ b)
 | [], [], _, k => ⟨b, [], e, rfl, by rw [show _ = _ from k]; simp⟩
 | _ :: _, _ :: _, _, ⟨b1, b2, k1, k2, k3⟩ => ⟨b1, b2 ++ b, k1, k2.snoc e, by rw [k3, List.append_assoc]⟩
theorem KidsG.agree (hT : ∀ c x b, T h c x b → (∀ q ∈ b, ∀ o, h q = some o → h' q = some o) → T h' c x b) :
  ∀ {css : List (List Value)} {xs : List α} {bs : List Nat}, KidsG T h css xs bs → (∀ q ∈ bs, ∀ o, h q = some o → h' q = some o) → KidsG T h' css xs bs
 | [], [], _, k, _ => k
 | _ :: _, _ :: _, _, ⟨b1, b2, k1, k2, k3⟩, q => by
  subst k3
  exact ⟨b1, b2, hT _ _ _ k1 fun y hy => q y (List.mem_append_left _ hy), k2.agree hT fun y hy => q y (List.mem_append_right _ hy), rfl⟩
theorem KidsG.allC {G : Jw → (Nat → Value) → α → Prop} {sz : Nat} (hT : ∀ c x b, T h c x b → c.length = sz ∧ G h (fun j => c.getD j undef) x) : ∀ {css : List (List Value)} {xs : List α} {bs : List Nat}, KidsG T h css xs bs → AllC G h sz css xs
 | [], [], _, _ => AllC.nil
 | c :: css, x :: xs, _, ⟨b1, b2, k1, k2, _⟩ => by
  have hk := k2.allC hT
  refine ⟨by rw [List.length_cons, List.length_cons, hk.len], fun i c' x' hc hx => ?_⟩
  cases i with
  | zero => cases hc; cases hx; exact hT _ _ _ k1
  | succ i => exact hk.el i c' x' hc hx
theorem KidsG.map {T2 : Jw → List Value → α → List Nat → Prop} (hT : ∀ c x b, T h c x b → (∀ q ∈ b, ∀ o, h q = some o → h' q = some o) → T2 h' c x b) :
  ∀ {css : List (List Value)} {xs : List α} {bs : List Nat}, KidsG T h css xs bs → (∀ q ∈ bs, ∀ o, h q = some o → h' q = some o) → KidsG T2 h' css xs bs
 | [], [], _, k, _ => k
 | _ :: _, _ :: _, _, ⟨b1, b2, k1, k2, k3⟩, q => by
  subst k3
  exact ⟨b1, b2, hT _ _ _ k1 fun y hy => q y (List.mem_append_left _ hy), k2.map hT fun y hy => q y (List.mem_append_right _ hy), rfl⟩
theorem KidsG.at : ∀ {css : List (List Value)} {xs : List α} {bs : List Nat} (k : Nat) {c : List Value} {x : α}, KidsG T h css xs bs → css[k]? = some c → xs[k]? = some x → bs.Nodup →
  ∃ b, T h c x b ∧ (∀ q ∈ b, q ∈ bs) ∧ b.Nodup ∧ ∀ (T2 : Jw → List Value → α → List Nat → Prop) (h' : Jw) (c' : List Value) (x' : α), (∀ c x b, T h c x b → (∀ q ∈ b, ∀ o, h q = some o → h' q = some o) → T2 h' c x b) → (∀ q ∈ bs, q ∉ b → ∀ o, h q = some o → h' q = some o) → T2 h' c' x' b →
   KidsG T2 h' (css.set k c') (xs.set k x') bs
 | [], [], _, _, _, _, _, hc, _, _ => by cases hc
 | [], _ :: _, _, _, _, _, k, _, _, _ => k.elim
 | _ :: _, [], _, _, _, _, k, _, _, _ => k.elim
 | c0 :: css, x0 :: xs, bs, k, c, x, ⟨b1, b2, k1, k2, k3⟩, hc, hx, hn => by
  subst k3
  obtain ⟨n1, n2, n3⟩ := List.nodup_append.1 hn
  cases k with
  | zero =>
   cases hc; cases hx
   refine ⟨b1, k1, fun q hq => List.mem_append_left _ hq, n1, fun T2 h' c' x' hT ha t => ⟨b1, b2, t, k2.map (fun c x b t k => hT c x b t k) fun q hq => ha q (List.mem_append_right _ hq) fun hq1 => n3 q hq1 q hq rfl, rfl⟩⟩
  | succ k =>
   obtain ⟨b, t1, t2, t3, t4⟩ := KidsG.at k k2 hc hx n2
   refine ⟨b, t1, fun q hq => List.mem_append_right _ (t2 q hq), t3, fun T2 h' c' x' hT ha t => ?_⟩
   have g := t4 T2 h' c' x' hT (fun q hq hb => ha q (List.mem_append_right _ hq) hb) t
   exact ⟨b1, b2, hT _ _ _ k1 (fun q hq => ha q (List.mem_append_left _ hq) fun hb => n3 q hq q (t2 q hb) rfl), g, rfl⟩
end
end Go.Lx
namespace Go.Lx
open Go Go.Vc Go.Md
section
variable {P : Program} {cx : Cx} {e : Xl} {L : List Chunk} {ops : Array Oper} {F : Xl → List Chunk → Prop} {rest : List Oper} {ss : List Kd}
def _root_.Go.Vc.Kd.sp (a q i : Nat) (C : Value → Chunk) : Kd := .g [a, q] [i] [i] (fun _ _ v => v = undef) (fun vs _ _ => [C (vs.getD 1 undef)])
theorem Jjw {o : Oper} {i a q : Nat} {C : Value → Chunk} (h : Turns P cx e o L i [] (fun _ : Unit => undef) (fun _ => C (e q))) (hw : X3 ops o e = true) (hd : o.dst = none) (k : Sq P cx ops F rest ss e (L.set i (C (e q)))) : Sq P cx ops F (o :: rest) (.sp a q i C :: ss) e L := by
 have hq : C (([a, q].map e).getD 1 undef) = C (e q) := rfl
 refine .take hw ⟨undef, rfl⟩ ⟨fun w L' hF hS hl hi => ?_⟩ fun v' hv' => ?_
 ·refine (h w L' hF hS hl fun j hj => hi j (by simpa [Kd.sp, Kd.rds, Kd.wrs] using hj)).mono fun v w' ⟨x, hv, hF', hS'⟩ => ?_
  subst hv
  exact ⟨rfl, hF', hS'⟩
 ·obtain rfl : v' = undef := hv'
  show Sq P cx ops F rest ss (Jdv e o.dst undef) (L.set i (C (e q)))
  rw [hd]
  exact k
end
end Go.Lx
namespace Go.Lx
open Go Go.Vc Go.Md
section
variable {cx : Cx} {K : Xl → World → Prop} {e : Xl} {L : List Chunk} {base hp hp1 : Jw}
end
end Go.Lx

namespace Go.Lx
open Go Go.Vc Go.Md
section plain
variable {P : Program}
def offK (n : Nat) (k : Nat × Nat) : Prop := k.2 ≤ k.1 ∨ n ≤ k.1
end plain
def rowK (w : World) (E sz : Nat) (v : Value) (n : Nat) (xs : List Value) : Prop :=
 xs.length = n * sz ∧ ((v = .slice none 0 0 ∧ n = 0) ∨ ∃ g cap cur k, v = .slice (some ⟨g, 0, none⟩) n cap ∧ w.heap[g]? = some (.cells cur E k) ∧ offK cur.size k ∧ n ≤ cap ∧ cap ≤ maxLen ∧ cur.size = cap * sz ∧ cur.toList.take (n * sz) = xs)
def wrC (w : World) (E sz : Nat) (v : Value) (n : Nat) (xs : List (List Value)) : Prop := rowK w E sz v n xs.flatten ∧ xs.length = n ∧ ∀ x ∈ xs, x.length = sz
theorem wrC.mk' {w : World} {E sz : Nat} {v : Value} {n : Nat} {xs : List (List Value)} (h : wrC w E sz v n xs) : v = .slice none 0 0 ∧ n = 0 ∧ xs = [] ∨ ∃ g cap cur k, v = .slice (some ⟨g, 0, none⟩) n cap ∧ w.heap[g]? = some (.cells cur E k) ∧ offK cur.size k ∧ n ≤ cap ∧ cap ≤ maxLen ∧ cur.size = cap * sz ∧ cur.toList.take (n * sz) = xs.flatten := by
 rcases h.1.2 with ⟨h1, h2⟩ | h1
 ·refine .inl ⟨h1, h2, List.eq_nil_of_length_eq_zero (by rw [h.2.1]; exact h2)⟩
 ·exact .inr h1
theorem wrC.frs {w : World} {E sz : Nat} {v : Value} {n : Nat} {xs : List (List Value)} (h : wrC w E sz v n xs) : FrS (fun b => w.heap[b]?) sz v xs := by
 rcases h.mk' with ⟨rfl, _, rfl⟩ | ⟨g, cap, cur, k, rfl, hh, _, hnc, hm, hcs, ht⟩
 ·exact FrS.nil _ _
 obtain ⟨_, hn, hl⟩ := h
 subst hn
 refine ⟨some ⟨g, 0, none⟩, cap, rfl, hnc, by simpa [maxLen] using hm, .inr ⟨g, 0, cur, E, k, rfl, hh, fun i x hx => ⟨hl x (List.mem_of_getElem? hx), fun j v hv => ?_⟩⟩⟩
 have hi : i < xs.length := by
  rcases Nat.lt_or_ge i xs.length with h | h
  ·exact h
  ·rw [List.getElem?_eq_none h] at hx; cases hx
 have hj : j < sz := by
  have := hl x (List.mem_of_getElem? hx)
  rcases Nat.lt_or_ge j x.length with h | h
  ·omega
  ·rw [List.getElem?_eq_none h] at hv; cases hv
 have hr := Jex xs i x (List.all_eq_true.2 fun x hx => by simpa using hl x hx) hx j v hv
 rw [← ht, List.getElem?_take] at hr
 split at hr
 ·rw [Nat.zero_add, ← Array.getElem?_toList]; exact hr
 ·cases hr
theorem wrC.slice {w : World} {E sz : Nat} {v : Value} {n : Nat} {xs : List (List Value)} (h : wrC w E sz v n xs) : ∃ p : Option Addr × Nat, v = .slice p.1 n p.2 := by
 rcases h.mk' with ⟨rfl, rfl, _⟩ | ⟨g, cap, cur, k, rfl, _⟩
 ·exact ⟨(none, 0), rfl⟩
 ·exact ⟨(some ⟨g, 0, none⟩, cap), rfl⟩
section rules
variable {P : Program} {n : Nat} {cx : Cx} {e : Xl} {L : List Chunk} {d : Nat} {ty : TypeId} {pos : String} {af : Array Edge} {g : Option (Nat × Bool)}
variable {ops : Array Oper} {F : Xl → List Chunk → Prop} {rest : List Oper} {ss : List Kd}
end rules
end Go.Lx
