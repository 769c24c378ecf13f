/- More rules for walks that are led by a model: kinds of numbers, shifts, arrays, stores, appends, several results. Conditions: none. -/
import Derived.Test.YtlkaenijicgfcaaGreatDoorMd
import Derived.Lib.AppendStr
import Derived.Laws.BytesString
import Derived.Laws.RangeString
import Derived.Laws.CopyRow
import Derived.Laws.IdiomCopy
import Derived.Lib.UnsafeStr
import Derived.Lib.Builder
import Derived.Laws.Pointers
import Derived.Lib.AppendZeros
import Derived.Shelf.Sort.Plain
import Derived.Shelf.Slices.In.SortNone
import Derived.Sort.OwnSortedInts
import Derived.Lib.Bytealg
import Derived.Lib.SmallJoins
import Derived.Lib.AppendIntMem
import Derived.Shelf.Strconv.Itoa3
import Derived.Shelf.Strconv.Atoi
import Derived.Shelf.Strings.Repeat
import Derived.Shelf.Strings.OnBuilder
import Derived.Shelf.Slices.CompactS
import Derived.Sort.OwnSorted
import Derived.Lib.ConvBytes
import Derived.Maps.RangeRun
import Derived.Shelf.Slices.CompactI
import Derived.Shelf.SlSortCmp.WholeK
import Derived.Shelf.SlSortCmp.NoneTotal
import Derived.ArgAppend
import Derived.LoopN
import Derived.Lib.Overlaps
namespace Go.Lx
open Go Go.Vc Go.Md
theorem wr_u8 (x : Int) : IntKind.u8.wrap x = wU8 x := by simp [IntKind.wrap, IntKind.bits, IntKind.signed, wU8]
theorem wr_u64 (x : Int) : IntKind.u64.wrap x = wU64 x := by simp [IntKind.wrap, IntKind.bits, IntKind.signed, wU64]
theorem wr_i32 (x : Int) : IntKind.i32.wrap x = wI32 x := by simp [IntKind.wrap, IntKind.bits, IntKind.signed, wI32]
theorem wr_i64 (x : Int) : IntKind.i64.wrap x = Jbx x := by simp [IntKind.wrap, IntKind.bits, IntKind.signed, Jbx]
theorem gK_i32 {x y : Int} (h : gK (-2147483648) 2147483647 x = some y) : IntKind.i32.wrap x = y := by obtain ⟨rfl, h⟩ := gK_some h; rw [wr_i32]; unfold wI32; split <;> omega
section ops
variable {P : Program} {e : Q6} {d : Option Nat} {ty : TypeId} {pos : String} {af : Array Edge} {g : Option (Nat × Bool)}
section bin
variable {X Y : Operand} {x y z u : Int} {t t' : TypeId} {kd k2 : IntKind} {bits : Nat}
theorem r_bin2 {op : BinOp} {v : Value} (hx : ev e X = .int kd x) (hy : ev e Y = .int k2 y) (hg : ∀ w, (eqGuard op t X Y (.int kd x) (.int k2 y)).run P w = .ok () w)
  (hr : ∀ w, (binOp op t (.int kd x) (.int k2 y)).run P w = .ok v w) (w : World) :
  (execOp (ev e) ⟨d, .binOp op t X Y t', ty, pos, af, g⟩).run P w = .ok (.value v) w := by
 simp [execOp, hx, hy, hg, hr]
theorem r_shrG (hx : ev e X = .int kd x) (hy : ev e Y = .int k2 y) (hbits : kd.bits = bits) (h : gShr bits x y = some z) (w : World) :
  (execOp (ev e) ⟨d, .binOp .shr t X Y t', ty, pos, af, g⟩).run P w = .ok (.value (.int kd z)) w := by
 subst hbits
 unfold gShr at h; split at h
 ·cases h
  refine r_bin2 hx hy (fun w => rfl) (fun w => ?_) w
  have hf : x.fdiv (2 ^ min y.toNat kd.bits) = x / 2 ^ min y.toNat kd.bits := Int.fdiv_eq_ediv_of_nonneg _ (Int.pow_nonneg (by omega))
  have hn : ¬ y < 0 := by omega
  rw [show binOp .shr t (.int kd x) (.int k2 y) = Op.shift .shr kd x k2 y from rfl]
  unfold Op.shift
  rw [if_neg hn]
  simp only [hf, Sem.run_pure]
 ·cases h
theorem r_bitsAnd (hx : ev e X = .int kd x) (hy : ev e Y = .int kd y) (hbits : kd.bits = bits) (hw : kd.wrap (bAnd bits x y) = z) (w : World) :
  (execOp (ev e) ⟨d, .binOp .and t X Y t', ty, pos, af, g⟩).run P w = .ok (.value (.int kd z)) w := by
 subst hbits hw
 exact Jeg hx hy (fun w => by rw [binOp_and]; rfl) w
end bin
theorem Jcx {X : Operand} {s t : TypeId} {k0 k1 : IntKind} {x y : Int} {su : TypeDesc} (hs : ∀ w, (underlying s).run P w = .ok su w) (ht : ∀ w, (underlying t).run P w = .ok (.int k1) w)
  (hx : ev e X = .int k0 x) (hr : k1.wrap x = y) (w : World) :
  (execOp (ev e) ⟨d, .convert s t X, ty, pos, af, g⟩).run P w = .ok (.value (.int k1 y)) w := by
 subst hr
 simp [execOp, hx, convert, hs, ht, Conv.intToInt]
theorem Jfk (w : World) (d t : Nat) (a b : List UInt8) (h : P.underlying t = some .string) : (Op.equalIn (d + 1) t (Jk a) (Jk b)).run P w = .ok (decide (a = b)) w := by
 rw [run_equalIn_string (h := h)]
 have : ((ByteArray.mk a.toArray).toList == (ByteArray.mk b.toArray).toList) = decide (a = b) := by
  rw [Jgn, Jgn, Bool.eq_iff_iff]; simp
 rw [this]
theorem Je2 {X I : Operand} {b m c : Nat} {t u sz : Nat} {k : IntKind} {i : Int} {α : Type} {xs : List α} {x : α} (hu : P.underlying t = some (.slice u)) (hs : ∀ w, (sizeOf u).run P w = .ok sz w)
  (hx : ev e X = .slice (some ⟨b, 0, none⟩) m c) (hi : ev e I = .int k i) (hg : Qk xs i = some x) (hm : xs.length = m) (w : World) :
  (execOp (ev e) ⟨d, .indexAddr t X I, ty, pos, af, g⟩).run P w = .ok (.value (Ux (some ⟨b, 0, none⟩) (i.toNat * sz))) w := by
 obtain ⟨h0, h1, _⟩ := Xg hg
 exact r_index hu hs hx hi ⟨_, _, rfl⟩ h0 (by omega) w
theorem r_indexAG {t u len : Nat} {X I : Operand} {cs : List Value} {k : IntKind} {i : Int} {q : Nat} {f : Nat → Value} (hu : ∀ w, (underlying t).run P w = .ok (.array len u) w) (hA : ∀ w, (isAgg u).run P w = .ok false w) (hs : ∀ w, (sizeOf u).run P w = .ok 1 w)
  (hx : ev e X = .agg cs.toArray) (hi : ev e I = .int k i) (hcs : (List.range len).map f = cs) (h : gIx len i = some q) (w : World) :
  (execOp (ev e) ⟨d, .index t X I, ty, pos, af, g⟩).run P w = .ok (.value (f q)) w := by
 obtain ⟨h0, h1, rfl⟩ := Jgo h
 subst hcs
 refine r_indexA hu hA hs hx hi h0 h1 ?_ w
 simp [show i.toNat < len by omega]
theorem Jex {f : Nat → List Value} {sz : Nat} (hf : ∀ j, (f j).length = sz) : ∀ (n i : Nat), i < n → ((List.range n).flatMap f).length = n * sz ∧ (((List.range n).flatMap f).drop (i * sz)).take sz = f i := by
 intro n
 induction n with
 | zero => intro i h; omega
 | succ n ih =>
  intro i hi
  rw [List.range_succ, List.flatMap_append, List.flatMap_singleton]
  have hl : ((List.range n).flatMap f).length = n * sz := by
   cases n with
   | zero => simp
   | succ n => exact (ih 0 (by omega)).1
  refine ⟨by rw [List.length_append, hl, hf, Nat.succ_mul], ?_⟩
  rcases Nat.lt_or_ge i n with h | h
  ·have hle : (i + 1) * sz ≤ n * sz := Nat.mul_le_mul_right _ h
   rw [Nat.succ_mul] at hle
   rw [List.drop_append_of_le_length (by omega), List.take_append_of_le_length (by rw [List.length_drop]; omega)]
   exact (ih i h).2
  ·have : i = n := by omega
   subst this
   rw [← hl, List.drop_left, List.take_of_length_le (by rw [hf]; omega)]
theorem Jfq {t u len sz b o : Nat} {X I : Operand} {k : IntKind} {i : Int} {q : Nat} (hu : ∀ w, (underlying t).run P w = .ok (.array len u) w) (hs : ∀ w, (sizeOf u).run P w = .ok sz w)
  (hx : ev e X = .pointer (some ⟨b, o, none⟩)) (hi : ev e I = .int k i) (h : gIx len i = some q) (w : World) :
  (execOp (ev e) ⟨d, .indexAddr t X I, ty, pos, af, g⟩).run P w = .ok (.value (.pointer (some ⟨b, o + q * sz, none⟩))) w := by
 obtain ⟨h0, h1, rfl⟩ := Jgo h
 exact Jfs hu hs hx hi h0 h1 w
theorem rg_arr {pre post cs : List Value} {f : Nat → List Value} {n sz q o k : Nat} {v : Value} (hcs : cs = pre ++ ((List.range n).flatMap f ++ post)) (ho : pre.length = o) (hf : ∀ j, (f j).length = sz) (hk : k < n) (hv : rg (f k) q = some v) : rg cs (o + k * sz + q) = some v := by
 subst hcs ho
 obtain ⟨hl, ht⟩ := Jex hf n k hk
 rw [rg_eq] at hv ⊢
 have hq : q < sz := by
  rcases Nat.lt_or_ge q sz with h | h
  ·exact h
  ·rw [List.getElem?_eq_none (by rw [hf]; exact h)] at hv; cases hv
 have hle : k * sz + sz ≤ n * sz := by rw [← Nat.succ_mul]; exact Nat.mul_le_mul_right _ (by omega)
 rw [Nat.add_assoc, List.getElem?_append_right (by omega), Nat.add_sub_cancel_left, List.getElem?_append_left (by omega), ← hv, ← ht, List.getElem?_take, if_pos hq, List.getElem?_drop]
theorem wr_of {cs vs : List Value} {o : Nat} (h : o + vs.length ≤ cs.length) : wr cs o vs = some (cs.take o ++ vs ++ cs.drop (o + vs.length)) := by
 have wn : ∀ (vs cs : List Value), vs.length ≤ cs.length → wrn cs vs = some (vs ++ cs.drop vs.length) := by
  intro vs
  induction vs with
  | nil => intro cs _; cases cs <;> simp [wrn]
  | cons v vs ih =>
   intro cs h
   cases cs with
   | nil => simp at h
   | cons c r => simp [wrn, ih r (by simpa using h)]
 induction cs generalizing o with
 | nil =>
  simp at h
  obtain ⟨rfl, h⟩ := h
  subst h
  simp [wr, wrn]
 | cons c r ih =>
  cases o with
  | zero => simpa [wr] using wn vs (c :: r) (by simpa using h)
  | succ o =>
   simp only [wr]
   rw [ih (by simp at h; omega)]
   simp [show o + 1 + vs.length = (o + vs.length) + 1 from by omega]
theorem wr_arr {α : Type} {pre post cs cs' vs : List Value} {f : α → List Value} {n sz o k : Nat} {a : Nat → α} {x : α} (hcs : cs = pre ++ ((List.range n).flatMap (fun j => f (a j)) ++ post)) (ho : pre.length = o) (hf : ∀ y, (f y).length = sz) (hk : k < n) (hvs : vs = f x)
  (hcs' : cs' = pre ++ ((List.range n).flatMap (fun j => f (Jae a k x j)) ++ post)) : wr cs (o + k * sz) vs = some cs' := by
 subst hcs hcs' ho hvs
 obtain ⟨hl, ht⟩ := Jex (f := fun j => f (a j)) (fun j => hf _) n k hk
 obtain ⟨hl', ht'⟩ := Jex (f := fun j => f (Jae a k x j)) (fun j => hf _) n k hk
 have hle : k * sz + sz ≤ n * sz := by rw [← Nat.succ_mul]; exact Nat.mul_le_mul_right _ (by omega)
 rw [wr_of (by simp only [List.length_append, hl, hf]; omega), hf]
 congr 1
 have key : (List.range n).flatMap (fun j => f (Jae a k x j)) = ((List.range n).flatMap fun j => f (a j)).take (k * sz) ++ f x ++ ((List.range n).flatMap fun j => f (a j)).drop (k * sz + sz) := by
  have h1 : (List.range n).flatMap (fun j => f (a j)) = ((List.range n).map fun j => f (a j)).flatten := by rw [List.flatMap_def]
  have h2 : (List.range n).flatMap (fun j => f (Jae a k x j)) = (((List.range n).map fun j => f (a j)).set k (f x)).flatten := by
   rw [List.flatMap_def]
   congr 1
   refine List.ext_getElem? fun j => ?_
   rw [List.getElem?_set]
   simp only [List.getElem?_map, List.length_map, List.length_range]
   by_cases hj : k = j
   ·subst hj; simp [hk, Jae]
   ·rw [if_neg hj]
    rcases Nat.lt_or_ge j n with h | h
    ·simp [h, Jae, show ¬ j = k from fun e => hj e.symm]
    ·simp [Nat.not_lt.2 h]
  rw [h2, Jdz (sz := sz) _ _ _ (by intro y hy; obtain ⟨j, _, rfl⟩ := List.mem_map.1 hy; exact hf _) (by simpa using hk), ← h1, Nat.succ_mul]
 rw [key]
 generalize hT : (List.range n).flatMap (fun j => f (a j)) = T at *
 rw [List.take_append, List.take_of_length_le (l := pre) (by omega), Nat.add_sub_cancel_left, List.take_append_of_le_length (by omega), show pre.length + k * sz + sz = pre.length + (k * sz + sz) from by omega, List.drop_append, List.drop_of_length_le (l := pre) (by omega), Nat.add_sub_cancel_left, List.drop_append_of_le_length (by omega)]
 simp
end ops
section rules
variable {P : Program} {n : Nat} {cx : Cx} {Q : Va} {e : Q6} {L : List Chunk} {ops : Array Oper} {F : Q6 → List Chunk → Prop} {rest : List Oper} {ss : List Kd}
variable {d : Nat} {ty : TypeId} {pos : String} {af : Array Edge} {g : Option (Nat × Bool)}
def Q5 (C D : Chunk) : Chunk where
 P S w := ∃ S1 S2 : Nat → Prop, C.P S1 w ∧ D.P S2 w ∧ (∀ b, S1 b → S b) ∧ (∀ b, S2 b → S b) ∧ ∀ b, S1 b → ¬ S2 b
 loc S w w' h := by
  rintro ⟨S1, S2, h1, h2, h3, h4, h5⟩
  exact ⟨S1, S2, C.loc _ _ _ (fun b hb => h b (h3 b hb)) h1, D.loc _ _ _ (fun b hb => h b (h4 b hb)) h2, h3, h4, h5⟩
theorem Z0 {K : Q6 → World → Prop} (i : Nat) {C D : Chunk} (hL : L[i]? = some (Q5 C D)) (k : At cx K e (L.set i C ++ [D])) : At cx K e L :=
 ⟨fun w hF hS => k.out w hF (by
  obtain ⟨fp, h1, h2, h3⟩ := hS.out
  obtain ⟨S1, S2, k1, k2, k3, k4, k5⟩ := h1 i _ hL
  have hil : i < L.length := by
   rcases Nat.lt_or_ge i L.length with h | h
   ·exact h
   ·simp [List.getElem?_eq_none h] at hL
  refine ⟨fun j b => if j = i then S1 b else if j = L.length then S2 b else fp j b, ?_, ?_, ?_⟩
  ·intro j c hc
   by_cases hj : j = L.length
   ·subst hj
    rw [List.getElem?_append_right (by simp)] at hc
    simp at hc
    subst hc
    have : ¬ L.length = i := by omega
    simpa [this] using k2
   ·have hjl : j < L.length := by
     rcases Nat.lt_or_ge j L.length with h | h
     ·exact h
     ·rw [List.getElem?_append_right (by simpa using h)] at hc
      rw [List.getElem?_eq_none (by simp; omega)] at hc
      cases hc
    rw [List.getElem?_append_left (by simpa using hjl)] at hc
    by_cases hji : j = i
    ·subst hji
     rw [List.getElem?_set_self hil] at hc
     cases hc
     simpa using k1
    ·rw [List.getElem?_set_ne (fun h => hji h.symm)] at hc
     simpa [hji, hj] using h1 j c hc
  ·intro j b hb
   by_cases hji : j = i
   ·simp only [hji, if_true] at hb
    have := h2 i b (k3 b hb)
    exact ⟨by simp; omega, this.2⟩
   ·by_cases hj : j = L.length
    ·subst hj
     have hne : ¬ L.length = i := by omega
     simp only [hne, if_true, if_false] at hb
     exact ⟨by simp, (h2 i b (k4 b hb)).2⟩
    ·simp only [hji, hj, if_false] at hb
     obtain ⟨a1, a2⟩ := h2 j b hb
     exact ⟨by simp; omega, a2⟩
  ·intro j q b hj hq
   have key : ∀ j, (if j = i then S1 b else if j = L.length then S2 b else fp j b) → (j = i ∧ S1 b) ∨ (j = L.length ∧ j ≠ i ∧ S2 b) ∨ (j ≠ i ∧ j ≠ L.length ∧ fp j b) := by
    intro j h
    by_cases hji : j = i
    ·simp only [hji, if_true] at h; exact .inl ⟨hji, h⟩
    ·by_cases hjl : j = L.length
     ·simp only [hji, hjl, if_true, if_false] at h
      have hne : ¬ L.length = i := by omega
      simp only [hne, if_false] at h
      exact .inr (.inl ⟨hjl, hji, h⟩)
     ·simp only [hji, hjl, if_false] at h; exact .inr (.inr ⟨hji, hjl, h⟩)
   rcases key j hj with ⟨a1, a2⟩ | ⟨a1, a0, a2⟩ | ⟨a1, a3, a2⟩ <;> rcases key q hq with ⟨c1, c2⟩ | ⟨c1, c0, c2⟩ | ⟨c1, c3, c2⟩
   ·omega
   ·exact absurd c2 (k5 b a2)
   ·exact absurd (h3 i q b (k3 b a2) c2) (fun h => c1 h.symm)
   ·exact absurd a2 (k5 b c2)
   ·omega
   ·exact absurd (h3 i q b (k4 b a2) c2) (fun h => c1 h.symm)
   ·exact absurd (h3 i j b (k3 b c2) a2) (fun h => a1 h.symm)
   ·exact absurd (h3 i j b (k4 b c2) a2) (fun h => a1 h.symm)
   ·exact h3 j q b a2 c2)⟩
theorem c_both {K : Q6 → World → Prop} (i j : Nat) {C D : Chunk} (hi : L[i]? = some C) (hj : L[j]? = some D) (hne : i ≠ j) (k : At cx K e ((L.set i (Q5 C D)).set j empC)) : At cx K e L :=
 ⟨fun w hF hS => k.out w hF (by
  obtain ⟨fp, h1, h2, h3⟩ := hS.out
  have hil : i < L.length := by
   rcases Nat.lt_or_ge i L.length with h | h
   ·exact h
   ·simp [List.getElem?_eq_none h] at hi
  have hjl : j < L.length := by
   rcases Nat.lt_or_ge j L.length with h | h
   ·exact h
   ·simp [List.getElem?_eq_none h] at hj
  refine ⟨fun q b => if q = i then fp i b ∨ fp j b else if q = j then False else fp q b, ?_, ?_, ?_⟩
  ·intro q c hc
   by_cases hqj : q = j
   ·subst hqj
    rw [List.getElem?_set_self (by simpa using hjl)] at hc
    cases hc
    have : ¬ q = i := fun h => hne h.symm
    simp only [this, if_true, if_false]
    exact fun b h => h
   ·rw [List.getElem?_set_ne (fun h => hqj h.symm)] at hc
    by_cases hqi : q = i
    ·subst hqi
     rw [List.getElem?_set_self hil] at hc
     cases hc
     simp only [if_true]
     exact ⟨fp q, fp j, h1 q C hi, h1 j D hj, fun b h => .inl h, fun b h => .inr h, fun b a c => hne (h3 q j b a c)⟩
    ·rw [List.getElem?_set_ne (fun h => hqi h.symm)] at hc
     simp only [hqi, hqj, if_false]
     exact h1 q c hc
  ·intro q b hb
   by_cases hqi : q = i
   ·simp only [hqi, if_true] at hb
    refine ⟨by simp [hqi, hil], ?_⟩
    rcases hb with hb | hb
    ·exact (h2 i b hb).2
    ·exact (h2 j b hb).2
   ·by_cases hqj : q = j
    ·have hji : ¬ j = i := fun h => hne h.symm
     simp only [hqj, hji, if_true, if_false] at hb
    ·simp only [hqi, hqj, if_false] at hb
     obtain ⟨a1, a2⟩ := h2 q b hb
     exact ⟨by simpa using a1, a2⟩
  ·intro p q b hp hq
   have key : ∀ q, (if q = i then fp i b ∨ fp j b else if q = j then False else fp q b) → (q = i ∧ (fp i b ∨ fp j b)) ∨ (q ≠ i ∧ q ≠ j ∧ fp q b) := by
    intro q h
    by_cases hqi : q = i
    ·simp only [hqi, if_true] at h; exact .inl ⟨hqi, h⟩
    ·by_cases hqj : q = j
     ·have hji : ¬ j = i := fun h => hne h.symm
      simp only [hqj, hji, if_true, if_false] at h
     ·simp only [hqi, hqj, if_false] at h; exact .inr ⟨hqi, hqj, h⟩
   rcases key p hp with ⟨a1, a2⟩ | ⟨a1, a3, a2⟩ <;> rcases key q hq with ⟨c1, c2⟩ | ⟨c1, c3, c2⟩
   ·omega
   ·rcases a2 with a2 | a2
    ·exact absurd (h3 i q b a2 c2) (fun h => c1 h.symm)
    ·exact absurd (h3 j q b a2 c2) (fun h => c3 h.symm)
   ·rcases c2 with c2 | c2
    ·exact absurd (h3 i p b c2 a2) (fun h => a1 h.symm)
    ·exact absurd (h3 j p b c2 a2) (fun h => a3 h.symm)
   ·exact h3 p q b a2 c2)⟩
def roV (sz : Nat) (v : Value) (n : Nat) (xs : List (List Value)) : Chunk where
 P S w := n = xs.length ∧ FrS (fun b => w.heap[b]?) sz v xs ∧ ∀ b, v.ownBlock = some b → S b
 loc S w w' h := by
  rintro ⟨h1, h2, h3⟩
  refine ⟨h1, ?_, h3⟩
  obtain ⟨a, c, rfl, g1, g2, r⟩ := h2.out
  refine ⟨a, c, rfl, g1, g2, ?_⟩
  rcases r with r | ⟨b, off, cs, T, m, rfl, hb, r⟩
  ·exact .inl r
  ·exact .inr ⟨b, off, cs, T, m, rfl, (h b (h3 b rfl)).trans hb, r⟩
theorem Jgb {w : World} {E sz : Nat} {v : Value} {n : Nat} {xs : List (List Value)} (h : w.ownsRow 0 E sz v n xs.flatten) (hn : xs.length = n) (hl : ∀ x ∈ xs, x.length = sz) : FrS (fun b => w.heap[b]?) sz v xs := by
 rcases h.2 with ⟨rfl, h0⟩ | ⟨g, cap, cur, rfl, _, hh, hnc, hm, hcs, ht⟩
 ·have : xs = [] := List.eq_nil_of_length_eq_zero (hn.trans h0)
  subst this
  exact ⟨none, 0, by simp, by simp, by simp, .inl rfl⟩
 ·subst hn
  have hr := Jd0 h rfl hl
  refine ⟨some ⟨g, 0, none⟩, cap, rfl, hnc, by simpa [maxLen] using hm, ?_⟩
  rcases hr with hr | ⟨b, off, ha, hr⟩
  ·exact .inl hr
  ·simp only [Option.some.injEq, Addr.mk.injEq] at ha
   obtain ⟨rfl, rfl, _⟩ := ha
   refine .inr ⟨g, 0, cur, E, _, rfl, hh, fun i x hx => ⟨(hr i x hx).1, fun j v hv => ?_⟩⟩
   have := (hr i x hx).2 j v hv
   simpa [World.cell?, hh] using this
theorem Jbe (E sz : Nat) (v : Value) (n : Nat) (xs : List (List Value)) : Imp (Jw E sz v n xs) (roV sz v n xs) := ⟨fun S w ⟨⟨h1, h2, h3⟩, h4⟩ => ⟨h2.symm, Jgb h1 h2 h3, h4⟩⟩
theorem Jc6 (E sz : Nat) (a : Option Addr) (n c : Nat) (xs : List (List Value)) : Imp (Jw E sz (.slice a n c) n xs) (roV sz (.slice (Yc a 0 n sz) n n) n xs) := ⟨fun S w ⟨⟨h1, h2, h3⟩, h4⟩ => by
 have hf := Jgb h1 h2 h3
 subst h2
 obtain ⟨a', c', hv, g1, g2, r⟩ := hf.out
 simp only [Value.slice.injEq] at hv
 obtain ⟨rfl, _, rfl⟩ := hv
 refine ⟨rfl, ⟨_, _, rfl, Nat.le_refl _, by omega, ?_⟩, fun b hb => h4 b ?_⟩
 ·have := r.cut 0 xs.length xs.length (by omega)
  rwa [List.drop_zero, List.take_of_length_le (Nat.le_refl _)] at this
 ·rw [own_cut (y := xs.length)] at hb; rw [← hb]; cases a <;> rfl⟩
theorem frs_rd {α : Type} {w : World} {i sz n : Nat} {v : Value} {xs : List α} {f : α → List Value} (hS : Sat cx w L) (hL : L[i]? = some (roV sz v n (xs.map f))) : FrS (fun b => w.heap[b]?) sz v (xs.map f) := by
 obtain ⟨S, ⟨_, h2, _⟩, _⟩ := hS.at hL
 exact h2
theorem ret0n {fn : Func} {R : Value → World → Prop} (hr : fn.results = #[]) (k : ∀ w, Fr cx w → Sat cx w L → R (.tuple #[]) w) : At cx (Jey P fn R .normal) e L :=
 ⟨fun w hF hS tmps hs => ⟨.tuple #[], by simp [results, hr], k w hF hS⟩⟩
theorem Jfh {α : Type} {q T j sz szT k c E m : Nat} {A X : Operand} {x : Value} {a : Option Addr} {vs : List Value} {f : α → List Value} {xs ys : List α} {i : Int} {z : α} (hm : m = xs.length) (hs : ∀ w, (sizeOf T).run P w = .ok szT w)
  (hw : want ops ⟨none, .store T A X, ty, pos, af, g⟩ e = true) (hp : ev e A = Ux a k) (hk : k = i.toNat * sz + j) (hx : ev e X = x) (hc : x.cells.toList = vs) (hsz : vs.length = szT)
  (hpos : Nat.blt 0 szT = true) (hone : vs.all Value.oneCell' = true) (hL : L[q]? = some (Jw E sz (.slice a m c) m (xs.map f))) (hv : ∀ y, Qk xs i = some y → wr (f y) j vs = some (f z)) (hg : gSet xs i z = some ys)
  (k' : At cx (WL P n ops Q rest) e (L.set q (Jw E sz (.slice a m c) m (ys.map f)))) : At cx (WL P n ops Q (⟨none, .store T A X, ty, pos, af, g⟩ :: rest)) e L := by
 subst hm
 obtain ⟨h0, h1, rfl⟩ := Jfo hg
 have hat : Qk xs i = some xs[i.toNat] := gAt_ok h0 h1
 exact l_storeR (i := i.toNat) (j := j) (y := f xs[i.toNat]) hs hw hp hk hx hc hsz hpos hone hL (map_at hat) (hv _ hat) (by rw [List.map_set]) k'
theorem Jfz {α : Type} {N C : Operand} {t E : TypeId} {I : TypeInfo} {z : Value} {sz by_ : Nat} {m : Int} {rds : List Nat} {f : α → List Value} {zz : α} {xs : List α} (ht : P.underlying t = some (.slice E)) (hi : P.info? E = some I) (hz : I.zero = some z) (hsize : I.size = sz) (hby : I.bytes = by_)
  (hzs : z.cells.toList = f zz) (hsz : Nat.blt 0 sz = true) (hl : (f zz).length = sz) (hnc : ev e N = .int .i64 m ∧ ev e C = .int .i64 m) (hg : gMake by_ m zz = some xs) :
  Jfd P cx e ⟨some d, .makeSlice t N C, ty, pos, af, g⟩ L rds (fun p : Option Addr × Nat => .slice p.1 xs.length p.2) (fun p => Jw E sz (.slice p.1 xs.length p.2) xs.length (xs.map f)) := by
 obtain ⟨h0, hn, hb, rfl⟩ := gMake_some hg
 obtain ⟨k, rfl⟩ := Int.eq_ofNat_of_zero_le h0
 rw [Int.toNat_natCast] at *
 rw [List.length_replicate, List.map_replicate]
 exact Jf4 (m := k) (c := k) ht hi hz hsize hby (by rw [hzs, hl]) hsz hnc.1 hnc.2 rfl (by omega) (by omega) (by rw [hzs])
theorem Jb2 {w : World} {base : Nat} (t ty e : TypeId) (i : TypeInfo) (size : Nat) (ht : P.underlying t = some (.slice e)) (hi : P.info? e = some i)
  (v : Value) (n : Nat) (xs : List Value) (c : Nat) (hown : w.ownsRow base e size v n xs) :
  (Builtin.append_ #[t, t] ty #[v, .slice none 0 c]).run P w = .ok v w := by
 rcases hown.2 with ⟨rfl, rfl⟩ | ⟨g, cap, cur, rfl, _, _, hnc, _⟩
 ·simp [Builtin.append_, run_underlying ht, sizeOf, typeInfo, hi, Builtin.lenOf, Builtin.firstCells]
 ·simp [Builtin.append_, run_underlying ht, sizeOf, typeInfo, hi, Builtin.lenOf, Builtin.firstCells, hnc, storeCells]
theorem Jbd {α : Type} {f : α → List Value} {ys ls zs : List α} {i : Nat} {S X : Operand} {t E : TypeId} {I : TypeInfo} {z : Value} {sz by_ : Nat} {p : Option Addr × Nat} {rds : List Nat} {V : Value} {a : Option Addr} {c m q : Nat} (hn : m = ys.length)
  (ht : P.underlying t = some (.slice E)) (hi : P.info? E = some I) (hz : I.zero = some z) (hsize : I.size = sz) (hby : I.bytes = by_) (hzs : z.cells.size = sz) (hsz : Nat.blt 0 sz = true)
  (hL : L[i]? = some (Jw E sz (.slice p.1 m p.2) m (ys.map f))) (hs : ev e S = .slice p.1 m p.2) (hx : ev e X = V) (hV : V = .slice a q c) (hq : q = ls.length)
  (hnews : ∀ w L', Fr cx w → Sat cx w L' → (∀ j, j ∈ rds → L'[j]? = L[j]?) → Row w a sz (ls.map f)) (hf : ∀ x, (f x).length = sz) (h1 : ∀ x, (f x).all Value.oneCell' = true) (hg : Ja4 by_ ys ls = some zs) :
  Turns P cx e ⟨some d, .call ⟨.builtin .append, #[S, X], #[t, t]⟩, ty, pos, af, g⟩ L i rds (fun p' : Option Addr × Nat => .slice p'.1 zs.length p'.2) (fun p' => Jw E sz (.slice p'.1 zs.length p'.2) zs.length (zs.map f)) := by
 subst hn hq
 obtain ⟨rfl, hb1, hb2⟩ := Jeb hg
 rw [List.length_append]
 cases ha : a with
 | some ad =>
  subst ha
  exact Je3 (ad := ad) ht hi hz hsize hby hzs hsz hL hs (hx.trans hV) (by rw [List.length_map]) (fun x hx => by
   obtain ⟨y, _, rfl⟩ := List.mem_map.1 hx; exact hf y) hnews (fun x hx u hu => by
   obtain ⟨y, _, rfl⟩ := List.mem_map.1 hx; exact List.all_eq_true.1 (h1 y) u hu) (by rw [List.map_append]) rfl (by omega) hb2
 | none =>
  subst ha
  intro w L' hF hS hl hi'
  have hr := hnews w L' hF hS fun j hj => hi' j (.inl hj)
  have hls : ls = [] := by
   rcases hr with h | ⟨b, off, h, _⟩
   ·simpa using h
   ·cases h
  subst hls
  have hL' := (hi' i (.inr rfl)).trans hL
  obtain ⟨S0, ⟨⟨ho, _⟩, _⟩, _⟩ := hS.at hL'
  have he : (execOp (ev e) ⟨some d, .call ⟨.builtin .append, #[S, X], #[t, t]⟩, ty, pos, af, g⟩).run P w = .ok (.value (.slice p.1 ys.length p.2)) w := by
   simp only [execOp, resolve, invoke, builtin, Sem.run_bind, Sem.run_pure, Result.andThen_ok, List.map_toArray, List.map_cons, List.map_nil, hs, hx, hV, List.length_nil, Jb2 t ty E I sz ht hi _ _ _ c ho]
  unfold RunsTo
  rw [he]
  refine ⟨p, by simp, hF, ?_⟩
  have : L'.set i (Jw E sz (.slice p.1 (ys.length + 0) p.2) (ys.length + 0) ((ys ++ []).map f)) = L' := by
   rw [List.append_nil, Nat.add_zero]
   refine List.ext_getElem? fun j => ?_
   rw [List.getElem?_set]
   split
   ·rename_i h; subst h
    split
    ·exact hL'.symm
    ·rename_i h; rw [List.getElem?_eq_none (by omega)]
   ·rfl
  show Sat cx w (L'.set i (Jw E sz (.slice p.1 (ys.length + ([] : List α).length) p.2) (ys.length + ([] : List α).length) ((ys ++ []).map f)))
  rw [List.length_nil, this]
  exact hS
end rules
end Go.Lx

/- Rules: octets and strings, slices that may be appended to whether they are one's own or full, clips. Conditions: none. -/
namespace Go.Lx
open Go Go.Vc Go.Md
theorem Jhb {w : World} {E sz k old : Nat} {z : Value} {xs news : List Value} (hzs : z.cells.size = sz) (hl : (xs ++ news).length = k * sz) (h63 : k ≤ maxLen) :
  (w.drew.alloc (.cells (xs.toArray ++ news.toArray ++ Builtin.zeroCells z.cells (grownCap w k old E - k)) E)).ownsRow 0 E sz (.slice (some ⟨w.heap.size, 0, none⟩) k (grownCap w k old E)) k (xs ++ news) := by
 have hge := grownCap_ge w k old E
 have hcm : grownCap w k old E ≤ maxLen := grownCap_le_maxLen w k old E h63
 refine ⟨hl, .inr ⟨w.heap.size, _, _, rfl, Nat.zero_le _, heap_alloc_new w.drew _, hge, hcm, ?_, ?_⟩⟩
 ·have h2 : xs.length + news.length = k * sz := by rw [← List.length_append]; exact hl
  simp only [Array.size_append, List.size_toArray, size_zeroCells, hzs]
  rw [h2, ← Nat.add_mul]
  congr 1
  omega
 ·simp only [Array.toList_append, List.append_assoc]
  rw [← List.append_assoc, ← hl]
  exact List.take_left
theorem Jgr (w : World) (o : Obj) (row : Option Nat) : w.grownBy (w.drew.alloc o) row := ⟨rfl, rfl, rfl, by simp, fun k hk _ => (by first | exact heap_alloc_old w.drew _ k hk | exact heap_alloc_old w.drew _ hk)⟩
theorem fits2 {need old bytes : Nat} (h : old < need) (hb : need * bytes ≤ 140739635838976) (hy : bytes ≤ 1048576) : Builtin.nextslicecap need old * bytes ≤ 281474976710656 := by
 have h1 : Builtin.nextslicecap need old ≤ need + (need + 768) / 4 + 512 := by
  unfold Builtin.nextslicecap
  split
  ·omega
  ·split
   ·omega
   ·rw [growBy_four]
    repeat' split
    all_goals omega
 have h2 : 4 * Builtin.nextslicecap need old ≤ 5 * need + 2816 := by omega
 have h3 := Nat.mul_le_mul_right bytes h2
 rw [Nat.mul_assoc, Nat.add_mul, Nat.mul_assoc] at h3
 omega
def apC (w : World) (E sz : Nat) (v : Value) (n : Nat) (xs : List (List Value)) : Prop :=
 (w.ownsRow 0 E sz v n xs.flatten ∨ (FrS (fun b => w.heap[b]?) sz v xs ∧ ∃ b o, v = .slice (some ⟨b, 0, none⟩) n n ∧ w.heap[b]? = some o)) ∧ xs.length = n ∧ ∀ x ∈ xs, x.length = sz
def apV (E : TypeId) (sz : Nat) (v : Value) (n : Nat) (xs : List (List Value)) : Chunk where
 P S w := apC w E sz v n xs ∧ ∀ b, v.ownBlock = some b → S b
 loc S w w' h := by
  rintro ⟨⟨h1 | ⟨h1, b, o, h2, h5⟩, h3⟩, h4⟩
  ·exact ⟨⟨.inl ((Jw E sz v n xs).loc S w w' h ⟨⟨h1, h3⟩, h4⟩).1.1, h3⟩, h4⟩
  ·exact ⟨⟨.inr ⟨((roV sz v n xs).loc S w w' h ⟨h3.1.symm, h1, h4⟩).2.1, b, o, h2, (h b (h4 b (by rw [h2]; rfl))).trans h5⟩, h3⟩, h4⟩
theorem apC.frs {w : World} {E sz : Nat} {v : Value} {n : Nat} {xs : List (List Value)} (h : apC w E sz v n xs) : FrS (fun b => w.heap[b]?) sz v xs :=
 h.1.elim (fun h1 => Jgb h1 h.2.1 h.2.2) (fun h1 => h1.1)
theorem apC.slice {w : World} {E sz : Nat} {v : Value} {n : Nat} {xs : List (List Value)} (h : apC w E sz v n xs) : ∃ p : Option Addr × Nat, v = .slice p.1 n p.2 := by
 rcases h.1 with h1 | ⟨_, b', o, rfl, h1⟩
 ·exact Jb5 h1
 ·exact ⟨(some ⟨b', 0, none⟩, n), rfl⟩
section rules
variable {P : Program} {n : Nat} {cx : Cx} {e : Q6} {L : List Chunk} {d : Nat} {ty : TypeId} {pos : String} {af : Array Edge} {g : Option (Nat × Bool)}
theorem app_str_own {w : World} {t u E : Nat} {I : TypeInfo} {v : Value} {m : Nat} {xs : List Value} {s : ByteArray} (ht : P.underlying t = some (.slice E)) (hu : P.underlying u = some .string) (hi : P.info? E = some I) (hz : I.zero = some (.int .u8 0)) (hsize : I.size = 1) (hby : I.bytes = 1)
  (ho : w.ownsRow 0 E 1 v m xs) (h63 : m + s.size ≤ maxLen) (hbytes : m + s.size ≤ 140739635838976) :
  ∃ v' w', (Builtin.append_ #[t, u] ty #[v, .string s]).run P w = .ok v' w' ∧ w'.ownsRow 0 E 1 v' (m + s.size) (xs ++ Lib.strCells s) ∧ w.grownBy w' v.ownBlock ∧ (v'.ownBlock = v.ownBlock ∨ v'.ownBlock = some w.heap.size) := by
 have hsmall : m + s.size ≤ 9223372036854775807 := by simpa [maxLen] using h63
 have hxl : xs.length = m := by simpa using ho.1
 have hlen : (xs ++ Lib.strCells s).length = (m + s.size) * 1 := by rw [List.length_append, hxl, Lib.strCells_length, Nat.mul_one]
 rcases ho.2 with ⟨rfl, rfl⟩ | ⟨g', cap, cur, rfl, hbg, hg, hnc, hcm, hcs, htake⟩
 ·have hx : xs = [] := List.eq_nil_of_length_eq_zero hxl
  subst hx
  by_cases hm : s.size = 0
  ·have hn : Lib.strCells s = [] := List.eq_nil_of_length_eq_zero (by rw [Lib.strCells_length]; exact hm)
   refine ⟨.slice none 0 0, w, ?_, by rw [hm, hn]; exact World.ownsRow_nil w 0 E 1, ⟨rfl, rfl, rfl, Nat.le_refl _, fun _ _ _ => rfl⟩, .inl rfl⟩
   have hf := Lib.run_firstCells_string (P := P) w 1 s
   rw [hm] at hf
   simp [Builtin.append_, run_underlying ht, run_underlying hu, sizeOf, typeInfo, hi, hsize, Builtin.lenOf, hm, hf]
  ·have hr := run_append_nil_string (P := P) w t u ty E I (.int .u8 0) ht hu hi hz s (by omega) (by omega) (by rw [hby]; omega)
   have hgr := Jhb (w := w) (E := E) (sz := 1) (k := 0 + s.size) (old := 0) (z := .int .u8 0) (xs := []) (news := Lib.strCells s) rfl hlen h63
   have e1 : (s.data.map fun b => Value.int .u8 b.toNat) = (Lib.strCells s).toArray := by
    apply Array.ext'
    simp [Lib.strCells]
   rw [e1] at hr
   refine ⟨_, _, hr, ?_, Jgr _ _ _, .inr rfl⟩
   simpa only [Nat.zero_add, List.nil_append, Array.empty_append] using hgr
 ·by_cases hroom : m + s.size ≤ cap
  ·have hcs' : cur.size = cap := by simpa using hcs
   have hr := Lib.run_append_room_string (P := P) w t u ty E I ht hu hi hsize g' m cap cur hg s hroom (by omega)
   refine ⟨_, _, hr, ⟨hlen, .inr ⟨g', cap, _, rfl, hbg, setRow_heap w g' cur _ E _ hg, hroom, hcm, ?_, ?_⟩⟩, ⟨rfl, rfl, rfl, by simp, fun k _ hk => setRow_other w g' k _ (fun e => hk (by simp [Value.ownBlock, e]))⟩, .inl rfl⟩
   ·simp only [List.size_toArray, List.length_append, List.length_take, List.length_drop, Array.length_toList, Lib.strCells_length]
    omega
   ·have ht' : cur.toList.take m = xs := by simpa using htake
    rw [ht', ← hlen]
    exact List.take_left
  ·have holds : ∀ j u, xs[j]? = some u → w.cell? ((⟨g', 0, none⟩ : Addr).add j) = some u := ho.cells (g := g') rfl
   have hr := Lib.run_append_grow_string (P := P) w t u ty E I (.int .u8 0) ht hu hi hz ⟨g', 0, none⟩ m cap xs (by rw [hsize]; simpa using hxl) holds s (by omega) (by omega) (by rw [hby]; exact fits2 (by omega) (by omega) (by omega))
   exact ⟨_, _, hr, Jhb rfl hlen h63, Jgr _ _ _, .inr rfl⟩
theorem strCells_map (s : List UInt8) : Lib.strCells ⟨s.toArray⟩ = s.map fun b => Value.int .u8 (b.toNat : Int) := by simp [Lib.strCells]
theorem Jge (s : List UInt8) : (⟨s.toArray⟩ : ByteArray).size = s.length := by simp [ByteArray.size]
theorem turns_strG {f : Int → List Value} {ys zs : List Int} {s : List UInt8} {i : Nat} {S X : Operand} {t u E : TypeId} {I : TypeInfo} {p : Option Addr × Nat} {rds : List Nat} {m : Nat} (hn : m = ys.length)
  (ht : P.underlying t = some (.slice E)) (hu : P.underlying u = some .string) (hi : P.info? E = some I) (hz : I.zero = some (.int .u8 0)) (hsize : I.size = 1) (hby : I.bytes = 1)
  (hL : L[i]? = some (Jw E 1 (.slice p.1 m p.2) m (ys.map f))) (hs : ev e S = .slice p.1 m p.2) (hx : ev e X = Jk s) (hf : ∀ x, f x = [.int .u8 x]) (hg : gApL 1 ys (Qq s) = some zs) :
  Turns P cx e ⟨some d, .call ⟨.builtin .append, #[S, X], #[t, u]⟩, ty, pos, af, g⟩ L i rds (fun p' : Option Addr × Nat => .slice p'.1 zs.length p'.2) (fun p' => Jw E 1 (.slice p'.1 zs.length p'.2) zs.length (zs.map f)) := fun w L' hF hS hl hi' => by
 subst hn
 obtain ⟨rfl, hb1, hb2⟩ := gApL_some hg
 have hls : (Qq s).length = s.length := by simp [Qq]
 have hL' := (hi' i (.inr rfl)).trans hL
 obtain ⟨S0, ⟨⟨ho, hlen, hlx⟩, _⟩, _⟩ := hS.at hL'
 obtain ⟨v', w', hr, h2, h3, h5⟩ := app_str_own (P := P) (ty := ty) (s := ⟨s.toArray⟩) ht hu hi hz hsize hby ho (by rw [Jge]; simp only [maxLen]; omega) (by rw [Jge]; omega)
 have hm : Lib.strCells ⟨s.toArray⟩ = ((Qq s).map f).flatten := by
  rw [strCells_map, ← List.flatMap_def, Qq, List.flatMap_map]
  simp only [hf]
  exact (List.flatMap_singleton' _).symm.trans (by rw [List.flatMap_map])
 rw [hm, Jge, ← hls, ← List.flatten_append, ← List.map_append] at h2
 rw [List.length_append]
 obtain ⟨p', rfl⟩ := Jb5 h2
 obtain ⟨hF', hS'⟩ := hS.turnOf hF hL' (C := Jw E 1 (.slice p'.1 (ys.length + (Qq s).length) p'.2) (ys.length + (Qq s).length) ((ys ++ Qq s).map f)) fun S1 hp => Jbu hp.2 h2 h3 h5 (by simp) (by
  intro x hx
  obtain ⟨y, _, rfl⟩ := List.mem_map.1 hx
  rw [hf]; rfl)
 have he : (execOp (ev e) ⟨some d, .call ⟨.builtin .append, #[S, X], #[t, u]⟩, ty, pos, af, g⟩).run P w = .ok (.value (.slice p'.1 (ys.length + (Qq s).length) p'.2)) w' := by
  simp only [execOp, resolve, invoke, builtin, Sem.run_bind, Sem.run_pure, Result.andThen_ok, List.map_toArray, List.map_cons, List.map_nil, hs, hx, Jk, hr]
 unfold RunsTo
 rw [he]
 exact ⟨p', rfl, hF', hS'⟩
end rules
end Go.Lx

/- Rules: values that are functions: what is known of one, the call of one, and the making of one; boxes that a closure knows of. Conditions: none. -/
namespace Go.Lx
open Go Go.Vc Go.Md
structure FnH (P : Program) (h : Jt) (v : Value) (R : World → List Value → (Value → World → Prop) → Prop) : Prop where
 out : ∃ (f : FuncId) (pre caps : Array Value), v = .func (.func f) pre caps ∧ (∀ args w, (callFunc f args).run P w = .ok (.enter f args) w) ∧
  ∀ args post w, Know h w Yt → R w args post → Does P f (pre.toList ++ (args ++ caps.toList)).toArray w post
theorem FnH.mono {P : Program} {h h' : Jt} {v : Value} {R : World → List Value → (Value → World → Prop) → Prop} (f : FnH P h v R) (k : ∀ b o, h b = some o → h' b = some o) : FnH P h' v R := by
 obtain ⟨g, pre, caps, h1, h2, h3⟩ := f.out
 exact ⟨g, pre, caps, h1, h2, fun args r w hw hR => h3 args r w (fun b o hb => hw b o (k b o hb)) hR⟩
theorem FnH.cells {P : Program} {h : Jt} {v : Value} {R : World → List Value → (Value → World → Prop) → Prop} (f : FnH P h v R) : v.cells.toList = [v] := by
 obtain ⟨g, pre, caps, rfl, _⟩ := f.out; rfl
theorem FnH.one {P : Program} {h : Jt} {v : Value} {R : World → List Value → (Value → World → Prop) → Prop} (f : FnH P h v R) : v.oneCell' = true := by
 obtain ⟨g, pre, caps, rfl, _⟩ := f.out; rfl
theorem FrS.cells {h : Jt} {sz : Nat} {v : Value} {xs : List (List Value)} (f : FrS h sz v xs) : v.cells.toList = [v] := by
 obtain ⟨a, c, rfl, _⟩ := f.out; rfl
theorem FrS.one {h : Jt} {sz : Nat} {v : Value} {xs : List (List Value)} (f : FrS h sz v xs) : v.oneCell' = true := by
 obtain ⟨a, c, rfl, _⟩ := f.out; rfl
theorem Know.up {h : Jt} {w : World} {S : Nat → Prop} (k : Know h w S) : ∀ b o, h b = some o → w.heap[b]? = some o := fun b o hb => (k b o hb).1
section rules
variable {P : Program} {n : Nat} {cx : Cx} {e : Q6} {L : List Chunk} {ops : Array Oper} {rest : List Oper} {Q : Va} {F : Q6 → List Chunk → Prop} {ss : List Kd} {d : Nat} {ty : TypeId} {pos : String} {af : Array Edge} {g : Option (Nat × Bool)}
theorem run_callV {f : FuncId} {X : Operand} {A : Array Operand} {tys : Array TypeId} {args : List Value} {caps : Array Value} (hc : ∀ args w, (callFunc f args).run P w = .ok (.enter f args) w) (hX : ev e X = .func (.func f) #[] caps) (ha : A.toList.map (ev e) = args) (w : World) :
  (execOp (ev e) ⟨some d, .call ⟨.value X, A, tys⟩, ty, pos, af, g⟩).run P w = .ok (.enter f (args ++ caps.toList).toArray) w := by
 subst ha
 have : (A.toList.map (ev e) ++ caps.toList).toArray = A.map (ev e) ++ caps := by
  apply Array.ext'
  simp
 rw [this]
 simp only [execOp, resolve, hX, Deferred.ofValue, Sem.run_bind, Sem.run_pure, Result.andThen_ok, invoke, hc, Array.empty_append]
theorem run_callVP {f : FuncId} {X : Operand} {A : Array Operand} {tys : Array TypeId} {args : List Value} {pre caps : Array Value} (hc : ∀ args w, (callFunc f args).run P w = .ok (.enter f args) w) (hX : ev e X = .func (.func f) pre caps) (ha : A.toList.map (ev e) = args) (w : World) :
  (execOp (ev e) ⟨some d, .call ⟨.value X, A, tys⟩, ty, pos, af, g⟩).run P w = .ok (.enter f (pre.toList ++ (args ++ caps.toList)).toArray) w := by
 subst ha
 have : (pre.toList ++ (A.toList.map (ev e) ++ caps.toList)).toArray = pre ++ A.map (ev e) ++ caps := by
  apply Array.ext'
  simp
 rw [this]
 simp only [execOp, resolve, hX, Deferred.ofValue, Sem.run_bind, Sem.run_pure, Result.andThen_ok, invoke, hc]
theorem runs_callV {X : Operand} {A : Array Operand} {tys : Array TypeId} {args : List Value} {v : Value} {h : Jt} {R : World → List Value → (Value → World → Prop) → Prop} {post : Value → World → Prop} {w : World} (hf : FnH P h v R) (hk : Know h w Yt) (hR : R w args post) (hX : ev e X = v) (ha : A.toList.map (ev e) = args) :
  RunsTo P (ev e) ⟨some d, .call ⟨.value X, A, tys⟩, ty, pos, af, g⟩ w post := by
 obtain ⟨f, pre, caps, rfl, hc, hd⟩ := hf.out
 unfold RunsTo
 rw [run_callVP hc hX ha]
 exact hd args post w hk hR
theorem Jd6 {X : Operand} {A : Array Operand} {tys : Array TypeId} {args : List Value} {v r : Value} {R : World → List Value → (Value → World → Prop) → Prop} (hf : ∀ w, Fr cx w → Sat cx w L → FnH P (fun b => w.heap[b]?) v R ∧ R w args (fun v' w' => v' = r ∧ Grow w w')) (hX : ev e X = v)
  (hw : want ops ⟨some d, .call ⟨.value X, A, tys⟩, ty, pos, af, g⟩ e = true) (hn : Nat.blt d n = true) (ha : A.toList.map (ev e) = args)
  (k : At cx (WL P n ops Q rest) (upd e d r) L) : At cx (WL P n ops Q (⟨some d, .call ⟨.value X, A, tys⟩, ty, pos, af, g⟩ :: rest)) e L :=
 l_runs hw rfl hn fun w hF hS => (runs_callV (hf w hF hS).1 (Jr w) (hf w hF hS).2 hX ha).mono fun v' w' ⟨hv, hg⟩ => by
  subst hv
  exact k.out w' (hF.grow hg) (hS.grow hg)
theorem Jfi {dd : Option Nat} {f : FuncId} {cs : Array Operand} {caps : Array Value} (hcs : cs.toList.map (ev e) = caps.toList) (w : World) :
  (execOp (ev e) ⟨dd, .makeFunc (.func f) #[] cs, ty, pos, af, g⟩).run P w = .ok (.value (.func (.func f) #[] caps)) w := by
 have : caps = cs.map (ev e) := by apply Array.ext'; rw [← hcs]; simp
 subst this
 simp [execOp, Instr.makeFunc]
theorem Jer {dd : Option Nat} {T b o t : Nat} {A : Operand} {v : Value} {cs : List Value} {w : World} (hA : ∀ w, (isAgg T).run P w = .ok false w) (hp : ev e A = .pointer (some ⟨b, o, none⟩)) (hb : w.heap[b]? = some (.cells cs.toArray t (0, 0))) (hv : rg cs o = some v) :
  (execOp (ev e) ⟨dd, .load T A, ty, pos, af, g⟩).run P w = .ok (.value v) w := by
 have hc := Jdj (o := o) hb
 rw [← rg_eq, hv] at hc
 simp [execOp, Instr.loadAt, Instr.sureAddr, hp, U7 hA hc]
end rules
end Go.Lx

/- Rules: calls that take memory of the caller's own and hand it back turned. Conditions: none. -/
namespace Go.Lx
open Go Go.Vc Go.Md
open Classical in
noncomputable def but (w : World) (S : Nat → Prop) : Jt := fun b => if S b then none else w.heap[b]?
theorem but_some {w : World} {S : Nat → Prop} {b : Nat} {o : Obj} (hb : w.heap[b]? = some o) (hn : ¬ S b) : but w S b = some o := by
 unfold but; rw [if_neg hn]; exact hb
theorem Q4 (w : World) (S : Nat → Prop) : Know (but w S) w S := fun b o h => by
 unfold but at h
 split at h
 ·cases h
 ·exact ⟨h, by assumption⟩
section rules
variable {P : Program} {n : Nat} {cx : Cx} {e : Q6} {L : List Chunk} {d : Nat} {ty : TypeId} {pos : String} {af : Array Edge} {g : Option (Nat × Bool)}
theorem Know.but {h : Jt} {w0 w : World} {S0 S : Nat → Prop} (k : Know h w0 S0) (hF : Fr ⟨w0, S0⟩ w) (ho : ∀ b, S b → Cx.own ⟨w0, S0⟩ b) : ∀ b o, h b = some o → but w S b = some o := fun b o hb => by
 refine but_some (k.now hF b o hb) fun hs => ?_
 obtain ⟨h1, h2⟩ := k b o hb
 have hlt : b < w0.heap.size := by
  rcases Nat.lt_or_ge b w0.heap.size with h | h
  ·exact h
  ·rw [Array.getElem?_eq_none h] at h1; cases h1
 rcases ho b hs with h | h
 ·exact absurd h (by show ¬ w0.heap.size ≤ b; omega)
 ·exact h2 h
theorem FrS.but {w : World} {S : Nat → Prop} {sz : Nat} {v : Value} {xs : List (List Value)} (f : FrS (fun b => w.heap[b]?) sz v xs) (hd : ∀ b, v.ownBlock = some b → ¬ S b) : FrS (but w S) sz v xs := by
 obtain ⟨a, c, rfl, h1, h2, r⟩ := f.out
 refine ⟨a, c, rfl, h1, h2, ?_⟩
 rcases r with r | ⟨b, off, cs, T, m, rfl, hb, r⟩
 ·exact .inl r
 ·exact .inr ⟨b, off, cs, T, m, rfl, but_some hb (hd b rfl), r⟩
theorem rowV_block {E sz n : Nat} {v : Value} {xs : List (List Value)} {S : Nat → Prop} {w : World} (h : (Jw E sz v n xs).P S w) : ∀ b, v.ownBlock = some b → S b := h.2
def Apart (L' : List Chunk) (i : Nat) (w : World) (S : Nat → Prop) : Prop := ∀ j C, j ≠ i → L'[j]? = some C → ∃ S', C.P S' w ∧ ∀ b, S' b → ¬ S b
theorem Jf7 {α : Type} {w : World} {S : Nat → Prop} {i j E sz n : Nat} {p : Option Addr × Nat} {xs : List α} {f : α → List Value} {L' : List Chunk} (hn : n = xs.length) (hA : Apart L' i w S) (hS : Sat cx w L') (hji : j ≠ i) (hL : L'[j]? = some (Jw E sz (.slice p.1 n p.2) n (xs.map f))) : FrS (but w S) sz (.slice p.1 n p.2) (xs.map f) := by
 obtain ⟨S', h1, h2⟩ := hA j _ hji hL
 exact (Jap hn hS hL).but fun b hb => h2 b (rowV_block h1 b hb)
theorem frb_box {α : Type} {w : World} {S : Nat → Prop} {i j b m T sz : Nat} {cs : List Value} {xs : List α} {f : α → List Value} {L' : List Chunk} (hA : Apart L' i w S) (hS : Sat cx w L') (hji : j ≠ i) (hL : L'[j]? = some (Jp b cs T)) (hcs : (xs.map f).flatten = cs) (hl : ((xs.map f).all fun x => Nat.beq x.length sz) = true) (hm : xs.length = m) (hm' : Nat.ble m 9223372036854775807 = true) :
  FrS (but w S) sz (.slice (some ⟨b, 0, none⟩) m m) (xs.map f) := by
 obtain ⟨S', h1, h2⟩ := hA j _ hji hL
 exact (frs_box hS hL hcs hl hm hm').but fun q hq => h2 q ((h1.1 q).2 (by simpa [Value.ownBlock] using hq.symm))
theorem c_sel {K : Q6 → World → Prop} (sel : List Nat) (L' : List Chunk) (hs : sel.map (fun i => L[i]?) = L'.map some) (hnd : sel.Nodup) (k : At cx K e L') : At cx K e L :=
 ⟨fun w hF hS => k.out w hF (hS.select sel hnd hs)⟩
theorem c_splitAt {K : Q6 → World → Prop} (i j : Nat) {C D : Chunk} (hL : L[i]? = some (Q5 C D)) (hjL : L[j]? = some empC) (hne : i ≠ j) (k : At cx K e ((L.set i C).set j D)) : At cx K e L :=
 ⟨fun w hF hS => k.out w hF (by
  obtain ⟨fp, h1, h2, h3⟩ := hS.out
  obtain ⟨S1, S2, k1, k2, k3, k4, k5⟩ := h1 i _ hL
  have hil : i < L.length := by
   rcases Nat.lt_or_ge i L.length with h | h
   ·exact h
   ·simp [List.getElem?_eq_none h] at hL
  have hjl : j < L.length := by
   rcases Nat.lt_or_ge j L.length with h | h
   ·exact h
   ·simp [List.getElem?_eq_none h] at hjL
  have hji : ¬ j = i := fun h => hne h.symm
  have key : ∀ q b, (if q = i then S1 b else if q = j then S2 b else fp q b) → (q = i ∧ S1 b) ∨ (q = j ∧ S2 b) ∨ (q ≠ i ∧ q ≠ j ∧ fp q b) := by
   intro q b h
   by_cases hqi : q = i
   ·simp only [hqi, if_true] at h; exact .inl ⟨hqi, h⟩
   ·by_cases hqj : q = j
    ·simp only [hqi, hqj, hji, if_true, if_false] at h; exact .inr (.inl ⟨hqj, h⟩)
    ·simp only [hqi, hqj, if_false] at h; exact .inr (.inr ⟨hqi, hqj, h⟩)
  refine ⟨fun q b => if q = i then S1 b else if q = j then S2 b else fp q b, ?_, ?_, ?_⟩
  ·intro q c hc
   by_cases hqj : q = j
   ·subst hqj
    rw [List.getElem?_set_self (by simpa using hjl)] at hc
    cases hc
    simpa [hji] using k2
   ·rw [List.getElem?_set_ne (fun h => hqj h.symm)] at hc
    by_cases hqi : q = i
    ·subst hqi
     rw [List.getElem?_set_self hil] at hc
     cases hc
     simpa using k1
    ·rw [List.getElem?_set_ne (fun h => hqi h.symm)] at hc
     simpa [hqi, hqj] using h1 q c hc
  ·intro q b hb
   rcases key q b hb with ⟨rfl, h⟩ | ⟨rfl, h⟩ | ⟨_, _, h⟩
   ·exact ⟨by simpa using hil, (h2 _ b (k3 b h)).2⟩
   ·exact ⟨by simpa using hjl, (h2 _ b (k4 b h)).2⟩
   ·obtain ⟨a1, a2⟩ := h2 q b h
    exact ⟨by simpa using a1, a2⟩
  ·intro p q b hp hq
   rcases key p b hp with ⟨rfl, h⟩ | ⟨rfl, h⟩ | ⟨n1, n2, h⟩ <;> rcases key q b hq with ⟨e1, h'⟩ | ⟨e1, h'⟩ | ⟨m1, m2, h'⟩
   ·exact e1.symm
   ·exact absurd h' (k5 b h)
   ·exact absurd (h3 _ _ b (k3 b h) h') (fun h => m1 h.symm)
   ·exact absurd h (k5 b h')
   ·exact e1.symm
   ·exact absurd (h3 _ _ b (k4 b h) h') (fun h => m1 h.symm)
   ·exact absurd (h3 _ _ b h (e1 ▸ k3 b h')) (fun hh => n1 hh)
   ·exact absurd (h3 _ _ b h (k4 b h')) n1
   ·exact h3 p q b h h')⟩
theorem turns_opB {σ : Type} {o : Oper} {i : Nat} {f : FuncId} {args : List Value} {rds : List Nat} {G : σ → Value} {C0 : Chunk} {C : σ → Chunk} (hL : L[i]? = some C0)
  (h : ∀ w L' S, Fr cx w → Sat cx w L' → (∀ j ∈ rds, L'[j]? = L[j]?) → C0.P S w → (∀ b, S b → b < w.heap.size) → (∀ b, S b → cx.own b) → Apart L' i w S → Does P f args.toArray w fun v w' => ∃ x, v = G x ∧ Turn w w' S (C x)) (hr : ∀ w, (execOp (ev e) o).run P w = .ok (.enter f args.toArray) w) : Turns P cx e o L i rds G C := fun w L' hF hS hl hi => by
 unfold RunsTo
 rw [hr w]
 have hL' := (hi i (.inr rfl)).trans hL
 show Does P f args.toArray w _
 obtain ⟨fp, h1, h2, h3⟩ := hS.out
 have hSi : ∀ b, fp i b → b < w.heap.size ∧ cx.own b := fun b hb => (h2 i b hb).2
 refine (h w L' (fp i) hF hS (fun j hj => hi j (.inl hj)) (h1 i C0 hL') (fun b hb => (hSi b hb).1) (fun b hb => (hSi b hb).2) (fun j C hji hC => ⟨fp j, h1 j C hC, fun b hb hbi => hji (h3 j i b hb hbi)⟩)).mono fun v' w' ⟨x, hv, ht⟩ => ⟨x, hv, hF.turn ht fun b hb => (hSi b hb).2, ?_⟩
 obtain ⟨S', k1, k2⟩ := ht.out
 have hil : i < L'.length := by
  rcases Nat.lt_or_ge i L'.length with h | h
  ·exact h
  ·simp [List.getElem?_eq_none h] at hL'
 refine ⟨fun j b => if j = i then S' b else fp j b, ?_, ?_, ?_⟩
 ·intro j c hc'
  by_cases hji : j = i
  ·subst hji
   simp [List.getElem?_set_self hil] at hc'
   subst hc'
   simpa using k1
  ·rw [List.getElem?_set_ne (fun e => hji e.symm)] at hc'
   simp only [hji, if_false]
   exact c.loc _ _ _ (fun b hb => ht.block b (h2 j b hb).2.1 (fun hib => hji (h3 j i b hb hib))) (h1 j c hc')
 ·intro j b hb
  by_cases hji : j = i
  ·simp only [hji, if_true] at hb
   refine ⟨by simp [hji, hil], (k2 b hb).1, ?_⟩
   rcases (k2 b hb).2 with h | h
   ·exact (h2 i b h).2.2
   ·exact .inl (Nat.le_trans hF.size h)
  ·simp only [hji, if_false] at hb
   obtain ⟨a1, a2, a3⟩ := h2 j b hb
   exact ⟨by simpa using a1, Nat.lt_of_lt_of_le a2 ht.size, a3⟩
 ·intro j q b hj hq
  by_cases hji : j = i <;> by_cases hqi : q = i <;> simp only [hji, hqi, if_true, if_false] at hj hq
  ·omega
  ·obtain ⟨_, a2, _⟩ := h2 q b hq
   rcases (k2 b hj).2 with h | h
   ·exact absurd (h3 q i b hq h) hqi
   ·omega
  ·obtain ⟨_, a2, _⟩ := h2 j b hj
   rcases (k2 b hq).2 with h | h
   ·exact absurd (h3 j i b hj h) hji
   ·omega
  ·exact h3 j q b hj hq
theorem Qp {σ : Type} {i : Nat} {f : FuncId} {A : Array Operand} {tys : Array TypeId} {args : List Value} {rds : List Nat} {G : σ → Value} {C0 : Chunk} {C : σ → Chunk} (hL : L[i]? = some C0)
  (h : ∀ w L' S, Fr cx w → Sat cx w L' → (∀ j ∈ rds, L'[j]? = L[j]?) → C0.P S w → (∀ b, S b → b < w.heap.size) → (∀ b, S b → cx.own b) → Apart L' i w S → Does P f args.toArray w fun v w' => ∃ x, v = G x ∧ Turn w w' S (C x)) (hc : ∀ args w, (callFunc f args).run P w = .ok (.enter f args) w)
  (ha : A.toList.map (ev e) = args) : Turns P cx e ⟨some d, .call ⟨.value (.func f), A, tys⟩, ty, pos, af, g⟩ L i rds G C :=
 turns_opB hL h (Jc4 hc ha)
theorem Ui {X : Operand} {caps : Array Value} {σ : Type} {i : Nat} {f : FuncId} {A : Array Operand} {tys : Array TypeId} {args : List Value} {rds : List Nat} {G : σ → Value} {C0 : Chunk} {C : σ → Chunk} (hL : L[i]? = some C0)
  (h : ∀ w L' S, Fr cx w → Sat cx w L' → (∀ j ∈ rds, L'[j]? = L[j]?) → C0.P S w → (∀ b, S b → b < w.heap.size) → (∀ b, S b → cx.own b) → Apart L' i w S → Does P f (args ++ caps.toList).toArray w fun v w' => ∃ x, v = G x ∧ Turn w w' S (C x)) (hc : ∀ args w, (callFunc f args).run P w = .ok (.enter f args) w)
  (hX : ev e X = .func (.func f) #[] caps) (ha : A.toList.map (ev e) = args) : Turns P cx e ⟨some d, .call ⟨.value X, A, tys⟩, ty, pos, af, g⟩ L i rds G C :=
 turns_opB hL h (run_callV hc hX ha)
end rules
end Go.Lx

/- Rules: floating-point numbers; stores into rows in a drawn region. Conditions: none. -/
namespace Go.Lx
open Go Go.Vc Go.Md
section ops
variable {P : Program} {e : Q6} {d : Option Nat} {ty : TypeId} {pos : String} {af : Array Edge} {g : Option (Nat × Bool)}
theorem r_lenN {X : Operand} {a : Option Addr} {m c k : Nat} {t u : TypeId} (hu : P.underlying t = some (.slice u)) (hx : ev e X = .slice a m c) (h : m = k) (w : World) :
  (execOp (ev e) ⟨d, .call ⟨.builtin .len, #[X], #[t]⟩, ty, pos, af, g⟩).run P w = .ok (.value (.int .i64 k)) w := by
 subst h; exact Wx hu hx w
end ops
section rules
variable {P : Program} {n : Nat} {cx : Cx} {e : Q6} {L : List Chunk} {ops : Array Oper} {rest : List Oper} {F : Q6 → List Chunk → Prop} {ss : List Kd} {ty : TypeId} {pos : String} {af : Array Edge} {g : Option (Nat × Bool)}
end rules
end Go.Lx

/- Rules: slices of arrays as strings; a range over a string of ASCII octets; long arrays as boxes. Conditions: none. -/
namespace Go.Lx
open Go Go.Vc Go.Md
theorem caseB {p : Prop} (b : Bool) (ht : b = true → p) (hf : b = false → p) : p := by
 cases b
 ·exact hf rfl
 ·exact ht rfl
def Wi (n : Nat) (f : Nat → List Value) : List Value := (List.range n).flatMap f
theorem Jfm (n : Nat) (f : Nat → List Value) : Wi n f = [] ++ ((List.range n).flatMap f ++ []) := by rw [List.nil_append, List.append_nil]; rfl
theorem Vy {n : Nat} {f : Nat → List Value} (hf : ∀ j, (f j).length = 1) : (Wi n f).length = n := by
 unfold Wi
 induction n with
 | zero => rfl
 | succ n ih => rw [List.range_succ, List.flatMap_append, List.flatMap_singleton, List.length_append, ih, hf]
theorem Jgp {n : Nat} {f : Nat → List Value} (hf : ∀ j, (f j).all Value.oneCell' = true) : (Wi n f).all Value.oneCell' = true := by
 unfold Wi
 rw [List.all_eq_true]
 intro v hv
 obtain ⟨j, _, h⟩ := List.mem_flatMap.1 hv
 exact List.all_eq_true.1 (hf j) v h
theorem Jg5 {cs vs : List Value} (h : cs.length = vs.length) : wr cs 0 vs = some vs := by
 rw [wr_of (by omega), Nat.zero_add, ← h, List.drop_length]; simp
theorem Jfc {cs : List Value} {n : Nat} (h : cs.length = n) : rd cs 0 n = some cs := by
 subst h
 induction cs with
 | nil => rfl
 | cons c cs ih =>
  have e : ∀ (l : List Value) (k : Nat), rd l 0 k = rdn l k := fun l k => by cases l <;> rfl
  rw [e] at *
  show rdn (c :: cs) (cs.length + 1) = some (c :: cs)
  unfold rdn
  rw [ih]; rfl
section ops
variable {P : Program} {cx : Cx} {e : Q6} {L : List Chunk} {d : Option Nat} {ty : TypeId} {pos : String} {af : Array Edge} {g : Option (Nat × Bool)}
theorem J8 {X : Operand} {a : Addr} (hx : ev e X = .pointer (some a)) (w : World) :
  (execOp (ev e) ⟨d, .nilCheck X, ty, pos, af, g⟩).run P w = .ok (.value (.pointer (some a))) w := by
 simp only [execOp, hx, Sem.run_pure]
def iterC (b : Nat) (s : List UInt8) (k : Nat) : Chunk where
 P S w := (∀ x, S x ↔ x = b) ∧ w.heap[b]? = some (.stringIter ⟨s.toArray⟩ k)
 loc S w w' h hp := ⟨hp.1, by rw [h b ((hp.1 b).2 rfl)]; exact hp.2⟩
theorem Jf1 {X : Operand} {t d : Nat} {s : List UInt8} {rds : List Nat} (ht : P.underlying t = some .string) (hx : ev e X = Jk s) :
  Jfd P cx e ⟨some d, .range t X, ty, pos, af, g⟩ L rds (fun b : Nat => .pointer (some ⟨b, 0, none⟩)) (fun b => iterC b s 0) := fun w L' hF hS _ => by
 unfold RunsTo
 have hr : (execOp (ev e) ⟨some d, .range t X, ty, pos, af, g⟩).run P w = .ok (.value (.pointer (some ⟨w.heap.size, 0, none⟩))) (w.alloc (.stringIter ⟨s.toArray⟩ 0)) := by
  simp [execOp, Instr.range, hx, run_underlying ht, newObj, Sem.run]
 rw [hr]
 have gr := Jad w (.stringIter ⟨s.toArray⟩ 0)
 exact ⟨w.heap.size, rfl, gr.os, gr.tape, gr.output, gr.size, fun b hb _ => gr.block b hb, fun x => x = w.heap.size, ⟨fun _ => Iff.rfl, heap_alloc_new w _⟩, fun b hb => by subst hb; exact ⟨by simp, .inr (Nat.le_refl _)⟩⟩
theorem Jgq {X : Operand} {d i b k : Nat} {s : List UInt8} {c : Int} {rds : List Nat} (hL : L[i]? = some (iterC b s k)) (hx : ev e X = .pointer (some ⟨b, 0, none⟩)) (hg : gNx s k = some c) :
  Turns P cx e ⟨some d, .next X true, ty, pos, af, g⟩ L i rds (fun _ : Unit => .tuple #[.bool true, .int .i64 (k : Nat), .int .i32 c]) (fun _ => iterC b s (k + 1)) := fun w L' hF hS _ hi' => by
 have hL' := (hi' i (.inr rfl)).trans hL
 obtain ⟨hk, hc, rfl⟩ := gNx_some hg
 obtain ⟨S, hp, hb⟩ := hS.at hL'
 have hh := hp.2
 have hlt : b < w.heap.size := (Array.getElem?_eq_some_iff.1 hh).1
 have hw' : (execOp (ev e) ⟨some d, .next X true, ty, pos, af, g⟩).run P w = .ok (.value (.tuple #[.bool true, .int .i64 (k : Nat), .int .i32 ((s[k]).toNat : Nat)])) { w with heap := w.heap.setIfInBounds b (.stringIter ⟨s.toArray⟩ (k + 1)) } := by
  have hs : k < (⟨s.toArray⟩ : ByteArray).size := by simpa [ByteArray.size] using hk
  have e : (⟨s.toArray⟩ : ByteArray)[k]'hs = s[k] := by show s.toArray[k] = s[k]; simp
  have hd := decode_ascii (⟨s.toArray⟩ : ByteArray) k hs (by rw [e]; exact hc)
  simp only [execOp, hx, Instr.next, getObj, setObj, Sem.run_bind, Sem.run, hh, Result.andThen, hs, if_true, hd]
  simp [goInt, Sem.run, hh, e]
 unfold RunsTo
 rw [hw']
 have hS' := hS.turnOf (w' := { w with heap := w.heap.setIfInBounds b (.stringIter ⟨s.toArray⟩ (k + 1)) }) hF hL' (C := iterC b s (k + 1)) fun S1 hp1 =>
  ⟨rfl, rfl, rfl, by simp, fun x _ hx => by rw [Array.getElem?_setIfInBounds_ne (fun h => hx ((hp1.1 x).2 h.symm))], S1, ⟨hp1.1, by simp [hlt]⟩, fun x hx => ⟨by rw [(hp1.1 x).1 hx]; simpa using hlt, .inl hx⟩⟩
 exact ⟨(), rfl, hS'.1, hS'.2⟩
theorem Jgi {X : Operand} {i b k : Nat} {s : List UInt8} {w : World} (hS : Sat cx w L) (hL : L[i]? = some (iterC b s k)) (hx : ev e X = .pointer (some ⟨b, 0, none⟩)) (hk : decide (k < s.length) = false) :
  (execOp (ev e) ⟨d, .next X true, ty, pos, af, g⟩).run P w = .ok (.value (.tuple #[.bool false])) w := by
 obtain ⟨S, hp, _⟩ := hS.at hL
 have hh := hp.2
 have hk' : ¬ k < s.length := of_decide_eq_false hk
 have hs : ¬ k < (⟨s.toArray⟩ : ByteArray).size := by simpa [ByteArray.size] using hk'
 simp only [execOp, hx, Instr.next, getObj, Sem.run_bind, Sem.run, hh, Result.andThen, hs, if_false]
 simp [Sem.run]
end ops
end Go.Lx

/- Rules: a character as a string; strings in their order. Conditions: none. -/
namespace Go.Lx
open Go Go.Vc Go.Md
section ops
variable {P : Program} {e : Q6} {d : Option Nat} {ty : TypeId} {pos : String} {af : Array Edge} {g : Option (Nat × Bool)}
end ops
end Go.Lx

/- Rules: parts of rows of one's own, that are only read. Conditions: none. -/
namespace Go.Lx
open Go Go.Vc Go.Md
theorem Je4 {α : Type} {xs ys : List α} {l q : Int} (e : Qd xs l q = some ys) : ys.length = q.toNat - l.toNat := by
 obtain ⟨g0, g1, g2, rfl⟩ := Zk e
 rw [List.length_take, List.length_drop]; omega
theorem Row.cutG {α : Type} {w : World} {a : Option Addr} {m c sz : Nat} {f : α → List Value} {xs ys : List α} {l q : Int} (h : Row w a sz (xs.map f)) (hm : m = xs.length) (hc : m ≤ c) (e : Qd xs l q = some ys) : Row w (Yc a l.toNat c sz) sz (ys.map f) := by
 obtain ⟨g0, g1, g2, rfl⟩ := Zk e
 have := Row.cut h l.toNat (q.toNat - l.toNat) c (by omega)
 rw [← List.map_drop, ← List.map_take] at this
 exact this
section ops
variable {P : Program} {e : Q6} {d : Option Nat} {ty : TypeId} {pos : String} {af : Array Edge} {g : Option (Nat × Bool)}
theorem Jbq {α : Type} {X A : Operand} {a : Option Addr} {m c : Nat} {t u sz : Nat} {ka : IntKind} {l : Int} {xs ys : List α} {w : World} (hu : P.underlying t = some (.slice u)) (hs : ∀ w, (sizeOf u).run P w = .ok sz w)
  (hx : ev e X = .slice a m c) (ha : ev e A = .int ka l) (hm : m = xs.length) (_hc : m ≤ c) (hg : Qd xs l xs.length = some ys) :
  (execOp (ev e) ⟨d, .slice t X (some A) none none, ty, pos, af, g⟩).run P w = .ok (.value (.slice (Yc a l.toNat c sz) ys.length (c - l.toNat))) w := by
 obtain ⟨g0, g1, g2, _⟩ := Zk hg
 have hl := Je4 hg
 rw [r_sliceL hu hs hx ha g0 (by omega) w]
 congr 4; omega
end ops
end Go.Lx

/- Rules: facts that are carried as chunks which own nothing; functions as results; copies into rows; arrays out of slices. Conditions: none. -/
namespace Go.Lx
open Go Go.Vc Go.Md
section rules
variable {cx : Cx} {K : Q6 → World → Prop} {e : Q6} {L : List Chunk}
end rules
def FnV {μ : Type} (P : Program) (v : Value) (m : Option μ) (R : μ → World → List Value → (Value → World → Prop) → Prop) : Prop := (m = none ∧ v = .nilFunc) ∨ ∃ g, m = some g ∧ ∀ h, FnH P h v (R g)
theorem FnV.nil {μ : Type} {P : Program} {R : μ → World → List Value → (Value → World → Prop) → Prop} : FnV P .nilFunc none R := .inl ⟨rfl, rfl⟩
theorem FnV.mk {μ : Type} {P : Program} {v : Value} {g : μ} {R : μ → World → List Value → (Value → World → Prop) → Prop} (h : ∀ h, FnH P h v (R g)) : FnV P v (some g) R := .inr ⟨g, rfl, h⟩
theorem FnV.cells {μ : Type} {P : Program} {v : Value} {m : Option μ} {R : μ → World → List Value → (Value → World → Prop) → Prop} (f : FnV P v m R) : v.cells.toList = [v] := by
 rcases f with ⟨_, rfl⟩ | ⟨g, _, f⟩
 ·rfl
 ·exact (f fun _ => none).cells
theorem FnV.one {μ : Type} {P : Program} {v : Value} {m : Option μ} {R : μ → World → List Value → (Value → World → Prop) → Prop} (f : FnV P v m R) : v.oneCell' = true := by
 rcases f with ⟨_, rfl⟩ | ⟨g, _, f⟩
 ·rfl
 ·exact (f fun _ => none).one
theorem FnV.fn {μ : Type} {P : Program} {v : Value} {m : Option μ} {g : μ} {R : μ → World → List Value → (Value → World → Prop) → Prop} (f : FnV P v m R) (hm : m = some g) (h : Jt) : FnH P h v (R g) := by
 rcases f with ⟨h1, _⟩ | ⟨g', h1, f⟩
 ·rw [hm] at h1; cases h1
 ·rw [hm] at h1; cases h1; exact f h
section ops
variable {P : Program} {e : Q6} {d : Option Nat} {ty : TypeId} {pos : String} {af : Array Edge} {g : Option (Nat × Bool)}
theorem r_sap {X : Operand} {arr n u m c : Nat} {a : Option Addr} (hu : ∀ w, (underlying arr).run P w = .ok (.array n u) w) (hx : ev e X = .slice a m c) (hm : n ≤ m) (w : World) :
  (execOp (ev e) ⟨d, .sliceToArrayPointer arr X, ty, pos, af, g⟩).run P w = .ok (.value (.pointer a)) w := by
 have : ¬ m < n := by omega
 simp [execOp, Instr.arrayAt, hx, hu, this]
theorem run_loadSA {α : Type} [Inhabited α] {T n k sz : Nat} {a : Option Addr} {A : Operand} {f : α → List Value} {xs : List α} {vs : List Value} {w : World} (hA : ∀ w, (isAgg T).run P w = .ok true w) (hs : ∀ w, (sizeOf T).run P w = .ok k w)
  (hp : ev e A = .pointer a) (hr : Row w a sz (xs.map f)) (hn : n ≤ xs.length) (hpos : Nat.blt 0 n = true) (hk : n * sz = k) (hf : ∀ x, (f x).length = sz) (hv : ((List.range n).map fun j => f (W0 xs j)).flatten = vs) :
  (execOp (ev e) ⟨d, .load T A, ty, pos, af, g⟩).run P w = .ok (.value (.agg vs.toArray)) w := by
 have hpos' : 0 < n := by simpa using hpos
 have e1 : ((List.range n).map fun j => f (W0 xs j)) = (xs.take n).map f := by
  apply List.ext_getElem
  ·simp; omega
  ·intro j h1 h2
   simp only [List.length_map, List.length_range] at h1
   simp only [List.getElem_map, List.getElem_range, List.getElem_take, W0, List.getD_eq_getElem?_getD, List.getElem?_eq_getElem (show j < xs.length by omega), Option.getD_some]
 have hlen : ∀ x ∈ (xs.take n).map f, x.length = sz := fun x hx => by
  obtain ⟨y, _, rfl⟩ := List.mem_map.1 hx; exact hf y
 have hl : vs.length = k := by
  rw [← hv, e1, Jcm (sz := sz) _ hlen, List.length_map, List.length_take, Nat.min_eq_left hn, hk]
 rcases hr with hr | ⟨b, off, rfl, hr⟩
 ·have : xs.length = 0 := by simpa using congrArg List.length hr
  omega
 ·have hget : ∀ j v, vs[j]? = some v → w.cell? ⟨b, off + j, none⟩ = some v := by
   intro j v hj
   rw [← hv, e1] at hj
   obtain ⟨i, q, x, hx, hq, rfl⟩ := Je1 _ hlen j v hj
   have hx' : (xs.map f)[i]? = some x := by
    rw [List.map_take, List.getElem?_take] at hx
    split at hx
    ·exact hx
    ·cases hx
   have := (hr i x hx').2 q v hq
   rw [← Nat.add_assoc]; exact this
  have := Wj (P := P) (w := w) hA hs hl hget
  simp [execOp, Instr.loadAt, Instr.sureAddr, hp, this]
theorem Jem {X : Operand} {t el n b o sz : Nat} (ht : P.underlying t = some (.array n el)) (hs : ∀ w, (sizeOf el).run P w = .ok sz w)
  (hx : ev e X = .pointer (some ⟨b, o, none⟩)) (w : World) :
  (execOp (ev e) ⟨d, .slice t X none none none, ty, pos, af, g⟩).run P w = .ok (.value (.slice (some ⟨b, o, none⟩) n n)) w := by
 have e1 : P.arrayLen t = n := by simp [Program.arrayLen, ht]
 have e2 : P.elem t = el := by simp [Program.elem, ht]
 have ht' : P.underlying t = some (.array (P.arrayLen t) (P.elem t)) := by rw [e1, e2]; exact ht
 simp only [execOp, Option.map_none, hx, Sem.run_bind, run_sliceAt_array_all w t ⟨b, o, none⟩ ht', e1, e2, hs, Result.andThen_ok, Sem.run_pure, slicedAt, Nat.sub_zero, Nat.zero_mul, Addr.add_lit, Nat.add_zero, ite_self]
end ops
section rules
variable {P : Program} {n : Nat} {cx : Cx} {e : Q6} {L : List Chunk} {ops : Array Oper} {rest : List Oper} {Q : Va} {F : Q6 → List Chunk → Prop} {ss : List Kd} {d : Option Nat} {ty : TypeId} {pos : String} {af : Array Edge} {g : Option (Nat × Bool)}
theorem Jdl {σ : Type} {o : Oper} {i : Nat} {rds : List Nat} {G : σ → Value} {C : σ → Chunk} (h : Turns P cx e o L i rds G C) (hw : want ops o e = true) (hd : o.dst = none)
  (k : ∀ x, At cx (WL P n ops Q rest) e (L.set i (C x))) : At cx (WL P n ops Q (o :: rest)) e L :=
 ⟨fun w hF hS => ⟨fun a ha => by
  have hr := (h w L hF hS rfl (fun _ _ => rfl)).mono (R' := fun _ w' => WL P n ops Q rest e w') fun v w' ⟨x, hv, hF', hS'⟩ => (k x).out w' hF' hS'
  unfold RunsTo at hr
  unfold wpList
  rw [Jdp ha, hw, if_pos rfl]
  refine .inl ?_
  unfold Oper.wp
  rw [ha.ev]
  generalize (execOp (ev e) o).run P w = r at hr
  cases r with
  | halt x w' => exact hr.elim
  | ok nx w' =>
   cases nx with
   | value v =>
    show wpList P ops (lift n Q) rest (a.put o.dst v) w'
    rw [hd]
    exact hr.out _ ha
   | skip =>
    show wpList P ops (lift n Q) rest (a.put o.dst undef) w'
    rw [hd]
    exact hr.out _ ha
   | enter f args =>
    refine Calls.mono hr ?_
    rintro en w'' ⟨v, rfl, hk⟩
    show wpList P ops (lift n Q) rest (a.put o.dst v) w''
    rw [hd]
    exact hk.out _ ha
   | _ => exact hr.elim⟩⟩
end rules
def _root_.Go.Vc.Kd.fv (φ : Value → Prop) : Kd := .g [] [] [] (fun _ _ v => φ v) (fun _ _ _ => [])
section rules
variable {P : Program} {n : Nat} {cx : Cx} {e : Q6} {L : List Chunk} {ops : Array Oper} {rest : List Oper} {Q : Va} {F : Q6 → List Chunk → Prop} {ss : List Kd} {d : Nat} {ty : TypeId} {pos : String} {af : Array Edge} {g : Option (Nat × Bool)}
end rules
end Go.Lx

/- Rules: results that came in; rows that are only read and may be the caller's; slices compared with nil; parts of known slices. Conditions: none. -/
namespace Go.Lx
open Go Go.Vc Go.Md
theorem Know.at {h : Jt} {w0 w : World} {S : Nat → Prop} (k : Know h w0 S) (hF : Fr ⟨w0, S⟩ w) : Know h w Yt := fun b o hb => ⟨k.now hF b o hb, fun x => x⟩
theorem FrS.cutL {α : Type} {h : Jt} {sz : Nat} {a : Option Addr} {n c : Nat} {f : α → List Value} {xs ys : List α} {l q : Int} (s : FrS h sz (.slice a n c) (xs.map f)) (e : Qd xs l q = some ys) : FrS h sz (.slice (Yc a l.toNat c sz) ys.length (c - l.toNat)) (ys.map f) := by
 have := s.cut e
 rw [Je4 e]
 exact this
section ops
variable {P : Program} {e : Q6} {d : Option Nat} {ty : TypeId} {pos : String} {af : Array Edge} {g : Option (Nat × Bool)}
end ops
section rules
variable {P : Program} {n : Nat} {cx : Cx} {e : Q6} {L : List Chunk} {ops : Array Oper} {rest : List Oper} {Q : Va} {F : Q6 → List Chunk → Prop} {ss : List Kd} {d : Nat} {ty : TypeId} {pos : String} {af : Array Edge} {g : Option (Nat × Bool)}
def _root_.Go.Vc.Kd.sv (a b i : Nat) (cs : Value → List Value) (T : TypeId) : Kd := .g [a, b] [i] [i] (fun _ _ v => v = undef) (fun vs _ _ => [boxOf (vs.headD undef) (cs (vs.getD 1 undef)) T])
theorem d_storeV {i : Nat} {a q T T0 b o sz : Nat} {x : Value} {cs vs : List Value} {cs' : Value → List Value} (hs : ∀ w, (sizeOf T).run P w = .ok sz w)
  (hw : want ops ⟨none, .store T (.tmp a) (.tmp q), ty, pos, af, g⟩ e = true) (hp : e a = .pointer (some ⟨b, o, none⟩)) (hx : e q = x) (hc : x.cells.toList = vs) (hsz : vs.length = sz) (hpos : Nat.blt 0 sz = true)
  (hone : vs.all Value.oneCell' = true) (hL : L[i]? = some (Jp b cs T0)) (hv : wr cs o vs = some (cs' x))
  (k : Sq P cx ops F rest ss e (L.set i (Jp b (cs' x) T0))) : Sq P cx ops F (⟨none, .store T (.tmp a) (.tmp q), ty, pos, af, g⟩ :: rest) (.sv a q i cs' T0 :: ss) e L := by
 have hbox : boxOf (([a, q].map e).headD undef) (cs' (([a, q].map e).getD 1 undef)) T0 = Jp b (cs' x) T0 := by
  have h1 : ([a, q].map e).headD undef = e a := rfl
  have h2 : ([a, q].map e).getD 1 undef = e q := rfl
  rw [h1, h2, hp, hx]; rfl
 refine .take hw ⟨undef, rfl⟩ ⟨fun w L' hF hS _ hi => ?_⟩ fun v' hv' => ?_
 ·have hL' := (hi i (.inl (by simp [Kd.sv, Kd.rds]))).trans hL
  have hb := Y6 hS hL'
  unfold RunsTo
  rw [Go.Vc.run_store hs (by exact hp) (by exact hx) hc hsz hpos hone hv hb]
  have hset := setRow_heap w b cs.toArray (cs' x).toArray T0 (0, 0) hb
  refine ⟨rfl, ⟨hF.os, hF.tape, hF.output, by simpa using hF.size, fun c hcn => ?_⟩, ?_⟩
  ·rw [setRow_other w b c _ (fun e => ?_)]
   ·exact hF.block c hcn
   ·obtain ⟨fp, f1, f2, _⟩ := hS.out
    have := (f2 i b ((f1 i _ hL').1 b |>.2 rfl)).2.2
    subst e
    exact hcn this
  ·show Sat cx _ (L'.set i (boxOf (([a, q].map e).headD undef) (cs' (([a, q].map e).getD 1 undef)) T0))
   rw [hbox]
   exact hS.set hF hL' (by simp) fun S hSp hSo => ⟨S, ⟨hSp.1, hset⟩, fun c hc => ⟨by simpa using (hSo c hc).1, .inl hc⟩, fun c _ hcS => setRow_other w b c _ (fun e => hcS ((hSp.1 c).2 e))⟩
 ·have hbox' := hbox
  show Sq P cx ops F rest ss (Jcn e none v') (L.set i (boxOf (([a, q].map e).headD undef) (cs' (([a, q].map e).getD 1 undef)) T0))
  rw [hbox]
  exact k
end rules
end Go.Lx

/- Rules: slices whose elements hold slices, as they came in: cells read off the known memory, and what each element stands for. Conditions: none. -/
namespace Go.Lx
open Go Go.Vc Go.Md
def Qt (h : Jt) (v : Value) (sz i j : Nat) : Value :=
 if j < sz then match v with
 | .slice (some ⟨b, off, _⟩) _ _ => match h b with
  | some (.cells cs _ _) => cs.getD (off + i * sz + j) undef
  | _ => undef
 | _ => undef else undef
def elC (h : Jt) (v : Value) (sz i : Nat) : List Value := (List.range sz).map (Qt h v sz i)
class Mon {α : Type} (G : Jt → (Nat → Value) → α → Prop) : Prop where
 mono : ∀ {h h' : Jt}, (∀ b o, h b = some o → h' b = some o) → ∀ c x, G h c x → G h' c x
structure FrN {α : Type} (h : Jt) (sz : Nat) (v : Value) (G : Jt → (Nat → Value) → α → Prop) (xs : List α) : Prop where
 frs : FrS h sz v ((List.range xs.length).map (elC h v sz))
 el : ∀ (i : Nat) (x : α), xs[i]? = some x → G h (Qt h v sz i) x
theorem elH_mono {h h' : Jt} {v : Value} {sz : Nat} {ys : List (List Value)} (f : FrS h sz v ys) (hy : 0 < ys.length) (k : ∀ b o, h b = some o → h' b = some o) (i : Nat) : Qt h v sz i = Qt h' v sz i := by
 funext j
 obtain ⟨a, c, rfl, _, _, r⟩ := f.out
 rcases r with r | ⟨b, off, cs, T, m, rfl, hb, _⟩
 ·subst r; simp at hy
 ·simp only [Qt, hb, k b _ hb]
theorem FrN.mono {α : Type} {h h' : Jt} {sz : Nat} {v : Value} {G : Jt → (Nat → Value) → α → Prop} [M : Mon G] {xs : List α} (f : FrN h sz v G xs) (k : ∀ b o, h b = some o → h' b = some o) : FrN h' sz v G xs := by
 have key : ∀ i, i < xs.length → Qt h v sz i = Qt h' v sz i := fun i hi => elH_mono f.frs (by simp; omega) k i
 refine ⟨?_, fun i x hx => ?_⟩
 ·have := f.frs.mono k
  have e : (List.range xs.length).map (elC h v sz) = (List.range xs.length).map (elC h' v sz) := by
   apply List.map_congr_left
   intro i hi
   unfold elC
   rw [key i (by simpa using hi)]
  rwa [e] at this
 ·have hi : i < xs.length := by
   rcases Nat.lt_or_ge i xs.length with h | h
   ·exact h
   ·rw [List.getElem?_eq_none h] at hx; cases hx
  rw [← key i hi]
  exact M.mono k _ _ (f.el i x hx)
theorem FrN.nil {α : Type} (h : Jt) (sz : Nat) (G : Jt → (Nat → Value) → α → Prop) : FrN h sz (.slice none 0 0) G [] := ⟨FrS.nil _ _, by simp⟩
section acc
variable {α : Type} {h : Jt} {sz : Nat} {v : Value} {G : Jt → (Nat → Value) → α → Prop} {xs ys : List α}
theorem FrN.cells (f : FrN h sz v G xs) : v.cells.toList = [v] := f.frs.cells
theorem FrN.one (f : FrN h sz v G xs) : v.oneCell' = true := f.frs.one
theorem FrN.eq (f : FrN h sz v G xs) : v = .slice (sa v) xs.length (sc v) := by
 have := f.frs.eq; rwa [List.length_map, List.length_range] at this
theorem FrN.len (f : FrN h sz v G xs) : xs.length ≤ sc v ∧ sc v ≤ 9223372036854775807 := by
 have := f.frs.len; rwa [List.length_map, List.length_range] at this
theorem FrN.at (f : FrN h sz v G xs) {i : Int} {x : α} (g : Qk xs i = some x) : G h (Qt h v sz i.toNat) x := f.el _ _ (Xg g).2.2
theorem FrN.ix (_ : FrN h sz v G xs) {i : Int} {x : α} (g : Qk xs i = some x) : Qk (List.range xs.length) i = some i.toNat := by
 obtain ⟨h0, h1, _⟩ := Xg g
 rw [gAt_ok h0 (by simpa using h1)]; simp
theorem gCut_range {l q : Int} (e : Qd xs l q = some ys) : Qd (List.range xs.length) l q = some (((List.range xs.length).drop l.toNat).take (q.toNat - l.toNat)) := by
 obtain ⟨g0, g1, g2, _⟩ := Zk e
 exact Jf8 ⟨g0, g1, by simpa using g2⟩
theorem FrN.cut (f : FrN h sz v G xs) {l q : Int} (e : Qd xs l q = some ys) : FrN h sz (cutV sz v l q) G ys := by
 obtain ⟨g0, g1, g2, rfl⟩ := Zk e
 have hl := f.len
 have h0 := FrS.cut f.frs (gCut_range e)
 have hlen : ((xs.drop l.toNat).take (q.toNat - l.toNat)).length = q.toNat - l.toNat := by rw [List.length_take, List.length_drop]; omega
 have key : ∀ i, i < q.toNat - l.toNat → Qt h (cutV sz v l q) sz i = Qt h v sz (l.toNat + i) := by
  intro i hi
  funext j
  obtain ⟨a, c, hva, h1, _, r⟩ := f.frs.out
  simp only [List.length_map, List.length_range] at hva h1
  rcases r with r | ⟨b, off, cs, T, m, ha, hb, _⟩
  ·have := congrArg List.length r
   simp at this
   rw [this] at g2
   simp at g2
   omega
  ·have hm : ¬ c = l.toNat := by omega
   rw [hva, ha]
   simp only [cutV, sa, sc, Yc, if_neg hm, Option.map_some, Addr.add_lit, Qt, hb]
   rw [show off + l.toNat * sz + i * sz + j = off + (l.toNat + i) * sz + j from by rw [Nat.add_mul]; omega]
 refine ⟨?_, fun i x hx => ?_⟩
 ·have e1 : ((List.range ((xs.drop l.toNat).take (q.toNat - l.toNat)).length).map (elC h (cutV sz v l q) sz)) = (((List.range xs.length).drop l.toNat).take (q.toNat - l.toNat)).map (elC h v sz) := by
   rw [hlen]
   apply List.ext_getElem
   ·simp; omega
   ·intro i h1 h2
    simp only [List.length_map, List.length_range] at h1
    simp only [List.getElem_map, List.getElem_range, List.getElem_take, List.getElem_drop]
    unfold elC
    rw [key i h1]
  rw [e1]; exact h0
 ·have hi : i < q.toNat - l.toNat := by
   rcases Nat.lt_or_ge i (q.toNat - l.toNat) with h | h
   ·exact h
   ·rw [List.getElem?_eq_none (by rw [hlen]; exact h)] at hx; cases hx
  rw [key i hi]
  rw [List.getElem?_take, if_pos hi, List.getElem?_drop] at hx
  exact f.el _ _ hx
end acc
theorem FrN.cutL {α : Type} {h : Jt} {sz : Nat} {a : Option Addr} {n c : Nat} {G : Jt → (Nat → Value) → α → Prop} {xs ys : List α} {l q : Int} (s : FrN h sz (.slice a n c) G xs) (e : Qd xs l q = some ys) : FrN h sz (.slice (Yc a l.toNat c sz) ys.length (c - l.toNat)) G ys := by
 have := s.cut e
 rw [Je4 e]
 exact this
theorem rd_of {l l' vs : List Value} {j n : Nat} (e : l = l') (h : rd l' j n = some vs) : rd l j n = some vs := by subst e; exact h
theorem rg_of {l l' : List Value} {j : Nat} {v : Value} (e : l = l') (h : rg l' j = some v) : rg l j = some v := by subst e; exact h
def AllG {α : Type} (G : Jt → (Nat → Value) → α → Prop) (h : Jt) (sz : Nat) : List Value → List α → Prop
 | cs, [] => cs = []
 | cs, x :: r => G h (fun j => (cs.take sz).getD j undef) x ∧ AllG G h sz (cs.drop sz) r
theorem AllG.el {α : Type} {G : Jt → (Nat → Value) → α → Prop} {h : Jt} {sz : Nat} : ∀ {cs : List Value} {xs : List α}, AllG G h sz cs xs → ∀ (i : Nat) (x : α), xs[i]? = some x → G h (fun j => ((cs.drop (i * sz)).take sz).getD j undef) x
 | _, [], _, i, x, hx => by simp at hx
 | cs, y :: r, hp, 0, x, hx => by
  simp at hx; subst hx
  have := hp.1
  simpa using this
 | cs, y :: r, hp, i + 1, x, hx => by
  have := AllG.el hp.2 i x (by simpa using hx)
  rw [List.drop_drop, show sz + i * sz = (i + 1) * sz from by rw [Nat.succ_mul]; omega] at this
  exact this
section rules
variable {P : Program} {n : Nat} {cx : Cx} {e : Q6} {L : List Chunk}
theorem frn_box {α : Type} {G : Jt → (Nat → Value) → α → Prop} {w : World} {i b m T sz : Nat} {cs : List Value} {xs : List α} (hS : Sat cx w L) (hL : L[i]? = some (Jp b cs T)) (hl : cs.length = m * sz) (hm : xs.length = m) (hm' : Nat.ble m 9223372036854775807 = true)
  (hG : AllG G (fun b => w.heap[b]?) sz cs xs) : FrN (fun b => w.heap[b]?) sz (.slice (some ⟨b, 0, none⟩) m m) G xs := by
 subst hm
 have hb : w.heap[b]? = some (.cells cs.toArray T (0, 0)) := Y6 hS hL
 have key : ∀ i, Qt (fun b => w.heap[b]?) (.slice (some ⟨b, 0, none⟩) xs.length xs.length) sz i = fun j => ((cs.drop (i * sz)).take sz).getD j undef := by
  intro i; funext j
  simp only [Qt, hb, Nat.zero_add, List.getD_eq_getElem?_getD, Array.getD_eq_getD_getElem?, List.getElem?_toArray, List.getElem?_take, List.getElem?_drop]
  split <;> rfl
 refine ⟨⟨some ⟨b, 0, none⟩, xs.length, by simp, by simp, by simpa using hm', .inr ⟨b, 0, cs.toArray, T, (0, 0), rfl, hb, fun i x hx => ?_⟩⟩, fun i x hx => ?_⟩
 ·have hi : i < xs.length := by
   rcases Nat.lt_or_ge i xs.length with h | h
   ·exact h
   ·rw [List.getElem?_eq_none (by simpa using h)] at hx; cases hx
  simp only [List.getElem?_map, List.getElem?_range hi, Option.map_some, Option.some.injEq] at hx
  subst hx
  refine ⟨by simp [elC], fun j v hv => ?_⟩
  unfold elC at hv
  rw [key i] at hv
  have hj : j < sz := by
   rcases Nat.lt_or_ge j sz with h | h
   ·exact h
   ·rw [List.getElem?_eq_none (by simpa using h)] at hv; cases hv
  simp only [List.getElem?_map, List.getElem?_range hj, Option.map_some, Option.some.injEq] at hv
  have hlt : i * sz + j < cs.length := by
   rw [hl]
   have : (i + 1) * sz ≤ xs.length * sz := Nat.mul_le_mul_right _ (by omega)
   rw [Nat.succ_mul] at this
   omega
  rw [← hv]
  simp [List.getD_eq_getElem?_getD, List.getElem?_eq_getElem hlt, List.getElem?_take, List.getElem?_drop, hj]
 ·rw [key i]
  exact hG.el i x hx
section ops
variable {d : Option Nat} {ty : TypeId} {pos : String} {af : Array Edge} {g : Option (Nat × Bool)}
theorem Jas {α : Type} {G : Jt → (Nat → Value) → α → Prop} {X : Operand} {t u sz : TypeId} {h : Jt} {v : Value} {xs : List α} (hu : P.underlying t = some (.slice u)) (hx : ev e X = v) (hs : FrN h sz v G xs) (w : World) :
  (execOp (ev e) ⟨d, .call ⟨.builtin .len, #[X], #[t]⟩, ty, pos, af, g⟩).run P w = .ok (.value (.int .i64 xs.length)) w :=
 Wx (P := P) (d := d) (ty := ty) (pos := pos) (af := af) (g := g) hu (hx.trans hs.eq) w
end ops
end rules
end Go.Lx

/- Rules: strings.Builder, as a chunk that holds octets. Conditions: none. -/
namespace Go.Lx
open Go Go.Vc Go.Md
abbrev e8 (x : Int) : List Value := [.int .u8 x]
def Vg (b T E : Nat) (bs : List UInt8) : Chunk where
 P S w := ∃ (q : Value) (p : Option Addr × Nat), (q = .pointer none ∨ q = .pointer (some ⟨b, 0, none⟩)) ∧ (p = (none, 0) ∨ p.2 ≠ 0) ∧
  (Q5 (Jp b [q, .slice p.1 (Qq bs).length p.2] T) (Jw E 1 (.slice p.1 (Qq bs).length p.2) (Qq bs).length ((Qq bs).map e8))).P S w
 loc S w w' h := by
  rintro ⟨q, p, hq, hp, hc⟩
  exact ⟨q, p, hq, hp, Chunk.loc _ _ _ _ h hc⟩
theorem Jet (b T E : Nat) : Imp (Jp b [.pointer none, .slice none 0 0] T) (Vg b T E []) := ⟨fun S w h =>
 ⟨.pointer none, (none, 0), .inl rfl, .inl rfl, S, fun _ => False, h, ⟨⟨World.ownsRow_nil _ _ _ _, rfl, by simp [Qq]⟩, by simp [Value.ownBlock]⟩, fun _ h => h, fun _ h => h.elim, fun _ _ h => h⟩⟩
theorem row_cap {E n : Nat} {p : Option Addr × Nat} {xs : List (List Value)} {S : Nat → Prop} {w : World} (h : (Jw E 1 (.slice p.1 n p.2) n xs).P S w) (hn : n ≠ 0) : p.2 ≠ 0 := by
 rcases h.1.1.2 with ⟨_, h0⟩ | ⟨g, cap, cur, hv, _, _, hc, _⟩
 ·exact absurd h0 hn
 ·simp only [Value.slice.injEq] at hv; omega
theorem imp_bld {b T E : Nat} {p : Option Addr × Nat} {bs : List UInt8} (hb : bs ≠ []) : Imp (Q5 (Jp b [.pointer (some ⟨b, 0, none⟩), .slice p.1 (Qq bs).length p.2] T) (Jw E 1 (.slice p.1 (Qq bs).length p.2) (Qq bs).length ((Qq bs).map e8))) (Vg b T E bs) := ⟨fun S w h => by
 refine ⟨_, p, .inr rfl, .inr ?_, h⟩
 obtain ⟨S1, S2, _, h2, _⟩ := h
 exact row_cap h2 (by simpa [Qq] using hb)⟩
section rules
variable {P : Program} {n : Nat} {cx : Cx} {Q : Va} {K : Q6 → World → Prop} {e : Q6} {L : List Chunk} {ops : Array Oper} {F : Q6 → List Chunk → Prop} {rest : List Oper} {ss : List Kd} {d : Nat} {ty : TypeId} {pos : String} {af : Array Edge} {g : Option (Nat × Bool)}
theorem c_bld (i : Nat) {b T E : Nat} {bs : List UInt8} (hL : L[i]? = some (Vg b T E bs))
  (k : ∀ (q : Value) (p : Option Addr × Nat), (q = .pointer none ∨ q = .pointer (some ⟨b, 0, none⟩)) → (p = (none, 0) ∨ p.2 ≠ 0) →
   At cx K e (L.set i (Q5 (Jp b [q, .slice p.1 (Qq bs).length p.2] T) (Jw E 1 (.slice p.1 (Qq bs).length p.2) (Qq bs).length ((Qq bs).map e8))))) : At cx K e L :=
 ⟨fun w hF hS => by
  obtain ⟨fp, h1, h2, h3⟩ := hS.out
  obtain ⟨q, p, hq, hp, hc⟩ := h1 i _ hL
  have hil : i < L.length := by
   rcases Nat.lt_or_ge i L.length with h | h
   ·exact h
   ·simp [List.getElem?_eq_none h] at hL
  refine (k q p hq hp).out w hF ⟨fp, fun j c hj => ?_, fun j b hb => by simpa using h2 j b hb, h3⟩
  by_cases hji : j = i
  ·subst hji
   rw [List.getElem?_set_self hil] at hj
   cases hj
   exact hc
  ·rw [List.getElem?_set_ne (fun h => hji h.symm)] at hj
   exact h1 j c hj⟩
section ops
theorem r_nilP {dd : Option Nat} {X Y : Operand} {t t' u : TypeId} {a : Option Addr} (ht : P.underlying t = some (.pointer u)) (hx : ev e X = .pointer a) (hy : ev e Y = .pointer none) (w : World) :
  (execOp (ev e) ⟨dd, .binOp .eql t X Y t', ty, pos, af, g⟩).run P w = .ok (.value (.bool a.isNone)) w := by
 have hp : P.underlying t = some (.pointer (P.pointee t)) := by simp [Program.pointee, ht]
 have h0 := run_eql_pointer_nil (P := P) (w := w) t a hp
 simp only [execOp, hx, hy, eqGuard, Sem.run_bind, Sem.run_pure, Result.andThen_ok, h0, Bool.not_true, Bool.false_eq_true, if_false]
theorem r_sameP {dd : Option Nat} {X Y : Operand} {t t' u : TypeId} {a : Addr} {j : TypeInfo} (ht : P.underlying t = some (.pointer u)) (hu : P.info? u = some j) (hx : ev e X = .pointer (some a)) (hy : ev e Y = .pointer (some a)) (w : World) :
  (execOp (ev e) ⟨dd, .binOp .neq t X Y t', ty, pos, af, g⟩).run P w = .ok (.value (.bool false)) w := by
 have h0 := Lib.run_neq_ptr_same (P := P) w (tp := t) a ht hu
 simp only [execOp, hx, hy, eqGuard, Sem.run_bind, Sem.run_pure, Result.andThen_ok, h0, Bool.not_true, Bool.false_eq_true, if_false]
theorem run_toU {dd : Option Nat} {X : Operand} {src dst t T b : TypeId} {j : TypeInfo} {cs : List Value} {w : World} (hs : P.underlying src = some (.pointer t)) (hd : P.underlying dst = some .unsafePointer) (ht : P.info? t = some j) (hj : j.size ≠ 0)
  (hb : w.heap[b]? = some (.cells cs.toArray T (0, 0))) (hcs : Nat.blt 0 cs.length = true) (hx : ev e X = .pointer (some ⟨b, 0, none⟩)) :
  (execOp (ev e) ⟨dd, .convert src dst X, ty, pos, af, g⟩).run P w = .ok (.value (.pointer (some ⟨b, 0, none⟩))) w := by
 have h0 := Lib.run_to_unsafe (P := P) (w := w) (cells := cs.length) ⟨b, 0, none⟩ hs hd ht hj (e := T) (by simp [World.shape?, hb]) (by simpa using hcs)
 simp only [execOp, hx, Sem.run_bind, h0, Result.andThen_ok, Sem.run_pure]
theorem run_fromU {dd : Option Nat} {X : Operand} {src dst u T b : TypeId} {j : TypeInfo} {cs : List Value} {w : World} (hs : P.underlying src = some .unsafePointer) (hd : P.underlying dst = some (.pointer u)) (hu : P.info? u = some j)
  (hb : w.heap[b]? = some (.cells cs.toArray T (0, 0))) (hlies : liesAt P P.depth T (cs.length / P.cellsOf T) 0 u 1 = true) (hx : ev e X = .pointer (some ⟨b, 0, none⟩)) :
  (execOp (ev e) ⟨dd, .convert src dst X, ty, pos, af, g⟩).run P w = .ok (.value (.pointer (some ⟨b, 0, none⟩))) w := by
 have h0 := Lib.run_from_unsafe (P := P) (w := w) (cells := cs.length) ⟨b, 0, none⟩ hs hd hu (e := T) (by simp [World.shape?, hb]) hlies
 simp only [execOp, hx, Sem.run_bind, h0, Result.andThen_ok, Sem.run_pure]
theorem r_ssd {dd : Option Nat} {X : Operand} {tys : Array TypeId} {p : Option Addr × Nat} {m : Nat} (hp : p = (none, 0) ∨ p.2 ≠ 0) (hx : ev e X = .slice p.1 m p.2) (w : World) :
  (execOp (ev e) ⟨dd, .call ⟨.builtin .unsafeSliceData, #[X], tys⟩, ty, pos, af, g⟩).run P w = .ok (.value (.pointer p.1)) w := by
 have h0 : (Builtin.unsafeSliceData_ tys ty #[.slice p.1 m p.2]).run P w = .ok (.pointer p.1) w := by
  rcases hp with rfl | hp
  ·exact Lib.run_unsafeSliceData_nil _ _ _ _ _
  ·obtain ⟨a, c⟩ := p
   cases a with
   | none => exact Lib.run_unsafeSliceData_nil _ _ _ _ _
   | some a => exact Lib.run_unsafeSliceData_row _ _ _ _ _ _ hp
 simp only [execOp, resolve, invoke, builtin, Sem.run_bind, Sem.run_pure, Result.andThen_ok, List.map_toArray, List.map_cons, List.map_nil, hx, h0]
end ops
theorem e8_flat (bs : List UInt8) : ((Qq bs).map e8).flatten = bs.map fun c => Value.int .u8 (c.toNat : Int) := by
 induction bs with
 | nil => rfl
 | cons c r ih =>
  simp only [Qq, List.map_cons, List.flatten_cons] at ih ⊢
  rw [ih]; rfl
theorem turns_ustr {X Y : Operand} {i pt it E : TypeId} {p : Option Addr × Nat} {bs : List UInt8} {rds : List Nat} (hpt : P.underlying pt = some (.pointer E)) (hc : P.cellsOf E = 1)
  (hL : L[i]? = some (Jw E 1 (.slice p.1 (Qq bs).length p.2) (Qq bs).length ((Qq bs).map e8))) (hx : ev e X = .pointer p.1) (hy : ev e Y = .int .i64 ((Qq bs).length : Nat)) :
  Turns P cx e ⟨some d, .call ⟨.builtin .unsafeString, #[X, Y], #[pt, it]⟩, ty, pos, af, g⟩ L i rds (fun _ : Unit => Jk bs) (fun _ => empC) := fun w L' hF hS _ hi' => by
 have hL' := (hi' i (.inr rfl)).trans hL
 obtain ⟨S0, ⟨⟨ho, _⟩, hob⟩, _⟩ := hS.at hL'
 have hlen : (Qq bs).length = bs.length := by simp [Qq]
 have key : ∃ w', (Builtin.unsafeString_ #[pt, it] ty #[.pointer p.1, .int .i64 ((Qq bs).length : Nat)]).run P w = .ok (Jk bs) w' ∧ ∀ S : Nat → Prop, (Jw E 1 (.slice p.1 (Qq bs).length p.2) (Qq bs).length ((Qq bs).map e8)).P S w → Turn w w' S empC := by
  by_cases h0 : bs = []
  ·subst h0
   refine ⟨w, Lib.run_unsafeString_none w pt it ty p.1, fun S _ => ⟨rfl, rfl, rfl, Nat.le_refl _, fun _ _ _ => rfl, fun _ => False, fun _ h => h, fun _ h => h.elim⟩⟩
  ·rcases ho.2 with ⟨_, hz⟩ | ⟨g0, cap, cur, hv, _, hh, hnc, hm, hcs, ht⟩
   ·rw [hlen] at hz; exact absurd (List.eq_nil_of_length_eq_zero hz) h0
   ·simp only [Value.slice.injEq, true_and] at hv
    obtain ⟨hp1, hp2⟩ := hv
    rw [hp1, hlen]
    have hcell : ∀ (j : Nat) (x : UInt8), bs[j]? = some x → w.cell? ((⟨g0, 0, none⟩ : Addr).add j) = some (.int .u8 x.toNat) := fun j x hj => by
     rw [e8_flat] at ht
     have hjl : j < bs.length := by
      rcases Nat.lt_or_ge j bs.length with h | h
      ·exact h
      ·rw [List.getElem?_eq_none h] at hj; cases hj
     have h1 : (cur.toList.take ((Qq bs).length * 1))[j]? = some (.int .u8 (x.toNat : Int)) := by rw [ht]; simp [hj]
     rw [List.getElem?_take, if_pos (by rw [hlen]; omega)] at h1
     rw [Addr.add_lit]
     simp only [World.cell?, hh, Nat.zero_add]
     simpa using h1
    have hr := Lib.run_unsafeString_row (P := P) w pt it ty E hpt hc g0 cur.size (by simp [World.shape?, hh]) bs h0 (by rw [hcs]; omega) (by simp only [maxLen] at hm; omega) hcell
    have hg : ∀ S : Nat → Prop, (Jw E 1 (.slice (some ⟨g0, 0, none⟩) bs.length p.2) bs.length ((Qq bs).map e8)).P S w → S g0 := fun S hS => hS.2 g0 rfl
    have hn0 : ¬ bs.length = 0 := fun h => h0 (List.eq_nil_of_length_eq_zero h)
    refine ⟨_, hr, fun S hS => ⟨by simp [World.freeze, h0], by simp [World.freeze, h0], by simp [World.freeze, h0], by simp [World.freeze, h0], fun k hk hn => ?_, fun _ => False, fun _ h => h, fun _ h => h.elim⟩⟩
    have hne : ¬ g0 = k := fun h => hn (h ▸ hg S hS)
    simp [World.freeze, Array.getElem?_modify, hne, h0]
 obtain ⟨w', hr, ht⟩ := key
 obtain ⟨hF', hS'⟩ := hS.turnOf hF hL' ht
 have he : (execOp (ev e) ⟨some d, .call ⟨.builtin .unsafeString, #[X, Y], #[pt, it]⟩, ty, pos, af, g⟩).run P w = .ok (.value (Jk bs)) w' := by
  simp only [execOp, resolve, invoke, builtin, Sem.run_bind, Sem.run_pure, Result.andThen_ok, List.map_toArray, List.map_cons, List.map_nil, hx, hy, hr]
 unfold RunsTo
 rw [he]
 exact ⟨(), rfl, hF', hS'⟩
end rules
end Go.Lx

/- Rules: parts of arrays as arguments. Conditions: none. -/
namespace Go.Lx
open Go Go.Vc Go.Md
section rules
variable {P : Program} {cx : Cx} {e : Q6} {L : List Chunk}
end rules
theorem Jda {v : Value} (h : v.cells.toList = [v]) : v.cells.size = 1 := by have := congrArg List.length h; simpa using this
def litC (cs : List Value) (sz i : Nat) : List Value := (List.range sz).map fun j => ((cs.drop (i * sz)).take sz).getD j undef
theorem gAt_range {α : Type} {xs : List α} {i : Int} {x : α} (g : Qk xs i = some x) : Qk (List.range xs.length) i = some i.toNat := by
 obtain ⟨h0, h1, _⟩ := Xg g
 rw [gAt_ok h0 (by simpa using h1)]; simp
section rules
variable {P : Program} {n : Nat} {cx : Cx} {e : Q6} {L : List Chunk} {d : Nat} {ty : TypeId} {pos : String} {af : Array Edge} {g : Option (Nat × Bool)}
theorem r_cap {dd : Option Nat} {X : Operand} {t u m c : Nat} {a : Option Addr} (hu : P.underlying t = some (.slice u)) (hx : ev e X = .slice a m c) (w : World) :
  (execOp (ev e) ⟨dd, .call ⟨.builtin .cap, #[X], #[t]⟩, ty, pos, af, g⟩).run P w = .ok (.value (.int .i64 (c : Nat))) w := by
 simp [execOp, resolve, invoke, builtin, hx, Builtin.cap_, run_underlying hu, goInt]
theorem r_sliceH0 {dd : Option Nat} {X B : Operand} {g0 m c : Nat} {t u sz : Nat} {kb : IntKind} (hu : P.underlying t = some (.slice u)) (hs : ∀ w, (sizeOf u).run P w = .ok sz w)
  (hx : ev e X = .slice (some ⟨g0, 0, none⟩) m c) (hb : ev e B = .int kb 0) (w : World) :
  (execOp (ev e) ⟨dd, .slice t X none (some B) none, ty, pos, af, g⟩).run P w = .ok (.value (.slice (some ⟨g0, 0, none⟩) 0 c)) w := by
 have h := Jg6 (P := P) (d := dd) (ty := ty) (pos := pos) (af := af) (g := g) hu hs hx hb (Int.le_refl 0) (by omega) w
 have e1 : Yc (some (⟨g0, 0, none⟩ : Addr)) 0 c sz = some ⟨g0, 0, none⟩ := by
  unfold Yc; split
  ·rfl
  ·simp [Addr.add_lit]
 rw [h, e1]; rfl
end rules
end Go.Lx

/- Rules: slices of one's own whose elements hold slices: rows of raw cells, facts on what they stand for, and a pool of memory that nobody turns any more. Conditions: none. -/
namespace Go.Lx
open Go Go.Vc Go.Md
def idC (l : List Value) : List Value := l
def Un : Jt := fun _ => none
structure AllC {α : Type} (G : Jt → (Nat → Value) → α → Prop) (h : Jt) (sz : Nat) (css : List (List Value)) (xs : List α) : Prop where
 len : css.length = xs.length
 el : ∀ (i : Nat) (cs : List Value) (x : α), css[i]? = some cs → xs[i]? = some x → cs.length = sz ∧ G h (fun j => cs.getD j undef) x
section allc
variable {α : Type} {G : Jt → (Nat → Value) → α → Prop} {h h' : Jt} {sz : Nat} {css : List (List Value)} {xs ys : List α}
theorem AllC.nil : AllC G h sz [] ([] : List α) := ⟨rfl, by simp⟩
theorem AllC.snoc (p : AllC G h sz css xs) {cs : List Value} {x : α} (hl : cs.length = sz) (hG : G h (fun j => cs.getD j undef) x) : AllC G h sz (css ++ [cs]) (xs ++ [x]) := by
 refine ⟨by simp [p.len], fun i c y hc hy => ?_⟩
 rcases Nat.lt_or_ge i css.length with hi | hi
 ·rw [List.getElem?_append_left hi] at hc
  rw [List.getElem?_append_left (by rw [← p.len]; exact hi)] at hy
  exact p.el i c y hc hy
 ·rw [List.getElem?_append_right hi] at hc
  rw [List.getElem?_append_right (by rw [← p.len]; exact hi), ← p.len] at hy
  have h0 : i - css.length = 0 := by
   rcases Nat.eq_zero_or_pos (i - css.length) with h | h
   ·exact h
   ·obtain ⟨q, hq⟩ : ∃ q, i - css.length = q + 1 := ⟨i - css.length - 1, by omega⟩
    rw [hq] at hc; simp at hc
  rw [h0] at hc hy
  simp at hc hy
  subst hc hy
  exact ⟨hl, hG⟩
theorem AllC.mono [M : Mon G] (p : AllC G h sz css xs) (k : ∀ b o, h b = some o → h' b = some o) : AllC G h' sz css xs :=
 ⟨p.len, fun i c x hc hx => ⟨(p.el i c x hc hx).1, M.mono k _ _ (p.el i c x hc hx).2⟩⟩
theorem AllC.get (p : AllC G h sz css xs) {i : Int} {x : α} (g : Qk xs i = some x) : css[i.toNat]? = some (css.getD i.toNat []) := by
 obtain ⟨h0, h1, _⟩ := Xg g
 rw [List.getD_eq_getElem?_getD, List.getElem?_eq_getElem (by rw [p.len]; exact h1)]; rfl
theorem AllC.ix (p : AllC G h sz css xs) {i : Int} {x : α} (g : Qk xs i = some x) : Qk css i = some (css.getD i.toNat []) := by
 unfold Qk; rw [if_pos (Xg g).1]; exact p.get g
theorem AllC.at (p : AllC G h sz css xs) {i : Int} {x : α} (g : Qk xs i = some x) : G h (fun j => (css.getD i.toNat []).getD j undef) x := (p.el _ _ _ (p.get g) (Xg g).2.2).2
theorem AllC.app (p : AllC G h sz css xs) {by_ : Nat} {news zs : List α} {nc : List (List Value)} (g : Ja4 by_ xs news = some zs) (hn : nc.length = news.length) : Ja4 by_ css nc = some (css ++ nc) := by
 obtain ⟨_, h1, h2⟩ := Jeb g
 exact Jb7 (by rw [p.len, hn]; exact ⟨h1, h2⟩)
theorem AllC.snocG (p : AllC G h sz css xs) {by_ : Nat} {x : α} {zs : List α} {cs : List Value} (g : Ja4 by_ xs [x] = some zs) (hl : cs.length = sz) (hG : G h (fun j => cs.getD j undef) x) : AllC G h sz (css ++ [cs]) zs := by
 obtain ⟨rfl, _⟩ := Jeb g
 exact p.snoc hl hG
end allc
def Y1 (base hp : Jt) : Chunk where
 P S w := (∀ b o, base b = some o → hp b = some o) ∧ ∀ b o, hp b = some o → base b = some o ∨ (S b ∧ w.heap[b]? = some o)
 loc S w w' h := fun ⟨h1, h2⟩ => ⟨h1, fun b o hb => (h2 b o hb).imp id fun ⟨hs, hw⟩ => ⟨hs, (h b hs).trans hw⟩⟩
section rules
variable {cx : Cx} {K : Q6 → World → Prop} {e : Q6} {L : List Chunk} {base hp : Jt}
theorem Jce (base : Jt) (k : At cx K e (L ++ [Y1 base base])) : At cx K e L :=
 ⟨fun w hF hS => k.out w hF (hS.snoc hF (Grow.refl w) (S := Yt) ⟨fun _ _ h => h, fun _ _ h => .inl h⟩ (fun _ h => h.elim))⟩
theorem Jfe {w : World} {i : Nat} (hS : Sat cx w L) (hi : L[i]? = some (Y1 base hp)) (hb : ∀ b o, base b = some o → w.heap[b]? = some o) : ∀ b o, hp b = some o → w.heap[b]? = some o := fun b o h => by
 obtain ⟨S, hP, _⟩ := hS.at hi
 rcases hP.2 b o h with h | h
 ·exact hb b o h
 ·exact h.2
theorem Jbw {h : Jt} : ∀ b o, Un b = some o → h b = some o := fun _ _ h => by cases h
open Classical in
theorem Jdw {C : Chunk} {Φ : Jt → Prop} (i j : Nat) (hi : L[i]? = some (Y1 base hp)) (hj : L[j]? = some C) (hne : i ≠ j) (hb : ∀ w, Fr cx w → ∀ b o, base b = some o → w.heap[b]? = some o)
  (hC : ∀ S w (H : Jt), C.P S w → (∀ b o, S b → w.heap[b]? = some o → H b = some o) → (∀ b o, hp b = some o → H b = some o) → Φ H)
  (k : ∀ hp', (∀ b o, hp b = some o → hp' b = some o) → Φ hp' → At cx K e ((L.set i (Y1 base hp')).set j empC)) : At cx K e L :=
 ⟨fun w hF hS => by
  have hnow := Jfe hS hi (hb w hF)
  obtain ⟨fp, h1, h2, h3⟩ := hS.out
  have hil : i < L.length := by
   rcases Nat.lt_or_ge i L.length with h | h
   ·exact h
   ·simp [List.getElem?_eq_none h] at hi
  have hjl : j < L.length := by
   rcases Nat.lt_or_ge j L.length with h | h
   ·exact h
   ·simp [List.getElem?_eq_none h] at hj
  have hji : ¬ j = i := fun h => hne h.symm
  have le : ∀ b o, hp b = some o → (fun b => if fp j b then w.heap[b]? else hp b) b = some o := fun b o h => by
   show (if fp j b then w.heap[b]? else hp b) = some o
   split
   ·exact hnow b o h
   ·exact h
  refine (k (fun b => if fp j b then w.heap[b]? else hp b) le (hC (fp j) w _ (h1 j C hj) (fun b o hs h => by show (if fp j b then w.heap[b]? else hp b) = some o; rw [if_pos hs]; exact h) le)).out w hF ?_
  have key : ∀ q b, (if q = i then fp i b ∨ fp j b else if q = j then False else fp q b) → (q = i ∧ (fp i b ∨ fp j b)) ∨ (q ≠ i ∧ q ≠ j ∧ fp q b) := by
   intro q b h
   by_cases hqi : q = i
   ·simp only [hqi, if_true] at h; exact .inl ⟨hqi, h⟩
   ·by_cases hqj : q = j
    ·simp only [hqj, hji, if_true, if_false] at h
    ·simp only [hqi, hqj, if_false] at h; exact .inr ⟨hqi, hqj, h⟩
  refine ⟨fun q b => if q = i then fp i b ∨ fp j b else if q = j then False else fp q b, ?_, ?_, ?_⟩
  ·intro q c hc
   by_cases hqj : q = j
   ·subst hqj
    rw [List.getElem?_set_self (by simpa using hjl)] at hc
    cases hc
    show ∀ b, ¬ _
    intro b h
    simp [hji] at h
   ·rw [List.getElem?_set_ne (fun h => hqj h.symm)] at hc
    by_cases hqi : q = i
    ·subst hqi
     rw [List.getElem?_set_self hil] at hc
     cases hc
     simp only [if_true]
     have hP := h1 q _ hi
     refine ⟨fun b o h => le b o (hP.1 b o h), fun b o h => ?_⟩
     have h : (if fp j b then w.heap[b]? else hp b) = some o := h
     split at h
     ·rename_i hs; exact .inr ⟨.inr hs, h⟩
     ·rcases hP.2 b o h with h | h
      ·exact .inl h
      ·exact .inr ⟨.inl h.1, h.2⟩
    ·rw [List.getElem?_set_ne (fun h => hqi h.symm)] at hc
     simp only [hqi, hqj, if_false]
     exact h1 q c hc
  ·intro q b h
   rcases key q b h with ⟨rfl, h | h⟩ | ⟨_, _, h⟩
   ·have := h2 q b h; exact ⟨by simpa using hil, this.2⟩
   ·have := h2 j b h; exact ⟨by simpa using hil, this.2⟩
   ·have := h2 q b h; exact ⟨by simpa using this.1, this.2⟩
  ·intro q r b hq hr
   rcases key q b hq with ⟨hqi, hq | hq⟩ | ⟨hqi, hqj, hq⟩ <;> rcases key r b hr with ⟨hri, hr | hr⟩ | ⟨hri, hrj, hr⟩
   ·omega
   ·omega
   ·exact absurd (h3 i r b hq hr) (fun h => hri h.symm)
   ·omega
   ·omega
   ·exact absurd (h3 j r b hq hr) (fun h => hrj h.symm)
   ·exact absurd (h3 q i b hq hr) hqi
   ·exact absurd (h3 q j b hq hr) hqj
   ·exact h3 q r b hq hr⟩
theorem FrS.sub {w : World} {S : Nat → Prop} {H : Jt} {sz : Nat} {v : Value} {xs : List (List Value)} (f : FrS (fun b => w.heap[b]?) sz v xs) (hd : ∀ b, v.ownBlock = some b → S b) (hH : ∀ b o, S b → w.heap[b]? = some o → H b = some o) : FrS H sz v xs := by
 obtain ⟨a, c, rfl, h1, h2, r⟩ := f.out
 refine ⟨a, c, rfl, h1, h2, ?_⟩
 rcases r with r | ⟨b, off, cs, T, m, rfl, hb, r⟩
 ·exact .inl r
 ·exact .inr ⟨b, off, cs, T, m, rfl, hH b _ (hd b rfl) hb, r⟩
theorem fz_ro {α : Type} {sz n : Nat} {v : Value} {xs : List α} {f : α → List Value} (hp : Jt) : ∀ S w (H : Jt), (roV sz v n (xs.map f)).P S w → (∀ b o, S b → w.heap[b]? = some o → H b = some o) → (∀ b o, hp b = some o → H b = some o) → FrS H sz v (xs.map f) :=
 fun _ _ _ hP hH _ => hP.2.1.sub hP.2.2 hH
theorem fz_own {α : Type} {E sz n : Nat} {v : Value} {xs : List α} {f : α → List Value} (hp : Jt) : ∀ S w (H : Jt), (Jw E sz v n (xs.map f)).P S w → (∀ b o, S b → w.heap[b]? = some o → H b = some o) → (∀ b o, hp b = some o → H b = some o) → FrS H sz v (xs.map f) :=
 fun S w H hP hH k => fz_ro hp S w H ((Jbe E sz v n _).out S w hP) hH k
theorem frn_of {α : Type} {G : Jt → (Nat → Value) → α → Prop} {h : Jt} {sz : Nat} {v : Value} {css : List (List Value)} {xs : List α} (f : FrS h sz v (css.map idC)) (p : AllC G h sz css xs) : FrN h sz v G xs := by
 have hid : css.map idC = css := by unfold idC; simp
 rw [hid] at f
 have cellE : ∀ i, i < xs.length → Qt h v sz i = fun j => (css.getD i []).getD j undef := by
  intro i hi
  funext j
  have hi' : i < css.length := by rw [p.len]; exact hi
  have hcl : (css[i]).length = sz := (p.el i css[i] xs[i] (List.getElem?_eq_getElem hi') (List.getElem?_eq_getElem hi)).1
  have e1 : css.getD i [] = css[i] := by simp [List.getD_eq_getElem?_getD, List.getElem?_eq_getElem hi']
  rw [e1]
  by_cases hj : j < sz
  ·obtain ⟨a, c, rfl, _, _, r⟩ := f.out
   rcases r with r | ⟨b, off, cs, T, m, rfl, hb, r⟩
   ·subst r; simp at hi'
   ·have h2 := (r i css[i] (List.getElem?_eq_getElem hi')).2 j ((css[i])[j]'(by omega)) (List.getElem?_eq_getElem (by omega))
    simp only [Qt, if_pos hj, hb]
    rw [Array.getD_eq_getD_getElem?, h2]
    simp [List.getD_eq_getElem?_getD, List.getElem?_eq_getElem (show j < (css[i]).length by omega)]
  ·unfold Qt
   rw [if_neg hj, List.getD_eq_getElem?_getD, List.getElem?_eq_none (by omega)]; rfl
 have cells : ∀ i, i < xs.length → elC h v sz i = css.getD i [] := by
  intro i hi
  have hi' : i < css.length := by rw [p.len]; exact hi
  have hcl : (css[i]).length = sz := (p.el i css[i] xs[i] (List.getElem?_eq_getElem hi') (List.getElem?_eq_getElem hi)).1
  unfold elC
  rw [cellE i hi]
  have e1 : css.getD i [] = css[i] := by simp [List.getD_eq_getElem?_getD, List.getElem?_eq_getElem hi']
  rw [e1]
  apply List.ext_getElem
  ·simp [hcl]
  ·intro j h1 h2
   simp only [List.length_map, List.length_range] at h1
   simp [List.getD_eq_getElem?_getD, List.getElem?_eq_getElem h2]
 refine ⟨?_, fun i x hx => ?_⟩
 ·have e : (List.range xs.length).map (elC h v sz) = css := by
   apply List.ext_getElem
   ·simp [p.len]
   ·intro i h1 h2
    simp only [List.length_map, List.length_range] at h1
    rw [List.getElem_map, List.getElem_range, cells i h1]
    simp [List.getD_eq_getElem?_getD, List.getElem?_eq_getElem h2]
  rw [e]; exact f
 ·have hi : i < xs.length := by
   rcases Nat.lt_or_ge i xs.length with h | h
   ·exact h
   ·rw [List.getElem?_eq_none h] at hx; cases hx
  have hi' : i < css.length := by rw [p.len]; exact hi
  rw [cellE i hi]
  have e1 : css.getD i [] = css[i] := by simp [List.getD_eq_getElem?_getD, List.getElem?_eq_getElem hi']
  rw [e1]
  exact (p.el i css[i] x (List.getElem?_eq_getElem hi') hx).2
theorem app63 {α : Type} {by_ : Nat} {xs ys zs : List α} (g : Ja4 by_ xs ys = some zs) : (xs ++ ys).length * by_ ≤ 140737488355328 := by
 obtain ⟨_, _, h⟩ := Jeb g
 rwa [List.length_append]
open Classical in
theorem Jcl {hp1 : Jt} (i j : Nat) (hi : L[i]? = some (Y1 base hp)) (hj : L[j]? = some (Y1 Un hp1)) (hne : i ≠ j) (hb : ∀ w, Fr cx w → ∀ b o, base b = some o → w.heap[b]? = some o)
  (k : ∀ hp', (∀ b o, hp b = some o → hp' b = some o) → (∀ b o, hp1 b = some o → hp' b = some o) → At cx K e ((L.set i (Y1 base hp')).set j empC)) : At cx K e L :=
 Jdw (Φ := fun H => ∀ b o, hp1 b = some o → H b = some o) i j hi hj hne hb (fun S w H hP hH _ b o h => (hP.2 b o h).elim (fun h => by cases h) fun h => hH b o h.1 h.2) k
def Uo {α : Type} (E sz : Nat) (G : Jt → (Nat → Value) → α → Prop) (v : Value) (n : Nat) (xs : List α) : Chunk where
 P S w := ∃ (hp : Jt) (css : List (List Value)), AllC G hp sz css xs ∧ n = css.length ∧ (Q5 (Y1 Un hp) (Jw E sz v n (css.map idC))).P S w
 loc S w w' h := by
  rintro ⟨hp, css, h1, h2, h3⟩
  exact ⟨hp, css, h1, h2, Chunk.loc _ _ _ _ h h3⟩
def roD {α : Type} (sz : Nat) (G : Jt → (Nat → Value) → α → Prop) (v : Value) (n : Nat) (xs : List α) : Chunk where
 P S w := ∃ (hp : Jt) (css : List (List Value)), AllC G hp sz css xs ∧ n = css.length ∧ (Q5 (Y1 Un hp) (roV sz v n (css.map idC))).P S w
 loc S w w' h := by
  rintro ⟨hp, css, h1, h2, h3⟩
  exact ⟨hp, css, h1, h2, Chunk.loc _ _ _ _ h h3⟩
theorem U3 {α : Type} {G : Jt → (Nat → Value) → α → Prop} {E sz n : Nat} {p : Option Addr × Nat} {css : List (List Value)} {xs : List α} (hn : n = css.length) (f : AllC G hp sz css xs) :
  Imp (Q5 (Y1 Un hp) (Jw E sz (.slice p.1 n p.2) n (css.map idC))) (Uo E sz G (.slice p.1 n p.2) n xs) := ⟨fun S w h => ⟨hp, css, f, hn, h⟩⟩
theorem Jdh {α : Type} {G : Jt → (Nat → Value) → α → Prop} {sz n : Nat} {p : Option Addr × Nat} {css : List (List Value)} {xs : List α} (hn : n = css.length) (f : AllC G hp sz css xs) :
  Imp (Q5 (Y1 Un hp) (roV sz (.slice p.1 n p.2) n (css.map idC))) (roD sz G (.slice p.1 n p.2) n xs) := ⟨fun S w h => ⟨hp, css, f, hn, h⟩⟩
theorem c_show {C : Chunk} {τ : Type} {D : τ → Chunk} {φ : τ → Prop} (i : Nat) (hi : L[i]? = some C) (h : ∀ S w, C.P S w → ∃ t, φ t ∧ (D t).P S w) (k : ∀ t, φ t → At cx K e (L.set i (D t))) : At cx K e L :=
 ⟨fun w hF hS => by
  obtain ⟨fp, h1, h2, h3⟩ := hS.out
  obtain ⟨t, ht, hD⟩ := h _ _ (h1 i _ hi)
  have hil : i < L.length := by
   rcases Nat.lt_or_ge i L.length with h | h
   ·exact h
   ·simp [List.getElem?_eq_none h] at hi
  refine (k t ht).out w hF ⟨fp, fun j c hj => ?_, fun j b hb => by simpa using h2 j b hb, h3⟩
  by_cases hji : j = i
  ·subst hji
   rw [List.getElem?_set_self hil] at hj
   cases hj
   exact hD
  ·rw [List.getElem?_set_ne (fun h => hji h.symm)] at hj
   exact h1 j c hj⟩
theorem c_rowD {α : Type} {G : Jt → (Nat → Value) → α → Prop} {E sz n : Nat} {p : Option Addr × Nat} {xs : List α} (i : Nat) (hi : L[i]? = some (Uo E sz G (.slice p.1 n p.2) n xs))
  (k : ∀ (hp : Jt) (css : List (List Value)), n = css.length → AllC G hp sz css xs → At cx K e (L.set i (Q5 (Y1 Un hp) (Jw E sz (.slice p.1 n p.2) n (css.map idC))))) : At cx K e L :=
 c_show (τ := Jt × List (List Value)) (D := fun t => Q5 (Y1 Un t.1) (Jw E sz (.slice p.1 n p.2) n (t.2.map idC))) (φ := fun t => n = t.2.length ∧ AllC G t.1 sz t.2 xs) i hi (fun S w ⟨hp, css, h1, h2, h3⟩ => ⟨(hp, css), ⟨h2, h1⟩, h3⟩) fun t ht => k t.1 t.2 ht.1 ht.2
theorem c_roD {α : Type} {G : Jt → (Nat → Value) → α → Prop} {sz n : Nat} {p : Option Addr × Nat} {xs : List α} (i : Nat) (hi : L[i]? = some (roD sz G (.slice p.1 n p.2) n xs))
  (k : ∀ (hp : Jt) (css : List (List Value)), n = css.length → AllC G hp sz css xs → At cx K e (L.set i (Q5 (Y1 Un hp) (roV sz (.slice p.1 n p.2) n (css.map idC))))) : At cx K e L :=
 c_show (τ := Jt × List (List Value)) (D := fun t => Q5 (Y1 Un t.1) (roV sz (.slice p.1 n p.2) n (t.2.map idC))) (φ := fun t => n = t.2.length ∧ AllC G t.1 sz t.2 xs) i hi (fun S w ⟨hp, css, h1, h2, h3⟩ => ⟨(hp, css), ⟨h2, h1⟩, h3⟩) fun t ht => k t.1 t.2 ht.1 ht.2
end rules
end Go.Lx

/- The kit's contracts of slices.Sort at rows of one's own: the row is sorted in place. Conditions: the row is shorter than 2^62. -/
namespace Go.Vc
open Go Go.Md Go.Shelf Go.Sort Go.Proofs
theorem flat1 {α : Type} (f : α → Value) (l : List α) : (l.map fun x => [f x]).flatten = l.map f := by
 induction l with
 | nil => rfl
 | cons x l ih => simp [ih]
theorem sort_ints {P : Program} {ρ : Ren} (Ly : Lays.n189 P ρ) {E : TypeId} {a0 r : List Int} {p0 : Option Addr × Nat} {n0 : Nat} {w : World} {S : Nat → Prop}
  (hcs : (Jw E 1 (.slice p0.1 n0 p0.2) n0 (a0.map fun x => [.int .i64 x])).P S w) (hlt : ∀ b, S b → b < w.heap.size) (hn0 : n0 = a0.length) (H : gSortI a0 = some r) :
  Does P (ρ.f 189) (List.toArray [.slice p0.1 n0 p0.2]) w (fun v w' => ∃ _ : Unit, v = .tuple #[] ∧ Turn w w' S (Jw E 1 (.slice p0.1 n0 p0.2) n0 (r.map fun x => [.int .i64 x]))) := by
 obtain ⟨p, c⟩ := p0
 unfold gSortI at H
 split at H
 case isFalse => cases H
 rename_i hsz
 cases H
 subst hn0
 have hcs0 := hcs
 obtain ⟨⟨hown, hlen, hall⟩, hb⟩ := hcs
 rw [flat1] at hown
 rcases hown.2 with ⟨h0, h1⟩ | ⟨g, cap, cur, hv, hbase, hh, h1, h2, h3, h4⟩
 ·have hnil : a0 = [] := List.eq_nil_of_length_eq_zero h1
  subst hnil
  refine Calls.mono (Any.slices_Sort_int_none Ly p c w) ?_
  rintro e w' ⟨rfl, rfl⟩
  exact ⟨_, rfl, (), rfl, ⟨rfl, rfl, rfl, Nat.le_refl _, fun _ _ _ => rfl, S, by simpa using hcs0, fun b h => ⟨hlt b h, .inl h⟩⟩⟩
 ·simp only [Value.slice.injEq] at hv
  obtain ⟨hv1, -, hv2⟩ := hv
  subst hv1 hv2
  have hgl : g < w.heap.size := (Array.getElem?_eq_some_iff.1 hh).1
  have hH : Holds (Value.int .i64) w g 0 a0.toArray := holds_of_blockI hh (by simpa using h4)
  refine Calls.mono (Any.slices_Sort_int Ly g 0 c a0 w hH hgl hsz) ?_
  rintro e w' ⟨rfl, n, os, rfl⟩
  have hl : (a0.mergeSort fun x y => decide (x ≤ y)).length = a0.length := List.length_mergeSort _
  have hG := grownBy_sortedI (w := w) (g := g) (n := n) (os := os) (a0.mergeSort fun x y => decide (x ≤ y)).toArray
  obtain ⟨g1, g2, g3, g4, g5⟩ := hG
  have hR := ownsRow_sortedI (base := 0) (w := w) (n := n) (os := os) hl (Nat.zero_le _) hh h1 h2 h3
  have hSg : S g := hb g rfl
  refine ⟨_, rfl, (), rfl, ⟨g1, g2, g3, g4, fun b hbl hnb => g5 b hbl (fun h => hnb (by cases h; exact hSg)), S, ⟨⟨by rw [flat1]; exact hR, by simp [hl], fun x hx => ?_⟩, hb⟩, fun b h => ⟨Nat.lt_of_lt_of_le (hlt b h) g4, .inl h⟩⟩⟩
  obtain ⟨y, _, rfl⟩ := List.mem_map.1 hx
  rfl
end Go.Vc

/- The kit's contracts of decimal numerals, of octets in strings, of strings.Repeat and strings.Join, in our words; tables among the package's variables. Conditions: none. -/
namespace Go.Lx
open Go Go.Vc Go.Md Go.Shelf Go.Proofs
theorem ixB_lib (l : List UInt8) (c : UInt8) : ixB l c = Lib.indexByte l c := by
 induction l with
 | nil => rfl
 | cons b l ih => simp only [ixB, Lib.indexByte, ih, beq_iff_eq]
theorem run_ixB {P : Program} {s : List UInt8} {c r : Int} (h : gIxB s c = some r) (w : World) : (Extern.BytealgIndexByte.indexByte #[Jk s, .int .u8 c]).run P w = .ok (.int .i64 r) w := by
 cases h
 rw [Lib.run_indexByteString, ixB_lib]
theorem run_cnB {P : Program} {s : List UInt8} {c r : Int} (h : gCnB s c = some r) (w : World) : (Extern.BytealgCount.count #[Jk s, .int .u8 c]).run P w = .ok (.int .i64 r) w := by
 cases h
 rw [Lib.run_countString]; rfl
def TabH (P : Program) (h : Jt) (name : String) (k : IntKind) (zs : List Int) : Prop := ∃ g T m, P.globalNamed name = some g ∧ h g = some (.cells (zs.map fun z => Value.int k z).toArray T m)
theorem TabH.mono {P : Program} {h h' : Jt} {name : String} {k : IntKind} {zs : List Int} (t : TabH P h name k zs) (hh : ∀ b o, h b = some o → h' b = some o) : TabH P h' name k zs := by
 obtain ⟨g, T, m, h1, h2⟩ := t
 exact ⟨g, T, m, h1, hh _ _ h2⟩
theorem TabH.tab {P : Program} {h : Jt} {name : String} {k : IntKind} {zs : List Int} (t : TabH P h name k zs) {w : World} (hw : ∀ b o, h b = some o → w.heap[b]? = some o) : Lib.TabIs P w name k zs := by
 obtain ⟨g, T, m, h1, h2⟩ := t
 unfold Lib.TabIs World.var?
 rw [h1]
 show (match w.heap[g]? with | some (.cells cs _ _) => some cs | _ => none) = _
 rw [hw _ _ h2]
theorem tabH_of {P : Program} {w : World} {name : String} {k : IntKind} {zs : List Int} (t : Lib.TabIs P w name k zs) : TabH P (fun b => w.heap[b]?) name k zs := by
 unfold Lib.TabIs World.var? at t
 cases hg : P.globalNamed name with
 | none => rw [hg] at t; cases t
 | some g =>
  rw [hg] at t
  have t : (match w.heap[g]? with | some (.cells cs _ _) => some cs | _ => none) = some (zs.map fun z => Value.int k z).toArray := t
  split at t
  ·rename_i cs T m hc
   cases t
   exact ⟨g, T, m, hg, hc⟩
  ·cases t
theorem decD_lib (u : Nat) : Jcs u = Lib.decDigits u := by
 induction u using Nat.strongRecOn with
 | ind u ih =>
  rw [Jcs, Lib.decDigits]
  by_cases h : u < 10
  ·rw [if_pos h, dif_pos h]
  ·rw [if_neg h, dif_neg h, ih _ (by omega)]
theorem itoaL_lib (n : Int) : Jbr n = Lib.itoa n := by
 unfold Jbr Lib.itoa; rw [decD_lib, decD_lib]
theorem itoa_does {P : Program} {ρ : Ren} (L : LaysM.n171 P ρ) {n : Int} {r : List UInt8} {w : World} {h : Jt} (hw : Know h w Yt) (ht : TabH P h "internal/strconv.uint64pow10" .u64 Lib.pow10Tab) (H : gItoa n = some r) :
  Does P (ρ.f 171) (List.toArray [.int .i64 n]) w (fun v w' => v = Jk r ∧ Grow w w') := by
 unfold gItoa at H
 split at H
 case isFalse => cases H
 rename_i hr
 cases H
 refine Calls.mono (Any.strconv_Itoa L n hr.1 hr.2 w (ht.tab fun b o hb => (hw b o hb).1)) ?_
 rintro e w' ⟨rfl, k, os, rfl⟩
 exact ⟨_, rfl, by rw [itoaL_lib], Lib.below_grow _ _ (Nat.le_refl _) _ _⟩
theorem digV_lib (b : UInt8) : digV b = Lib.digitVal b := rfl
theorem decF_lib (acc : Nat) (l : List UInt8) : Jz acc l = Lib.decFrom acc l := by
 induction l generalizing acc with
 | nil => rfl
 | cons b l ih =>
  simp only [Jz, Lib.decFrom, digV_lib, ih]
  cases Lib.digitVal b <;> rfl
theorem decN_lib (l : List UInt8) : decN l = Lib.decNat l := by simp only [decN, Lib.decNat, decF_lib]
theorem atoiL_lib (l : List UInt8) : atoiL l = Lib.atoi l := by
 cases l with
 | nil => rfl
 | cons b l => simp only [atoiL, Lib.atoi, decN_lib]
theorem atoi_ret {P : Program} {ρ : Ren} (L : Lays.n172 P ρ) {s : List UInt8} {n : Int} (H : Je5 s = some n) : Ret P (ρ.f 172) [Jk s] (.tuple #[.int .i64 n, .nilIface]) := fun w => by
 unfold Je5 at H
 split at H
 case isFalse => cases H
 rename_i hr
 refine Calls.mono (Any.strconv_Atoi L ⟨s.toArray⟩ n (by simpa [ByteArray.size] using hr) (by rw [atoiL_lib] at H; exact H) w) ?_
 rintro e w' ⟨rfl, t, rfl⟩
 exact ⟨_, rfl, rfl, Go.Joins.below_bytesWorld _ _ _ _ (Nat.le_refl _)⟩
theorem join_does {P : Program} {ρ : Ren} (L : Lays.n156 P ρ) (X : Builder.Extra P ρ) {l : List (List UInt8)} {sep r : List UInt8} {v : Value} {w : World} {h : Jt} (hw : Know h w Yt) (f : FrS h 1 v (l.map fun x => [Jk x])) (H : gJoin l sep = some r) :
  Does P (ρ.f 156) (List.toArray [v, Jk sep]) w (fun v w' => v = Jk r ∧ Grow w w') := by
 unfold gJoin at H
 split at H
 case isFalse => cases H
 rename_i hr
 cases H
 obtain ⟨a, c, rfl, h1, h2, hrow⟩ := f.out
 simp only [List.length_map] at h1 ⊢
 have hm : (l.map fun x => (⟨x.toArray⟩ : ByteArray)).map (·.data.toList) = l := by rw [List.map_map]; exact List.map_id'' (fun _ => by simp) l
 rcases hrow with hn | ⟨b, off, cs, T, m, rfl, hb, hc⟩
 ·have hl : l = [] := by simpa using hn
  subst hl
  refine Calls.mono (Any.strings_Join_none L X a c ⟨sep.toArray⟩ w) ?_
  rintro e w' ⟨rfl, rfl⟩
  exact ⟨_, rfl, by simp [List.intercalate], Grow.refl _⟩
 ·have hh := (hw _ _ hb).1
  have hlt : b < w.heap.size := (Array.getElem?_eq_some_iff.1 hh).1
  have := Any.strings_Join L X b off c (l.map fun x => (⟨x.toArray⟩ : ByteArray)) ⟨sep.toArray⟩ w (fun j x hx => by
   rw [List.getElem?_map, Option.map_eq_some_iff] at hx
   obtain ⟨y, hy, rfl⟩ := hx
   have := (hc j [Jk y] (by rw [List.getElem?_map, hy]; rfl)).2 0 (Jk y) rfl
   simp only [Nat.mul_one, Nat.add_zero] at this
   simp [World.cell?, hh, this]) hlt (by simpa using hr.1) (by simpa using h1) (by rw [hm]; exact hr.2)
  rw [List.length_map, hm] at this
  refine Calls.mono this ?_
  rintro e w' ⟨rfl, hb⟩
  exact ⟨_, rfl, rfl, hb⟩
end Go.Lx

/- The kit's contract of slices.Compact at rows of one's own. Conditions: none. -/
namespace Go.Vc
open Go Go.Md Go.Shelf Go.Sort Go.Proofs
theorem cmpL_snoc {α : Type} [DecidableEq α] : ∀ (l : List α) (x : α), cmpL (l ++ [x]) = cmpL l ++ (if l.getLast? = some x then [] else [x]) := by
 have key : ∀ (l : List α) (p x : α), Zc p (l ++ [x]) = Zc p l ++ (if (p :: l).getLast? = some x then [] else [x]) := by
  intro l
  induction l with
  | nil =>
   intro p x
   by_cases h : x = p
   ·simp [Zc, h]
   ·have h' : ¬ p = x := fun e => h e.symm
    simp [Zc, h, h']
  | cons y l ih =>
   intro p x
   by_cases h : y = p
   ·subst h
    simp only [List.cons_append, Zc, if_true, ih]
    simp
   ·simp only [List.cons_append, Zc, h, if_false, ih]
    simp
 intro l x
 cases l with
 | nil => simp [cmpL, Zc]
 | cons y l => simp only [List.cons_append, cmpL, key]
theorem getLast?_at {α : Type} [Inhabited α] (l : List α) (m : Nat) (hm : m + 1 ≤ l.length) : (l.take (m + 1)).getLast? = some l.toArray[m]! := by
 rw [List.getLast?_eq_getElem?, List.length_take, Nat.min_eq_left hm, List.getElem?_take, if_pos (by omega)]
 have h : m < l.length := by omega
 simp [List.getElem?_eq_getElem h, getElem!_pos, h]
theorem compact_lib {α : Type} [Inhabited α] [DecidableEq α] (l : List α) : Lib.compact l = cmpL l := by
 have key : ∀ m, m ≤ l.length → Lib.compactUpTo l.toArray m = cmpL (l.take m) := by
  intro m
  induction m with
  | zero => intro _; simp [Lib.compactUpTo, cmpL]
  | succ m ih =>
   intro hm
   have h : m < l.length := by omega
   rw [Lib.compactUpTo_succ, ih (by omega), List.take_add_one, List.getElem?_eq_getElem h, Option.toList_some, cmpL_snoc]
   congr 1
   have e : l.toArray[m]! = l[m] := by simp [getElem!_pos, h]
   rw [e]
   cases m with
   | zero => simp [Lib.keeps]
   | succ m =>
    rw [getLast?_at l m (by omega)]
    by_cases hk : l.toArray[m]! = l[m + 1]
    ·rw [Lib.keeps_neg (by omega) (by rw [e]; exact hk.symm), hk, if_pos rfl]; rfl
    ·rw [Lib.keeps_pos (by rw [e]; exact fun h => hk h.symm), if_pos rfl, if_neg (fun h => hk (Option.some.inj h))]
 have := key l.length (Nat.le_refl _)
 rw [List.take_length] at this
 exact this
theorem cmpL_len {α : Type} [DecidableEq α] (l : List α) : (cmpL l).length ≤ l.length := by
 have key : ∀ (l : List α) (p : α), (Zc p l).length ≤ l.length := by
  intro l
  induction l with
  | nil => intro p; simp [Zc]
  | cons y l ih =>
   intro p
   simp only [Zc]
   split
   ·have := ih p; simp only [List.length_cons]; omega
   ·have := ih y; simp only [List.length_cons]; omega
 cases l with
 | nil => simp [cmpL]
 | cons y l => have := key l y; simp only [cmpL, List.length_cons]; omega
end Go.Vc
namespace Go.Lx
open Go Go.Vc
section ops
variable {P : Program} {e : Q6} {d : Option Nat} {ty : TypeId} {pos : String} {af : Array Edge} {g : Option (Nat × Bool)}
theorem r_eqlErr {X : Operand} {t : TypeId} (hx : ev e X = .nilIface) (ht : ∀ w, (Op.equalIn Op.maxDepth t .nilIface .nilIface).run P w = .ok true w) {t' : TypeId} (w : World) :
  (execOp (ev e) ⟨d, .binOp .eql t X (.const .nilIface) t', ty, pos, af, g⟩).run P w = .ok (.value (.bool true)) w := by
 have hy : ev e (.const .nilIface) = .nilIface := rfl
 simp [execOp, hx, hy, eqGuard, binOp, Op.equal, ht]
end ops
end Go.Lx

/- Rules: rows of one's own that are known to have room: append within it. Conditions: none. -/
namespace Go.Lx
open Go Go.Vc Go.Md
def _root_.Go.Vc.Kd.dv (a : Nat) (rds : List Nat) (φ : Value → Value) : Kd := .g [a] rds [] (fun vs _ v => v = φ (vs.headD undef)) (fun _ _ _ => [])
section rules
variable {P : Program} {cx : Cx} {ops : Array Oper} {F : Q6 → List Chunk → Prop} {ss : List Kd} {rest : List Oper} {e : Q6} {L : List Chunk}
end rules
def rowC (E : TypeId) (sz : Nat) (v : Value) (n : Nat) (xs : List (List Value)) (c : Nat) : Chunk where
 P S w := (Jw E sz v n xs).P S w ∧ c ≤ sc v
 loc S w w' h := fun ⟨h1, h2⟩ => ⟨(Jw E sz v n xs).loc S w w' h h1, h2⟩
theorem Jg3 (E : TypeId) (sz : Nat) (v : Value) (n : Nat) (xs : List (List Value)) (c : Nat) : Imp (rowC E sz v n xs c) (Jw E sz v n xs) := ⟨fun _ _ h => h.1⟩
theorem imp_C0 (E : TypeId) (sz : Nat) (v : Value) : Imp (Jw E sz v 0 []) (rowC E sz v 0 [] 0) := ⟨fun _ _ h => ⟨h, Nat.zero_le _⟩⟩
section rules
variable {P : Program} {n : Nat} {cx : Cx} {e : Q6} {L : List Chunk} {d : Nat} {ty : TypeId} {pos : String} {af : Array Edge} {g : Option (Nat × Bool)}
theorem Jhl {S X : Operand} {t E : TypeId} {I : TypeInfo} {sz : Nat} {w : World} {v : Value} {m : Nat} {xs : List Value} {ad : Addr} {q c : Nat} {news : List Value}
  (ht : P.underlying t = some (.slice E)) (hi : P.info? E = some I) (hsize : I.size = sz)
  (hs : ev e S = v) (hown : w.ownsRow 0 E sz v m xs) (hx : ev e X = .slice (some ad) q c) (hl : news.length = q * sz) (hnews : ∀ j u, news[j]? = some u → w.cell? (ad.add j) = some u) (h1 : ∀ u ∈ news, u.oneCell' = true) (hroom : m + q ≤ sc v) :
  ∃ v' w', (execOp (ev e) ⟨some d, .call ⟨.builtin .append, #[S, X], #[t, t]⟩, ty, pos, af, g⟩).run P w = .ok (.value v') w' ∧ w'.ownsRow 0 E sz v' (m + q) (xs ++ news) ∧ w.grownBy w' v.ownBlock ∧ v'.ownBlock = v.ownBlock ∧ sc v' = sc v := by
 subst hsize
 have hlen : (xs ++ news).length = (m + q) * I.size := by rw [List.length_append, hown.1, hl, Nat.add_mul]
 rcases hown.2 with ⟨rfl, rfl⟩ | ⟨g0, cap, cur, rfl, hbg, hg, hnc, hcm, hcs, htake⟩
 ·have hq : q = 0 := by simp only [sc] at hroom; omega
  subst hq
  have hn : news = [] := List.eq_nil_of_length_eq_zero (by simpa using hl)
  subst hn
  have hxs : xs = [] := List.eq_nil_of_length_eq_zero (by simpa using hown.1)
  subst hxs
  refine ⟨.slice none 0 0, w, ?_, World.ownsRow_nil w 0 E I.size, ⟨rfl, rfl, rfl, Nat.le_refl _, fun _ _ _ => rfl⟩, rfl, rfl⟩
  have hr : (Builtin.append_ #[t, t] ty #[.slice none 0 0, .slice (some ad) 0 c]).run P w = .ok (.slice none 0 0) w := by
   simp [Builtin.append_, run_underlying ht, sizeOf, typeInfo, hi, Builtin.lenOf, Builtin.firstCells, loadCells, loadCellsFrom]
  simp only [execOp, resolve, invoke, builtin, Sem.run_bind, Sem.run_pure, Result.andThen_ok, List.map_toArray, List.map_cons, List.map_nil, hs, hx, hr]
 ·simp only [sc] at hroom
  have hfit : m * I.size + news.length ≤ cur.size := by rw [hl, hcs, ← Nat.add_mul]; exact Nat.mul_le_mul_right _ hroom
  have hr := run_append_room (P := P) w t ty E I ht hi g0 m cap cur hg ad q c news hl hnews h1 hroom hfit
  have he : (execOp (ev e) ⟨some d, .call ⟨.builtin .append, #[S, X], #[t, t]⟩, ty, pos, af, g⟩).run P w = .ok (.value (.slice (some ⟨g0, 0, none⟩) (m + q) cap)) (w.setRow g0 (cur.toList.take (m * I.size) ++ news ++ cur.toList.drop (m * I.size + news.length)).toArray) := by
   simp only [execOp, resolve, invoke, builtin, Sem.run_bind, Sem.run_pure, Result.andThen_ok, List.map_toArray, List.map_cons, List.map_nil, hs, hx, hr]
  refine ⟨_, _, he, ⟨hlen, .inr ⟨g0, cap, _, rfl, hbg, setRow_heap w g0 cur _ E _ hg, hroom, hcm, ?_, ?_⟩⟩, ⟨rfl, rfl, rfl, by simp, fun k _ hk => setRow_other w g0 k _ (fun e => hk (by simp [Value.ownBlock, e]))⟩, rfl, rfl⟩
  ·simp only [List.size_toArray, List.length_append, List.length_take, List.length_drop, Array.length_toList]
   omega
  ·rw [htake, ← hlen]
   exact List.take_left
theorem turns_appC {α : Type} {f : α → List Value} {ys ls zs : List α} {i : Nat} {S X : Operand} {t E : TypeId} {I : TypeInfo} {z : Value} {sz by_ : Nat} {p : Option Addr × Nat} {rds : List Nat} {V : Value} {a : Option Addr} {c m q cp : Nat} (hn : m = ys.length)
  (ht : P.underlying t = some (.slice E)) (hi : P.info? E = some I) (_hz : I.zero = some z) (hsize : I.size = sz) (_hby : I.bytes = by_) (_hzs : z.cells.size = sz) (_hsz : Nat.blt 0 sz = true)
  (hL : L[i]? = some (rowC E sz (.slice p.1 m p.2) m (ys.map f) cp)) (hs : ev e S = .slice p.1 m p.2) (hx : ev e X = V) (hV : V = .slice a q c) (hq : q = ls.length)
  (hnews : ∀ w L', Fr cx w → Sat cx w L' → (∀ j, j ∈ rds → L'[j]? = L[j]?) → Row w a sz (ls.map f)) (hf : ∀ x, (f x).length = sz) (h1 : ∀ x, (f x).all Value.oneCell' = true) (hg : gApC cp ys ls = some zs) :
  Turns P cx e ⟨some d, .call ⟨.builtin .append, #[S, X], #[t, t]⟩, ty, pos, af, g⟩ L i rds (fun p' : Option Addr × Nat => .slice p'.1 zs.length p'.2) (fun p' => rowC E sz (.slice p'.1 zs.length p'.2) zs.length (zs.map f) cp) := by
 subst hn hq
 obtain ⟨rfl, hb1⟩ := gApC_some hg
 intro w L' hF hS hl hi'
 have hr := hnews w L' hF hS fun j hj => hi' j (.inl hj)
 have hL' := (hi' i (.inr rfl)).trans hL
 obtain ⟨S0, ⟨⟨⟨ho, hlen, hlx⟩, hob⟩, hcp⟩, _⟩ := hS.at hL'
 cases ha : a with
 | some ad =>
  subst ha
  have hnl : ∀ x ∈ ls.map f, x.length = sz := fun x hx => by obtain ⟨y, _, rfl⟩ := List.mem_map.1 hx; exact hf y
  have hfl : (ls.map f).flatten.length = ls.length * sz := by rw [Jcm (ls.map f) hnl, List.length_map]
  have hcell : ∀ j u, (ls.map f).flatten[j]? = some u → w.cell? (ad.add j) = some u := by
   intro j u hj
   obtain ⟨i', k', x, g1, g2, g3⟩ := Je1 (ls.map f) hnl j u hj
   rcases hr with h | ⟨b, off, ha, h⟩
   ·rw [h] at g1; simp at g1
   ·cases ha
    have := (h i' x g1).2 k' u g2
    rw [Addr.add_lit, g3, ← Nat.add_assoc]
    exact this
  obtain ⟨v', w', hrun, h2, h3, h5, h6⟩ := Jhl (P := P) (ty := ty) (pos := pos) (af := af) (g := g) (d := d) ht hi hsize hs ho (hx.trans hV) hfl hcell (by
   intro u hu
   obtain ⟨x, hx, hux⟩ := List.mem_flatten.1 hu
   obtain ⟨y, _, rfl⟩ := List.mem_map.1 hx
   exact List.all_eq_true.1 (h1 y) u hux) (Nat.le_trans hb1.1 hcp)
  obtain ⟨p', rfl⟩ := Jb5 h2
  rw [← List.flatten_append] at h2
  have hlc : (zs_ : List α) → zs_ = ys ++ ls → True := fun _ _ => trivial
  obtain ⟨hF', hS'⟩ := hS.turnOf hF hL' (C := rowC E sz (.slice p'.1 (ys.length + ls.length) p'.2) (ys.length + ls.length) ((ys.map f) ++ (ls.map f)) cp) fun S1 hp => by
   have ht := Jbu hp.1.2 h2 h3 (.inl h5) (by simp) (by
    intro x hx
    rcases List.mem_append.1 hx with h | h
    ·exact hlx x h
    ·exact hnl x h)
   obtain ⟨k1, k2, k3, k4, k5, S2, k6, k7⟩ := ht
   exact ⟨k1, k2, k3, k4, k5, S2, ⟨k6, by rw [h6]; exact hcp⟩, k7⟩
  unfold RunsTo
  rw [hrun]
  refine ⟨p', by rw [List.length_append], hF', ?_⟩
  rw [List.length_append, List.map_append]
  exact hS'
 | none =>
  subst ha
  have hls : ls = [] := by
   rcases hr with h | ⟨b, off, h, _⟩
   ·simpa using h
   ·cases h
  subst hls
  have he : (execOp (ev e) ⟨some d, .call ⟨.builtin .append, #[S, X], #[t, t]⟩, ty, pos, af, g⟩).run P w = .ok (.value (.slice p.1 ys.length p.2)) w := by
   simp only [execOp, resolve, invoke, builtin, Sem.run_bind, Sem.run_pure, Result.andThen_ok, List.map_toArray, List.map_cons, List.map_nil, hs, hx, hV, List.length_nil, Jb2 t ty E I sz ht hi _ _ _ c ho]
  unfold RunsTo
  rw [he]
  refine ⟨p, by simp, hF, ?_⟩
  have : L'.set i (rowC E sz (.slice p.1 (ys.length + 0) p.2) (ys.length + 0) ((ys ++ []).map f) cp) = L' := by
   rw [List.append_nil, Nat.add_zero]
   refine List.ext_getElem? fun j => ?_
   rw [List.getElem?_set]
   split
   ·rename_i h; subst h
    split
    ·exact hL'.symm
    ·rename_i h; rw [List.getElem?_eq_none (by omega)]
   ·rfl
  rw [List.append_nil] at this ⊢
  rw [show ys.length + 0 = ys.length from rfl] at this
  rw [this]
  exact hS
theorem makes_zerosC {S N : Operand} {t tn E : TypeId} {I : TypeInfo} {z : Value} {sz by_ m : Nat} {k kn : IntKind} {rds : List Nat} (ht : P.underlying t = some (.slice E)) (htn : P.underlying tn = some (.int kn)) (hi : P.info? E = some I) (hz : I.zero = some z) (hsize : I.size = sz) (hby : I.bytes = by_) (hzs : z.cells.size = sz) (hsz : Nat.blt 0 sz = true)
  (hs : ev e S = .slice none 0 0) (hn : ev e N = .int k (m : Int)) (h0 : 0 < m) (hm : m ≤ 281474976710656) (hb : by_ * m ≤ 281474976710656) :
  Jfd P cx e ⟨some d, .call ⟨.builtin .append, #[S, N], #[t, tn]⟩, ty, pos, af, g⟩ L rds (fun x : Nat × Nat => .slice (some ⟨x.1, 0, none⟩) m x.2) (fun x => rowC E sz (.slice (some ⟨x.1, 0, none⟩) 0 x.2) 0 [] m) := fun w L' hF hS hi' => by
 subst hsize hby
 have hr := Lib.run_append_nil_zeros (P := P) w t tn ty E I z k kn ht htn hi hz m h0 (by simpa using hsz) (by omega) (by rw [Nat.mul_comm]; omega)
 have hge := grownCap_ge w m 0 E
 have hcm : grownCap w m 0 E ≤ maxLen := grownCap_le_maxLen w m 0 E (by simp only [maxLen]; omega)
 have he : (execOp (ev e) ⟨some d, .call ⟨.builtin .append, #[S, N], #[t, tn]⟩, ty, pos, af, g⟩).run P w = .ok (.value (.slice (some ⟨w.heap.size, 0, none⟩) m (grownCap w m 0 E))) (w.drew.alloc (.cells (Builtin.zeroCells z.cells m ++ Builtin.zeroCells z.cells (grownCap w m 0 E - m)) E)) := by
  simp only [execOp, resolve, invoke, builtin, Sem.run_bind, Sem.run_pure, Result.andThen_ok, List.map_toArray, List.map_cons, List.map_nil, hs, hn, hr]
 unfold RunsTo
 rw [he]
 have hby := Jgr w (.cells (Builtin.zeroCells z.cells m ++ Builtin.zeroCells z.cells (grownCap w m 0 E - m)) E) none
 refine ⟨(w.heap.size, grownCap w m 0 E), rfl, hby.os, hby.tape, hby.output, hby.size, fun b hb _ => hby.block b hb (by simp), fun b => b = w.heap.size, ⟨⟨⟨⟨by simp, .inr ⟨w.heap.size, _, _, rfl, Nat.zero_le _, heap_alloc_new w.drew _, Nat.zero_le _, hcm, ?_, by simp⟩⟩, rfl, by simp⟩, fun b hb => ?_⟩, hge⟩, fun b hb => ?_⟩
 ·simp only [Array.size_append, size_zeroCells, hzs]
  rw [← Nat.add_mul]
  congr 1
  omega
 ·simp [Value.ownBlock] at hb; exact hb.symm
 ·subst hb
  exact ⟨by simp, .inr (Nat.le_refl _)⟩
end rules
end Go.Lx

/- Taking elements out of a row of one's own: append(s[:a], s[b:]...) at one row. Conditions: none. -/
namespace Go.Lx
open Go Go.Vc Go.Md
section rules
variable {P : Program} {n : Nat} {cx : Cx} {e : Q6} {L : List Chunk} {d : Nat} {ty : TypeId} {pos : String} {af : Array Edge} {g : Option (Nat × Bool)}
theorem owns_take {w : World} {E : TypeId} {sz m a : Nat} {p : Option Addr × Nat} {xs : List Value} (h : w.ownsRow 0 E sz (.slice p.1 m p.2) m xs) (ha : a ≤ m) : w.ownsRow 0 E sz (.slice p.1 a p.2) a (xs.take (a * sz)) := by
 have hle : a * sz ≤ m * sz := Nat.mul_le_mul_right _ ha
 refine ⟨by rw [List.length_take, h.1]; omega, ?_⟩
 rcases h.2 with ⟨hv, hm⟩ | ⟨g0, cap, cur, hv, hbg, hg, hnc, hcm, hcs, htake⟩
 ·injection hv with h1 h2 h3
  subst h2
  have : a = 0 := by omega
  subst this
  exact .inl ⟨by rw [h1, h3], by simp⟩
 ·injection hv with h1 h2 h3
  refine .inr ⟨g0, cap, cur, by rw [h1, h3], hbg, hg, by omega, hcm, hcs, ?_⟩
  rw [← htake, List.take_take, Nat.min_eq_left hle]
theorem ownBlock_len (x : Option Addr) (a m c : Nat) : (Value.slice x a c).ownBlock = (Value.slice x m c).ownBlock := by cases x <;> rfl
theorem Jg9 {sz : Nat} : ∀ {xs : List (List Value)} (a : Nat), (∀ x ∈ xs, x.length = sz) → xs.flatten.take (a * sz) = (xs.take a).flatten
 | [], a, _ => by simp
 | x :: xs, 0, _ => by simp
 | x :: xs, a + 1, h => by
  have hx := h x (by simp)
  rw [List.take_succ_cons, List.flatten_cons, List.flatten_cons, Nat.succ_mul, List.take_append, hx, List.take_of_length_le (by omega), show a * sz + sz - sz = a * sz from by omega, Jg9 a fun y hy => h y (by simp [hy])]
end rules
end Go.Lx

/- Rules: the beginning of a row of one's own as a row, slices with three indices, clear of a part of a row. Conditions: none. -/
namespace Go.Lx
open Go Go.Vc Go.Md
theorem cutA_zero (a : Option Addr) (m sz : Nat) : Yc a 0 m sz = a := by
 unfold Yc
 split
 ·rfl
 ·cases a with
  | none => rfl
  | some x => obtain ⟨b, o, f⟩ := x; simp [Addr.add]
section ops
variable {P : Program} {e : Q6} {d : Option Nat} {ty : TypeId} {pos : String} {af : Array Edge} {g : Option (Nat × Bool)}
theorem Je0 {α : Type} {X B : Operand} {a : Option Addr} {m c : Nat} {t u sz : Nat} {kb : IntKind} {q : Int} {xs ys : List α} {w : World} (hu : P.underlying t = some (.slice u)) (hs : ∀ w, (sizeOf u).run P w = .ok sz w)
  (hx : ev e X = .slice a m c) (hb : ev e B = .int kb q) (hm : m = xs.length) (hc : m ≤ c) (hg : Qd xs 0 q = some ys) :
  (execOp (ev e) ⟨d, .slice t X none (some B) none, ty, pos, af, g⟩).run P w = .ok (.value (.slice a ys.length c)) w := by
 obtain ⟨g0, g1, g2, _⟩ := Zk hg
 have hl := Je4 hg
 rw [Jg6 hu hs hx hb g1 (by omega) w, hl, cutA_zero]; rfl
end ops
section rules
variable {P : Program} {n : Nat} {cx : Cx} {e : Q6} {L : List Chunk} {d : Nat} {ty : TypeId} {pos : String} {af : Array Edge} {g : Option (Nat × Bool)}
theorem someOf {α : Type} {w : World} {i E sz n c : Nat} {a : Option Addr} {f : α → List Value} {xs : List α} {k : Int} {x : α} (hS : Sat cx w L) (hL : L[i]? = some (Jw E sz (.slice a n c) n (xs.map f))) (hg : Qk xs k = some x) : ∃ b off, a = some ⟨b, off, none⟩ := by
 obtain ⟨S, ⟨⟨h1, h2, h3⟩, _⟩, _⟩ := hS.at hL
 have := (Xg hg).2.1
 rcases h1.2 with ⟨hv, h0⟩ | ⟨g, cap, cur, hv, _, hh, hnc, _⟩
 ·rw [List.length_map] at h2; omega
 ·simp only [Value.slice.injEq] at hv; exact ⟨g, 0, hv.1⟩
theorem Jhd {α : Type} {E sz m : Nat} {p : Option Addr × Nat} {f : α → List Value} {xs ys : List α} {q : Int} (hm : m = xs.length) (g : Qd xs 0 q = some ys) :
  Imp (Jw E sz (.slice p.1 m p.2) m (xs.map f)) (rowC E sz (.slice p.1 ys.length p.2) ys.length (ys.map f) xs.length) := by
 refine ⟨fun S w => ?_⟩
 obtain ⟨g0, g1, g2, rfl⟩ := Zk g
 subst hm
 rintro ⟨⟨ho, hlen, hlx⟩, hob⟩
 have hl : ((xs.drop (0 : Int).toNat).take (q.toNat - (0 : Int).toNat)).length = q.toNat := by rw [List.length_take, List.length_drop]; simp; omega
 rw [hl]
 have hoa := owns_take ho (a := q.toNat) (by omega)
 rw [Jg9 q.toNat hlx, ← List.map_take] at hoa
 have e : (xs.drop (0 : Int).toNat).take (q.toNat - (0 : Int).toNat) = xs.take q.toNat := by simp
 rw [e]
 refine ⟨⟨⟨hoa, by rw [List.length_map, List.length_take]; omega, fun x hx => ?_⟩, fun b hb => hob b ((ownBlock_len _ _ _ _) ▸ hb)⟩, ?_⟩
 ·obtain ⟨y, hy, rfl⟩ := List.mem_map.1 hx
  exact hlx _ (List.mem_map_of_mem (List.mem_of_mem_take hy))
 ·rcases ho.2 with ⟨hv, h0⟩ | ⟨g, cap, cur, hv, _, hh, hnc, _⟩
  ·simp only [Value.slice.injEq] at hv; simp only [sc]; omega
  ·simp only [Value.slice.injEq] at hv; simp only [sc]; omega
theorem Turns.pre {σ : Type} {o : Oper} {i : Nat} {rds : List Nat} {G : σ → Value} {D : σ → Chunk} {C C' : Chunk} (hI : Imp C C') (hL : L[i]? = some C) (hr : i ∉ rds) (h : Turns P cx e o (L.set i C') i rds G D) : Turns P cx e o L i rds G D := by
 intro w L' hF hS hl hi
 have hLi := (hi i (.inr rfl)).trans hL
 have hS' : Sat cx w (L'.set i C') := hS.set hF hLi (Nat.le_refl _) fun S hp hb => ⟨S, hI.out S w hp, fun b hs => ⟨(hb b hs).1, .inl hs⟩, fun _ _ _ => rfl⟩
 have hil : i < L.length := by
  rcases Nat.lt_or_ge i L.length with h | h
  ·exact h
  ·rw [List.getElem?_eq_none h] at hL; cases hL
 have := h w (L'.set i C') hF hS' (by simp [hl]) fun j hj => by
  by_cases hji : j = i
  ·subst hji; rw [List.getElem?_set_self (by omega), List.getElem?_set_self hil]
  ·rw [List.getElem?_set_ne (fun e => hji e.symm), List.getElem?_set_ne (fun e => hji e.symm)]
   exact hi j (hj.imp_right fun h => h)
 simpa [List.set_set] using this
end rules
end Go.Lx

/- Rules: results that are pointers, nil or to new memory. Conditions: none. -/
namespace Go.Lx
open Go Go.Vc Go.Md
section rules
variable {cx : Cx} {K : Q6 → World → Prop} {e : Q6} {L : List Chunk}
end rules
section ops
variable {P : Program} {cx : Cx} {e : Q6} {L : List Chunk} {d : Option Nat} {ty : TypeId} {pos : String} {af : Array Edge} {g : Option (Nat × Bool)}
end ops
section rules
variable {P : Program} {cx : Cx} {ops : Array Oper} {F : Q6 → List Chunk → Prop} {rest : List Oper} {ss : List Kd} {e : Q6} {L : List Chunk} {d : Nat}
end rules
end Go.Lx

/- Rules: rows out of strings (their block bears a mark behind its cells), appended to; append of something to a row that may be full. Conditions: none. -/
namespace Go.Lx
open Go Go.Vc Go.Md
section plain
variable {P : Program}
end plain
def markR (w : World) (E sz : Nat) (v : Value) (n : Nat) (xs : List (List Value)) : Prop :=
 ∃ g cap cur k, v = .slice (some ⟨g, 0, none⟩) n cap ∧ w.heap[g]? = some (.cells cur E k) ∧ cur.size ≤ k.1 ∧ n ≤ cap ∧ cap ≤ maxLen ∧ cur.size = cap * sz ∧ cur.toList.take (n * sz) = xs.flatten
def mkC (w : World) (E sz : Nat) (v : Value) (n : Nat) (xs : List (List Value)) : Prop :=
 (apC w E sz v n xs ∨ markR w E sz v n xs) ∧ xs.length = n ∧ ∀ x ∈ xs, x.length = sz
theorem markR.frs {w : World} {E sz : Nat} {v : Value} {n : Nat} {xs : List (List Value)} (h : markR w E sz v n xs) (hn : xs.length = n) (hl : ∀ x ∈ xs, x.length = sz) : FrS (fun b => w.heap[b]?) sz v xs := by
 obtain ⟨g, cap, cur, k, rfl, hh, _, hnc, hm, hcs, ht⟩ := h
 subst hn
 refine ⟨some ⟨g, 0, none⟩, cap, rfl, hnc, by simpa [maxLen] using hm, .inr ⟨g, 0, cur, E, k, rfl, hh, fun i x hx => ⟨hl x (List.mem_of_getElem? hx), fun j v hv => ?_⟩⟩⟩
 have hi : i < xs.length := by
  rcases Nat.lt_or_ge i xs.length with h | h
  ·exact h
  ·rw [List.getElem?_eq_none h] at hx; cases hx
 have hj : j < sz := by
  have := hl x (List.mem_of_getElem? hx)
  rcases Nat.lt_or_ge j x.length with h | h
  ·omega
  ·rw [List.getElem?_eq_none h] at hv; cases hv
 have hr := Jct xs i x (List.all_eq_true.2 fun x hx => by simpa using hl x hx) hx j v hv
 rw [← ht, List.getElem?_take] at hr
 split at hr
 ·rw [Nat.zero_add, ← Array.getElem?_toList]; exact hr
 ·cases hr
theorem mkC.frs {w : World} {E sz : Nat} {v : Value} {n : Nat} {xs : List (List Value)} (h : mkC w E sz v n xs) : FrS (fun b => w.heap[b]?) sz v xs :=
 h.1.elim (fun h1 => h1.frs) (fun h1 => h1.frs h.2.1 h.2.2)
theorem mkC.slice {w : World} {E sz : Nat} {v : Value} {n : Nat} {xs : List (List Value)} (h : mkC w E sz v n xs) : ∃ p : Option Addr × Nat, v = .slice p.1 n p.2 := by
 rcases h.1 with h1 | ⟨g, cap, cur, k, rfl, _⟩
 ·exact h1.slice
 ·exact ⟨(some ⟨g, 0, none⟩, cap), rfl⟩
def mkV (E : TypeId) (sz : Nat) (v : Value) (n : Nat) (xs : List (List Value)) : Chunk where
 P S w := mkC w E sz v n xs ∧ ∀ b, v.ownBlock = some b → S b
 loc S w w' h := by
  rintro ⟨⟨h1 | ⟨g, cap, cur, k, rfl, hh, hr⟩, h3⟩, h4⟩
  ·exact ⟨⟨.inl ((apV E sz v n xs).loc S w w' h ⟨h1, h4⟩).1, h3⟩, h4⟩
  ·exact ⟨⟨.inr ⟨g, cap, cur, k, rfl, (h g (h4 g rfl)).trans hh, hr⟩, h3⟩, h4⟩
section rules
variable {P : Program} {n : Nat} {cx : Cx} {e : Q6} {L : List Chunk} {d : Nat} {ty : TypeId} {pos : String} {af : Array Edge} {g : Option (Nat × Bool)}
theorem frs_mk {α : Type} {w : World} {i E sz m : Nat} {v : Value} {xs : List α} {f : α → List Value} (hS : Sat cx w L) (hL : L[i]? = some (mkV E sz v m (xs.map f))) : FrS (fun b => w.heap[b]?) sz v (xs.map f) := by
 obtain ⟨S, ⟨h, _⟩, _⟩ := hS.at hL
 exact h.frs
theorem bytes_flat {f : Int → List Value} (hf : ∀ x, f x = [.int .u8 x]) (s : List UInt8) : ((Qq s).map f).flatten = s.map fun b => Value.int .u8 (b.toNat : Int) := by
 unfold Qq
 induction s with
 | nil => rfl
 | cons c s ih => simp only [List.map_cons, List.flatten_cons, hf, List.singleton_append, List.cons.injEq, true_and]; simpa using ih
theorem makes_bytes {f : Int → List Value} {X : Operand} {src dst E : TypeId} {s : List UInt8} {rds : List Nat} (hs : P.underlying src = some .string) (hd : P.underlying dst = some (.slice E)) (he : P.underlying E = some (.int .u8)) (hx : ev e X = Jk s) (hf : ∀ x, f x = [.int .u8 x]) (hl : s.length ≤ 9223372036854775807) :
  Jfd P cx e ⟨some d, .convert src dst X, ty, pos, af, g⟩ L rds (fun p : Option Addr × Nat => .slice p.1 (Qq s).length p.2) (fun p => mkV E 1 (.slice p.1 (Qq s).length p.2) (Qq s).length ((Qq s).map f)) := fun w L' hF hS hi' => by
 have hr := Lib.run_convert_string_bytes (P := P) w src dst E ⟨s.toArray⟩ hs hd he
 have hsz : (⟨s.toArray⟩ : ByteArray).size = s.length := Jge s
 have hlen : (Qq s).length = s.length := by unfold Qq; simp
 have hcs : (Lib.bytesCells w E ⟨s.toArray⟩).size = grownCap w s.length 0 E := by
  have := grownCap_ge w s.length 0 E
  unfold Lib.bytesCells
  rw [hsz]; simp; omega
 have hx' : (execOp (ev e) ⟨some d, .convert src dst X, ty, pos, af, g⟩).run P w = .ok (.value (.slice (some ⟨w.heap.size, 0, none⟩) s.length (grownCap w s.length 0 E))) (Lib.bytesWorld w E ⟨s.toArray⟩) := by
  have hr' : (convert src dst (Jk s)).run P w = .ok (.slice (some ⟨w.heap.size, 0, none⟩) s.length (grownCap w s.length 0 E)) (Lib.bytesWorld w E ⟨s.toArray⟩) := by
   rw [hsz] at hr; exact hr
  simp only [execOp, Sem.run_bind, hx, hr', Result.andThen_ok, Sem.run_pure]
 unfold RunsTo
 rw [hx']
 refine ⟨(some ⟨w.heap.size, 0, none⟩, grownCap w s.length 0 E), by rw [hlen], ?_⟩
 have hsize := Lib.bytesWorld_size w E ⟨s.toArray⟩
 rw [hlen]
 refine ⟨by simp [Lib.bytesWorld, World.freeze, World.alloc, World.drew, -World.alloc_eq, -World.drew_eq], by simp [Lib.bytesWorld, World.freeze, World.alloc, World.drew, -World.alloc_eq, -World.drew_eq], by simp [Lib.bytesWorld, World.freeze, World.alloc, World.drew, -World.alloc_eq, -World.drew_eq], by rw [hsize]; omega, fun b hb _ => Lib.bytesWorld_at_old w E _ b hb, fun b => b = w.heap.size, ⟨⟨.inr ?_, by rw [List.length_map, hlen], fun x hx => ?_⟩, fun b hb => ?_⟩, fun b hb => ?_⟩
 ·refine ⟨w.heap.size, _, _, _, rfl, Lib.bytesWorld_at_new w E ⟨s.toArray⟩, Nat.le_refl _, grownCap_ge w _ 0 E, grownCap_le_maxLen w _ 0 E (by simp only [maxLen]; exact hl), by rw [hcs, Nat.mul_one], ?_⟩
  rw [bytes_flat hf, Nat.mul_one]
  unfold Lib.bytesCells
  simp
 ·obtain ⟨y, _, rfl⟩ := List.mem_map.1 hx
  rw [hf]; rfl
 ·simp [Value.ownBlock] at hb; exact hb.symm
 ·subst hb
  exact ⟨by rw [hsize]; omega, .inr (Nat.le_refl _)⟩
theorem makes_byt {f : Int → List Value} {X : Operand} {src dst E : TypeId} {s : List UInt8} {xs : List Int} {rds : List Nat} (hs : P.underlying src = some .string) (hd : P.underlying dst = some (.slice E)) (he : P.underlying E = some (.int .u8)) (hx : ev e X = Jk s) (hf : ∀ x, f x = [.int .u8 x]) (hg : gByt s = some xs) :
  Jfd P cx e ⟨some d, .convert src dst X, ty, pos, af, g⟩ L rds (fun p : Option Addr × Nat => .slice p.1 xs.length p.2) (fun p => mkV E 1 (.slice p.1 xs.length p.2) xs.length (xs.map f)) := by
 obtain ⟨rfl, hl⟩ := gByt_some hg
 exact makes_bytes hs hd he hx hf hl
end rules
end Go.Lx

/- Rules: maps of one's own: made, read, written, ranged over in whatever order. Conditions: those that each rule names. -/
namespace Go.Lx
open Go Go.Vc Go.Md
open Go.MapKept (IsKey Stamped)
structure KeyF {κ : Type} (d : TypeDesc) (fk : κ → Value) : Prop where
 isKey : ∀ k, IsKey d (fk k)
 inj : ∀ a b, fk a = fk b → a = b
theorem Jc8 {k : IntKind} : KeyF (.int k) (fun x : Int => Value.int k x) := ⟨fun x => by simp [IsKey], fun a b h => by simpa using h⟩
def Ents {κ ν : Type} (fk : κ → Value) (fv : ν → Value) (es : List MapEntry) (xs : List (κ × ν)) : Prop := es.map (fun e => (e.key, e.val)) = xs.map (fun p => (fk p.1, fv p.2))
def Jb8 {κ ν : Type} (fk : κ → Value) (fv : ν → Value) (b : Nat) (xs : List (κ × ν)) : Chunk where
 P S w := (∀ x, S x ↔ x = b) ∧ ∃ es clock, w.heap[b]? = some (.map es clock) ∧ Stamped es clock ∧ Ents fk fv es.toList xs
 loc S w w' h hp := ⟨hp.1, by rw [h b ((hp.1 b).2 rfl)]; exact hp.2⟩
theorem Ents.len {κ ν : Type} {fk : κ → Value} {fv : ν → Value} {es : List MapEntry} {xs : List (κ × ν)} (h : Ents fk fv es xs) : es.length = xs.length := by
 have := congrArg List.length h; simpa using this
theorem Ents.keys {κ ν : Type} {fk : κ → Value} {fv : ν → Value} {es : List MapEntry} {xs : List (κ × ν)} (h : Ents fk fv es xs) : es.map (·.key) = xs.map (fun p => fk p.1) := by
 have := congrArg (List.map Prod.fst) h; simpa [Function.comp_def] using this
theorem Ents.isKey {κ ν : Type} {d : TypeDesc} {fk : κ → Value} {fv : ν → Value} (K : KeyF d fk) {es : List MapEntry} {xs : List (κ × ν)} (h : Ents fk fv es xs) : ∀ x ∈ es, IsKey d x.key := by
 intro x hx
 have : x.key ∈ es.map (·.key) := List.mem_map.2 ⟨x, hx, rfl⟩
 rw [h.keys] at this
 obtain ⟨p, _, hp⟩ := List.mem_map.1 this
 rw [← hp]; exact K.isKey _
theorem Ents.at {κ ν : Type} {fk : κ → Value} {fv : ν → Value} {es : List MapEntry} {xs : List (κ × ν)} (h : Ents fk fv es xs) {j : Nat} {e : MapEntry} (he : es[j]? = some e) : ∃ p, xs[j]? = some p ∧ e.key = fk p.1 ∧ e.val = fv p.2 := by
 have := congrArg (fun l => l[j]?) h
 simp only [List.getElem?_map, he, Option.map_some] at this
 cases hx : xs[j]? with
 | none => rw [hx] at this; simp at this
 | some p => rw [hx] at this; simp at this; exact ⟨p, rfl, this.1, this.2⟩
section find
variable {κ ν : Type} [DecidableEq κ] {d : TypeDesc} {fk : κ → Value} {fv : ν → Value}
theorem mGet_none {xs : List (κ × ν)} {k : κ} (h : ∀ p ∈ xs, p.1 ≠ k) : Jcp xs k = none ∧ mHas xs k = false := by
 constructor
 ·unfold Jcp
  rw [List.find?_eq_none.2 (fun p hp => by simpa using h p hp)]; rfl
 ·unfold mHas
  rw [List.any_eq_false]
  intro p hp; simpa using h p hp
theorem mGet_at : ∀ {xs : List (κ × ν)} {k : κ} {j : Nat} {v : ν}, (xs.map (·.1)).Nodup → xs[j]? = some (k, v) → Jcp xs k = some v ∧ mHas xs k = true
 | [], _, j, _, _, h => by simp at h
 | p :: xs, k, 0, v, _, h => by simp at h; subst h; simp [Jcp, mHas]
 | p :: xs, k, j + 1, v, hn, h => by
  simp only [List.getElem?_cons_succ] at h
  simp only [List.map_cons, List.nodup_cons] at hn
  have hne : p.1 ≠ k := fun q => hn.1 (q ▸ List.mem_map.2 ⟨(k, v), List.mem_of_getElem? h, rfl⟩)
  obtain ⟨h1, h2⟩ := mGet_at hn.2 h
  constructor
  ·unfold Jcp at h1 ⊢
   rw [List.find?_cons_of_neg (by simpa using hne)]; exact h1
  ·unfold mHas at h2 ⊢
   simp only [List.any_cons, h2, Bool.or_true]
omit [DecidableEq κ] in
theorem nodup_of (K : KeyF d fk) {es : List MapEntry} {xs : List (κ × ν)} (h : Ents fk fv es xs) (hn : (es.map (·.key)).Nodup) : (xs.map (·.1)).Nodup := by
 rw [h.keys] at hn
 have : xs.map (fun p => fk p.1) = (xs.map (·.1)).map fk := by simp
 rw [this] at hn
 exact (List.pairwise_map.1 hn).imp fun h q => h (congrArg fk q)
theorem Jhe (K : KeyF d fk) {es : List MapEntry} {xs : List (κ × ν)} (h : Ents fk fv es xs) (hn : (es.map (·.key)).Nodup) (k : κ) :
  (Instr.findNow d (fk k) es 0 = some none ∧ (∀ x ∈ es, x.key ≠ fk k) ∧ Jcp xs k = none ∧ mHas xs k = false) ∨
  ∃ j e v, Instr.findNow d (fk k) es 0 = some (some (j, e.val)) ∧ es[j]? = some e ∧ e.key = fk k ∧ e.val = fv v ∧ xs[j]? = some (k, v) ∧ Jcp xs k = some v ∧ mHas xs k = true := by
 rcases Go.MapKept.findNow_spec (K.isKey k) es 0 (h.isKey K) with ⟨h1, h2⟩ | ⟨j, e, h1, h2, h3⟩
 ·refine .inl ⟨h1, h2, mGet_none fun p hp q => ?_⟩
  have : fk p.1 ∈ es.map (·.key) := by rw [h.keys]; exact List.mem_map.2 ⟨p, hp, rfl⟩
  obtain ⟨x, hx, hk⟩ := List.mem_map.1 this
  exact h2 x hx (by rw [hk, q])
 ·obtain ⟨p, hp, e1, e2⟩ := h.at h2
  have hk : p.1 = k := K.inj _ _ (e1.symm.trans h3)
  have hp' : xs[j]? = some (k, p.2) := by rw [hp, ← hk]
  have := mGet_at (nodup_of K h hn) hp'
  exact .inr ⟨j, e, p.2, by simpa using h1, h2, h3, e2, hp', this.1, this.2⟩
end find
theorem ents_modify {κ ν : Type} [DecidableEq κ] {fk : κ → Value} {fv : ν → Value} {es : Array MapEntry} {xs : List (κ × ν)} {j : Nat} {k : κ} {v v0 : ν} (h : Ents fk fv es.toList xs) (hn : (xs.map (·.1)).Nodup) (hj : xs[j]? = some (k, v0)) (hh : mHas xs k = true) :
  Ents fk fv (es.modify j fun e => { e with key := fk k, val := fv v }).toList (Ja3 xs k v) := by
 have hm : Ja3 xs k v = xs.map fun p => if p.1 = k then (k, v) else p := by unfold Ja3; rw [if_pos hh]
 rw [hm]
 unfold Ents
 apply List.ext_getElem?
 intro i
 have hi := congrArg (fun l => l[i]?) h
 simp only [List.getElem?_map, Array.getElem?_toList, Array.getElem?_modify] at hi ⊢
 by_cases hij : j = i
 ·subst hij
  rw [hj] at hi ⊢
  simp only [if_true, Option.map_some, Option.map_map]
  cases he : es[j]? with
  | none => rw [he] at hi; simp at hi
  | some e => simp
 ·rw [if_neg hij, hi]
  cases hx : xs[i]? with
  | none => rfl
  | some p =>
   have hne : p.1 ≠ k := by
    intro q
    have hil : i < xs.length := by
     rcases Nat.lt_or_ge i xs.length with h | h
     ·exact h
     ·rw [List.getElem?_eq_none h] at hx; cases hx
    have hjl : j < xs.length := by
     rcases Nat.lt_or_ge j xs.length with h | h
     ·exact h
     ·rw [List.getElem?_eq_none h] at hj; cases hj
    have H := List.pairwise_iff_getElem.1 hn
    have ej : (xs.map (·.1))[j]'(by simpa using hjl) = k := by
     have := (List.getElem?_eq_some_iff.1 hj).2; simp [this]
    have ei : (xs.map (·.1))[i]'(by simpa using hil) = k := by
     have := (List.getElem?_eq_some_iff.1 hx).2; simp [this, q]
    rcases Nat.lt_trichotomy j i with l | l | l
    ·exact H j i (by simpa using hjl) (by simpa using hil) l (ej.trans ei.symm)
    ·exact hij l
    ·exact H i j (by simpa using hil) (by simpa using hjl) l (ei.trans ej.symm)
   simp [hne]
theorem ents_push {κ ν : Type} [DecidableEq κ] {fk : κ → Value} {fv : ν → Value} {es : Array MapEntry} {xs : List (κ × ν)} {k : κ} {v : ν} {c : Nat} (h : Ents fk fv es.toList xs) (hh : mHas xs k = false) :
  Ents fk fv (es.push { key := fk k, val := fv v, born := c }).toList (Ja3 xs k v) := by
 have hm : Ja3 xs k v = xs ++ [(k, v)] := by unfold Ja3; rw [if_neg (by simp [hh])]
 rw [hm]
 unfold Ents at h ⊢
 simp [h]
section ops
variable {P : Program} {cx : Cx} {e : Q6} {L : List Chunk} {ty : TypeId} {pos : String} {af : Array Edge} {g : Option (Nat × Bool)}
variable {κ ν : Type} [DecidableEq κ] {fk : κ → Value} {fv : ν → Value}
omit [DecidableEq κ] in
theorem Jfy {t d : Nat} {rds : List Nat} : Jfd P cx e ⟨some d, .makeMap t none, ty, pos, af, g⟩ L rds (fun b : Nat => .map (some b)) (fun b => Jb8 fk fv b ([] : List (κ × ν))) := fun w L' hF hS _ => by
 unfold RunsTo
 have hr : (execOp (ev e) ⟨some d, .makeMap t none, ty, pos, af, g⟩).run P w = .ok (.value (.map (some w.heap.size))) (w.alloc (.map #[] 0)) := by
  simp [execOp, Instr.makeMap]
 rw [hr]
 have gr := Jad w (.map #[] 0)
 exact ⟨w.heap.size, rfl, gr.os, gr.tape, gr.output, gr.size, fun b hb _ => gr.block b hb, fun x => x = w.heap.size, ⟨fun _ => Iff.rfl, #[], 0, Go.heap_alloc_new w _, Go.MapKept.stamped_empty 0, rfl⟩, fun b hb => by subst hb; exact ⟨by simp, .inr (Nat.le_refl _)⟩⟩
theorem Jgs {d : Option Nat} {dk : TypeDesc} {t kt et : TypeId} {X I : Operand} {b i : Nat} {xs : List (κ × ν)} {k : κ} {z : ν} {w : World} (K : KeyF dk fk) (ht : P.underlying t = some (.map kt et)) (hk : P.underlying kt = some dk) (hz : ∀ w, (zeroValue et).run P w = .ok (fv z) w)
  (hx : ev e X = .map (some b)) (hi : ev e I = fk k) (hS : Sat cx w L) (hL : L[i]? = some (Jb8 fk fv b xs)) :
  (execOp (ev e) ⟨d, .lookup t X I false, ty, pos, af, g⟩).run P w = .ok (.value (fv ((Jcp xs k).getD z))) w := by
 obtain ⟨S, ⟨_, es, clock, hb, hst, hen⟩, _⟩ := hS.at hL
 rcases Jhe K hen hst.2.2 k with ⟨h1, _, h3, _⟩ | ⟨j, e0, v, h1, _, _, h4, _, h6, _⟩
 ·simp [execOp, Instr.lookup, hx, hi, run_underlying ht, Go.MapKept.run_getObj_map hb, Go.MapKept.run_checkKey hk (K.isKey k), Go.MapKept.run_findKey hk h1, hz w, h3, Result.andThen]
 ·simp [execOp, Instr.lookup, hx, hi, run_underlying ht, Go.MapKept.run_getObj_map hb, Go.MapKept.run_checkKey hk (K.isKey k), Go.MapKept.run_findKey hk h1, h6, h4, Result.andThen]
theorem Jev {u : Bool} {dk : TypeDesc} {t kt et : TypeId} {M I X : Operand} {b i : Nat} {xs : List (κ × ν)} {k : κ} {v : ν} {rds : List Nat} {o : Op} (K : KeyF dk fk) (ho : o = .insert t M I X ∨ o = .mapUpdate t M I X) (ht : P.underlying t = some (.map kt et)) (hk : P.underlying kt = some dk)
  (hm : ev e M = .map (some b)) (hi : ev e I = fk k) (hx : ev e X = fv v) (hL : L[i]? = some (Jb8 fk fv b xs)) {dst : Option Nat} :
  Turns P cx e ⟨dst, o, ty, pos, af, g⟩ L i rds (fun _ : Unit => undef) (fun _ => Jb8 fk fv b (Ja3 xs k v)) := fun w L' hF hS _ hi' => by
 have hL' := (hi' i (.inr rfl)).trans hL
 obtain ⟨S, ⟨_, es, clock, hb, hst, hen⟩, _⟩ := hS.at hL'
 have hlt : b < w.heap.size := (Array.getElem?_eq_some_iff.1 hb).1
 obtain ⟨es', clock', hrun, hst', hen'⟩ : ∃ es' clock', (execOp (ev e) ⟨dst, o, ty, pos, af, g⟩).run P w = .ok .skip { w with heap := w.heap.setIfInBounds b (.map es' clock') } ∧ Stamped es' clock' ∧ Ents fk fv es'.toList (Ja3 xs k v) := by
  rcases Jhe K hen hst.2.2 k with ⟨h1, h2, _, h4⟩ | ⟨j, e0, v0, h1, h2, h3, _, h5, _, h7⟩
  ·refine ⟨_, _, ?_, Go.MapKept.stamped_push hst h2, ents_push (v := v) hen h4⟩
   rcases ho with rfl | rfl <;> simp [execOp, Instr.mapUpdate, hm, hi, hx, run_underlying ht, Go.MapKept.run_getObj_map hb, Go.MapKept.run_checkKey hk (K.isKey k), Go.MapKept.run_findKey hk h1, Go.MapKept.run_setObj_map _ hb, Result.andThen]
  ·have h2' : es[j]? = some e0 := by simpa using h2
   refine ⟨es.modify j fun e => { e with key := fk k, val := fv v }, clock, ?_, Go.MapKept.stamped_modify hst j _ (fun _ _ => rfl) (fun x _ hx => by rw [h2'] at hx; cases hx; exact h3.symm), ents_modify (v := v) hen (nodup_of K hen hst.2.2) h5 h7⟩
   rcases ho with rfl | rfl <;> simp [execOp, Instr.mapUpdate, hm, hi, hx, run_underlying ht, Go.MapKept.run_getObj_map hb, Go.MapKept.run_checkKey hk (K.isKey k), Go.MapKept.run_findKey hk h1, h2', h3, Go.MapKept.run_keyThatStays (K.isKey k), Go.MapKept.run_setObj_map _ hb, Result.andThen]
 unfold RunsTo
 rw [hrun]
 have hS' := hS.turnOf (w' := { w with heap := w.heap.setIfInBounds b (.map es' clock') }) hF hL' (C := Jb8 fk fv b (Ja3 xs k v)) fun S1 hp1 =>
  ⟨rfl, rfl, rfl, by simp, fun x _ hx => by rw [Array.getElem?_setIfInBounds_ne (fun h => hx ((hp1.1 x).2 h.symm))], S1, ⟨hp1.1, es', clock', by simp [hlt], hst', hen'⟩, fun x hx => ⟨by rw [(hp1.1 x).1 hx]; simpa using hlt, .inl hx⟩⟩
 exact ⟨(), rfl, hS'.1, hS'.2⟩
end ops
section rules
variable {P : Program} {n : Nat} {cx : Cx} {Q : Va} {e : Q6} {L : List Chunk} {ops : Array Oper} {rest_ : List Oper} {ty : TypeId} {pos : String} {af : Array Edge} {g : Option (Nat × Bool)} {κ ν : Type} {fk : κ → Value} {fv : ν → Value}
end rules
end Go.Lx

/- Rules: maps that are only read; the kit's contract of slices.Compact at []int. Conditions: none. -/
namespace Go.Lx
open Go Go.Vc Go.Md
open Go.MapKept (IsKey Stamped)
structure FrM {κ ν : Type} (h : Jt) (fk : κ → Value) (fv : ν → Value) (v : Value) (xs : List (κ × ν)) : Prop where
 out : ∃ b es clock, v = .map (some b) ∧ h b = some (.map es clock) ∧ Stamped es clock ∧ Ents fk fv es.toList xs
section
variable {κ ν : Type} {fk : κ → Value} {fv : ν → Value} {h h' : Jt} {v : Value} {xs : List (κ × ν)}
theorem FrM.mono (f : FrM h fk fv v xs) (k : ∀ b o, h b = some o → h' b = some o) : FrM h' fk fv v xs := by
 obtain ⟨b, es, c, h1, h2, h3, h4⟩ := f.out
 exact ⟨b, es, c, h1, k _ _ h2, h3, h4⟩
theorem FrM.cells (f : FrM h fk fv v xs) : v.cells.toList = [v] := by
 obtain ⟨b, es, c, rfl, _⟩ := f.out; rfl
theorem FrM.one (f : FrM h fk fv v xs) : v.oneCell' = true := by
 obtain ⟨b, es, c, rfl, _⟩ := f.out; rfl
end
section
variable {P : Program} {cx : Cx} {e : Q6} {L : List Chunk} {ty : TypeId} {pos : String} {af : Array Edge} {g : Option (Nat × Bool)}
variable {κ ν : Type} {fk : κ → Value} {fv : ν → Value}
theorem frs_map {w : World} {i b : Nat} {xs : List (κ × ν)} (hS : Sat cx w L) (hL : L[i]? = some (Jb8 fk fv b xs)) : FrM (fun b => w.heap[b]?) fk fv (.map (some b)) xs := by
 obtain ⟨S, ⟨_, es, c, hb, hst, hen⟩, _⟩ := hS.at hL
 exact ⟨b, es, c, rfl, hb, hst, hen⟩
theorem run_lookupF [DecidableEq κ] {d : Option Nat} {dk : TypeDesc} {t kt et : TypeId} {X I : Operand} {v : Value} {xs : List (κ × ν)} {k : κ} {z : ν} {w : World} (K : KeyF dk fk) (ht : P.underlying t = some (.map kt et)) (hk : P.underlying kt = some dk) (hz : ∀ w, (zeroValue et).run P w = .ok (fv z) w)
  (hx : ev e X = v) (hi : ev e I = fk k) (f : FrM (fun b => w.heap[b]?) fk fv v xs) :
  (execOp (ev e) ⟨d, .lookup t X I false, ty, pos, af, g⟩).run P w = .ok (.value (fv ((Jcp xs k).getD z))) w := by
 obtain ⟨b, es, clock, rfl, hb, hst, hen⟩ := f.out
 rcases Jhe K hen hst.2.2 k with ⟨h1, _, h3, _⟩ | ⟨j, e0, v, h1, _, _, h4, _, h6, _⟩
 ·simp [execOp, Instr.lookup, hx, hi, run_underlying ht, Go.MapKept.run_getObj_map hb, Go.MapKept.run_checkKey hk (K.isKey k), Go.MapKept.run_findKey hk h1, hz w, h3, Result.andThen]
 ·simp [execOp, Instr.lookup, hx, hi, run_underlying ht, Go.MapKept.run_getObj_map hb, Go.MapKept.run_checkKey hk (K.isKey k), Go.MapKept.run_findKey hk h1, h6, h4, Result.andThen]
end
end Go.Lx
namespace Go.Vc
open Go Go.Md Go.Shelf Go.Sort Go.Proofs
theorem compact_ints {P : Program} {ρ : Ren} (Ly : Lays2.n20 P ρ) {E : TypeId} {a0 r : List Int} {p0 : Option Addr × Nat} {n0 : Nat} {w : World} {S : Nat → Prop}
  (hcs : (Jw E 1 (.slice p0.1 n0 p0.2) n0 (a0.map fun x => [.int .i64 x])).P S w) (hlt : ∀ b, S b → b < w.heap.size) (hn0 : n0 = a0.length) (H : gCmpI a0 = some r) :
  Does P (ρ.f 20) (List.toArray [.slice p0.1 n0 p0.2]) w (fun v w' => ∃ x : Option Addr × Nat, v = .slice x.1 r.length x.2 ∧ Turn w w' S (Jw E 1 (.slice x.1 r.length x.2) r.length (r.map fun x => [.int .i64 x]))) := by
 obtain ⟨p, c⟩ := p0
 unfold gCmpI at H
 split at H
 case isFalse => cases H
 rename_i hsz
 cases H
 subst hn0
 have hcs0 := hcs
 obtain ⟨⟨hown, hlen, hall⟩, hb⟩ := hcs
 rw [flat1] at hown
 rcases hown.2 with ⟨h0, h1⟩ | ⟨g, cap, cur, hv, hbase, hh, h1, h2, h3, h4⟩
 ·have hnil : a0 = [] := List.eq_nil_of_length_eq_zero h1
  subst hnil
  refine Calls.mono (Any.slices_Compact_int_empty Ly p c w) ?_
  rintro e w' ⟨rfl, rfl⟩
  exact ⟨_, rfl, (p, c), rfl, ⟨rfl, rfl, rfl, Nat.le_refl _, fun _ _ _ => rfl, S, by simpa [cmpL] using hcs0, fun b h => ⟨hlt b h, .inl h⟩⟩⟩
 ·simp only [Value.slice.injEq] at hv
  obtain ⟨hv1, -, hv2⟩ := hv
  subst hv1 hv2
  have hgl : g < w.heap.size := (Array.getElem?_eq_some_iff.1 hh).1
  have hH : Holds (Value.int .i64) w g 0 a0.toArray := holds_of_blockI hh (by simpa using h4)
  refine Calls.mono (Any.slices_Compact_int Ly g 0 c a0 w hH (by omega) h1) ?_
  rintro e w' ⟨rfl, q, rfl⟩
  rw [compact_lib]
  have hle := cmpL_len a0
  generalize hz : cmpL a0 = z at hle
  have hts : (z ++ List.replicate (a0.length - z.length) 0).length = a0.length := by simp; omega
  have hG := grownBy_sortedI (w := w) (g := g) (n := q) (os := #[]) (z ++ List.replicate (a0.length - z.length) 0).toArray
  have hR := ownsRow_sortedI (base := 0) (w := w) (n := q) (os := #[]) hts (Nat.zero_le _) hh h1 h2 h3
  have hgr : ∀ W : World, Go.Sort.grow W #[] = W := fun W => by cases W; simp [Go.Sort.grow]
  rw [hgr] at hG hR
  obtain ⟨g1, g2, g3, g4, g5⟩ := hG
  have hSg : S g := hb g rfl
  rcases hR.2 with ⟨h0, _⟩ | ⟨g', cap', cur', hv', hbase', hh', k1, k2, k3, k4⟩
  ·cases h0
  ·simp only [Value.slice.injEq, Option.some.injEq, Addr.mk.injEq, and_true, true_and] at hv'
   obtain ⟨rfl, rfl⟩ := hv'
   refine ⟨_, rfl, (some ⟨g, 0, none⟩, c), rfl, ⟨g1, g2, g3, g4, fun b hbl hnb => g5 b hbl (fun h => hnb (by cases h; exact hSg)), S, ⟨⟨?_, by simp, fun x hx => ?_⟩, fun b h => by cases h; exact hSg⟩, fun b h => ⟨Nat.lt_of_lt_of_le (hlt b h) g4, .inl h⟩⟩⟩
   ·rw [flat1]
    refine ⟨by simp, .inr ⟨g, c, cur', rfl, Nat.zero_le _, hh', by omega, k2, k3, ?_⟩⟩
    have := congrArg (List.take z.length) k4
    have e2 : (List.map (Value.int .i64) (z ++ List.replicate (a0.length - z.length) 0)).take z.length = z.map (Value.int .i64) := by
     rw [List.map_append, List.take_append_of_le_length (by simp)]; exact List.take_of_length_le (by simp)
    rw [List.take_take, Nat.min_eq_left (by omega), e2] at this
    rw [Nat.mul_one]; exact this
   ·obtain ⟨y, _, rfl⟩ := List.mem_map.1 hx
    rfl
end Go.Vc

/- The kit's contract of slices.SortFunc at rows of one's own of structs: the row is sorted in place. Conditions: the row is shorter than 2^62; the comparing function is a total order. -/
namespace Go.Vc
open Go Go.Md Go.Shelf Go.Sort Go.Proofs
end Go.Vc

/- Rules: slices of slices in boxes; parts of them, also such as begin further on; literals and appends of slices that a drawn region makes. Conditions: those that each rule names. -/
namespace Go.Lx
open Go Go.Vc Go.Md
def cutL {β : Type} (xs : List β) (l q : Int) : List β := (xs.drop l.toNat).take (q.toNat - l.toNat)
section allc
variable {α : Type} {G : Jt → (Nat → Value) → α → Prop} {h : Jt} {sz : Nat} {css : List (List Value)} {xs ys : List α} {l q : Int}
theorem AllC.cutG (p : AllC G h sz css xs) (g : Qd xs l q = some ys) : Qd css l q = some (cutL css l q) := by
 obtain ⟨g0, g1, g2, _⟩ := Zk g
 exact Jf8 ⟨g0, g1, by rw [p.len]; exact g2⟩
theorem AllC.cut (p : AllC G h sz css xs) (g : Qd xs l q = some ys) : AllC G h sz (cutL css l q) ys := by
 obtain ⟨g0, g1, g2, rfl⟩ := Zk g
 refine ⟨by simp [cutL, p.len], fun i cs x h1 h2 => ?_⟩
 unfold cutL at h1
 rw [List.getElem?_take] at h1 h2
 split at h1
 ·rename_i hi
  rw [if_pos hi] at h2
  rw [List.getElem?_drop] at h1 h2
  exact p.el _ cs x h1 h2
 ·cases h1
end allc
section rules
variable {P : Program} {n : Nat} {cx : Cx} {e : Q6} {L : List Chunk} {d : Nat} {ty : TypeId} {pos : String} {af : Array Edge} {g : Option (Nat × Bool)}
theorem imp_rowDx {α : Type} {G : Jt → (Nat → Value) → α → Prop} {hp : Jt} {E sz n : Nat} {p : Option Addr × Nat} {css : List (List Value)} {xs : List α} (hn : n = css.length) (f : AllC G hp sz css xs) :
  Imp (Q5 (Y1 Un hp) (Jw E sz (.slice p.1 n p.2) n (css.map idC))) (Uo E sz G (.slice p.1 xs.length p.2) xs.length xs) := by
 subst hn
 rw [← f.len]
 exact U3 rfl f
theorem frn_rowD0 {α : Type} {G : Jt → (Nat → Value) → α → Prop} [Mon G] {E sz : Nat} {p : Option Addr × Nat} {xs : List α} {S : Nat → Prop} {w : World} (h : (Uo E sz G (.slice p.1 xs.length p.2) xs.length xs).P S w) (H : Jt) (hH : ∀ b o, S b → w.heap[b]? = some o → H b = some o) : FrN H sz (.slice p.1 xs.length p.2) G xs := by
 obtain ⟨hp, css, f, hn, S1, S2, k1, k2, k3, k4, _⟩ := h
 have hr := Jgb k2.1.1 k2.1.2.1 k2.1.2.2
 refine frn_of (hr.sub (S := S2) k2.2 fun b o hs hb => hH b o (k4 b hs) hb) (f.mono fun b o hb => ?_)
 rcases k1.2 b o hb with h | ⟨h1, h2⟩
 ·cases h
 ·exact hH b o (k3 b h1) h2
theorem frn_rowD {α : Type} {G : Jt → (Nat → Value) → α → Prop} [Mon G] {w : World} {i E sz : Nat} {p : Option Addr × Nat} {xs : List α} (hS : Sat cx w L) (hL : L[i]? = some (Uo E sz G (.slice p.1 xs.length p.2) xs.length xs)) : FrN (fun b => w.heap[b]?) sz (.slice p.1 xs.length p.2) G xs := by
 obtain ⟨S, hp, _⟩ := hS.at hL
 exact frn_rowD0 hp _ fun _ _ _ h => h
def offR (w : World) (E sz : Nat) (v : Value) (n : Nat) (xs : List (List Value)) : Prop :=
 ∃ g off cap cur, v = .slice (some ⟨g, off, none⟩) n cap ∧ w.heap[g]? = some (.cells cur E (0, 0)) ∧ n ≤ cap ∧ cap ≤ maxLen ∧ off + cap * sz ≤ cur.size ∧ (cur.toList.drop off).take (n * sz) = xs.flatten
theorem offR.frs {w : World} {E sz : Nat} {v : Value} {n : Nat} {xs : List (List Value)} (h : offR w E sz v n xs) (hn : xs.length = n) (hl : ∀ x ∈ xs, x.length = sz) : FrS (fun b => w.heap[b]?) sz v xs := by
 obtain ⟨g, off, cap, cur, rfl, hh, hnc, hm, hcs, ht⟩ := h
 subst hn
 refine ⟨some ⟨g, off, none⟩, cap, rfl, hnc, by simpa [maxLen] using hm, .inr ⟨g, off, cur, E, (0, 0), rfl, hh, fun i x hx => ⟨hl x (List.mem_of_getElem? hx), fun j v hv => ?_⟩⟩⟩
 have hr := Jct xs i x (List.all_eq_true.2 fun x hx => by simpa using hl x hx) hx j v hv
 rw [← ht, List.getElem?_take] at hr
 split at hr
 ·rw [List.getElem?_drop, Array.getElem?_toList] at hr
  rw [← hr, Nat.add_assoc]
 ·cases hr
end rules
section rules
variable {P : Program} {cx : Cx} {ops : Array Oper} {F : Q6 → List Chunk → Prop} {rest : List Oper} {ss : List Kd} {e : Q6} {L : List Chunk} {d : Nat}
end rules
end Go.Lx

/- Rules: stores of slices that a region makes into elements of nested rows. Conditions: none. -/
namespace Go.Lx
open Go Go.Vc Go.Md
def setR (css : List (List Value)) (i : Int) (j : Nat) (v : Value) : List (List Value) := css.set i.toNat ((css.getD i.toNat []).set j v)
def updF (c : Nat → Value) (j : Nat) (v : Value) (q : Nat) : Value := cond (Nat.beq q j) v (c q)
theorem Jax (css : List (List Value)) (i : Int) (j : Nat) (v : Value) : (setR css i j v).length = css.length := by simp [setR]
theorem ixR {α : Type} {css : List (List Value)} {xs : List α} {i : Int} {x : α} (h : css.length = xs.length) (g : Qk xs i = some x) : Qk css i = some (css.getD i.toNat []) := by
 obtain ⟨h0, h1, _⟩ := Xg g
 unfold Qk
 rw [if_pos h0, List.getD_eq_getElem?_getD, List.getElem?_eq_getElem (by rw [h]; exact h1)]; rfl
theorem AllC.setR {α : Type} {G : Jt → (Nat → Value) → α → Prop} {h : Jt} {sz : Nat} {css : List (List Value)} {xs ys : List α} (p : AllC G h sz css xs) {i : Int} {x x' : α} {j : Nat} {v : Value} (g : Qk xs i = some x) (g2 : gSet xs i x' = some ys) (hj : Nat.blt j sz = true)
  (hG : G h (updF (fun q => (css.getD i.toNat []).getD q undef) j v) x') : AllC G h sz (Go.Lx.setR css i j v) ys := by
 have hj' : j < sz := by simpa using hj
 obtain ⟨h0, h1, rfl⟩ := Jfo g2
 have hget := p.get g
 have hl := (p.el _ _ _ hget (Xg g).2.2).1
 refine ⟨by rw [Jax, p.len, List.length_set], fun k c y hc hy => ?_⟩
 unfold Go.Lx.setR at hc
 rw [List.getElem?_set] at hc hy
 by_cases hk : i.toNat = k
 ·subst hk
  rw [if_pos rfl, if_pos (by rw [p.len]; exact h1)] at hc
  rw [if_pos rfl, if_pos h1] at hy
  cases hc; cases hy
  refine ⟨by rw [List.length_set]; exact hl, ?_⟩
  have : (fun q => ((css.getD i.toNat []).set j v).getD q undef) = updF (fun q => (css.getD i.toNat []).getD q undef) j v := by
   funext q
   unfold updF
   simp only [List.getD_eq_getElem?_getD, List.getElem?_set]
   by_cases hq : j = q
   ·subst hq
    have : Nat.beq j j = true := by simp
    simp only [List.getD_eq_getElem?_getD] at hl
    rw [this, if_pos rfl, if_pos (by rw [hl]; exact hj')]; rfl
   ·have : Nat.beq q j = false := by
     cases hb : Nat.beq q j with
     | false => rfl
     | true => exact absurd (Nat.eq_of_beq_eq_true hb).symm hq
    rw [this, if_neg hq]; rfl
  rw [this]; exact hG
 ·rw [if_neg hk] at hc hy
  exact p.el k c y hc hy
theorem wr_set {y : List Value} {j : Nat} {v : Value} (h : j < y.length) : wr y j [v] = some (y.set j v) := by
 induction y generalizing j with
 | nil => simp at h
 | cons a y ih =>
  cases j with
  | zero => simp [wr, wrn]
  | succ j =>
   show (wr y j [v]).map (a :: ·) = _
   rw [ih (by simpa using h)]; rfl
end Go.Lx
namespace Go.Lx
open Go Go.Vc Go.Md
section rules
variable {P : Program} {n : Nat} {cx : Cx} {e : Q6} {L : List Chunk} {ops : Array Oper} {rest : List Oper} {F : Q6 → List Chunk → Prop} {ss : List Kd} {ty : TypeId} {pos : String} {af : Array Edge} {g : Option (Nat × Bool)}
end rules
end Go.Lx
namespace Go.Lx
open Go Go.Vc Go.Md
section
variable {cx : Cx} {K : Q6 → World → Prop} {e : Q6} {L : List Chunk}
end
end Go.Lx
namespace Go.Lx
open Go Go.Vc Go.Md
section
variable {P : Program} {n : Nat} {cx : Cx} {e : Q6} {L : List Chunk} {ops : Array Oper} {rest : List Oper} {F : Q6 → List Chunk → Prop} {ss : List Kd} {ty : TypeId} {pos : String} {af : Array Edge} {g : Option (Nat × Bool)}
end
end Go.Lx
namespace Go.Lx
open Go Go.Vc Go.Md
theorem idC_map (l : List (List Value)) : l.map idC = l := by
 have : (idC : List Value → List Value) = id := rfl
 rw [this, List.map_id]
section
variable {P : Program} {n : Nat} {cx : Cx} {e : Q6} {L : List Chunk} {ops : Array Oper} {rest : List Oper} {F : Q6 → List Chunk → Prop} {ss : List Kd} {ty : TypeId} {pos : String} {af : Array Edge} {g : Option (Nat × Bool)}
end
end Go.Lx
namespace Go.Lx
open Go Go.Vc Go.Md
section
variable {P : Program} {n : Nat} {cx : Cx} {e : Q6} {L : List Chunk} {ty : TypeId} {pos : String} {af : Array Edge} {g : Option (Nat × Bool)}
theorem run_nilG {α : Type} {f : α → List Value} {xs : List α} {x' : α} {i : Int} {d : Option Nat} {k sz' : Nat} {a : Option Addr} {X : Operand} {w : World} (hx : ev e X = Ux a k) (hR : Row w a sz' (xs.map f)) (hg : Qk xs i = some x') :
  (execOp (ev e) ⟨d, .nilCheck X, ty, pos, af, g⟩).run P w = .ok (.value (Ux a k)) w := by
 obtain ⟨b, off, rfl⟩ := hR.some (i := i.toNat) (by rw [List.length_map]; exact (Xg hg).2.1)
 exact J8 (hx.trans rfl) w
theorem Jb4 {α : Type} {q T j sz k c E m : Nat} {A X : Operand} {x : Value} {a : Option Addr} {css : List (List Value)} {xs : List α} {i : Int} {xe : α} (hm : m = css.length) (hml : css.length = xs.length) (hs : ∀ w, (sizeOf T).run P w = .ok 1 w)
  (hp : ev e A = Ux a k) (hk : k = i.toNat * sz + j) (hx : ev e X = x) (hc : x.cells.toList = [x]) (hone : [x].all Value.oneCell' = true) (hj : Nat.blt j sz = true)
  (hL : L[q]? = some (Jw E sz (.slice a m c) m (css.map idC))) (hg : Qk xs i = some xe) :
  Turns P cx e ⟨none, .store T A X, ty, pos, af, g⟩ L q [] (fun _ : Unit => undef) (fun _ => Jw E sz (.slice a m c) m ((setR css i j x).map idC)) := by
 subst hm
 intro w L' hF hS hl hi
 have hL' := (hi q (.inr rfl)).trans hL
 rw [idC_map] at hL'
 rw [idC_map]
 obtain ⟨_, h1, hget⟩ := Xg (ixR hml hg)
 obtain ⟨S0, ⟨⟨ho, hlen, hlx⟩, hob⟩, hlt⟩ := hS.at hL'
 have hyl := hlx _ (List.mem_of_getElem? hget)
 have hv' : wr (css.getD i.toNat []) j [x] = some ((css.getD i.toNat []).set j x) := wr_set (by rw [hyl]; simpa using hj)
 obtain ⟨w', hr, h2, h3⟩ := Jgy (P := P) (ty := ty) (pos := pos) (af := af) (g := g) hs hp hk hx hc rfl rfl hone hget hv' ho hlen hlx
 obtain ⟨hF', hS'⟩ := hS.turnOf hF hL' (C := Jw E sz (.slice a css.length c) css.length (css.set i.toNat ((css.getD i.toNat []).set j x))) fun S1 hp => Jbu hp.2 h2 h3 (.inl rfl) (by simp [hlen]) (by
  intro z' hz
  rcases List.mem_or_eq_of_mem_set hz with h | h
  ·exact hlx z' h
  ·subst h; rw [List.length_set]; exact hyl)
 unfold RunsTo
 rw [hr]
 exact ⟨(), rfl, hF', hS'⟩
end
end Go.Lx

/- Rules: slices.Delete's operations at a row of one's own that may be a part of a longer one. Conditions: none. -/
namespace Go.Lx
open Go Go.Vc Go.Md
section
variable {P : Program} {n : Nat} {cx : Cx} {e : Q6} {L : List Chunk} {d : Option Nat} {ty : TypeId} {pos : String} {af : Array Edge} {g : Option (Nat × Bool)}
end
end Go.Lx
namespace Go.Lx
open Go Go.Vc Go.Md
section
variable {cx : Cx} {L : List Chunk} {w : World}
end
end Go.Lx
namespace Go.Lx
open Go Go.Vc Go.Md
end Go.Lx

/- Rules: slices.Insert's operations at a row of one's own without room: an append that makes a new row with zeros, copies of elements of many cells. Conditions: none. -/
namespace Go.Lx
open Go Go.Vc Go.Md
section
variable {P : Program} {n : Nat} {cx : Cx} {e : Q6} {L : List Chunk} {d : Nat} {ty : TypeId} {pos : String} {af : Array Edge} {g : Option (Nat × Bool)}
end
end Go.Lx
namespace Go.Lx
open Go Go.Vc Go.Md
end Go.Lx
namespace Go.Vc
open Go
section
variable {P : Program} {cx : Cx} {e : Q6} {L : List Chunk}
end
end Go.Vc

/- Rules: rows that may be known, over the frozen memory. Conditions: none. -/
namespace Go.Lx
open Go Go.Vc Go.Md
section
variable {cx : Cx} {L : List Chunk}
end
end Go.Lx

/- The kit's contract of slices.SortFunc at nested rows, by a number that each element has for itself. Conditions: the numbers are different, and not too large. -/
namespace Go.Lx
open Go Go.Md Go.Vc Go.Shelf Go.Sort Go.Proofs
end Go.Lx

/- Short forms of rules, for walks that would be too long for one claim. Conditions: none. -/
namespace Go.Lx
open Go Go.Md Go.Vc Go.Shelf Go.Sort Go.Proofs
abbrev nn : Option Addr × Nat := (none, 0)
abbrev i6 (x : Int) : Value := .int .i64 x
abbrev sl (p : Option Addr × Nat) (n : Nat) : Value := .slice p.1 n p.2
section
variable {P : Program} {n : Nat} {cx : Cx} {Q : Va} {e : Q6} {L : List Chunk} {ops : Array Oper} {rest : List Oper} {d : Nat} {ty : TypeId} {pos : String} {af : Array Edge} {g : Option (Nat × Bool)} {X : Operand}
theorem mv (v : Value) (k : At cx (WL P n ops Q rest) (upd e d v) L) (hw : want ops ⟨some d, .move X, ty, pos, af, g⟩ e = true := by exact rfl) (hn : Nat.blt d n = true := by exact rfl) (hx : ev e X = v := by exact rfl) :
  At cx (WL P n ops Q (⟨some d, .move X, ty, pos, af, g⟩ :: rest)) e L := Jeo hw rfl hn (r_move hx) k
theorem ag (v : Value) (k : At cx (WL P n ops Q rest) (upd e d v) L) (hw : want ops ⟨some d, .assign X, ty, pos, af, g⟩ e = true := by exact rfl) (hn : Nat.blt d n = true := by exact rfl) (hx : ev e X = v := by exact rfl) :
  At cx (WL P n ops Q (⟨some d, .assign X, ty, pos, af, g⟩ :: rest)) e L := Jeo hw rfl hn (Xs hx) k
theorem pa {o : Op} (k : At cx (WL P n ops Q rest) (upd e d undef) L) (hw : want ops ⟨some d, o, ty, pos, af, g⟩ e = false := by exact rfl) (hn : Nat.blt d n = true := by exact rfl) :
  At cx (WL P n ops Q (⟨some d, o, ty, pos, af, g⟩ :: rest)) e L := l_passed hw rfl hn k
theorem c_dr {K : Q6 → World → Prop} (i : Nat) (k : At cx K e (L.eraseIdx i)) : At cx K e L := by
 refine c_sel ((List.range L.length).eraseIdx i) (L.eraseIdx i) ?_ (List.nodup_range.sublist (List.eraseIdx_sublist _ _)) k
 refine List.ext_getElem? fun j => ?_
 rw [List.getElem?_map, List.getElem?_map, List.getElem?_eraseIdx, List.getElem?_eraseIdx]
 split
 ·by_cases h : j < L.length
  ·rw [List.getElem?_range h]; simp [List.getElem?_eq_getElem h]
  ·rw [List.getElem?_eq_none (by simpa using h), List.getElem?_eq_none (by simpa using h)]; rfl
 ·by_cases h : j + 1 < L.length
  ·rw [List.getElem?_range h]; simp [List.getElem?_eq_getElem h]
  ·rw [List.getElem?_eq_none (by simpa using h), List.getElem?_eq_none (by simpa using h)]; rfl
end
section
variable {P : Program} {cx : Cx} {e : Q6} {L : List Chunk} {ops : Array Oper} {F : Q6 → List Chunk → Prop} {rest : List Oper} {ss : List Kd} {d : Nat} {ty : TypeId} {pos : String} {af : Array Edge} {g : Option (Nat × Bool)} {X : Operand}
theorem dm (v : Value) (k : Sq P cx ops F rest ss (upd e d v) L) (hw : want ops ⟨some d, .move X, ty, pos, af, g⟩ e = true := by exact rfl) (hx : ev e X = v := by exact rfl) :
  Sq P cx ops F (⟨some d, .move X, ty, pos, af, g⟩ :: rest) (.p :: ss) e L := W6 hw rfl (r_move hx) k
theorem dp {o : Op} {s : Kd} (k : Sq P cx ops F rest ss (upd e d undef) L) (hw : want ops ⟨some d, o, ty, pos, af, g⟩ e = false := by exact rfl) :
  Sq P cx ops F (⟨some d, o, ty, pos, af, g⟩ :: rest) (s :: ss) e L := d_pass hw rfl k
end
section
variable {α : Type} {a b : α} {l : List α} {n : Nat}
theorem z1 : (a :: l).set 0 b = b :: l := rfl
theorem z2 : (a :: l).set (n + 1) b = a :: l.set n b := rfl
theorem z3 : (a :: l).eraseIdx 0 = l := rfl
theorem z4 : (a :: l).eraseIdx (n + 1) = a :: l.eraseIdx n := rfl
theorem z5 {m : List α} : (a :: l) ++ m = a :: (l ++ m) := rfl
theorem z6 {m : List α} : [] ++ m = m := rfl
theorem z7 : List.replicate (n + 1) a = a :: List.replicate n a := rfl
theorem z8 : List.replicate 0 a = [] := rfl
end
end Go.Lx

/- Rules: maps whose keys are structs, compared part by part. Conditions: those that each rule names. -/
namespace Go.Lx
open Go Go.Vc Go.Md
open Go.MapKept (IsKey Stamped)
structure KeyG {κ : Type} [DecidableEq κ] (P : Program) (kt : TypeId) (fk : κ → Value) : Prop where
 inj : ∀ a b, fk a = fk b → a = b
 chk : ∀ k em w, (Instr.checkKey em 10000 kt (fk k)).run P w = .ok () w
 now : ∃ d, P.underlying kt = some d ∧ ∀ a b, Instr.sameNow d (fk a) (fk b) = none
 eql : ∀ a b w, (Op.equal kt (fk a) (fk b)).run P w = .ok (decide (a = b)) w
 bits : ∀ k, Instr.sameBits 10000 (fk k) (fk k) = true
section find
variable {κ ν : Type} [DecidableEq κ] {P : Program} {kt : TypeId} {fk : κ → Value} {fv : ν → Value}
end find
section rules
variable {P : Program} {cx : Cx} {e : Q6} {L : List Chunk} {ty : TypeId} {pos : String} {af : Array Edge} {g : Option (Nat × Bool)}
variable {κ ν : Type} [DecidableEq κ] {fk : κ → Value} {fv : ν → Value}
end rules
end Go.Lx

/- In a drawn region: a call that turns two chunks at once; what it leaves is told behind the region. Conditions: those that each rule names. -/
namespace Go.Lx
open Go Go.Vc Go.Md
section
variable {P : Program} {cx : Cx} {e : Q6} {L : List Chunk} {ops : Array Oper} {F : Q6 → List Chunk → Prop} {rest : List Oper} {ss : List Kd}
theorem sat_imp {w : World} {i : Nat} {C D : Chunk} (hF : Fr cx w) (hS : Sat cx w L) (hi : L[i]? = some C) (h : Imp C D) : Sat cx w (L.set i D) :=
 (Xx (e := fun _ => undef) (K := fun _ w => Sat cx w (L.set i D)) i hi h ⟨fun _ _ h => h⟩).out w hF hS
end
end Go.Lx

/- Rules: rows of one's own that may be parts of their blocks: length, stores of whole elements. Conditions: those that each rule names. -/
namespace Go.Lx
open Go Go.Vc Go.Md
section rules
variable {P : Program} {n : Nat} {cx : Cx} {e : Q6} {L : List Chunk} {ops : Array Oper} {rest : List Oper} {ty : TypeId} {pos : String} {af : Array Edge} {g : Option (Nat × Bool)}
end rules
end Go.Lx

/- The kit's contract of slices.SortFunc at rows of one's own that may be parts of their blocks. Conditions: the row is shorter than 2^62; the comparing function is an order, and tells all elements apart. -/
namespace Go.Lx
open Go Go.Vc Go.Md Go.Shelf Go.Sort Go.Proofs
section ops
variable {P : Program} {e : Q6} {d : Option Nat} {ty : TypeId} {pos : String} {af : Array Edge} {g : Option (Nat × Bool)}
end ops
end Go.Lx

/- Rules: loops that go a known number of rounds; slices of three pointers to new memory, or nil. Conditions: none. -/
namespace Go.Lx
open Go Go.Vc Go.Md
structure RC (P : Program) (n : Nat) (c : Code) (Q : Va) (m : Nat) (e : Q6) (w : World) : Prop where
 out : ∀ a, Sim n a e → Code.rounds P c (lift n Q) m a w
section rules
variable {P : Program} {n : Nat} {Q : Va} {cx : Cx} {K : Q6 → World → Prop} {e : Q6} {L : List Chunk}
end rules
end Go.Lx

/- Rules: three results, of which the first one is a cell. Conditions: named in each rule. -/
namespace Go.Lx
open Go Go.Vc Go.Md Go.Shelf Go.Sort Go.Proofs
variable {P : Program} {cx : Cx} {L : List Chunk} {e : Q6}
section
open Go.Sort Go.Shelf
end
end Go.Lx

/- Rules: the store of a whole element into a nested row. Conditions: none. -/
namespace Go.Lx
open Go Go.Vc Go.Md
section
variable {α : Type} {G : Jt → (Nat → Value) → α → Prop} {h : Jt} {sz : Nat} {css : List (List Value)} {xs ys : List α} {i : Int} {x' : α} {vs : List Value}
end
end Go.Lx

/- Rules: calls whose result the memory leaves open: what follows is told ahead (the model takes what follows as an argument). Conditions: named in each rule. -/
namespace Go.Lx
open Go Go.Vc Go.Md Go.Shelf Go.Sort Go.Proofs
section rules
variable {P : Program} {n : Nat} {cx : Cx} {Q : Va} {e : Q6} {L : List Chunk} {ops : Array Oper} {rest : List Oper} {ty : TypeId} {pos : String} {af : Array Edge} {g : Option (Nat × Bool)}
end rules
section
end
section
open Go.Vc
variable {P : Program} {n : Nat} {cx : Cx} {e : Q6} {L : List Chunk} {d : Nat} {ty : TypeId} {pos : String} {af : Array Edge} {g : Option (Nat × Bool)}
end
section
variable {P : Program} {e : Q6} {d : Option Nat} {ty : TypeId} {pos : String} {af : Array Edge} {g : Option (Nat × Bool)}
theorem Row.pre {w : World} {a : Option Addr} {sz : Nat} {xs ys : List (List Value)} (h : Row w a sz (xs ++ ys)) : Row w a sz xs := by
 rcases h with h | ⟨b, off, ha, h⟩
 ·exact .inl (List.append_eq_nil_iff.1 h).1
 ·refine .inr ⟨b, off, ha, fun i x hx => h i x ?_⟩
  rw [List.getElem?_append_left (List.getElem?_eq_some_iff.1 hx).1]; exact hx
end
section
open Go.Vc
theorem imp_bldQ {b T E : Nat} {q : Value} {p : Option Addr × Nat} {bs : List UInt8} (hq : q = .pointer none ∨ q = .pointer (some ⟨b, 0, none⟩)) (hp : p = (none, 0) ∨ p.2 ≠ 0) :
  Imp (Q5 (Jp b [q, .slice p.1 (Qq bs).length p.2] T) (Jw E 1 (.slice p.1 (Qq bs).length p.2) (Qq bs).length ((Qq bs).map e8))) (Vg b T E bs) := ⟨fun _ _ h => ⟨q, p, hq, hp, h⟩⟩
variable {P : Program} {cx : Cx} {e : Q6} {L : List Chunk} {d : Option Nat} {ty : TypeId} {pos : String} {af : Array Edge} {g : Option (Nat × Bool)}
theorem turns_imp {σ : Type} {o : Oper} {i : Nat} {rds : List Nat} {C0 D : Chunk} {G : σ → Value} {C : σ → Chunk} (hL : L[i]? = some C0) (h : Imp C0 D) (hr : ∀ q ∈ rds, q ≠ i) (t : Turns P cx e o (L.set i D) i rds G C) : Turns P cx e o L i rds G C := by
 intro w L' hF hS hl hi
 have hL' : L'[i]? = some C0 := (hi i (.inr rfl)).trans hL
 have hil : i < L'.length := (List.getElem?_eq_some_iff.1 hL').1
 have hil2 : i < L.length := by omega
 have := t w (L'.set i D) hF (sat_imp hF hS hL' h) (by simp [hl]) fun j hj => by
  rcases hj with hj | hj
  ·have hne := hr j hj
   rw [List.getElem?_set_ne (fun h => hne h.symm), List.getElem?_set_ne (fun h => hne h.symm)]
   exact hi j (.inl hj)
  ·subst hj
   rw [List.getElem?_set_self hil, List.getElem?_set_self hil2]
 rw [show (L'.set i D).set i = fun c => L'.set i c by funext c; exact List.set_set ..] at this
 exact this
theorem frs_arx {w : World} {i b : Nat} {cs : List Value} {T n o : Nat} {α : Type} {f : α → List Value} {a : Nat → α} (hS : Sat cx w L) (hL : L[i]? = some (Jp b cs T)) (hcs : ((List.range n).map fun j => f (a j)).flatten = (cs.drop o).take n) (hlen : ∀ x, (f x).length = 1) (hn : Nat.ble n 9223372036854775807 = true) :
  FrS (fun b => w.heap[b]?) 1 (.slice (some ⟨b, o, none⟩) n n) (((List.range n).map a).map f) := by
 have hl : (((List.range n).map a).map f).length = n := by simp
 refine ⟨some ⟨b, o, none⟩, n, by rw [hl], by rw [hl]; exact Nat.le_refl _, by simpa using hn, .inr ⟨b, o, cs.toArray, T, (0, 0), rfl, Y6 hS hL, fun k x hx => ?_⟩⟩
 rw [List.map_map] at hx
 have hx' : ((List.range n).map fun j => f (a j))[k]? = some x := hx
 have hall : (((List.range n).map fun j => f (a j)).all fun x => Nat.beq x.length 1) = true := List.all_eq_true.2 fun y hy => by
  obtain ⟨j, _, rfl⟩ := List.mem_map.1 hy
  simp [hlen]
 have hxl : x.length = 1 := by simpa using List.all_eq_true.1 hall x (List.mem_of_getElem? hx')
 refine ⟨hxl, fun j v hv => ?_⟩
 have hg := Jct _ k x hall hx' j v hv
 rw [hcs, List.getElem?_take] at hg
 split at hg
 ·rw [List.getElem?_drop, ← Nat.add_assoc] at hg
  simpa using hg
 ·cases hg
theorem r_sliceArrLo {X A : Operand} {t el n b o sz l : Nat} {ka : IntKind} (ht : P.underlying t = some (.array n el)) (hs : ∀ w, (sizeOf el).run P w = .ok sz w) (hx : ev e X = .pointer (some ⟨b, o, none⟩)) (ha : ev e A = .int ka (l : Int)) (hl : Nat.ble l n = true) (w : World) :
  (execOp (ev e) ⟨d, .slice t X (some A) none none, ty, pos, af, g⟩).run P w = .ok (.value (.slice (if n = l then some ⟨b, o, none⟩ else some ⟨b, o + l * sz, none⟩) (n - l) (n - l))) w := by
 have e1 : P.arrayLen t = n := by simp [Program.arrayLen, ht]
 have e2 : P.elem t = el := by simp [Program.elem, ht]
 have ht' : P.underlying t = some (.array (P.arrayLen t) (P.elem t)) := by rw [e1, e2]; exact ht
 have hl' : l ≤ n := by simpa using hl
 simp only [execOp, Option.map_some, Option.map_none, hx, ha, Sem.run_bind, run_sliceAt_array_l w t ⟨b, o, none⟩ ht' ka (l : Int) (Int.natCast_nonneg l) (by rw [e1]; omega), e1, e2, hs, Result.andThen_ok, Sem.run_pure, slicedAt, Int.toNat_natCast, Addr.add_lit]
 split <;> rfl
end
end Go.Lx

/- Short forms of rules, second part; a return of four values. Conditions: none. -/
namespace Go.Lx
open Go Go.Md Go.Vc Go.Shelf Go.Sort Go.Proofs
theorem sj {α : Type} {a b : α} (h : some a = some b) : a = b := Option.some.inj h
section
variable {P : Program} {n : Nat} {cx : Cx} {Q : Va} {e : Q6} {L : List Chunk} {ops : Array Oper} {rest : List Oper} {d : Nat} {ty : TypeId} {pos : String} {af : Array Edge} {g : Option (Nat × Bool)}
theorem lv {o : Op} {v : Value} (hr : ∀ w, (execOp (ev e) ⟨some d, o, ty, pos, af, g⟩).run P w = .ok (.value v) w) (k : At cx (WL P n ops Q rest) (upd e d v) L)
  (hw : want ops ⟨some d, o, ty, pos, af, g⟩ e = true := by exact rfl) (hn : Nat.blt d n = true := by exact rfl) : At cx (WL P n ops Q (⟨some d, o, ty, pos, af, g⟩ :: rest)) e L := Jeo hw rfl hn hr k
theorem pT {c A B : Operand} (v : Value) (k : At cx (WL P n ops Q rest) (upd e d v) L) (hw : want ops ⟨some d, .pick c A B, ty, pos, af, g⟩ e = true := by exact rfl) (hn : Nat.blt d n = true := by exact rfl)
  (hc : ev e c = .bool true := by exact rfl) (hx : ev e A = v := by exact rfl) : At cx (WL P n ops Q (⟨some d, .pick c A B, ty, pos, af, g⟩ :: rest)) e L := Jeo hw rfl hn (Jdo hc hx) k
theorem pF {c A B : Operand} (v : Value) (k : At cx (WL P n ops Q rest) (upd e d v) L) (hw : want ops ⟨some d, .pick c A B, ty, pos, af, g⟩ e = true := by exact rfl) (hn : Nat.blt d n = true := by exact rfl)
  (hc : ev e c = .bool false := by exact rfl) (hx : ev e B = v := by exact rfl) : At cx (WL P n ops Q (⟨some d, .pick c A B, ty, pos, af, g⟩ :: rest)) e L := Jeo hw rfl hn (Jcv hc hx) k
theorem lf {T fld b o fo ft fsz bo : Nat} {nm tg pk : String} {em : Bool} {X : Operand} {fs : Array Field} (hu : ∀ w, (underlying T).run P w = .ok (.struct fs) w)
  (hf : fs[fld]? = some ⟨nm, ft, fo, em, tg, pk, bo⟩) (hs : ∀ w, (sizeOf ft).run P w = .ok fsz w) (hp : ev e X = .pointer (some ⟨b, o, none⟩))
  (k : At cx (WL P n ops Q rest) (upd e d (.pointer (some ⟨b, o + fo, none⟩))) L) (hsz : Nat.blt 0 fsz = true := by exact rfl) (hw : want ops ⟨some d, .fieldAddr T X fld, ty, pos, af, g⟩ e = true := by exact rfl) (hn : Nat.blt d n = true := by exact rfl) :
  At cx (WL P n ops Q (⟨some d, .fieldAddr T X fld, ty, pos, af, g⟩ :: rest)) e L := Jeo hw rfl hn (Ya hu hf hs hsz hp) k
theorem ll {T T0 b o : Nat} {A : Operand} {cs : List Value} (i : Nat) (v : Value) (hA : ∀ w, (isAgg T).run P w = .ok false w) (k : At cx (WL P n ops Q rest) (upd e d v) L)
  (hw : want ops ⟨some d, .load T A, ty, pos, af, g⟩ e = true := by exact rfl) (hn : Nat.blt d n = true := by exact rfl) (hp : ev e A = .pointer (some ⟨b, o, none⟩) := by exact rfl) (hL : L[i]? = some (Jp b cs T0) := by exact rfl) (hv : rg cs o = some v := by exact rfl) :
  At cx (WL P n ops Q (⟨some d, .load T A, ty, pos, af, g⟩ :: rest)) e L := l_load1 hA hw hn hp hL hv k
theorem st {i : Nat} {T T0 b o sz : Nat} {A X : Operand} {x : Value} {cs : List Value} (vs cs' : List Value) (hs : ∀ w, (sizeOf T).run P w = .ok sz w)
  (hp : ev e A = .pointer (some ⟨b, o, none⟩)) (hL : L[i]? = some (Jp b cs T0)) (k : At cx (WL P n ops Q rest) e (L.set i (Jp b cs' T0)))
  (hw : want ops ⟨none, .store T A X, ty, pos, af, g⟩ e = true := by exact rfl) (hx : ev e X = x := by exact rfl) (hc : x.cells.toList = vs := by exact rfl) (hsz : vs.length = sz := by exact rfl) (hpos : Nat.blt 0 sz = true := by exact rfl)
  (hone : vs.all Value.oneCell' = true := by exact rfl) (hv : wr cs o vs = some cs' := by exact rfl) :
  At cx (WL P n ops Q (⟨none, .store T A X, ty, pos, af, g⟩ :: rest)) e L := U5 hs hw hp hx hc hsz hpos hone hL hv k
theorem bo {K : Q6 → World → Prop} (i j : Nat) {C D : Chunk} (hi : L[i]? = some C) (hj : L[j]? = some D) (k : At cx K e ((L.set i (Q5 C D)).set j empC)) (hne : i ≠ j := by decide) : At cx K e L := c_both i j hi hj hne k
theorem ub {K : Q6 → World → Prop} (i j : Nat) {C D : Chunk} (hL : L[i]? = some (Q5 C D)) (hj : L[j]? = some empC) (k : At cx K e ((L.set i C).set j D)) (hne : i ≠ j := by decide) : At cx K e L := c_splitAt i j hL hj hne k
theorem cl {σ τ : Type} {sv : σ → τ → List (Nat × Value)} {hp : σ → τ → List Chunk} {I : σ → τ → Nat → Prop} {m : Nat} (s : σ) (t : τ) (k : Nat) (sel : List Nat) (hI : I s t k)
  (hst : Jez e (sv s t) := by (repeat' first | exact trivial | exact rfl | constructor)) (hnd : sel.Nodup := by decide) (hL : sel.map (fun i => L[i]?) = (hp s t).map some := by kernel_rfl) (hm : k < m := by exact Nat.lt_succ_self _) :
  At cx (RoundA cx sv hp I m) e L := c_close s t k sel hst hnd hL hI hm
theorem ci {α : Type} {x y r : Option α} {c : Operand} {p q : Code} (b : Bool) (hc : ev e c = .bool b) (ht : b = true → x = r → At cx (WC P n p Q) e L) (hf : b = false → y = r → At cx (WC P n q Q) e L) (H : J6 b x y = r) :
  At cx (WC P n (.cond c p q) Q) e L := c_if hc (fun h => ht h (Jen h H)) (fun h => hf h (Jei h H))
theorem sp {α : Type} {x y r : Option α} {K : Q6 → World → Prop} {b : Bool} (ht : b = true → x = r → At cx K (upd e d (.bool true)) L) (hf : b = false → y = r → At cx K (upd e d (.bool false)) L) (H : J6 b x y = r) :
  At cx K (upd e d (.bool b)) L := split (fun h => ht h (Jen h H)) (fun h => hf h (Jei h H))
end
section
variable {P : Program} {cx : Cx} {e : Q6} {L : List Chunk} {ops : Array Oper} {F : Q6 → List Chunk → Prop} {rest : List Oper} {ss : List Kd} {d : Nat} {ty : TypeId} {pos : String} {af : Array Edge} {g : Option (Nat × Bool)}
theorem dv {o : Op} {v : Value} (hr : ∀ w, (execOp (ev e) ⟨some d, o, ty, pos, af, g⟩).run P w = .ok (.value v) w) (k : Sq P cx ops F rest ss (upd e d v) L) (hw : want ops ⟨some d, o, ty, pos, af, g⟩ e = true := by exact rfl) :
  Sq P cx ops F (⟨some d, o, ty, pos, af, g⟩ :: rest) (.p :: ss) e L := W6 hw rfl hr k
theorem dl {i : Nat} {T T0 b o : Nat} {A : Operand} {cs : List Value} (v : Value) (hA : ∀ w, (isAgg T).run P w = .ok false w) (k : Sq P cx ops F rest ss (upd e d v) L)
  (hw : want ops ⟨some d, .load T A, ty, pos, af, g⟩ e = true := by exact rfl) (hp : ev e A = .pointer (some ⟨b, o, none⟩) := by exact rfl) (hL : L[i]? = some (Jp b cs T0) := by exact rfl) (hv : rg cs o = some v := by exact rfl) :
  Sq P cx ops F (⟨some d, .load T A, ty, pos, af, g⟩ :: rest) (.d [i] v :: ss) e L := d_load1 hA hw hp hL hv k
end
section
variable {P : Program} {cx : Cx} {e : Q6} {L : List Chunk}
theorem r1 {fn : Func} {t : Tmp} {v : Value} {w0 : World} (V : Value) (hr : fn.results = #[.tmp t] := by exact rfl) (ht : e t = V := by exact rfl) (h : V = v := by exact rfl) :
  At ⟨w0, fun _ => False⟩ (Jey P fn (fun v' w' => v' = v ∧ Grow w0 w') .ret) e L := Wm hr ht (fin h)
theorem results_four {fn : Func} {t u s q : Tmp} (h : fn.results = #[.tmp t, .tmp u, .tmp s, .tmp q]) (tmps : Array Value) (w : World) : (results fn tmps).run P w = .ok (.tuple #[tmps.getD t undef, tmps.getD u undef, tmps.getD s undef, tmps.getD q undef]) w := by
 simp [results, h]
theorem ret4 {fn : Func} {R : Value → World → Prop} {t u s q : Tmp} {v1 v2 v3 v4 : Value} (hr : fn.results = #[.tmp t, .tmp u, .tmp s, .tmp q]) (h1 : e t = v1) (h2 : e u = v2) (h3 : e s = v3) (h4 : e q = v4) (k : ∀ w, Fr cx w → Sat cx w L → R (.tuple #[v1, v2, v3, v4]) w) : At cx (Jey P fn R .ret) e L :=
 ⟨fun w hF hS tmps hs => ⟨.tuple #[v1, v2, v3, v4], by rw [results_four hr, hs, hs, hs, hs, h1, h2, h3, h4], k w hF hS⟩⟩
end
end Go.Lx
