/- More rules for walks that are led by a model: kinds of numbers, shifts, arrays, stores, appends, several results. Conditions: none. -/
import Derived.Test.YthljoadplekgnaaGreatDoorMd
import Derived.Lib.AppendStr
import Derived.Laws.BytesString
import Derived.Laws.RangeString
import Derived.Laws.CopyRow
import Derived.Laws.IdiomCopy
import Derived.Lib.UnsafeStr
import Derived.Lib.Builder
import Derived.Laws.Pointers
import Derived.Lib.AppendZeros
import Derived.Shelf.Sort.Plain
import Derived.Shelf.Slices.In.SortNone
import Derived.Sort.OwnSortedInts
import Derived.Shelf.SlSortCmp.WholeK
import Derived.Shelf.SlSortCmp.NoneTotal
import Derived.ArgAppend
import Derived.Lib.ConvBytes
import Derived.Maps.RangeRun
import Derived.Shelf.Slices.CompactS
import Derived.Sort.OwnSorted
import Derived.Shelf.Slices.CompactI
import Derived.Test.YthljoadplekgnaaGreatDoorProg
import Derived.Tactics
import Derived.Tactics2
import Derived.StillTactics
import Derived.LoopTactic
import Derived.Laws.Cover1
import Derived.WalkKit
import Derived.StillTailTactics
import Derived.Deep.RegionHeld3
import Derived.Shelf.Strings.Builder1
import Derived.Shelf.Strings.Builder2
import Derived.Shelf.Strings.OnBuilder
import Derived.Shelf.Small.Bits
import Derived.Shelf.Small.Strs
import Derived.Shelf.Strings.BuilderF
import Derived.Shelf.Strconv.Itoa0
import Derived.Shelf.Strconv.Itoa1
import Derived.Shelf.LaysM
import Derived.Shelf.Strconv.Itoa2
import Derived.Shelf.Strconv.Itoa3
import Derived.Shelf.Strings.Search1
import Derived.Shelf.Strings.Prefix
import Derived.Shelf.Bits.Mul64
import Derived.Shelf.Strings.Repeat
import Derived.Ground.SlgcProg
import Derived.Shelf.SlicesG.Cmp
import Derived.Lib.Bytealg
import Derived.Lib.SmallJoins
import Derived.Lib.AppendIntMem
import Derived.Shelf.Strconv.Atoi
import Derived.LoopN
import Derived.Lib.Overlaps
namespace Go.Lx
open Go Go.Vc Go.Md
theorem wr_u8 (x : Int) : IntKind.u8.wrap x = wU8 x := by simp [IntKind.wrap, IntKind.bits, IntKind.signed, wU8]
theorem wr_u64 (x : Int) : IntKind.u64.wrap x = wU64 x := by simp [IntKind.wrap, IntKind.bits, IntKind.signed, wU64]
theorem wr_i32 (x : Int) : IntKind.i32.wrap x = wI32 x := by simp [IntKind.wrap, IntKind.bits, IntKind.signed, wI32]
theorem Jh0 (x : Int) : IntKind.i64.wrap x = Jap x := by simp [IntKind.wrap, IntKind.bits, IntKind.signed, Jap]
theorem gK_i64 {x y : Int} (h : gK (-9223372036854775808) 9223372036854775807 x = some y) : IntKind.i64.wrap x = y := by obtain ⟨rfl, h⟩ := gK_some h; rw [Jh0]; unfold Jap; split <;> omega
section ops
variable {P : Program} {e : X4} {d : Option Nat} {ty : TypeId} {pos : String} {af : Array Edge} {g : Option (Nat × Bool)}
section bin
variable {X Y : Operand} {x y z u : Int} {t t' : TypeId} {kd k2 : IntKind} {bits : Nat}
theorem r_bin2 {op : BinOp} {v : Value} (hx : ev e X = .int kd x) (hy : ev e Y = .int k2 y) (hg : ∀ w, (eqGuard op t X Y (.int kd x) (.int k2 y)).run P w = .ok () w)
  (hr : ∀ w, (binOp op t (.int kd x) (.int k2 y)).run P w = .ok v w) (w : World) :
  (execOp (ev e) ⟨d, .binOp op t X Y t', ty, pos, af, g⟩).run P w = .ok (.value v) w := by
 simp [execOp, hx, hy, hg, hr]
theorem r_shlG (hx : ev e X = .int .i64 x) (hy : ev e Y = .int k2 y) (h : gShl x y = some z) (w : World) :
  (execOp (ev e) ⟨d, .binOp .shl t X Y t', ty, pos, af, g⟩).run P w = .ok (.value (.int .i64 z)) w := by
 obtain ⟨h0, h1, rfl, hb⟩ := gShl_some h
 refine r_bin2 hx hy (fun w => rfl) (fun w => ?_) w
 have h2 : min y.toNat IntKind.i64.bits = y.toNat := by show min y.toNat 64 = y.toNat; omega
 have hn : ¬ y < 0 := by omega
 rw [binOp_shl]
 unfold Op.shift
 rw [if_neg hn]
 simp only [h2, IntWalk.i64_in _ hb, Sem.run_pure]
theorem r_shrG (hx : ev e X = .int kd x) (hy : ev e Y = .int k2 y) (hbits : kd.bits = bits) (h : gShr bits x y = some z) (w : World) :
  (execOp (ev e) ⟨d, .binOp .shr t X Y t', ty, pos, af, g⟩).run P w = .ok (.value (.int kd z)) w := by
 subst hbits
 unfold gShr at h; split at h
 ·cases h
  refine r_bin2 hx hy (fun w => rfl) (fun w => ?_) w
  have hf : x.fdiv (2 ^ min y.toNat kd.bits) = x / 2 ^ min y.toNat kd.bits := Int.fdiv_eq_ediv_of_nonneg _ (Int.pow_nonneg (by omega))
  have hn : ¬ y < 0 := by omega
  rw [show binOp .shr t (.int kd x) (.int k2 y) = Op.shift .shr kd x k2 y from rfl]
  unfold Op.shift
  rw [if_neg hn]
  simp only [hf, Sem.run_pure]
 ·cases h
theorem r_bitsOr (hx : ev e X = .int kd x) (hy : ev e Y = .int kd y) (hbits : kd.bits = bits) (hw : kd.wrap (bOr bits x y) = z) (w : World) :
  (execOp (ev e) ⟨d, .binOp .or t X Y t', ty, pos, af, g⟩).run P w = .ok (.value (.int kd z)) w := by
 subst hbits hw
 exact Jev hx hy (fun w => by rw [binOp_or]; rfl) w
end bin
theorem Jcf {X : Operand} {s t : TypeId} {k0 k1 : IntKind} {x y : Int} {su : TypeDesc} (hs : ∀ w, (underlying s).run P w = .ok su w) (ht : ∀ w, (underlying t).run P w = .ok (.int k1) w)
  (hx : ev e X = .int k0 x) (hr : k1.wrap x = y) (w : World) :
  (execOp (ev e) ⟨d, .convert s t X, ty, pos, af, g⟩).run P w = .ok (.value (.int k1 y)) w := by
 subst hr
 simp [execOp, hx, convert, hs, ht, Conv.intToInt]
theorem r_sliceLHF {α : Type} {h : J1} {f : α → List Value} {X A B : Operand} {v : Value} {xs ys : List α} {t u sz : Nat} {ka kb : IntKind} {l q : Int} (hu : P.underlying t = some (.slice u)) (hs : ∀ w, (sizeOf u).run P w = .ok sz w)
  (hx : ev e X = v) (ha : ev e A = .int ka l) (hb : ev e B = .int kb q) (s : FrS h sz v (xs.map f)) (hg : Qp xs l q = some ys) (w : World) :
  (execOp (ev e) ⟨d, .slice t X (some A) (some B) none, ty, pos, af, g⟩).run P w = .ok (.value (cutV sz v l q)) w := by
 obtain ⟨g0, g1, g2, _⟩ := V2 hg
 have hl := s.len; simp only [List.length_map] at hl
 rw [r_sliceLH hu hs (hx.trans s.eq) ha hb g0 g1 (by omega) w, cutV]
theorem r_sliceLF {α : Type} {h : J1} {f : α → List Value} {X A : Operand} {v : Value} {xs ys : List α} {t u sz : Nat} {ka : IntKind} {l : Int} (hu : P.underlying t = some (.slice u)) (hs : ∀ w, (sizeOf u).run P w = .ok sz w)
  (hx : ev e X = v) (ha : ev e A = .int ka l) (s : FrS h sz v (xs.map f)) (hg : Qp xs l xs.length = some ys) (w : World) :
  (execOp (ev e) ⟨d, .slice t X (some A) none none, ty, pos, af, g⟩).run P w = .ok (.value (cutV sz v l xs.length)) w := by
 obtain ⟨g0, g1, g2, _⟩ := V2 hg
 rw [r_sliceL hu hs (hx.trans s.eq) ha g0 (by rw [List.length_map]; exact g1) w, cutV, List.length_map]; rfl
end ops
section rules
variable {P : Program} {n : Nat} {cx : Cx} {Q : Jbe} {e : X4} {L : List Chunk} {ops : Array Oper} {F : X4 → List Chunk → Prop} {rest : List Oper} {ss : List Kd}
variable {d : Nat} {ty : TypeId} {pos : String} {af : Array Edge} {g : Option (Nat × Bool)}
def Jw (C D : Chunk) : Chunk where
 P S w := ∃ S1 S2 : Nat → Prop, C.P S1 w ∧ D.P S2 w ∧ (∀ b, S1 b → S b) ∧ (∀ b, S2 b → S b) ∧ ∀ b, S1 b → ¬ S2 b
 loc S w w' h := by
  rintro ⟨S1, S2, h1, h2, h3, h4, h5⟩
  exact ⟨S1, S2, C.loc _ _ _ (fun b hb => h b (h3 b hb)) h1, D.loc _ _ _ (fun b hb => h b (h4 b hb)) h2, h3, h4, h5⟩
theorem Qd {K : X4 → World → Prop} (i : Nat) {C D : Chunk} (hL : L[i]? = some (Jw C D)) (k : At cx K e (L.set i C ++ [D])) : At cx K e L :=
 ⟨fun w hF hS => k.out w hF (by
  obtain ⟨fp, h1, h2, h3⟩ := hS.out
  obtain ⟨S1, S2, k1, k2, k3, k4, k5⟩ := h1 i _ hL
  have hil : i < L.length := by
   rcases Nat.lt_or_ge i L.length with h | h
   ·exact h
   ·simp [List.getElem?_eq_none h] at hL
  refine ⟨fun j b => if j = i then S1 b else if j = L.length then S2 b else fp j b, ?_, ?_, ?_⟩
  ·intro j c hc
   by_cases hj : j = L.length
   ·subst hj
    rw [List.getElem?_append_right (by simp)] at hc
    simp at hc
    subst hc
    have : ¬ L.length = i := by omega
    simpa [this] using k2
   ·have hjl : j < L.length := by
     rcases Nat.lt_or_ge j L.length with h | h
     ·exact h
     ·rw [List.getElem?_append_right (by simpa using h)] at hc
      rw [List.getElem?_eq_none (by simp; omega)] at hc
      cases hc
    rw [List.getElem?_append_left (by simpa using hjl)] at hc
    by_cases hji : j = i
    ·subst hji
     rw [List.getElem?_set_self hil] at hc
     cases hc
     simpa using k1
    ·rw [List.getElem?_set_ne (fun h => hji h.symm)] at hc
     simpa [hji, hj] using h1 j c hc
  ·intro j b hb
   by_cases hji : j = i
   ·simp only [hji, if_true] at hb
    have := h2 i b (k3 b hb)
    exact ⟨by simp; omega, this.2⟩
   ·by_cases hj : j = L.length
    ·subst hj
     have hne : ¬ L.length = i := by omega
     simp only [hne, if_true, if_false] at hb
     exact ⟨by simp, (h2 i b (k4 b hb)).2⟩
    ·simp only [hji, hj, if_false] at hb
     obtain ⟨a1, a2⟩ := h2 j b hb
     exact ⟨by simp; omega, a2⟩
  ·intro j q b hj hq
   have key : ∀ j, (if j = i then S1 b else if j = L.length then S2 b else fp j b) → (j = i ∧ S1 b) ∨ (j = L.length ∧ j ≠ i ∧ S2 b) ∨ (j ≠ i ∧ j ≠ L.length ∧ fp j b) := by
    intro j h
    by_cases hji : j = i
    ·simp only [hji, if_true] at h; exact .inl ⟨hji, h⟩
    ·by_cases hjl : j = L.length
     ·simp only [hji, hjl, if_true, if_false] at h
      have hne : ¬ L.length = i := by omega
      simp only [hne, if_false] at h
      exact .inr (.inl ⟨hjl, hji, h⟩)
     ·simp only [hji, hjl, if_false] at h; exact .inr (.inr ⟨hji, hjl, h⟩)
   rcases key j hj with ⟨a1, a2⟩ | ⟨a1, a0, a2⟩ | ⟨a1, a3, a2⟩ <;> rcases key q hq with ⟨c1, c2⟩ | ⟨c1, c0, c2⟩ | ⟨c1, c3, c2⟩
   ·omega
   ·exact absurd c2 (k5 b a2)
   ·exact absurd (h3 i q b (k3 b a2) c2) (fun h => c1 h.symm)
   ·exact absurd a2 (k5 b c2)
   ·omega
   ·exact absurd (h3 i q b (k4 b a2) c2) (fun h => c1 h.symm)
   ·exact absurd (h3 i j b (k3 b c2) a2) (fun h => a1 h.symm)
   ·exact absurd (h3 i j b (k4 b c2) a2) (fun h => a1 h.symm)
   ·exact h3 j q b a2 c2)⟩
theorem Jhv {K : X4 → World → Prop} (i j : Nat) {C D : Chunk} (hi : L[i]? = some C) (hj : L[j]? = some D) (hne : i ≠ j) (k : At cx K e ((L.set i (Jw C D)).set j empC)) : At cx K e L :=
 ⟨fun w hF hS => k.out w hF (by
  obtain ⟨fp, h1, h2, h3⟩ := hS.out
  have hil : i < L.length := by
   rcases Nat.lt_or_ge i L.length with h | h
   ·exact h
   ·simp [List.getElem?_eq_none h] at hi
  have hjl : j < L.length := by
   rcases Nat.lt_or_ge j L.length with h | h
   ·exact h
   ·simp [List.getElem?_eq_none h] at hj
  refine ⟨fun q b => if q = i then fp i b ∨ fp j b else if q = j then False else fp q b, ?_, ?_, ?_⟩
  ·intro q c hc
   by_cases hqj : q = j
   ·subst hqj
    rw [List.getElem?_set_self (by simpa using hjl)] at hc
    cases hc
    have : ¬ q = i := fun h => hne h.symm
    simp only [this, if_true, if_false]
    exact fun b h => h
   ·rw [List.getElem?_set_ne (fun h => hqj h.symm)] at hc
    by_cases hqi : q = i
    ·subst hqi
     rw [List.getElem?_set_self hil] at hc
     cases hc
     simp only [if_true]
     exact ⟨fp q, fp j, h1 q C hi, h1 j D hj, fun b h => .inl h, fun b h => .inr h, fun b a c => hne (h3 q j b a c)⟩
    ·rw [List.getElem?_set_ne (fun h => hqi h.symm)] at hc
     simp only [hqi, hqj, if_false]
     exact h1 q c hc
  ·intro q b hb
   by_cases hqi : q = i
   ·simp only [hqi, if_true] at hb
    refine ⟨by simp [hqi, hil], ?_⟩
    rcases hb with hb | hb
    ·exact (h2 i b hb).2
    ·exact (h2 j b hb).2
   ·by_cases hqj : q = j
    ·have hji : ¬ j = i := fun h => hne h.symm
     simp only [hqj, hji, if_true, if_false] at hb
    ·simp only [hqi, hqj, if_false] at hb
     obtain ⟨a1, a2⟩ := h2 q b hb
     exact ⟨by simpa using a1, a2⟩
  ·intro p q b hp hq
   have key : ∀ q, (if q = i then fp i b ∨ fp j b else if q = j then False else fp q b) → (q = i ∧ (fp i b ∨ fp j b)) ∨ (q ≠ i ∧ q ≠ j ∧ fp q b) := by
    intro q h
    by_cases hqi : q = i
    ·simp only [hqi, if_true] at h; exact .inl ⟨hqi, h⟩
    ·by_cases hqj : q = j
     ·have hji : ¬ j = i := fun h => hne h.symm
      simp only [hqj, hji, if_true, if_false] at h
     ·simp only [hqi, hqj, if_false] at h; exact .inr ⟨hqi, hqj, h⟩
   rcases key p hp with ⟨a1, a2⟩ | ⟨a1, a3, a2⟩ <;> rcases key q hq with ⟨c1, c2⟩ | ⟨c1, c3, c2⟩
   ·omega
   ·rcases a2 with a2 | a2
    ·exact absurd (h3 i q b a2 c2) (fun h => c1 h.symm)
    ·exact absurd (h3 j q b a2 c2) (fun h => c3 h.symm)
   ·rcases c2 with c2 | c2
    ·exact absurd (h3 i p b c2 a2) (fun h => a1 h.symm)
    ·exact absurd (h3 j p b c2 a2) (fun h => a3 h.symm)
   ·exact h3 p q b a2 c2)⟩
def roV (sz : Nat) (v : Value) (n : Nat) (xs : List (List Value)) : Chunk where
 P S w := n = xs.length ∧ FrS (fun b => w.heap[b]?) sz v xs ∧ ∀ b, v.ownBlock = some b → S b
 loc S w w' h := by
  rintro ⟨h1, h2, h3⟩
  refine ⟨h1, ?_, h3⟩
  obtain ⟨a, c, rfl, g1, g2, r⟩ := h2.out
  refine ⟨a, c, rfl, g1, g2, ?_⟩
  rcases r with r | ⟨b, off, cs, T, m, rfl, hb, r⟩
  ·exact .inl r
  ·exact .inr ⟨b, off, cs, T, m, rfl, (h b (h3 b rfl)).trans hb, r⟩
theorem Jij {w : World} {E sz : Nat} {v : Value} {n : Nat} {xs : List (List Value)} (h : w.ownsRow 0 E sz v n xs.flatten) (hn : xs.length = n) (hl : ∀ x ∈ xs, x.length = sz) : FrS (fun b => w.heap[b]?) sz v xs := by
 rcases h.2 with ⟨rfl, h0⟩ | ⟨g, Y4, cur, rfl, _, hh, hnc, hm, hcs, ht⟩
 ·have : xs = [] := List.eq_nil_of_length_eq_zero (hn.trans h0)
  subst this
  exact ⟨none, 0, by simp, by simp, by simp, .inl rfl⟩
 ·subst hn
  have hr := Jfd h rfl hl
  refine ⟨some ⟨g, 0, none⟩, Y4, rfl, hnc, by simpa [maxLen] using hm, ?_⟩
  rcases hr with hr | ⟨b, off, ha, hr⟩
  ·exact .inl hr
  ·simp only [Option.some.injEq, Addr.mk.injEq] at ha
   obtain ⟨rfl, rfl, _⟩ := ha
   refine .inr ⟨g, 0, cur, E, _, rfl, hh, fun i x hx => ⟨(hr i x hx).1, fun j v hv => ?_⟩⟩
   have := (hr i x hx).2 j v hv
   simpa [World.cell?, hh] using this
theorem row_ro (E sz : Nat) (v : Value) (n : Nat) (xs : List (List Value)) : Imp (J4 E sz v n xs) (roV sz v n xs) := ⟨fun S w ⟨⟨h1, h2, h3⟩, h4⟩ => ⟨h2.symm, Jij h1 h2 h3, h4⟩⟩
theorem imp_clipO (E sz : Nat) (a : Option Addr) (n c : Nat) (xs : List (List Value)) : Imp (J4 E sz (.slice a n c) n xs) (roV sz (.slice (Vo a 0 n sz) n n) n xs) := ⟨fun S w ⟨⟨h1, h2, h3⟩, h4⟩ => by
 have hf := Jij h1 h2 h3
 subst h2
 obtain ⟨a', c', hv, g1, g2, r⟩ := hf.out
 simp only [Value.slice.injEq] at hv
 obtain ⟨rfl, _, rfl⟩ := hv
 refine ⟨rfl, ⟨_, _, rfl, Nat.le_refl _, by omega, ?_⟩, fun b hb => h4 b ?_⟩
 ·have := r.cut 0 xs.length xs.length (by omega)
  rwa [List.drop_zero, List.take_of_length_le (Nat.le_refl _)] at this
 ·rw [own_cut (y := xs.length)] at hb; rw [← hb]; cases a <;> rfl⟩
theorem Jgy {fn : Func} {R : Value → World → Prop} (hr : fn.results = #[]) (k : ∀ w, Fr cx w → Sat cx w L → R (.tuple #[]) w) : At cx (Jfl P fn R .normal) e L :=
 ⟨fun w hF hS tmps hs => ⟨.tuple #[], by simp [results, hr], k w hF hS⟩⟩
theorem Jjq {α : Type} {q T j sz szT k c E m : Nat} {A X : Operand} {x : Value} {a : Option Addr} {vs : List Value} {f : α → List Value} {xs ys : List α} {i : Int} {z : α} (hm : m = xs.length) (hs : ∀ w, (sizeOf T).run P w = .ok szT w)
  (hw : Yi ops ⟨none, .store T A X, ty, pos, af, g⟩ e = true) (hp : ev e A = Jbt a k) (hk : k = i.toNat * sz + j) (hx : ev e X = x) (hc : x.cells.toList = vs) (hsz : vs.length = szT)
  (hpos : Nat.blt 0 szT = true) (hone : vs.all Value.oneCell' = true) (hL : L[q]? = some (J4 E sz (.slice a m c) m (xs.map f))) (hv : ∀ y, Zb xs i = some y → wr (f y) j vs = some (f z)) (hg : gSet xs i z = some ys)
  (k' : At cx (WL P n ops Q rest) e (L.set q (J4 E sz (.slice a m c) m (ys.map f)))) : At cx (WL P n ops Q (⟨none, .store T A X, ty, pos, af, g⟩ :: rest)) e L := by
 subst hm
 obtain ⟨h0, h1, rfl⟩ := gSet_some hg
 have hat : Zb xs i = some xs[i.toNat] := gAt_ok h0 h1
 exact l_storeR (i := i.toNat) (j := j) (y := f xs[i.toNat]) hs hw hp hk hx hc hsz hpos hone hL (map_at hat) (hv _ hat) (by rw [List.map_set]) k'
theorem Jih {α : Type} {N C : Operand} {t E : TypeId} {I : TypeInfo} {z : Value} {sz by_ : Nat} {m : Int} {rds : List Nat} {f : α → List Value} {zz : α} {xs : List α} (ht : P.underlying t = some (.slice E)) (hi : P.info? E = some I) (hz : I.zero = some z) (hsize : I.size = sz) (hby : I.bytes = by_)
  (hzs : z.cells.toList = f zz) (hsz : Nat.blt 0 sz = true) (hl : (f zz).length = sz) (hnc : ev e N = .int .i64 m ∧ ev e C = .int .i64 m) (hg : gMake by_ m zz = some xs) :
  Makes P cx e ⟨some d, .makeSlice t N C, ty, pos, af, g⟩ L rds (fun p : Option Addr × Nat => .slice p.1 xs.length p.2) (fun p => J4 E sz (.slice p.1 xs.length p.2) xs.length (xs.map f)) := by
 obtain ⟨h0, hn, hb, rfl⟩ := gMake_some hg
 obtain ⟨k, rfl⟩ := Int.eq_ofNat_of_zero_le h0
 rw [Int.toNat_natCast] at *
 rw [List.length_replicate, List.map_replicate]
 exact Jex (m := k) (c := k) ht hi hz hsize hby (by rw [hzs, hl]) hsz hnc.1 hnc.2 rfl (by omega) (by omega) (by rw [hzs])
theorem Jf8 {w : World} {base : Nat} (t ty e : TypeId) (i : TypeInfo) (size : Nat) (ht : P.underlying t = some (.slice e)) (hi : P.info? e = some i)
  (v : Value) (n : Nat) (xs : List Value) (c : Nat) (hown : w.ownsRow base e size v n xs) :
  (Builtin.append_ #[t, t] ty #[v, .slice none 0 c]).run P w = .ok v w := by
 rcases hown.2 with ⟨rfl, rfl⟩ | ⟨g, Y4, cur, rfl, _, _, hnc, _⟩
 ·simp [Builtin.append_, run_underlying ht, sizeOf, typeInfo, hi, Builtin.lenOf, Builtin.firstCells]
 ·simp [Builtin.append_, run_underlying ht, sizeOf, typeInfo, hi, Builtin.lenOf, Builtin.firstCells, hnc, storeCells]
theorem Yg {α : Type} {f : α → List Value} {ys ls zs : List α} {i : Nat} {S X : Operand} {t E : TypeId} {I : TypeInfo} {z : Value} {sz by_ : Nat} {p : Option Addr × Nat} {rds : List Nat} {V : Value} {a : Option Addr} {c m q : Nat} (hn : m = ys.length)
  (ht : P.underlying t = some (.slice E)) (hi : P.info? E = some I) (hz : I.zero = some z) (hsize : I.size = sz) (hby : I.bytes = by_) (hzs : z.cells.size = sz) (hsz : Nat.blt 0 sz = true)
  (hL : L[i]? = some (J4 E sz (.slice p.1 m p.2) m (ys.map f))) (hs : ev e S = .slice p.1 m p.2) (hx : ev e X = V) (hV : V = .slice a q c) (hq : q = ls.length)
  (hnews : ∀ w L', Fr cx w → Sat cx w L' → (∀ j, j ∈ rds → L'[j]? = L[j]?) → Row w a sz (ls.map f)) (hf : ∀ x, (f x).length = sz) (h1 : ∀ x, (f x).all Value.oneCell' = true) (hg : Wb by_ ys ls = some zs) :
  Turns P cx e ⟨some d, .call ⟨.builtin .append, #[S, X], #[t, t]⟩, ty, pos, af, g⟩ L i rds (fun p' : Option Addr × Nat => .slice p'.1 zs.length p'.2) (fun p' => J4 E sz (.slice p'.1 zs.length p'.2) zs.length (zs.map f)) := by
 subst hn hq
 obtain ⟨rfl, hb1, hb2⟩ := Ja5 hg
 rw [List.length_append]
 cases ha : a with
 | some ad =>
  subst ha
  exact Jhj (ad := ad) ht hi hz hsize hby hzs hsz hL hs (hx.trans hV) (by rw [List.length_map]) (fun x hx => by
   obtain ⟨y, _, rfl⟩ := List.mem_map.1 hx; exact hf y) hnews (fun x hx u hu => by
   obtain ⟨y, _, rfl⟩ := List.mem_map.1 hx; exact List.all_eq_true.1 (h1 y) u hu) (by rw [List.map_append]) rfl (by omega) hb2
 | none =>
  subst ha
  intro w L' hF hS hl hi'
  have hr := hnews w L' hF hS fun j hj => hi' j (.inl hj)
  have hls : ls = [] := by
   rcases hr with h | ⟨b, off, h, _⟩
   ·simpa using h
   ·cases h
  subst hls
  have hL' := (hi' i (.inr rfl)).trans hL
  obtain ⟨S0, ⟨⟨ho, _⟩, _⟩, _⟩ := hS.at hL'
  have he : (execOp (ev e) ⟨some d, .call ⟨.builtin .append, #[S, X], #[t, t]⟩, ty, pos, af, g⟩).run P w = .ok (.value (.slice p.1 ys.length p.2)) w := by
   simp only [execOp, resolve, invoke, builtin, Sem.run_bind, Sem.run_pure, Result.andThen_ok, List.map_toArray, List.map_cons, List.map_nil, hs, hx, hV, List.length_nil, Jf8 t ty E I sz ht hi _ _ _ c ho]
  unfold RunsTo
  rw [he]
  refine ⟨p, by simp, hF, ?_⟩
  have : L'.set i (J4 E sz (.slice p.1 (ys.length + 0) p.2) (ys.length + 0) ((ys ++ []).map f)) = L' := by
   rw [List.append_nil, Nat.add_zero]
   refine List.ext_getElem? fun j => ?_
   rw [List.getElem?_set]
   split
   ·rename_i h; subst h
    split
    ·exact hL'.symm
    ·rename_i h; rw [List.getElem?_eq_none (by omega)]
   ·rfl
  show Sat cx w (L'.set i (J4 E sz (.slice p.1 (ys.length + ([] : List α).length) p.2) (ys.length + ([] : List α).length) ((ys ++ []).map f)))
  rw [List.length_nil, this]
  exact hS
end rules
end Go.Lx

namespace Go.Lx
open Go Go.Vc Go.Md
theorem Jgr {w : World} {E sz k old : Nat} {z : Value} {xs news : List Value} (hzs : z.cells.size = sz) (hl : (xs ++ news).length = k * sz) (h63 : k ≤ maxLen) :
  (w.drew.alloc (.cells (xs.toArray ++ news.toArray ++ Builtin.zeroCells z.cells (grownCap w k old E - k)) E)).ownsRow 0 E sz (.slice (some ⟨w.heap.size, 0, none⟩) k (grownCap w k old E)) k (xs ++ news) := by
 have hge := grownCap_ge w k old E
 have hcm : grownCap w k old E ≤ maxLen := grownCap_le_maxLen w k old E h63
 refine ⟨hl, .inr ⟨w.heap.size, _, _, rfl, Nat.zero_le _, heap_alloc_new w.drew _, hge, hcm, ?_, ?_⟩⟩
 ·have h2 : xs.length + news.length = k * sz := by rw [← List.length_append]; exact hl
  simp only [Array.size_append, List.size_toArray, size_zeroCells, hzs]
  rw [h2, ← Nat.add_mul]
  congr 1
  omega
 ·simp only [Array.toList_append, List.append_assoc]
  rw [← List.append_assoc, ← hl]
  exact List.take_left
theorem Jji (w : World) (o : Obj) (row : Option Nat) : w.grownBy (w.drew.alloc o) row := ⟨rfl, rfl, rfl, by simp, fun k hk _ => (by first | exact heap_alloc_old w.drew _ k hk | exact heap_alloc_old w.drew _ hk)⟩
theorem fits2 {need old bytes : Nat} (h : old < need) (hb : need * bytes ≤ 140739635838976) (hy : bytes ≤ 1048576) : Builtin.nextslicecap need old * bytes ≤ 281474976710656 := by
 have h1 : Builtin.nextslicecap need old ≤ need + (need + 768) / 4 + 512 := by
  unfold Builtin.nextslicecap
  split
  ·omega
  ·split
   ·omega
   ·rw [growBy_four]
    repeat' split
    all_goals omega
 have h2 : 4 * Builtin.nextslicecap need old ≤ 5 * need + 2816 := by omega
 have h3 := Nat.mul_le_mul_right bytes h2
 rw [Nat.mul_assoc, Nat.add_mul, Nat.mul_assoc] at h3
 omega
def apC (w : World) (E sz : Nat) (v : Value) (n : Nat) (xs : List (List Value)) : Prop :=
 (w.ownsRow 0 E sz v n xs.flatten ∨ (FrS (fun b => w.heap[b]?) sz v xs ∧ ∃ b o, v = .slice (some ⟨b, 0, none⟩) n n ∧ w.heap[b]? = some o)) ∧ xs.length = n ∧ ∀ x ∈ xs, x.length = sz
theorem apC.frs {w : World} {E sz : Nat} {v : Value} {n : Nat} {xs : List (List Value)} (h : apC w E sz v n xs) : FrS (fun b => w.heap[b]?) sz v xs :=
 h.1.elim (fun h1 => Jij h1 h.2.1 h.2.2) (fun h1 => h1.1)
theorem apC.slice {w : World} {E sz : Nat} {v : Value} {n : Nat} {xs : List (List Value)} (h : apC w E sz v n xs) : ∃ p : Option Addr × Nat, v = .slice p.1 n p.2 := by
 rcases h.1 with h1 | ⟨_, b', o, rfl, h1⟩
 ·exact Jhc h1
 ·exact ⟨(some ⟨b', 0, none⟩, n), rfl⟩
section rules
variable {P : Program} {n : Nat} {cx : Cx} {e : X4} {L : List Chunk} {d : Nat} {ty : TypeId} {pos : String} {af : Array Edge} {g : Option (Nat × Bool)}
theorem Jhx {w : World} {ad : Addr} {sz : Nat} {news : List (List Value)} (hnl : ∀ x ∈ news, x.length = sz) (hR : Row w (some ad) sz news) : ∀ j u, news.flatten[j]? = some u → w.cell? (ad.add j) = some u := by
 intro j u hj
 obtain ⟨i', k', x, g1, g2, g3⟩ := Jff news hnl j u hj
 rcases hR with h | ⟨b, off, ha, h⟩
 ·subst h; simp at g1
 ·cases ha
  have := (h i' x g1).2 k' u g2
  rw [Addr.add_lit, g3, ← Nat.add_assoc]
  exact this
theorem app_own {w : World} {t E sz by_ : Nat} {I : TypeInfo} {z : Value} {v : Value} {m q c : Nat} {xs news : List Value} {a : Addr} (ht : P.underlying t = some (.slice E)) (hi : P.info? E = some I) (hz : I.zero = some z) (hsize : I.size = sz) (hby : I.bytes = by_) (hzs : z.cells.size = sz)
  (ho : w.ownsRow 0 E sz v m xs) (hq : 0 < q) (hl : news.length = q * sz) (hnews : ∀ j u, news[j]? = some u → w.cell? (a.add j) = some u) (h1 : ∀ u ∈ news, u.oneCell' = true) (h63 : m + q ≤ maxLen) (hbytes : (m + q) * by_ ≤ 140739635838976) (hy : by_ ≤ 1048576) :
  ∃ v' w', (Builtin.append_ #[t, t] ty #[v, .slice (some a) q c]).run P w = .ok v' w' ∧ w'.ownsRow 0 E sz v' (m + q) (xs ++ news) ∧ w.grownBy w' v.ownBlock ∧ (v'.ownBlock = v.ownBlock ∨ v'.ownBlock = some w.heap.size) := by
 subst hsize hby
 have hsmall : m + q ≤ 9223372036854775807 := by simpa [maxLen] using h63
 have hlen : (xs ++ news).length = (m + q) * I.size := by rw [List.length_append, ho.1, hl, Nat.add_mul]
 rcases ho.2 with ⟨rfl, rfl⟩ | ⟨g', Y4, cur, rfl, hbg, hg, hnc, hcm, hcs, htake⟩
 ·have hx : xs = [] := List.eq_nil_of_length_eq_zero (by simpa using ho.1)
  subst hx
  have hq48 : q * I.bytes ≤ 281474976710656 := by rw [Nat.zero_add] at hbytes; omega
  have hr := run_append_nil (P := P) w t ty E I z ht hi hz a q c news hl hnews hq (by omega) hq48
  have hgr := Jgr (w := w) (E := E) (sz := I.size) (k := 0 + q) (old := 0) (z := z) (xs := []) (news := news) hzs hlen h63
  refine ⟨_, _, hr, ?_, Jji _ _ _, .inr rfl⟩
  simpa only [Nat.zero_add, List.nil_append, Array.empty_append] using hgr
 ·by_cases hroom : m + q ≤ Y4
  ·have hfit : m * I.size + news.length ≤ cur.size := by rw [hl, hcs, ← Nat.add_mul]; exact Nat.mul_le_mul_right _ hroom
   have hr := run_append_room (P := P) w t ty E I ht hi g' m Y4 cur hg a q c news hl hnews h1 hroom hfit
   refine ⟨_, _, hr, ⟨hlen, .inr ⟨g', Y4, _, rfl, hbg, setRow_heap w g' cur _ E _ hg, hroom, hcm, ?_, ?_⟩⟩, ⟨rfl, rfl, rfl, by simp, fun k _ hk => setRow_other w g' k _ (fun e => hk (by simp [Value.ownBlock, e]))⟩, .inl rfl⟩
   ·simp only [List.size_toArray, List.length_append, List.length_take, List.length_drop, Array.length_toList]
    omega
   ·rw [htake, ← hlen]
    exact List.take_left
  ·have holds : ∀ j u, xs[j]? = some u → w.cell? ((⟨g', 0, none⟩ : Addr).add j) = some u := ho.cells (g := g') rfl
   have hr := run_append_grow (P := P) w t ty E I z ht hi hz ⟨g', 0, none⟩ m Y4 xs ho.1 holds a q c news hl hnews (by omega) (by omega) (fits2 (by omega) hbytes hy)
   exact ⟨_, _, hr, Jgr hzs hlen h63, Jji _ _ _, .inr rfl⟩
theorem strSize (s : List UInt8) : (⟨s.toArray⟩ : ByteArray).size = s.length := by simp [ByteArray.size]
theorem fold_push (ns : List Int) : ∀ (r : List UInt8), ns.foldl (fun r n => r.push (UInt8.ofNat n.toNat)) (⟨r.toArray⟩ : ByteArray) = ⟨(r ++ Ja7 ns).toArray⟩ := by
 induction ns with
 | nil => intro r; simp [Ja7]
 | cons n ns ih =>
  intro r
  have : (⟨r.toArray⟩ : ByteArray).push (UInt8.ofNat n.toNat) = ⟨(r ++ [UInt8.ofNat n.toNat]).toArray⟩ := by simp [ByteArray.push]
  rw [List.foldl_cons, this, ih]
  simp [Ja7]
theorem Jh9 {w : World} {f : Int → List Value} {xs : List Int} {X : Operand} {s t E : TypeId} {a : Option Addr} {c m : Nat} {dd : Option Nat} (hm : m = xs.length) (hs : P.underlying s = some (.slice E)) (he : P.underlying E = some (.int .u8)) (ht : P.underlying t = some .string)
  (hx : ev e X = .slice a m c) (hf : ∀ x, f x = [.int .u8 x]) (hR : Row w a 1 (xs.map f)) : (execOp (ev e) ⟨dd, .convert s t X, ty, pos, af, g⟩).run P w = .ok (.value (str (Ja7 xs))) w := by
 subst hm
 have hc := run_convert_bytes_string w s t E a xs.length c hs he ht
 have key : (Conv.bytesToString (.slice a xs.length c)).run P w = .ok (str (Ja7 xs)) w := by
  cases a with
  | none =>
   rcases hR with h | ⟨b, off, h, _⟩
   ·have : xs = [] := by simpa using h
    subst this
    simp [Conv.bytesToString, Ja7, str]; rfl
   ·cases h
  | some ad =>
   have hfl : (xs.map f).flatten = xs.map (Value.int .u8) := by
    rw [show f = fun x => [Value.int .u8 x] from funext hf]
    clear hR hc hx
    induction xs with
    | nil => rfl
    | cons x r ih => rw [List.map_cons, List.flatten_cons, ih]; rfl
   have hcell := Jhx (w := w) (fun x hx => by obtain ⟨y, _, rfl⟩ := List.mem_map.1 hx; rw [hf]; rfl) hR
   rw [hfl] at hcell
   have hl := run_loadCells_list (P := P) (w := w) ad (xs.map (Value.int .u8)) hcell
   rw [List.length_map] at hl
   have h0 := run_bytesToString (P := P) w ad xs.length c xs hl
   rw [h0]
   have := fold_push xs []
   rw [List.nil_append] at this
   exact congrArg (fun b => Result.ok (Value.string b) w) this
 simp [execOp, hx, hc, key]
end rules
end Go.Lx

namespace Go.Lx
open Go Go.Vc Go.Md
structure FnH (P : Program) (h : J1) (v : Value) (R : World → List Value → (Value → World → Prop) → Prop) : Prop where
 out : ∃ (f : FuncId) (pre caps : Array Value), v = .func (.func f) pre caps ∧ (∀ args w, (callFunc f args).run P w = .ok (.enter f args) w) ∧
  ∀ args post w, Know h w Z0 → R w args post → Does P f (pre.toList ++ (args ++ caps.toList)).toArray w post
theorem FnH.mono {P : Program} {h h' : J1} {v : Value} {R : World → List Value → (Value → World → Prop) → Prop} (f : FnH P h v R) (k : ∀ b o, h b = some o → h' b = some o) : FnH P h' v R := by
 obtain ⟨g, pre, caps, h1, h2, h3⟩ := f.out
 exact ⟨g, pre, caps, h1, h2, fun args r w hw hR => h3 args r w (fun b o hb => hw b o (k b o hb)) hR⟩
theorem FnH.cells {P : Program} {h : J1} {v : Value} {R : World → List Value → (Value → World → Prop) → Prop} (f : FnH P h v R) : v.cells.toList = [v] := by
 obtain ⟨g, pre, caps, rfl, _⟩ := f.out; rfl
theorem FnH.one {P : Program} {h : J1} {v : Value} {R : World → List Value → (Value → World → Prop) → Prop} (f : FnH P h v R) : v.oneCell' = true := by
 obtain ⟨g, pre, caps, rfl, _⟩ := f.out; rfl
theorem FrS.cells {h : J1} {sz : Nat} {v : Value} {xs : List (List Value)} (f : FrS h sz v xs) : v.cells.toList = [v] := by
 obtain ⟨a, c, rfl, _⟩ := f.out; rfl
theorem FrS.one {h : J1} {sz : Nat} {v : Value} {xs : List (List Value)} (f : FrS h sz v xs) : v.oneCell' = true := by
 obtain ⟨a, c, rfl, _⟩ := f.out; rfl
section rules
variable {P : Program} {n : Nat} {cx : Cx} {e : X4} {L : List Chunk} {ops : Array Oper} {rest : List Oper} {Q : Jbe} {F : X4 → List Chunk → Prop} {ss : List Kd} {d : Nat} {ty : TypeId} {pos : String} {af : Array Edge} {g : Option (Nat × Bool)}
theorem run_callV {f : FuncId} {X : Operand} {A : Array Operand} {tys : Array TypeId} {args : List Value} {caps : Array Value} (hc : ∀ args w, (callFunc f args).run P w = .ok (.enter f args) w) (hX : ev e X = .func (.func f) #[] caps) (ha : A.toList.map (ev e) = args) (w : World) :
  (execOp (ev e) ⟨some d, .call ⟨.value X, A, tys⟩, ty, pos, af, g⟩).run P w = .ok (.enter f (args ++ caps.toList).toArray) w := by
 subst ha
 have : (A.toList.map (ev e) ++ caps.toList).toArray = A.map (ev e) ++ caps := by
  apply Array.ext'
  simp
 rw [this]
 simp only [execOp, resolve, hX, Deferred.ofValue, Sem.run_bind, Sem.run_pure, Result.andThen_ok, invoke, hc, Array.empty_append]
theorem run_callVP {f : FuncId} {X : Operand} {A : Array Operand} {tys : Array TypeId} {args : List Value} {pre caps : Array Value} (hc : ∀ args w, (callFunc f args).run P w = .ok (.enter f args) w) (hX : ev e X = .func (.func f) pre caps) (ha : A.toList.map (ev e) = args) (w : World) :
  (execOp (ev e) ⟨some d, .call ⟨.value X, A, tys⟩, ty, pos, af, g⟩).run P w = .ok (.enter f (pre.toList ++ (args ++ caps.toList)).toArray) w := by
 subst ha
 have : (pre.toList ++ (A.toList.map (ev e) ++ caps.toList)).toArray = pre ++ A.map (ev e) ++ caps := by
  apply Array.ext'
  simp
 rw [this]
 simp only [execOp, resolve, hX, Deferred.ofValue, Sem.run_bind, Sem.run_pure, Result.andThen_ok, invoke, hc]
theorem runs_callV {X : Operand} {A : Array Operand} {tys : Array TypeId} {args : List Value} {v : Value} {h : J1} {R : World → List Value → (Value → World → Prop) → Prop} {post : Value → World → Prop} {w : World} (hf : FnH P h v R) (hk : Know h w Z0) (hR : R w args post) (hX : ev e X = v) (ha : A.toList.map (ev e) = args) :
  RunsTo P (ev e) ⟨some d, .call ⟨.value X, A, tys⟩, ty, pos, af, g⟩ w post := by
 obtain ⟨f, pre, caps, rfl, hc, hd⟩ := hf.out
 unfold RunsTo
 rw [run_callVP hc hX ha]
 exact hd args post w hk hR
theorem l_callV {X : Operand} {A : Array Operand} {tys : Array TypeId} {args : List Value} {v r : Value} {R : World → List Value → (Value → World → Prop) → Prop} (hf : ∀ w, Fr cx w → Sat cx w L → FnH P (fun b => w.heap[b]?) v R ∧ R w args (fun v' w' => v' = r ∧ Grow w w')) (hX : ev e X = v)
  (hw : Yi ops ⟨some d, .call ⟨.value X, A, tys⟩, ty, pos, af, g⟩ e = true) (hn : Nat.blt d n = true) (ha : A.toList.map (ev e) = args)
  (k : At cx (WL P n ops Q rest) (upd e d r) L) : At cx (WL P n ops Q (⟨some d, .call ⟨.value X, A, tys⟩, ty, pos, af, g⟩ :: rest)) e L :=
 l_runs hw rfl hn fun w hF hS => (runs_callV (hf w hF hS).1 (Jq w) (hf w hF hS).2 hX ha).mono fun v' w' ⟨hv, hg⟩ => by
  subst hv
  exact k.out w' (hF.grow hg) (hS.grow hg)
theorem r_makeFn {dd : Option Nat} {f : FuncId} {cs : Array Operand} {caps : Array Value} (hcs : cs.toList.map (ev e) = caps.toList) (w : World) :
  (execOp (ev e) ⟨dd, .makeFunc (.func f) #[] cs, ty, pos, af, g⟩).run P w = .ok (.value (.func (.func f) #[] caps)) w := by
 have : caps = cs.map (ev e) := by apply Array.ext'; rw [← hcs]; simp
 subst this
 simp [execOp, Instr.makeFunc]
theorem Zr {dd : Option Nat} {T b o t : Nat} {A : Operand} {v : Value} {cs : List Value} {w : World} (hA : ∀ w, (isAgg T).run P w = .ok false w) (hp : ev e A = .pointer (some ⟨b, o, none⟩)) (hb : w.heap[b]? = some (.cells cs.toArray t (0, 0))) (hv : rg cs o = some v) :
  (execOp (ev e) ⟨dd, .load T A, ty, pos, af, g⟩).run P w = .ok (.value v) w := by
 have hc := Jc3 (o := o) hb
 rw [← rg_eq, hv] at hc
 simp [execOp, Instr.loadAt, Instr.sureAddr, hp, Jbj hA hc]
end rules
end Go.Lx

namespace Go.Lx
open Go Go.Vc Go.Md
open Classical in
noncomputable def but (w : World) (S : Nat → Prop) : J1 := fun b => if S b then none else w.heap[b]?
theorem Jjp {w : World} {S : Nat → Prop} {b : Nat} {o : Obj} (hb : w.heap[b]? = some o) (hn : ¬ S b) : but w S b = some o := by
 unfold but; rw [if_neg hn]; exact hb
theorem J7 (w : World) (S : Nat → Prop) : Know (but w S) w S := fun b o h => by
 unfold but at h
 split at h
 ·cases h
 ·exact ⟨h, by assumption⟩
section rules
variable {P : Program} {n : Nat} {cx : Cx} {e : X4} {L : List Chunk} {d : Nat} {ty : TypeId} {pos : String} {af : Array Edge} {g : Option (Nat × Bool)}
theorem Know.but {h : J1} {w0 w : World} {S0 S : Nat → Prop} (k : Know h w0 S0) (hF : Fr ⟨w0, S0⟩ w) (ho : ∀ b, S b → Cx.own ⟨w0, S0⟩ b) : ∀ b o, h b = some o → but w S b = some o := fun b o hb => by
 refine Jjp (k.now hF b o hb) fun hs => ?_
 obtain ⟨h1, h2⟩ := k b o hb
 have hlt : b < w0.heap.size := by
  rcases Nat.lt_or_ge b w0.heap.size with h | h
  ·exact h
  ·rw [Array.getElem?_eq_none h] at h1; cases h1
 rcases ho b hs with h | h
 ·exact absurd h (by show ¬ w0.heap.size ≤ b; omega)
 ·exact h2 h
theorem FrS.but {w : World} {S : Nat → Prop} {sz : Nat} {v : Value} {xs : List (List Value)} (f : FrS (fun b => w.heap[b]?) sz v xs) (hd : ∀ b, v.ownBlock = some b → ¬ S b) : FrS (but w S) sz v xs := by
 obtain ⟨a, c, rfl, h1, h2, r⟩ := f.out
 refine ⟨a, c, rfl, h1, h2, ?_⟩
 rcases r with r | ⟨b, off, cs, T, m, rfl, hb, r⟩
 ·exact .inl r
 ·exact .inr ⟨b, off, cs, T, m, rfl, Jjp hb (hd b rfl), r⟩
theorem rowV_block {E sz n : Nat} {v : Value} {xs : List (List Value)} {S : Nat → Prop} {w : World} (h : (J4 E sz v n xs).P S w) : ∀ b, v.ownBlock = some b → S b := h.2
def Apart (L' : List Chunk) (i : Nat) (w : World) (S : Nat → Prop) : Prop := ∀ j C, j ≠ i → L'[j]? = some C → ∃ S', C.P S' w ∧ ∀ b, S' b → ¬ S b
theorem frb_own {α : Type} {w : World} {S : Nat → Prop} {i j E sz n : Nat} {p : Option Addr × Nat} {xs : List α} {f : α → List Value} {L' : List Chunk} (hn : n = xs.length) (hA : Apart L' i w S) (hS : Sat cx w L') (hji : j ≠ i) (hL : L'[j]? = some (J4 E sz (.slice p.1 n p.2) n (xs.map f))) : FrS (but w S) sz (.slice p.1 n p.2) (xs.map f) := by
 obtain ⟨S', h1, h2⟩ := hA j _ hji hL
 exact (Xl hn hS hL).but fun b hb => h2 b (rowV_block h1 b hb)
theorem frb_box {α : Type} {w : World} {S : Nat → Prop} {i j b m T sz : Nat} {cs : List Value} {xs : List α} {f : α → List Value} {L' : List Chunk} (hA : Apart L' i w S) (hS : Sat cx w L') (hji : j ≠ i) (hL : L'[j]? = some (Jf b cs T)) (hcs : (xs.map f).flatten = cs) (hl : ((xs.map f).all fun x => Nat.beq x.length sz) = true) (hm : xs.length = m) (hm' : Nat.ble m 9223372036854775807 = true) :
  FrS (but w S) sz (.slice (some ⟨b, 0, none⟩) m m) (xs.map f) := by
 obtain ⟨S', h1, h2⟩ := hA j _ hji hL
 exact (frs_box hS hL hcs hl hm hm').but fun q hq => h2 q ((h1.1 q).2 (by simpa [Value.ownBlock] using hq.symm))
theorem cell_but {w : World} {S : Nat → Prop} {i j b T : Nat} {cs : List Value} {L' : List Chunk} (hA : Apart L' i w S) (hS : Sat cx w L') (hji : j ≠ i) (hL : L'[j]? = some (Jf b cs T)) : but w S b = some (.cells cs.toArray T (0, 0)) := by
 obtain ⟨S', h1, h2⟩ := hA j _ hji hL
 exact Jjp (Ql hS hL) (h2 b ((h1.1 b).2 rfl))
theorem c_sel {K : X4 → World → Prop} (sel : List Nat) (L' : List Chunk) (hs : sel.map (fun i => L[i]?) = L'.map some) (hnd : sel.Nodup) (k : At cx K e L') : At cx K e L :=
 ⟨fun w hF hS => k.out w hF (hS.select sel hnd hs)⟩
theorem c_splitAt {K : X4 → World → Prop} (i j : Nat) {C D : Chunk} (hL : L[i]? = some (Jw C D)) (hjL : L[j]? = some empC) (hne : i ≠ j) (k : At cx K e ((L.set i C).set j D)) : At cx K e L :=
 ⟨fun w hF hS => k.out w hF (by
  obtain ⟨fp, h1, h2, h3⟩ := hS.out
  obtain ⟨S1, S2, k1, k2, k3, k4, k5⟩ := h1 i _ hL
  have hil : i < L.length := by
   rcases Nat.lt_or_ge i L.length with h | h
   ·exact h
   ·simp [List.getElem?_eq_none h] at hL
  have hjl : j < L.length := by
   rcases Nat.lt_or_ge j L.length with h | h
   ·exact h
   ·simp [List.getElem?_eq_none h] at hjL
  have hji : ¬ j = i := fun h => hne h.symm
  have key : ∀ q b, (if q = i then S1 b else if q = j then S2 b else fp q b) → (q = i ∧ S1 b) ∨ (q = j ∧ S2 b) ∨ (q ≠ i ∧ q ≠ j ∧ fp q b) := by
   intro q b h
   by_cases hqi : q = i
   ·simp only [hqi, if_true] at h; exact .inl ⟨hqi, h⟩
   ·by_cases hqj : q = j
    ·simp only [hqi, hqj, hji, if_true, if_false] at h; exact .inr (.inl ⟨hqj, h⟩)
    ·simp only [hqi, hqj, if_false] at h; exact .inr (.inr ⟨hqi, hqj, h⟩)
  refine ⟨fun q b => if q = i then S1 b else if q = j then S2 b else fp q b, ?_, ?_, ?_⟩
  ·intro q c hc
   by_cases hqj : q = j
   ·subst hqj
    rw [List.getElem?_set_self (by simpa using hjl)] at hc
    cases hc
    simpa [hji] using k2
   ·rw [List.getElem?_set_ne (fun h => hqj h.symm)] at hc
    by_cases hqi : q = i
    ·subst hqi
     rw [List.getElem?_set_self hil] at hc
     cases hc
     simpa using k1
    ·rw [List.getElem?_set_ne (fun h => hqi h.symm)] at hc
     simpa [hqi, hqj] using h1 q c hc
  ·intro q b hb
   rcases key q b hb with ⟨rfl, h⟩ | ⟨rfl, h⟩ | ⟨_, _, h⟩
   ·exact ⟨by simpa using hil, (h2 _ b (k3 b h)).2⟩
   ·exact ⟨by simpa using hjl, (h2 _ b (k4 b h)).2⟩
   ·obtain ⟨a1, a2⟩ := h2 q b h
    exact ⟨by simpa using a1, a2⟩
  ·intro p q b hp hq
   rcases key p b hp with ⟨rfl, h⟩ | ⟨rfl, h⟩ | ⟨n1, n2, h⟩ <;> rcases key q b hq with ⟨e1, h'⟩ | ⟨e1, h'⟩ | ⟨m1, m2, h'⟩
   ·exact e1.symm
   ·exact absurd h' (k5 b h)
   ·exact absurd (h3 _ _ b (k3 b h) h') (fun h => m1 h.symm)
   ·exact absurd h (k5 b h')
   ·exact e1.symm
   ·exact absurd (h3 _ _ b (k4 b h) h') (fun h => m1 h.symm)
   ·exact absurd (h3 _ _ b h (e1 ▸ k3 b h')) (fun hh => n1 hh)
   ·exact absurd (h3 _ _ b h (k4 b h')) n1
   ·exact h3 p q b h h')⟩
theorem turns_opB {σ : Type} {o : Oper} {i : Nat} {f : FuncId} {args : List Value} {rds : List Nat} {G : σ → Value} {C0 : Chunk} {C : σ → Chunk} (hL : L[i]? = some C0)
  (h : ∀ w L' S, Fr cx w → Sat cx w L' → (∀ j ∈ rds, L'[j]? = L[j]?) → C0.P S w → (∀ b, S b → b < w.heap.size) → (∀ b, S b → cx.own b) → Apart L' i w S → Does P f args.toArray w fun v w' => ∃ x, v = G x ∧ Turn w w' S (C x)) (hr : ∀ w, (execOp (ev e) o).run P w = .ok (.enter f args.toArray) w) : Turns P cx e o L i rds G C := fun w L' hF hS hl hi => by
 unfold RunsTo
 rw [hr w]
 have hL' := (hi i (.inr rfl)).trans hL
 show Does P f args.toArray w _
 obtain ⟨fp, h1, h2, h3⟩ := hS.out
 have hSi : ∀ b, fp i b → b < w.heap.size ∧ cx.own b := fun b hb => (h2 i b hb).2
 refine (h w L' (fp i) hF hS (fun j hj => hi j (.inl hj)) (h1 i C0 hL') (fun b hb => (hSi b hb).1) (fun b hb => (hSi b hb).2) (fun j C hji hC => ⟨fp j, h1 j C hC, fun b hb hbi => hji (h3 j i b hb hbi)⟩)).mono fun v' w' ⟨x, hv, ht⟩ => ⟨x, hv, hF.turn ht fun b hb => (hSi b hb).2, ?_⟩
 obtain ⟨S', k1, k2⟩ := ht.out
 have hil : i < L'.length := by
  rcases Nat.lt_or_ge i L'.length with h | h
  ·exact h
  ·simp [List.getElem?_eq_none h] at hL'
 refine ⟨fun j b => if j = i then S' b else fp j b, ?_, ?_, ?_⟩
 ·intro j c hc'
  by_cases hji : j = i
  ·subst hji
   simp [List.getElem?_set_self hil] at hc'
   subst hc'
   simpa using k1
  ·rw [List.getElem?_set_ne (fun e => hji e.symm)] at hc'
   simp only [hji, if_false]
   exact c.loc _ _ _ (fun b hb => ht.block b (h2 j b hb).2.1 (fun hib => hji (h3 j i b hb hib))) (h1 j c hc')
 ·intro j b hb
  by_cases hji : j = i
  ·simp only [hji, if_true] at hb
   refine ⟨by simp [hji, hil], (k2 b hb).1, ?_⟩
   rcases (k2 b hb).2 with h | h
   ·exact (h2 i b h).2.2
   ·exact .inl (Nat.le_trans hF.size h)
  ·simp only [hji, if_false] at hb
   obtain ⟨a1, a2, a3⟩ := h2 j b hb
   exact ⟨by simpa using a1, Nat.lt_of_lt_of_le a2 ht.size, a3⟩
 ·intro j q b hj hq
  by_cases hji : j = i <;> by_cases hqi : q = i <;> simp only [hji, hqi, if_true, if_false] at hj hq
  ·omega
  ·obtain ⟨_, a2, _⟩ := h2 q b hq
   rcases (k2 b hj).2 with h | h
   ·exact absurd (h3 q i b hq h) hqi
   ·omega
  ·obtain ⟨_, a2, _⟩ := h2 j b hj
   rcases (k2 b hq).2 with h | h
   ·exact absurd (h3 j i b hj h) hji
   ·omega
  ·exact h3 j q b hj hq
theorem Jv {σ : Type} {i : Nat} {f : FuncId} {A : Array Operand} {tys : Array TypeId} {args : List Value} {rds : List Nat} {G : σ → Value} {C0 : Chunk} {C : σ → Chunk} (hL : L[i]? = some C0)
  (h : ∀ w L' S, Fr cx w → Sat cx w L' → (∀ j ∈ rds, L'[j]? = L[j]?) → C0.P S w → (∀ b, S b → b < w.heap.size) → (∀ b, S b → cx.own b) → Apart L' i w S → Does P f args.toArray w fun v w' => ∃ x, v = G x ∧ Turn w w' S (C x)) (hc : ∀ args w, (callFunc f args).run P w = .ok (.enter f args) w)
  (ha : A.toList.map (ev e) = args) : Turns P cx e ⟨some d, .call ⟨.value (.func f), A, tys⟩, ty, pos, af, g⟩ L i rds G C :=
 turns_opB hL h (Jdc hc ha)
theorem turns_callBV {X : Operand} {caps : Array Value} {σ : Type} {i : Nat} {f : FuncId} {A : Array Operand} {tys : Array TypeId} {args : List Value} {rds : List Nat} {G : σ → Value} {C0 : Chunk} {C : σ → Chunk} (hL : L[i]? = some C0)
  (h : ∀ w L' S, Fr cx w → Sat cx w L' → (∀ j ∈ rds, L'[j]? = L[j]?) → C0.P S w → (∀ b, S b → b < w.heap.size) → (∀ b, S b → cx.own b) → Apart L' i w S → Does P f (args ++ caps.toList).toArray w fun v w' => ∃ x, v = G x ∧ Turn w w' S (C x)) (hc : ∀ args w, (callFunc f args).run P w = .ok (.enter f args) w)
  (hX : ev e X = .func (.func f) #[] caps) (ha : A.toList.map (ev e) = args) : Turns P cx e ⟨some d, .call ⟨.value X, A, tys⟩, ty, pos, af, g⟩ L i rds G C :=
 turns_opB hL h (run_callV hc hX ha)
end rules
end Go.Lx

namespace Go.Lx
open Go Go.Vc Go.Md
section ops
variable {P : Program} {e : X4} {d : Option Nat} {ty : TypeId} {pos : String} {af : Array Edge} {g : Option (Nat × Bool)}
theorem r_lenN {X : Operand} {a : Option Addr} {m c k : Nat} {t u : TypeId} (hu : P.underlying t = some (.slice u)) (hx : ev e X = .slice a m c) (h : m = k) (w : World) :
  (execOp (ev e) ⟨d, .call ⟨.builtin .len, #[X], #[t]⟩, ty, pos, af, g⟩).run P w = .ok (.value (.int .i64 k)) w := by
 subst h; exact Jdl hu hx w
end ops
section rules
variable {P : Program} {n : Nat} {cx : Cx} {e : X4} {L : List Chunk} {ops : Array Oper} {rest : List Oper} {F : X4 → List Chunk → Prop} {ss : List Kd} {ty : TypeId} {pos : String} {af : Array Edge} {g : Option (Nat × Bool)}
end rules
end Go.Lx

namespace Go.Lx
open Go Go.Vc Go.Md
section ops
variable {P : Program} {cx : Cx} {e : X4} {L : List Chunk} {d : Option Nat} {ty : TypeId} {pos : String} {af : Array Edge} {g : Option (Nat × Bool)}
theorem Jg {X : Operand} {a : Addr} (hx : ev e X = .pointer (some a)) (w : World) :
  (execOp (ev e) ⟨d, .nilCheck X, ty, pos, af, g⟩).run P w = .ok (.value (.pointer (some a))) w := by
 simp only [execOp, hx, Sem.run_pure]
end ops
end Go.Lx

namespace Go.Lx
open Go Go.Vc Go.Md
section ops
variable {P : Program} {e : X4} {d : Option Nat} {ty : TypeId} {pos : String} {af : Array Edge} {g : Option (Nat × Bool)}
end ops
end Go.Lx

namespace Go.Lx
open Go Go.Vc Go.Md
theorem Jfi {α : Type} {xs ys : List α} {l q : Int} (e : Qp xs l q = some ys) : ys.length = q.toNat - l.toNat := by
 obtain ⟨g0, g1, g2, rfl⟩ := V2 e
 rw [List.length_take, List.length_drop]; omega
section ops
variable {P : Program} {e : X4} {d : Option Nat} {ty : TypeId} {pos : String} {af : Array Edge} {g : Option (Nat × Bool)}
theorem Jdt {α : Type} {X A : Operand} {a : Option Addr} {m c : Nat} {t u sz : Nat} {ka : IntKind} {l : Int} {xs ys : List α} {w : World} (hu : P.underlying t = some (.slice u)) (hs : ∀ w, (sizeOf u).run P w = .ok sz w)
  (hx : ev e X = .slice a m c) (ha : ev e A = .int ka l) (hm : m = xs.length) (_hc : m ≤ c) (hg : Qp xs l xs.length = some ys) :
  (execOp (ev e) ⟨d, .slice t X (some A) none none, ty, pos, af, g⟩).run P w = .ok (.value (.slice (Vo a l.toNat c sz) ys.length (c - l.toNat))) w := by
 obtain ⟨g0, g1, g2, _⟩ := V2 hg
 have hl := Jfi hg
 rw [r_sliceL hu hs hx ha g0 (by omega) w]
 congr 4; omega
end ops
end Go.Lx

namespace Go.Lx
open Go Go.Vc Go.Md
section rules
variable {cx : Cx} {K : X4 → World → Prop} {e : X4} {L : List Chunk}
end rules
def FnV {μ : Type} (P : Program) (v : Value) (m : Option μ) (R : μ → World → List Value → (Value → World → Prop) → Prop) : Prop := (m = none ∧ v = .nilFunc) ∨ ∃ g, m = some g ∧ ∀ h, FnH P h v (R g)
theorem FnV.nil {μ : Type} {P : Program} {R : μ → World → List Value → (Value → World → Prop) → Prop} : FnV P .nilFunc none R := .inl ⟨rfl, rfl⟩
theorem FnV.mk {μ : Type} {P : Program} {v : Value} {g : μ} {R : μ → World → List Value → (Value → World → Prop) → Prop} (h : ∀ h, FnH P h v (R g)) : FnV P v (some g) R := .inr ⟨g, rfl, h⟩
theorem FnV.cells {μ : Type} {P : Program} {v : Value} {m : Option μ} {R : μ → World → List Value → (Value → World → Prop) → Prop} (f : FnV P v m R) : v.cells.toList = [v] := by
 rcases f with ⟨_, rfl⟩ | ⟨g, _, f⟩
 ·rfl
 ·exact (f fun _ => none).cells
theorem FnV.one {μ : Type} {P : Program} {v : Value} {m : Option μ} {R : μ → World → List Value → (Value → World → Prop) → Prop} (f : FnV P v m R) : v.oneCell' = true := by
 rcases f with ⟨_, rfl⟩ | ⟨g, _, f⟩
 ·rfl
 ·exact (f fun _ => none).one
theorem FnV.fn {μ : Type} {P : Program} {v : Value} {m : Option μ} {g : μ} {R : μ → World → List Value → (Value → World → Prop) → Prop} (f : FnV P v m R) (hm : m = some g) (h : J1) : FnH P h v (R g) := by
 rcases f with ⟨h1, _⟩ | ⟨g', h1, f⟩
 ·rw [hm] at h1; cases h1
 ·rw [hm] at h1; cases h1; exact f h
section ops
variable {P : Program} {e : X4} {d : Option Nat} {ty : TypeId} {pos : String} {af : Array Edge} {g : Option (Nat × Bool)}
end ops
theorem Jgn {α : Type} {f : α → List Value} (hf : ∀ x, (f x).length = 1) : ∀ (l : List α) (k : Nat), ((l.map f).flatten).take k = ((l.take k).map f).flatten
 | [], k => by simp
 | x :: r, 0 => by simp
 | x :: r, k + 1 => by
  have h1 := hf x
  obtain ⟨y, hy⟩ := List.length_eq_one_iff.1 h1
  simp only [List.map_cons, List.flatten_cons, List.take_succ_cons, hy, List.singleton_append]
  rw [Jgn hf r k]
theorem Jjj {α : Type} {f : α → List Value} (hf : ∀ x, (f x).length = 1) : ∀ (l : List α) (k : Nat), ((l.map f).flatten).drop k = ((l.drop k).map f).flatten
 | [], k => by simp
 | x :: r, 0 => by simp
 | x :: r, k + 1 => by
  have h1 := hf x
  obtain ⟨y, hy⟩ := List.length_eq_one_iff.1 h1
  simp only [List.map_cons, List.flatten_cons, List.drop_succ_cons, hy, List.singleton_append]
  rw [Jjj hf r k]
theorem Jfx {α : Type} {f : α → List Value} (hf : ∀ x, (f x).length = 1) (l : List α) : ((l.map f).flatten).length = l.length := by
 rw [Ua (sz := 1) _ (fun x hx => by obtain ⟨y, _, rfl⟩ := List.mem_map.1 hx; exact hf y)]; simp
section rules
variable {P : Program} {n : Nat} {cx : Cx} {e : X4} {L : List Chunk} {ops : Array Oper} {rest : List Oper} {Q : Jbe} {F : X4 → List Chunk → Prop} {ss : List Kd} {d : Option Nat} {ty : TypeId} {pos : String} {af : Array Edge} {g : Option (Nat × Bool)}
theorem d_turn0 {σ : Type} {o : Oper} {i : Nat} {rds : List Nat} {G : σ → Value} {C : σ → Chunk} {Cv : Value → Chunk} (x0 : σ) (h : Turns P cx e o L i rds G C) (hC : ∀ x, Cv (G x) = C x) (hw : Yi ops o e = true) (hd : o.dst = none)
  (k : ∀ x, Sq P cx ops F rest ss e (L.set i (C x))) : Sq P cx ops F (o :: rest) (.t i rds G Cv :: ss) e L := by
 refine .take hw ⟨G x0, x0, rfl⟩ ⟨fun w L' hF hS hl hi => ?_⟩ fun v' hv' => ?_
 ·refine (h w L' hF hS hl fun j hj => hi j (by simpa [Kd.t, Kd.rds, Kd.wrs] using hj)).mono fun v w' ⟨x, hv, hF', hS'⟩ => ?_
  subst hv
  refine ⟨⟨x, rfl⟩, hF', ?_⟩
  show Sat cx w' (L'.set i (Cv (G x)))
  rw [hC]; exact hS'
 ·obtain ⟨x, rfl⟩ : ∃ x, v' = G x := hv'
  show Sq P cx ops F rest ss (Jcu e o.dst (G x)) (L.set i (Cv (G x)))
  rw [hC, hd]
  exact k x
theorem Jim {σ : Type} {o : Oper} {i : Nat} {rds : List Nat} {G : σ → Value} {C : σ → Chunk} (h : Turns P cx e o L i rds G C) (hw : Yi ops o e = true) (hd : o.dst = none)
  (k : ∀ x, At cx (WL P n ops Q rest) e (L.set i (C x))) : At cx (WL P n ops Q (o :: rest)) e L :=
 ⟨fun w hF hS => ⟨fun a ha => by
  have hr := (h w L hF hS rfl (fun _ _ => rfl)).mono (R' := fun _ w' => WL P n ops Q rest e w') fun v w' ⟨x, hv, hF', hS'⟩ => (k x).out w' hF' hS'
  unfold RunsTo at hr
  unfold wpList
  rw [Jel ha, hw, if_pos rfl]
  refine .inl ?_
  unfold Oper.wp
  rw [ha.ev]
  generalize (execOp (ev e) o).run P w = r at hr
  cases r with
  | halt x w' => exact hr.elim
  | ok nx w' =>
   cases nx with
   | value v =>
    show wpList P ops (lift n Q) rest (a.put o.dst v) w'
    rw [hd]
    exact hr.out _ ha
   | skip =>
    show wpList P ops (lift n Q) rest (a.put o.dst undef) w'
    rw [hd]
    exact hr.out _ ha
   | enter f args =>
    refine Calls.mono hr ?_
    rintro en w'' ⟨v, rfl, hk⟩
    show wpList P ops (lift n Q) rest (a.put o.dst v) w''
    rw [hd]
    exact hk.out _ ha
   | _ => exact hr.elim⟩⟩
end rules
def _root_.Go.Vc.Kd.fv (φ : Value → Prop) : Kd := .g [] [] [] (fun _ _ v => φ v) (fun _ _ _ => [])
section rules
variable {P : Program} {n : Nat} {cx : Cx} {e : X4} {L : List Chunk} {ops : Array Oper} {rest : List Oper} {Q : Jbe} {F : X4 → List Chunk → Prop} {ss : List Kd} {d : Nat} {ty : TypeId} {pos : String} {af : Array Edge} {g : Option (Nat × Bool)}
end rules
end Go.Lx

namespace Go.Lx
open Go Go.Vc Go.Md
theorem Know.at {h : J1} {w0 w : World} {S : Nat → Prop} (k : Know h w0 S) (hF : Fr ⟨w0, S⟩ w) : Know h w Z0 := fun b o hb => ⟨k.now hF b o hb, fun x => x⟩
theorem FrS.cutL {α : Type} {h : J1} {sz : Nat} {a : Option Addr} {n c : Nat} {f : α → List Value} {xs ys : List α} {l q : Int} (s : FrS h sz (.slice a n c) (xs.map f)) (e : Qp xs l q = some ys) : FrS h sz (.slice (Vo a l.toNat c sz) ys.length (c - l.toNat)) (ys.map f) := by
 have := s.cut e
 rw [Jfi e]
 exact this
def Jez : Value → Bool | .slice none _ _ => true | _ => false
theorem FrS.nilV {h : J1} {sz : Nat} {v : Value} {α : Type} {f : α → List Value} {xs : List α} (s : FrS h sz v (xs.map f)) (hb : Jez v = true) : xs = [] := by
 obtain ⟨a, c, rfl, _, _, r⟩ := s.out
 rcases r with r | ⟨b, off, cs, T, m, rfl, _⟩
 ·simpa using r
 ·simp [Jez] at hb
section ops
variable {P : Program} {e : X4} {d : Option Nat} {ty : TypeId} {pos : String} {af : Array Edge} {g : Option (Nat × Bool)}
theorem eq_nilS {a : Option Addr} {m c : Nat} {t u : TypeId} (ht : P.underlying t = some (.slice u)) (n : Nat) (w : World) : (Op.equalIn (n + 1) t (.slice a m c) (.slice none 0 0)).run P w = .ok (Jez (.slice a m c)) w := by
 cases a <;> simp [Op.equalIn, run_underlying ht, Jez]
theorem r_eqlNilS {X Y : Operand} {v : Value} {t t' u sz : TypeId} {h : J1} {xs : List (List Value)} (ht : P.underlying t = some (.slice u)) (s : FrS h sz v xs) (hx : ev e X = v) (hy : ev e Y = .slice none 0 0) (w : World) :
  (execOp (ev e) ⟨d, .binOp .eql t X Y t', ty, pos, af, g⟩).run P w = .ok (.value (.bool (Jez v))) w := by
 obtain ⟨a, c, rfl, _⟩ := s.out
 have h0 := eq_nilS (P := P) (a := a) (m := xs.length) (c := c) ht 9999 w
 simp [execOp, hx, hy, eqGuard, binOp, Op.equal, Op.maxDepth, h0]
end ops
theorem finC {σ : Type} {w0 : World} {L : List Chunk} {v : Value} {G : σ → Value} {Φ : σ → Prop} (x : σ) (hv : v = G x) (h : Φ x) : ∀ w, Fr ⟨w0, fun _ => False⟩ w → Sat ⟨w0, fun _ => False⟩ w L → (∃ x, v = G x ∧ Φ x) ∧ Grow w0 w :=
 fun w hF _ => ⟨⟨x, hv, h⟩, hF.os, hF.tape, hF.output, hF.size, fun k hk => hF.block k (by simp [Cx.own]; exact hk)⟩
section rules
variable {P : Program} {n : Nat} {cx : Cx} {e : X4} {L : List Chunk} {ops : Array Oper} {rest : List Oper} {Q : Jbe} {F : X4 → List Chunk → Prop} {ss : List Kd} {d : Nat} {ty : TypeId} {pos : String} {af : Array Edge} {g : Option (Nat × Bool)}
theorem l_callC {σ : Type} {f : FuncId} {A : Array Operand} {tys : Array TypeId} {args : List Value} {G : σ → Value} {Φ : σ → Prop} (h : ∀ w, Fr cx w → Sat cx w L → Does P f args.toArray w fun v w' => (∃ x, v = G x ∧ Φ x) ∧ Grow w w') (hc : ∀ args w, (callFunc f args).run P w = .ok (.enter f args) w)
  (hw : Yi ops ⟨some d, .call ⟨.value (.func f), A, tys⟩, ty, pos, af, g⟩ e = true) (hn : Nat.blt d n = true) (ha : A.toList.map (ev e) = args)
  (k : ∀ x, Φ x → At cx (WL P n ops Q rest) (upd e d (G x)) L) : At cx (WL P n ops Q (⟨some d, .call ⟨.value (.func f), A, tys⟩, ty, pos, af, g⟩ :: rest)) e L :=
 l_calls hw rfl hn (Jdc hc ha) fun w hF hS => (h w hF hS).mono fun v' w' ⟨⟨x, hv, hp⟩, hg⟩ => by
  subst hv
  exact (k x hp).out w' (hF.grow hg) (hS.grow hg)
def _root_.Go.Vc.Kd.sv (a b i : Nat) (cs : Value → List Value) (T : TypeId) : Kd := .g [a, b] [i] [i] (fun _ _ v => v = undef) (fun vs _ _ => [Jgb (vs.headD undef) (cs (vs.getD 1 undef)) T])
theorem Jdf {i : Nat} {a q T T0 b o sz : Nat} {x : Value} {cs vs : List Value} {cs' : Value → List Value} (hs : ∀ w, (sizeOf T).run P w = .ok sz w)
  (hw : Yi ops ⟨none, .store T (.tmp a) (.tmp q), ty, pos, af, g⟩ e = true) (hp : e a = .pointer (some ⟨b, o, none⟩)) (hx : e q = x) (hc : x.cells.toList = vs) (hsz : vs.length = sz) (hpos : Nat.blt 0 sz = true)
  (hone : vs.all Value.oneCell' = true) (hL : L[i]? = some (Jf b cs T0)) (hv : wr cs o vs = some (cs' x))
  (k : Sq P cx ops F rest ss e (L.set i (Jf b (cs' x) T0))) : Sq P cx ops F (⟨none, .store T (.tmp a) (.tmp q), ty, pos, af, g⟩ :: rest) (.sv a q i cs' T0 :: ss) e L := by
 have hbox : Jgb (([a, q].map e).headD undef) (cs' (([a, q].map e).getD 1 undef)) T0 = Jf b (cs' x) T0 := by
  have h1 : ([a, q].map e).headD undef = e a := rfl
  have h2 : ([a, q].map e).getD 1 undef = e q := rfl
  rw [h1, h2, hp, hx]; rfl
 refine .take hw ⟨undef, rfl⟩ ⟨fun w L' hF hS _ hi => ?_⟩ fun v' hv' => ?_
 ·have hL' := (hi i (.inl (by simp [Kd.sv, Kd.rds]))).trans hL
  have hb := Ql hS hL'
  unfold RunsTo
  rw [Go.Vc.run_store hs (by exact hp) (by exact hx) hc hsz hpos hone hv hb]
  have hset := setRow_heap w b cs.toArray (cs' x).toArray T0 (0, 0) hb
  refine ⟨rfl, ⟨hF.os, hF.tape, hF.output, by simpa using hF.size, fun c hcn => ?_⟩, ?_⟩
  ·rw [setRow_other w b c _ (fun e => ?_)]
   ·exact hF.block c hcn
   ·obtain ⟨fp, f1, f2, _⟩ := hS.out
    have := (f2 i b ((f1 i _ hL').1 b |>.2 rfl)).2.2
    subst e
    exact hcn this
  ·show Sat cx _ (L'.set i (Jgb (([a, q].map e).headD undef) (cs' (([a, q].map e).getD 1 undef)) T0))
   rw [hbox]
   exact hS.set hF hL' (by simp) fun S hSp hSo => ⟨S, ⟨hSp.1, hset⟩, fun c hc => ⟨by simpa using (hSo c hc).1, .inl hc⟩, fun c _ hcS => setRow_other w b c _ (fun e => hcS ((hSp.1 c).2 e))⟩
 ·have hbox' := hbox
  show Sq P cx ops F rest ss (Jcu e none v') (L.set i (Jgb (([a, q].map e).headD undef) (cs' (([a, q].map e).getD 1 undef)) T0))
  rw [hbox]
  exact k
end rules
end Go.Lx

namespace Go.Lx
open Go Go.Vc Go.Md
def Xd (h : J1) (v : Value) (sz i j : Nat) : Value :=
 if j < sz then match v with
 | .slice (some ⟨b, off, _⟩) _ _ => match h b with
  | some (.cells cs _ _) => cs.getD (off + i * sz + j) undef
  | _ => undef
 | _ => undef else undef
def elC (h : J1) (v : Value) (sz i : Nat) : List Value := (List.range sz).map (Xd h v sz i)
class Mon {α : Type} (G : J1 → (Nat → Value) → α → Prop) : Prop where
 mono : ∀ {h h' : J1}, (∀ b o, h b = some o → h' b = some o) → ∀ c x, G h c x → G h' c x
structure FrN {α : Type} (h : J1) (sz : Nat) (v : Value) (G : J1 → (Nat → Value) → α → Prop) (xs : List α) : Prop where
 frs : FrS h sz v ((List.range xs.length).map (elC h v sz))
 el : ∀ (i : Nat) (x : α), xs[i]? = some x → G h (Xd h v sz i) x
theorem Jjb {h h' : J1} {v : Value} {sz : Nat} {ys : List (List Value)} (f : FrS h sz v ys) (hy : 0 < ys.length) (k : ∀ b o, h b = some o → h' b = some o) (i : Nat) : Xd h v sz i = Xd h' v sz i := by
 funext j
 obtain ⟨a, c, rfl, _, _, r⟩ := f.out
 rcases r with r | ⟨b, off, cs, T, m, rfl, hb, _⟩
 ·subst r; simp at hy
 ·simp only [Xd, hb, k b _ hb]
theorem FrN.mono {α : Type} {h h' : J1} {sz : Nat} {v : Value} {G : J1 → (Nat → Value) → α → Prop} [M : Mon G] {xs : List α} (f : FrN h sz v G xs) (k : ∀ b o, h b = some o → h' b = some o) : FrN h' sz v G xs := by
 have key : ∀ i, i < xs.length → Xd h v sz i = Xd h' v sz i := fun i hi => Jjb f.frs (by simp; omega) k i
 refine ⟨?_, fun i x hx => ?_⟩
 ·have := f.frs.mono k
  have e : (List.range xs.length).map (elC h v sz) = (List.range xs.length).map (elC h' v sz) := by
   apply List.map_congr_left
   intro i hi
   unfold elC
   rw [key i (by simpa using hi)]
  rwa [e] at this
 ·have hi : i < xs.length := by
   rcases Nat.lt_or_ge i xs.length with h | h
   ·exact h
   ·rw [List.getElem?_eq_none h] at hx; cases hx
  rw [← key i hi]
  exact M.mono k _ _ (f.el i x hx)
theorem FrN.nil {α : Type} (h : J1) (sz : Nat) (G : J1 → (Nat → Value) → α → Prop) : FrN h sz (.slice none 0 0) G [] := ⟨FrS.nil _ _, by simp⟩
section acc
variable {α : Type} {h : J1} {sz : Nat} {v : Value} {G : J1 → (Nat → Value) → α → Prop} {xs ys : List α}
theorem FrN.cells (f : FrN h sz v G xs) : v.cells.toList = [v] := f.frs.cells
theorem FrN.one (f : FrN h sz v G xs) : v.oneCell' = true := f.frs.one
theorem FrN.eq (f : FrN h sz v G xs) : v = .slice (sa v) xs.length (sc v) := by
 have := f.frs.eq; rwa [List.length_map, List.length_range] at this
theorem FrN.len (f : FrN h sz v G xs) : xs.length ≤ sc v ∧ sc v ≤ 9223372036854775807 := by
 have := f.frs.len; rwa [List.length_map, List.length_range] at this
theorem FrN.at (f : FrN h sz v G xs) {i : Int} {x : α} (g : Zb xs i = some x) : G h (Xd h v sz i.toNat) x := f.el _ _ (W8 g).2.2
theorem FrN.ix (_ : FrN h sz v G xs) {i : Int} {x : α} (g : Zb xs i = some x) : Zb (List.range xs.length) i = some i.toNat := by
 obtain ⟨h0, h1, _⟩ := W8 g
 rw [gAt_ok h0 (by simpa using h1)]; simp
theorem FrN.nilV (f : FrN h sz v G xs) (hb : Jez v = true) : xs = [] := by
 have := FrS.nilV f.frs hb
 exact List.eq_nil_of_length_eq_zero (by simpa using congrArg List.length this)
theorem gCut_range {l q : Int} (e : Qp xs l q = some ys) : Qp (List.range xs.length) l q = some (((List.range xs.length).drop l.toNat).take (q.toNat - l.toNat)) := by
 obtain ⟨g0, g1, g2, _⟩ := V2 e
 exact Jc0 ⟨g0, g1, by simpa using g2⟩
theorem FrN.cut (f : FrN h sz v G xs) {l q : Int} (e : Qp xs l q = some ys) : FrN h sz (cutV sz v l q) G ys := by
 obtain ⟨g0, g1, g2, rfl⟩ := V2 e
 have hl := f.len
 have h0 := FrS.cut f.frs (gCut_range e)
 have hlen : ((xs.drop l.toNat).take (q.toNat - l.toNat)).length = q.toNat - l.toNat := by rw [List.length_take, List.length_drop]; omega
 have key : ∀ i, i < q.toNat - l.toNat → Xd h (cutV sz v l q) sz i = Xd h v sz (l.toNat + i) := by
  intro i hi
  funext j
  obtain ⟨a, c, hva, h1, _, r⟩ := f.frs.out
  simp only [List.length_map, List.length_range] at hva h1
  rcases r with r | ⟨b, off, cs, T, m, ha, hb, _⟩
  ·have := congrArg List.length r
   simp at this
   rw [this] at g2
   simp at g2
   omega
  ·have hm : ¬ c = l.toNat := by omega
   rw [hva, ha]
   simp only [cutV, sa, sc, Vo, if_neg hm, Option.map_some, Addr.add_lit, Xd, hb]
   rw [show off + l.toNat * sz + i * sz + j = off + (l.toNat + i) * sz + j from by rw [Nat.add_mul]; omega]
 refine ⟨?_, fun i x hx => ?_⟩
 ·have e1 : ((List.range ((xs.drop l.toNat).take (q.toNat - l.toNat)).length).map (elC h (cutV sz v l q) sz)) = (((List.range xs.length).drop l.toNat).take (q.toNat - l.toNat)).map (elC h v sz) := by
   rw [hlen]
   apply List.ext_getElem
   ·simp; omega
   ·intro i h1 h2
    simp only [List.length_map, List.length_range] at h1
    simp only [List.getElem_map, List.getElem_range, List.getElem_take, List.getElem_drop]
    unfold elC
    rw [key i h1]
  rw [e1]; exact h0
 ·have hi : i < q.toNat - l.toNat := by
   rcases Nat.lt_or_ge i (q.toNat - l.toNat) with h | h
   ·exact h
   ·rw [List.getElem?_eq_none (by rw [hlen]; exact h)] at hx; cases hx
  rw [key i hi]
  rw [List.getElem?_take, if_pos hi, List.getElem?_drop] at hx
  exact f.el _ _ hx
end acc
theorem FrN.cutL {α : Type} {h : J1} {sz : Nat} {a : Option Addr} {n c : Nat} {G : J1 → (Nat → Value) → α → Prop} {xs ys : List α} {l q : Int} (s : FrN h sz (.slice a n c) G xs) (e : Qp xs l q = some ys) : FrN h sz (.slice (Vo a l.toNat c sz) ys.length (c - l.toNat)) G ys := by
 have := s.cut e
 rw [Jfi e]
 exact this
theorem rd_of {l l' vs : List Value} {j n : Nat} (e : l = l') (h : rd l' j n = some vs) : rd l j n = some vs := by subst e; exact h
theorem Jea {l l' : List Value} {j : Nat} {v : Value} (e : l = l') (h : rg l' j = some v) : rg l j = some v := by subst e; exact h
def AllG {α : Type} (G : J1 → (Nat → Value) → α → Prop) (h : J1) (sz : Nat) : List Value → List α → Prop
 | cs, [] => cs = []
 | cs, x :: r => G h (fun j => (cs.take sz).getD j undef) x ∧ AllG G h sz (cs.drop sz) r
theorem AllG.el {α : Type} {G : J1 → (Nat → Value) → α → Prop} {h : J1} {sz : Nat} : ∀ {cs : List Value} {xs : List α}, AllG G h sz cs xs → ∀ (i : Nat) (x : α), xs[i]? = some x → G h (fun j => ((cs.drop (i * sz)).take sz).getD j undef) x
 | _, [], _, i, x, hx => by simp at hx
 | cs, y :: r, hp, 0, x, hx => by
  simp at hx; subst hx
  have := hp.1
  simpa using this
 | cs, y :: r, hp, i + 1, x, hx => by
  have := AllG.el hp.2 i x (by simpa using hx)
  rw [List.drop_drop, show sz + i * sz = (i + 1) * sz from by rw [Nat.succ_mul]; omega] at this
  exact this
section rules
variable {P : Program} {n : Nat} {cx : Cx} {e : X4} {L : List Chunk}
section ops
variable {d : Option Nat} {ty : TypeId} {pos : String} {af : Array Edge} {g : Option (Nat × Bool)}
theorem Z2 {α : Type} {G : J1 → (Nat → Value) → α → Prop} {X : Operand} {t u sz : TypeId} {h : J1} {v : Value} {xs : List α} (hu : P.underlying t = some (.slice u)) (hx : ev e X = v) (hs : FrN h sz v G xs) (w : World) :
  (execOp (ev e) ⟨d, .call ⟨.builtin .len, #[X], #[t]⟩, ty, pos, af, g⟩).run P w = .ok (.value (.int .i64 xs.length)) w :=
 Jdl (P := P) (d := d) (ty := ty) (pos := pos) (af := af) (g := g) hu (hx.trans hs.eq) w
end ops
end rules
end Go.Lx

namespace Go.Lx
open Go Go.Vc Go.Md
section rules
variable {P : Program} {n : Nat} {cx : Cx} {Q : Jbe} {K : X4 → World → Prop} {e : X4} {L : List Chunk} {ops : Array Oper} {F : X4 → List Chunk → Prop} {rest : List Oper} {ss : List Kd} {d : Nat} {ty : TypeId} {pos : String} {af : Array Edge} {g : Option (Nat × Bool)}
section ops
end ops
end rules
end Go.Lx

namespace Go.Lx
open Go Go.Vc Go.Md
section rules
variable {P : Program} {cx : Cx} {e : X4} {L : List Chunk}
end rules
def vcells : Value → List Value | .tuple vs => vs.toList.flatMap fun v => v.cells.toList | v => v.cells.toList
def vcell (v : Value) (k : Nat) : Value := (vcells v).getD k undef
section rules
variable {P : Program} {n : Nat} {cx : Cx} {e : X4} {L : List Chunk} {d : Nat} {ty : TypeId} {pos : String} {af : Array Edge} {g : Option (Nat × Bool)}
end rules
end Go.Lx

namespace Go.Lx
open Go Go.Vc Go.Md
def idC (l : List Value) : List Value := l
def Q9 : J1 := fun _ => none
structure AllC {α : Type} (G : J1 → (Nat → Value) → α → Prop) (h : J1) (sz : Nat) (css : List (List Value)) (xs : List α) : Prop where
 len : css.length = xs.length
 el : ∀ (i : Nat) (cs : List Value) (x : α), css[i]? = some cs → xs[i]? = some x → cs.length = sz ∧ G h (fun j => cs.getD j undef) x
section allc
variable {α : Type} {G : J1 → (Nat → Value) → α → Prop} {h h' : J1} {sz : Nat} {css : List (List Value)} {xs ys : List α}
theorem AllC.nil : AllC G h sz [] ([] : List α) := ⟨rfl, by simp⟩
theorem AllC.snoc (p : AllC G h sz css xs) {cs : List Value} {x : α} (hl : cs.length = sz) (hG : G h (fun j => cs.getD j undef) x) : AllC G h sz (css ++ [cs]) (xs ++ [x]) := by
 refine ⟨by simp [p.len], fun i c y hc hy => ?_⟩
 rcases Nat.lt_or_ge i css.length with hi | hi
 ·rw [List.getElem?_append_left hi] at hc
  rw [List.getElem?_append_left (by rw [← p.len]; exact hi)] at hy
  exact p.el i c y hc hy
 ·rw [List.getElem?_append_right hi] at hc
  rw [List.getElem?_append_right (by rw [← p.len]; exact hi), ← p.len] at hy
  have h0 : i - css.length = 0 := by
   rcases Nat.eq_zero_or_pos (i - css.length) with h | h
   ·exact h
   ·obtain ⟨q, hq⟩ : ∃ q, i - css.length = q + 1 := ⟨i - css.length - 1, by omega⟩
    rw [hq] at hc; simp at hc
  rw [h0] at hc hy
  simp at hc hy
  subst hc hy
  exact ⟨hl, hG⟩
theorem AllC.mono [M : Mon G] (p : AllC G h sz css xs) (k : ∀ b o, h b = some o → h' b = some o) : AllC G h' sz css xs :=
 ⟨p.len, fun i c x hc hx => ⟨(p.el i c x hc hx).1, M.mono k _ _ (p.el i c x hc hx).2⟩⟩
theorem AllC.get (p : AllC G h sz css xs) {i : Int} {x : α} (g : Zb xs i = some x) : css[i.toNat]? = some (css.getD i.toNat []) := by
 obtain ⟨h0, h1, _⟩ := W8 g
 rw [List.getD_eq_getElem?_getD, List.getElem?_eq_getElem (by rw [p.len]; exact h1)]; rfl
theorem AllC.ix (p : AllC G h sz css xs) {i : Int} {x : α} (g : Zb xs i = some x) : Zb css i = some (css.getD i.toNat []) := by
 unfold Zb; rw [if_pos (W8 g).1]; exact p.get g
theorem AllC.at (p : AllC G h sz css xs) {i : Int} {x : α} (g : Zb xs i = some x) : G h (fun j => (css.getD i.toNat []).getD j undef) x := (p.el _ _ _ (p.get g) (W8 g).2.2).2
theorem AllC.eta (p : AllC G h sz css xs) {i : Int} {x : α} (g : Zb xs i = some x) : idC (css.getD i.toNat []) = (List.range sz).map fun j => (css.getD i.toNat []).getD j undef := by
 have hl := (p.el _ _ _ (p.get g) (W8 g).2.2).1
 unfold idC
 generalize css.getD i.toNat [] = l at hl
 subst hl
 apply List.ext_getElem
 ·simp
 ·intro j h1 h2
  simp [List.getD_eq_getElem?_getD, List.getElem?_eq_getElem h1]
theorem AllC.app (p : AllC G h sz css xs) {by_ : Nat} {news zs : List α} {nc : List (List Value)} (g : Wb by_ xs news = some zs) (hn : nc.length = news.length) : Wb by_ css nc = some (css ++ nc) := by
 obtain ⟨_, h1, h2⟩ := Ja5 g
 exact Yw (by rw [p.len, hn]; exact ⟨h1, h2⟩)
theorem AllC.snocG (p : AllC G h sz css xs) {by_ : Nat} {x : α} {zs : List α} {cs : List Value} (g : Wb by_ xs [x] = some zs) (hl : cs.length = sz) (hG : G h (fun j => cs.getD j undef) x) : AllC G h sz (css ++ [cs]) zs := by
 obtain ⟨rfl, _⟩ := Ja5 g
 exact p.snoc hl hG
end allc
def Xm (base hp : J1) : Chunk where
 P S w := (∀ b o, base b = some o → hp b = some o) ∧ ∀ b o, hp b = some o → base b = some o ∨ (S b ∧ w.heap[b]? = some o)
 loc S w w' h := fun ⟨h1, h2⟩ => ⟨h1, fun b o hb => (h2 b o hb).imp id fun ⟨hs, hw⟩ => ⟨hs, (h b hs).trans hw⟩⟩
section rules
variable {cx : Cx} {K : X4 → World → Prop} {e : X4} {L : List Chunk} {base hp : J1}
theorem X8 (base : J1) (k : At cx K e (L ++ [Xm base base])) : At cx K e L :=
 ⟨fun w hF hS => k.out w hF (hS.snoc hF (Grow.refl w) (S := Z0) ⟨fun _ _ h => h, fun _ _ h => .inl h⟩ (fun _ h => h.elim))⟩
theorem c_poolLe (i : Nat) (hi : L[i]? = some (Xm base hp)) (k : (∀ b o, base b = some o → hp b = some o) → At cx K e L) : At cx K e L :=
 ⟨fun w hF hS => by
  obtain ⟨S, hp, _⟩ := hS.at hi
  exact (k hp.1).out w hF hS⟩
theorem Jcq {w : World} {i : Nat} (hS : Sat cx w L) (hi : L[i]? = some (Xm base hp)) (hb : ∀ b o, base b = some o → w.heap[b]? = some o) : ∀ b o, hp b = some o → w.heap[b]? = some o := fun b o h => by
 obtain ⟨S, hP, _⟩ := hS.at hi
 rcases hP.2 b o h with h | h
 ·exact hb b o h
 ·exact h.2
theorem Zc {h : J1} : ∀ b o, Q9 b = some o → h b = some o := fun _ _ h => by cases h
open Classical in
theorem Uc {C : Chunk} {Φ : J1 → Prop} (i j : Nat) (hi : L[i]? = some (Xm base hp)) (hj : L[j]? = some C) (hne : i ≠ j) (hb : ∀ w, Fr cx w → ∀ b o, base b = some o → w.heap[b]? = some o)
  (hC : ∀ S w (H : J1), C.P S w → (∀ b o, S b → w.heap[b]? = some o → H b = some o) → (∀ b o, hp b = some o → H b = some o) → Φ H)
  (k : ∀ hp', (∀ b o, hp b = some o → hp' b = some o) → Φ hp' → At cx K e ((L.set i (Xm base hp')).set j empC)) : At cx K e L :=
 ⟨fun w hF hS => by
  have hnow := Jcq hS hi (hb w hF)
  obtain ⟨fp, h1, h2, h3⟩ := hS.out
  have hil : i < L.length := by
   rcases Nat.lt_or_ge i L.length with h | h
   ·exact h
   ·simp [List.getElem?_eq_none h] at hi
  have hjl : j < L.length := by
   rcases Nat.lt_or_ge j L.length with h | h
   ·exact h
   ·simp [List.getElem?_eq_none h] at hj
  have hji : ¬ j = i := fun h => hne h.symm
  have le : ∀ b o, hp b = some o → (fun b => if fp j b then w.heap[b]? else hp b) b = some o := fun b o h => by
   show (if fp j b then w.heap[b]? else hp b) = some o
   split
   ·exact hnow b o h
   ·exact h
  refine (k (fun b => if fp j b then w.heap[b]? else hp b) le (hC (fp j) w _ (h1 j C hj) (fun b o hs h => by show (if fp j b then w.heap[b]? else hp b) = some o; rw [if_pos hs]; exact h) le)).out w hF ?_
  have key : ∀ q b, (if q = i then fp i b ∨ fp j b else if q = j then False else fp q b) → (q = i ∧ (fp i b ∨ fp j b)) ∨ (q ≠ i ∧ q ≠ j ∧ fp q b) := by
   intro q b h
   by_cases hqi : q = i
   ·simp only [hqi, if_true] at h; exact .inl ⟨hqi, h⟩
   ·by_cases hqj : q = j
    ·simp only [hqj, hji, if_true, if_false] at h
    ·simp only [hqi, hqj, if_false] at h; exact .inr ⟨hqi, hqj, h⟩
  refine ⟨fun q b => if q = i then fp i b ∨ fp j b else if q = j then False else fp q b, ?_, ?_, ?_⟩
  ·intro q c hc
   by_cases hqj : q = j
   ·subst hqj
    rw [List.getElem?_set_self (by simpa using hjl)] at hc
    cases hc
    show ∀ b, ¬ _
    intro b h
    simp [hji] at h
   ·rw [List.getElem?_set_ne (fun h => hqj h.symm)] at hc
    by_cases hqi : q = i
    ·subst hqi
     rw [List.getElem?_set_self hil] at hc
     cases hc
     simp only [if_true]
     have hP := h1 q _ hi
     refine ⟨fun b o h => le b o (hP.1 b o h), fun b o h => ?_⟩
     have h : (if fp j b then w.heap[b]? else hp b) = some o := h
     split at h
     ·rename_i hs; exact .inr ⟨.inr hs, h⟩
     ·rcases hP.2 b o h with h | h
      ·exact .inl h
      ·exact .inr ⟨.inl h.1, h.2⟩
    ·rw [List.getElem?_set_ne (fun h => hqi h.symm)] at hc
     simp only [hqi, hqj, if_false]
     exact h1 q c hc
  ·intro q b h
   rcases key q b h with ⟨rfl, h | h⟩ | ⟨_, _, h⟩
   ·have := h2 q b h; exact ⟨by simpa using hil, this.2⟩
   ·have := h2 j b h; exact ⟨by simpa using hil, this.2⟩
   ·have := h2 q b h; exact ⟨by simpa using this.1, this.2⟩
  ·intro q r b hq hr
   rcases key q b hq with ⟨hqi, hq | hq⟩ | ⟨hqi, hqj, hq⟩ <;> rcases key r b hr with ⟨hri, hr | hr⟩ | ⟨hri, hrj, hr⟩
   ·omega
   ·omega
   ·exact absurd (h3 i r b hq hr) (fun h => hri h.symm)
   ·omega
   ·omega
   ·exact absurd (h3 j r b hq hr) (fun h => hrj h.symm)
   ·exact absurd (h3 q i b hq hr) hqi
   ·exact absurd (h3 q j b hq hr) hqj
   ·exact h3 q r b hq hr⟩
theorem FrS.sub {w : World} {S : Nat → Prop} {H : J1} {sz : Nat} {v : Value} {xs : List (List Value)} (f : FrS (fun b => w.heap[b]?) sz v xs) (hd : ∀ b, v.ownBlock = some b → S b) (hH : ∀ b o, S b → w.heap[b]? = some o → H b = some o) : FrS H sz v xs := by
 obtain ⟨a, c, rfl, h1, h2, r⟩ := f.out
 refine ⟨a, c, rfl, h1, h2, ?_⟩
 rcases r with r | ⟨b, off, cs, T, m, rfl, hb, r⟩
 ·exact .inl r
 ·exact .inr ⟨b, off, cs, T, m, rfl, hH b _ (hd b rfl) hb, r⟩
theorem fz_ro {α : Type} {sz n : Nat} {v : Value} {xs : List α} {f : α → List Value} (hp : J1) : ∀ S w (H : J1), (roV sz v n (xs.map f)).P S w → (∀ b o, S b → w.heap[b]? = some o → H b = some o) → (∀ b o, hp b = some o → H b = some o) → FrS H sz v (xs.map f) :=
 fun _ _ _ hP hH _ => hP.2.1.sub hP.2.2 hH
theorem Jb9 {α : Type} {E sz n : Nat} {v : Value} {xs : List α} {f : α → List Value} (hp : J1) : ∀ S w (H : J1), (J4 E sz v n (xs.map f)).P S w → (∀ b o, S b → w.heap[b]? = some o → H b = some o) → (∀ b o, hp b = some o → H b = some o) → FrS H sz v (xs.map f) :=
 fun S w H hP hH k => fz_ro hp S w H ((row_ro E sz v n _).out S w hP) hH k
theorem Ja8 {α : Type} {G : J1 → (Nat → Value) → α → Prop} {h : J1} {sz : Nat} {v : Value} {css : List (List Value)} {xs : List α} (f : FrS h sz v (css.map idC)) (p : AllC G h sz css xs) : FrN h sz v G xs := by
 have hid : css.map idC = css := by unfold idC; simp
 rw [hid] at f
 have cellE : ∀ i, i < xs.length → Xd h v sz i = fun j => (css.getD i []).getD j undef := by
  intro i hi
  funext j
  have hi' : i < css.length := by rw [p.len]; exact hi
  have hcl : (css[i]).length = sz := (p.el i css[i] xs[i] (List.getElem?_eq_getElem hi') (List.getElem?_eq_getElem hi)).1
  have e1 : css.getD i [] = css[i] := by simp [List.getD_eq_getElem?_getD, List.getElem?_eq_getElem hi']
  rw [e1]
  by_cases hj : j < sz
  ·obtain ⟨a, c, rfl, _, _, r⟩ := f.out
   rcases r with r | ⟨b, off, cs, T, m, rfl, hb, r⟩
   ·subst r; simp at hi'
   ·have h2 := (r i css[i] (List.getElem?_eq_getElem hi')).2 j ((css[i])[j]'(by omega)) (List.getElem?_eq_getElem (by omega))
    simp only [Xd, if_pos hj, hb]
    rw [Array.getD_eq_getD_getElem?, h2]
    simp [List.getD_eq_getElem?_getD, List.getElem?_eq_getElem (show j < (css[i]).length by omega)]
  ·unfold Xd
   rw [if_neg hj, List.getD_eq_getElem?_getD, List.getElem?_eq_none (by omega)]; rfl
 have cells : ∀ i, i < xs.length → elC h v sz i = css.getD i [] := by
  intro i hi
  have hi' : i < css.length := by rw [p.len]; exact hi
  have hcl : (css[i]).length = sz := (p.el i css[i] xs[i] (List.getElem?_eq_getElem hi') (List.getElem?_eq_getElem hi)).1
  unfold elC
  rw [cellE i hi]
  have e1 : css.getD i [] = css[i] := by simp [List.getD_eq_getElem?_getD, List.getElem?_eq_getElem hi']
  rw [e1]
  apply List.ext_getElem
  ·simp [hcl]
  ·intro j h1 h2
   simp only [List.length_map, List.length_range] at h1
   simp [List.getD_eq_getElem?_getD, List.getElem?_eq_getElem h2]
 refine ⟨?_, fun i x hx => ?_⟩
 ·have e : (List.range xs.length).map (elC h v sz) = css := by
   apply List.ext_getElem
   ·simp [p.len]
   ·intro i h1 h2
    simp only [List.length_map, List.length_range] at h1
    rw [List.getElem_map, List.getElem_range, cells i h1]
    simp [List.getD_eq_getElem?_getD, List.getElem?_eq_getElem h2]
  rw [e]; exact f
 ·have hi : i < xs.length := by
   rcases Nat.lt_or_ge i xs.length with h | h
   ·exact h
   ·rw [List.getElem?_eq_none h] at hx; cases hx
  have hi' : i < css.length := by rw [p.len]; exact hi
  rw [cellE i hi]
  have e1 : css.getD i [] = css[i] := by simp [List.getD_eq_getElem?_getD, List.getElem?_eq_getElem hi']
  rw [e1]
  exact (p.el i css[i] x (List.getElem?_eq_getElem hi') hx).2
theorem app63 {α : Type} {by_ : Nat} {xs ys zs : List α} (g : Wb by_ xs ys = some zs) : (xs ++ ys).length * by_ ≤ 140737488355328 := by
 obtain ⟨_, _, h⟩ := Ja5 g
 rwa [List.length_append]
open Classical in
theorem Z9 {hp1 : J1} (i j : Nat) (hi : L[i]? = some (Xm base hp)) (hj : L[j]? = some (Xm Q9 hp1)) (hne : i ≠ j) (hb : ∀ w, Fr cx w → ∀ b o, base b = some o → w.heap[b]? = some o)
  (k : ∀ hp', (∀ b o, hp b = some o → hp' b = some o) → (∀ b o, hp1 b = some o → hp' b = some o) → At cx K e ((L.set i (Xm base hp')).set j empC)) : At cx K e L :=
 Uc (Φ := fun H => ∀ b o, hp1 b = some o → H b = some o) i j hi hj hne hb (fun S w H hP hH _ b o h => (hP.2 b o h).elim (fun h => by cases h) fun h => hH b o h.1 h.2) k
def Uj {α : Type} (E sz : Nat) (G : J1 → (Nat → Value) → α → Prop) (v : Value) (n : Nat) (xs : List α) : Chunk where
 P S w := ∃ (hp : J1) (css : List (List Value)), AllC G hp sz css xs ∧ n = css.length ∧ (Jw (Xm Q9 hp) (J4 E sz v n (css.map idC))).P S w
 loc S w w' h := by
  rintro ⟨hp, css, h1, h2, h3⟩
  exact ⟨hp, css, h1, h2, Chunk.loc _ _ _ _ h h3⟩
theorem Q7 {α : Type} {G : J1 → (Nat → Value) → α → Prop} {E sz n : Nat} {p : Option Addr × Nat} {css : List (List Value)} {xs : List α} (hn : n = css.length) (f : AllC G hp sz css xs) :
  Imp (Jw (Xm Q9 hp) (J4 E sz (.slice p.1 n p.2) n (css.map idC))) (Uj E sz G (.slice p.1 n p.2) n xs) := ⟨fun S w h => ⟨hp, css, f, hn, h⟩⟩
theorem c_show {C : Chunk} {τ : Type} {D : τ → Chunk} {φ : τ → Prop} (i : Nat) (hi : L[i]? = some C) (h : ∀ S w, C.P S w → ∃ t, φ t ∧ (D t).P S w) (k : ∀ t, φ t → At cx K e (L.set i (D t))) : At cx K e L :=
 ⟨fun w hF hS => by
  obtain ⟨fp, h1, h2, h3⟩ := hS.out
  obtain ⟨t, ht, hD⟩ := h _ _ (h1 i _ hi)
  have hil : i < L.length := by
   rcases Nat.lt_or_ge i L.length with h | h
   ·exact h
   ·simp [List.getElem?_eq_none h] at hi
  refine (k t ht).out w hF ⟨fp, fun j c hj => ?_, fun j b hb => by simpa using h2 j b hb, h3⟩
  by_cases hji : j = i
  ·subst hji
   rw [List.getElem?_set_self hil] at hj
   cases hj
   exact hD
  ·rw [List.getElem?_set_ne (fun h => hji h.symm)] at hj
   exact h1 j c hj⟩
theorem Jcd {α : Type} {G : J1 → (Nat → Value) → α → Prop} {E sz n : Nat} {p : Option Addr × Nat} {xs : List α} (i : Nat) (hi : L[i]? = some (Uj E sz G (.slice p.1 n p.2) n xs))
  (k : ∀ (hp : J1) (css : List (List Value)), n = css.length → AllC G hp sz css xs → At cx K e (L.set i (Jw (Xm Q9 hp) (J4 E sz (.slice p.1 n p.2) n (css.map idC))))) : At cx K e L :=
 c_show (τ := J1 × List (List Value)) (D := fun t => Jw (Xm Q9 t.1) (J4 E sz (.slice p.1 n p.2) n (t.2.map idC))) (φ := fun t => n = t.2.length ∧ AllC G t.1 sz t.2 xs) i hi (fun S w ⟨hp, css, h1, h2, h3⟩ => ⟨(hp, css), ⟨h2, h1⟩, h3⟩) fun t ht => k t.1 t.2 ht.1 ht.2
end rules
end Go.Lx

namespace Go.Vc
open Go Go.Md Go.Shelf Go.Sort Go.Proofs
end Go.Vc

namespace Go.Vc
open Go Go.Md Go.Shelf Go.Sort Go.Proofs
theorem Jhw {α : Type} (enc : α → List Value) (k : Nat) (hk : ∀ x, (enc x).length = k) (l : List α) : (l.map enc).flatten.length = l.length * k := by
 induction l with
 | nil => simp
 | cons x l ih => simp [ih, hk, Nat.add_mul]; omega
theorem flatE_get {α : Type} [Inhabited α] (enc : α → List Value) (k : Nat) (hk : ∀ x, (enc x).length = k) : ∀ (l : List α) (t : Nat), t < l.length * k → (l.map enc).flatten[t]? = some (enc (l[t / k]!))[t % k]!
 | [], t, h => by simp at h
 | x :: l, t, h => by
  have k0 : 0 < k := by rcases Nat.eq_zero_or_pos k with h0 | h0
                        ·subst h0; simp at h
                        ·exact h0
  rw [List.map_cons, List.flatten_cons]
  rcases Nat.lt_or_ge t k with h1 | h1
  ·rw [List.getElem?_append_left (by rw [hk]; exact h1), Nat.div_eq_of_lt h1, Nat.mod_eq_of_lt h1, List.getElem!_cons_zero, List.getElem?_eq_getElem (by rw [hk]; exact h1), getElem!_pos _ t (by rw [hk]; exact h1)]
  ·rw [List.getElem?_append_right (by rw [hk]; exact h1), hk, flatE_get enc k hk l (t - k) (by simp only [List.length_cons, Nat.add_mul, Nat.one_mul] at h; omega)]
   have e1 : t / k = (t - k) / k + 1 := by rw [← Nat.sub_add_cancel h1]; simp [Nat.add_div_right _ k0]
   have e2 : t % k = (t - k) % k := by rw [Nat.mod_eq_sub_mod h1]
   rw [e1, e2, List.getElem!_cons_succ]
theorem Jc4 {α : Type} [Inhabited α] (enc : α → List Value) (k : Nat) (hk : ∀ x, (enc x).length = k) (d : Array α) : (flatK enc k d).toList = (d.toList.map enc).flatten := by
 apply List.ext_getElem?
 intro t
 by_cases h : t < d.size * k
 ·have h2 := flatE_get enc k hk d.toList t (by simpa using h)
  have k0 : 0 < k := by rcases Nat.eq_zero_or_pos k with h0 | h0
                        ·subst h0; simp at h
                        ·exact h0
  have hlt : t / k < d.size := (Nat.div_lt_iff_lt_mul k0).2 h
  have e0 : d.toList[t / k]! = d[t / k]! := by rw [getElem!_pos d.toList (t / k) (by simpa using hlt), getElem!_pos d (t / k) hlt]; simp
  rw [h2, Array.getElem?_toList, Array.getElem?_eq_getElem (by simpa using h), ← getElem!_pos _ t (by simpa using h), get_flatK _ _ _ _ h, e0]
 ·rw [List.getElem?_eq_none (by simpa using h), List.getElem?_eq_none (by rw [Jhw enc k hk]; simpa using h)]
theorem Jfe {w : World} {g : Nat} {cur : Array Value} {e : TypeId} {F : Array Value} (hb : w.heap[g]? = some (.cells cur e (0, 0))) (ht : cur.toList.take F.size = F.toList) : Holds id w g 0 F := by
 intro j hj
 refine ⟨?_, by simp [World.frozen?, hb]⟩
 have h1 : (cur.toList.take F.size)[j]? = F.toList[j]? := by rw [ht]
 rw [List.getElem?_take_of_lt hj] at h1
 simp only [World.cell?, hb, Nat.zero_add]
 simp only [Option.isSome_none, Bool.false_eq_true, if_false]
 rw [← Array.getElem?_toList, h1]
 simp [hj]
theorem Jhl {w : World} {g n : Nat} {os : Array Obj} {cur : Array Value} {e : TypeId} {fr : Nat × Nat} (F : Array Value) (hb : w.heap[g]? = some (.cells cur e fr)) :
  (grow (putRow id (Sort.ahead w n) g 0 F) os).heap[g]? = some (.cells (putCells id 0 F cur) e fr) := by
 have hg : g < w.heap.size := (Array.getElem?_eq_some_iff.1 hb).1
 rw [heap_grow_old _ _ (by simpa using hg)]
 simp [putRow, mapBlock, Sort.ahead, Array.getElem?_modify, hb, onCells]
theorem Jeu {w : World} {g n : Nat} {os : Array Obj} (F : Array Value) : w.grownBy (grow (putRow id (Sort.ahead w n) g 0 F) os) (some g) := by
 refine ⟨rfl, rfl, rfl, by simp, fun k hk hne => ?_⟩
 rw [heap_grow_old _ _ (by simpa using hk)]
 have : g ≠ k := fun e => hne (by rw [e])
 simp [putRow, mapBlock, Sort.ahead, Array.getElem?_modify, this]
theorem Je6 (cur : Array Value) (F : Array Value) (h : F.size ≤ cur.size) : (putCells id 0 F cur).toList.take F.size = F.toList := by
 apply List.ext_getElem?
 intro j
 by_cases hj : j < F.size
 ·rw [List.getElem?_take_of_lt hj, Array.getElem?_toList]
  simp [putCells, hj, show j < cur.size by omega]
 ·rw [List.getElem?_take_eq_none (by omega), List.getElem?_eq_none (by simp; omega)]
theorem swo_of {α : Type} {cmp : α → α → Option Int} (c : CmpOk cmp) : SWO (ltOf fun x y => (cmp x y).getD 0) where
 irrefl x := by have := c.flip x x; unfold ltOf; simp; omega
 trans x y z h1 h2 := by
  unfold ltOf at *
  simp at *
  have a1 := c.flip x y
  have a2 := c.flip y z
  have a3 := c.flip z x
  have a4 := c.flip y x
  have a5 := c.flip z y
  have a6 := c.flip x z
  have t := c.trans y z x
  have t2 := c.trans x y z (by omega) (by omega)
  rcases Int.lt_or_le ((cmp x z).getD 0) 0 with h | h
  ·exact h
  ·have e0 : (cmp x z).getD 0 = 0 := by omega
   have := c.anti x z e0
   subst this
   omega
 ntrans x y z h1 h2 := by
  unfold ltOf at *
  simp at *
  have a1 := c.flip x y
  have a2 := c.flip y z
  have a3 := c.flip z x
  have a4 := c.flip y x
  have a5 := c.flip z y
  have a6 := c.flip x z
  have t := c.trans z y x (by omega) (by omega)
  omega
theorem sort_func {P : Program} {ρ : Ren} (Ly : SlLaysF0.n6 P ρ) {α : Type} {k : Nat} (aE : ∀ w, (isAgg (ρ.t 24)).run P w = .ok true w) (zE : ∀ w, (Go.sizeOf (ρ.t 24)).run P w = .ok k w) (enc : α → List Value) (hk : ∀ x, (enc x).length = k)
  (h1 : ∀ x, ∀ v ∈ enc x, v.oneCell' = true) {cf : α → α → Option Int} {g : Nat} (eg : ∀ args w, (callFunc g args).run P w = .ok (.enter g args) w)
  (hcl : ∀ (x y : α) (v : Int) (W : World), cf x y = some v → Calls P g #[.agg (enc x).toArray, .agg (enc y).toArray] W fun e w' => e = .returned (.int .i64 v) ∧ ∃ q os', w' = Go.Sort.grow (W.drewN q) os')
  {E : TypeId} {a0 r : List α} {p0 : Option Addr × Nat} {n0 : Nat} {w : World} {S : Nat → Prop}
  (hcs : (J4 E k (.slice p0.1 n0 p0.2) n0 (a0.map enc)).P S w) (hlt : ∀ b, S b → b < w.heap.size) (hn0 : n0 = a0.length) (H : Jdv a0 cf = some r) :
  Does P (ρ.f 6) (List.toArray [.slice p0.1 n0 p0.2, .func (.func g) #[] #[]]) w (fun v w' => ∃ _ : Unit, v = .tuple #[] ∧ Turn w w' S (J4 E k (.slice p0.1 n0 p0.2) n0 (r.map enc))) := by
 obtain ⟨p, c⟩ := p0
 unfold Jdv at H
 split at H
 case isFalse => cases H
 rename_i hh
 obtain ⟨hsz, hok⟩ := hh
 cases H
 subst hn0
 have hcs0 := hcs
 obtain ⟨⟨hown, hlen, hall⟩, hb⟩ := hcs
 rcases hown.2 with ⟨h0, h1'⟩ | ⟨b, Y4, cur, hv, hbase, hh, q1, q2, q3, q4⟩
 ·have hnil : a0 = [] := List.eq_nil_of_length_eq_zero h1'
  subst hnil
  refine Calls.mono (AnyF.slices_SortFunc_none { Ly with } p c (.func (.func g) #[] #[]) w) ?_
  rintro e w' ⟨rfl, rfl⟩
  exact ⟨_, rfl, (), rfl, ⟨rfl, rfl, rfl, Nat.le_refl _, fun _ _ _ => rfl, S, by simpa using hcs0, fun b h => ⟨hlt b h, .inl h⟩⟩⟩
 ·simp only [Value.slice.injEq] at hv
  obtain ⟨hv1, -, hv2⟩ := hv
  subst hv1 hv2
  rcases List.eq_nil_or_concat a0 with rfl | ⟨_, x0, _⟩
  ·refine Calls.mono (AnyF.slices_SortFunc_none { Ly with } _ c (.func (.func g) #[] #[]) w) ?_
   rintro e w' ⟨rfl, rfl⟩
   exact ⟨_, rfl, (), rfl, ⟨rfl, rfl, rfl, Nat.le_refl _, fun _ _ _ => rfl, S, by simpa using hcs0, fun b h => ⟨hlt b h, .inl h⟩⟩⟩
  haveI : Inhabited α := ⟨x0⟩
  have hgl : b < w.heap.size := (Array.getElem?_eq_some_iff.1 hh).1
  have hfs : ∀ l : List α, (flatK enc k l.toArray).toList = (l.map enc).flatten := fun l => Jc4 enc k hk l.toArray
  have hH : HoldsK enc k w b 0 a0.toArray := by
   refine Jfe hh ?_
   rw [hfs, size_flatK, ← q4]
   simp
  have hcmp : CmpLays P g #[] enc k (fun x y => (cf x y).getD 0) b 0 a0.toArray.size w := fun m os dk _ x y => by
   obtain ⟨v, hv⟩ := hok.tot x y
   have := hcl x y v (sortWorldK enc k w b 0 m dk os) hv
   have e : (cf x y).getD 0 = v := by rw [hv]; rfl
   simp only [e]
   exact this
  have main := AnyQ.slices_SortFunc Ly k aE zE enc hk h1 (fun x y => (cf x y).getD 0) (swo_of hok) g #[] b 0 c a0.toArray w eg hcmp hH hgl (by simpa using hsz)
  rw [show a0.toArray.size = a0.length by simp] at main
  refine Calls.mono main ?_
  rintro e w' ⟨rfl, d', n, os, hperm, hsorted, rfl⟩
  have hds : d'.size = a0.length := by simpa using hperm.1
  have hp : d'.toList.Perm a0 := by
   have := hperm.2.2
   have z1 : (d'.extract 0 a0.length).toList = d'.toList := by rw [← hds]; simp
   have z2 : (a0.toArray.extract 0 a0.length).toList = a0 := by simp
   rw [z1, z2] at this
   exact this
  have hd : d'.toList = a0.mergeSort (leC cf) := by
   refine sortF_is hok hp ?_
   rw [List.pairwise_iff_getElem]
   intro i j hi hj hij
   have := hsorted i j (Nat.zero_le _) hij (by simpa [hds] using hj)
   rw [getElem!_pos d' j (by simpa using hj), getElem!_pos d' i (by simpa using hi)] at this
   unfold ltOf at this
   unfold leC
   have a1 := hok.flip d'[j] d'[i]
   have a2 := hok.flip d'[i] d'[j]
   simp at this ⊢
   simp at hi hj
   omega
  have hflat : (flatK enc k d').toList = ((a0.mergeSort (leC cf)).map enc).flatten := by rw [Jc4 enc k hk, hd]
  have hG := Jeu (w := w) (g := b) (n := n) (os := os) (flatK enc k d')
  obtain ⟨g1, g2, g3, g4, g5⟩ := hG
  have hSg : S b := hb b rfl
  have hll : (a0.mergeSort (leC cf)).length = a0.length := List.length_mergeSort _
  refine ⟨_, rfl, (), rfl, ⟨g1, g2, g3, g4, fun z hz hnz => g5 z hz (fun h => hnz (by cases h; exact hSg)), S, ⟨⟨⟨by rw [Jhw enc k hk]; simp [hll], .inr ⟨b, c, _, rfl, hbase, Jhl _ hh, q1, q2, by simp [putCells, q3], ?_⟩⟩, by simp [hll], fun x hx => ?_⟩, hb⟩, fun z h => ⟨Nat.lt_of_lt_of_le (hlt z h) g4, .inl h⟩⟩⟩
  ·rw [← hflat]
   have := Je6 cur (flatK enc k d') (by rw [size_flatK, q3, hds]; exact Nat.mul_le_mul_right k q1)
   rw [size_flatK, hds] at this
   exact this
  ·obtain ⟨y, _, rfl⟩ := List.mem_map.1 hx
   exact hk y
end Go.Vc

namespace Go.Lx
open Go Go.Vc Go.Md
def _root_.Go.Vc.Kd.dv (a : Nat) (rds : List Nat) (φ : Value → Value) : Kd := .g [a] rds [] (fun vs _ v => v = φ (vs.headD undef)) (fun _ _ _ => [])
section rules
variable {P : Program} {cx : Cx} {ops : Array Oper} {F : X4 → List Chunk → Prop} {ss : List Kd} {rest : List Oper} {e : X4} {L : List Chunk}
end rules
section rules
variable {P : Program} {n : Nat} {cx : Cx} {e : X4} {L : List Chunk} {d : Nat} {ty : TypeId} {pos : String} {af : Array Edge} {g : Option (Nat × Bool)}
end rules
end Go.Lx

namespace Go.Lx
open Go Go.Vc Go.Md
section rules
variable {P : Program} {n : Nat} {cx : Cx} {e : X4} {L : List Chunk} {d : Nat} {ty : TypeId} {pos : String} {af : Array Edge} {g : Option (Nat × Bool)}
theorem Ji9 {sz : Nat} : ∀ {xs : List (List Value)} (a : Nat), (∀ x ∈ xs, x.length = sz) → xs.flatten.take (a * sz) = (xs.take a).flatten
 | [], a, _ => by simp
 | x :: xs, 0, _ => by simp
 | x :: xs, a + 1, h => by
  have hx := h x (by simp)
  rw [List.take_succ_cons, List.flatten_cons, List.flatten_cons, Nat.succ_mul, List.take_append, hx, List.take_of_length_le (by omega), show a * sz + sz - sz = a * sz from by omega, Ji9 a fun y hy => h y (by simp [hy])]
end rules
end Go.Lx

namespace Go.Lx
open Go Go.Vc Go.Md
theorem cutA_zero (a : Option Addr) (m sz : Nat) : Vo a 0 m sz = a := by
 unfold Vo
 split
 ·rfl
 ·cases a with
  | none => rfl
  | some x => obtain ⟨b, o, f⟩ := x; simp [Addr.add]
section ops
variable {P : Program} {e : X4} {d : Option Nat} {ty : TypeId} {pos : String} {af : Array Edge} {g : Option (Nat × Bool)}
end ops
section rules
variable {P : Program} {n : Nat} {cx : Cx} {e : X4} {L : List Chunk} {d : Nat} {ty : TypeId} {pos : String} {af : Array Edge} {g : Option (Nat × Bool)}
theorem Turns.pre {σ : Type} {o : Oper} {i : Nat} {rds : List Nat} {G : σ → Value} {D : σ → Chunk} {C C' : Chunk} (hI : Imp C C') (hL : L[i]? = some C) (hr : i ∉ rds) (h : Turns P cx e o (L.set i C') i rds G D) : Turns P cx e o L i rds G D := by
 intro w L' hF hS hl hi
 have hLi := (hi i (.inr rfl)).trans hL
 have hS' : Sat cx w (L'.set i C') := hS.set hF hLi (Nat.le_refl _) fun S hp hb => ⟨S, hI.out S w hp, fun b hs => ⟨(hb b hs).1, .inl hs⟩, fun _ _ _ => rfl⟩
 have hil : i < L.length := by
  rcases Nat.lt_or_ge i L.length with h | h
  ·exact h
  ·rw [List.getElem?_eq_none h] at hL; cases hL
 have := h w (L'.set i C') hF hS' (by simp [hl]) fun j hj => by
  by_cases hji : j = i
  ·subst hji; rw [List.getElem?_set_self (by omega), List.getElem?_set_self hil]
  ·rw [List.getElem?_set_ne (fun e => hji e.symm), List.getElem?_set_ne (fun e => hji e.symm)]
   exact hi j (hj.imp_right fun h => h)
 simpa [List.set_set] using this
theorem Ji7 {sz : Nat} : ∀ {xs : List (List Value)} (a : Nat), (∀ x ∈ xs, x.length = sz) → xs.flatten.drop (a * sz) = (xs.drop a).flatten
 | [], a, _ => by simp
 | x :: xs, 0, _ => by simp
 | x :: xs, a + 1, h => by
  have hx := h x (by simp)
  rw [List.drop_succ_cons, List.flatten_cons, Nat.succ_mul, List.drop_append, hx, List.drop_eq_nil_of_le (by omega), List.nil_append, show a * sz + sz - sz = a * sz from by omega, Ji7 a fun y hy => h y (by simp [hy])]
end rules
end Go.Lx

namespace Go.Lx
open Go Go.Vc Go.Md
section rules
variable {cx : Cx} {K : X4 → World → Prop} {e : X4} {L : List Chunk}
theorem c_emp (k : At cx K e (L ++ [empC])) : At cx K e L := ⟨fun w hF hS => k.out w hF (hS.emp hF)⟩
end rules
section ops
variable {P : Program} {cx : Cx} {e : X4} {L : List Chunk} {d : Option Nat} {ty : TypeId} {pos : String} {af : Array Edge} {g : Option (Nat × Bool)}
end ops
section rules
variable {P : Program} {cx : Cx} {ops : Array Oper} {F : X4 → List Chunk → Prop} {rest : List Oper} {ss : List Kd} {e : X4} {L : List Chunk} {d : Nat}
end rules
end Go.Lx

namespace Go.Lx
open Go Go.Vc Go.Md
def cutL {β : Type} (xs : List β) (l q : Int) : List β := (xs.drop l.toNat).take (q.toNat - l.toNat)
section allc
variable {α : Type} {G : J1 → (Nat → Value) → α → Prop} {h : J1} {sz : Nat} {css : List (List Value)} {xs ys : List α} {l q : Int}
theorem AllC.cut (p : AllC G h sz css xs) (g : Qp xs l q = some ys) : AllC G h sz (cutL css l q) ys := by
 obtain ⟨g0, g1, g2, rfl⟩ := V2 g
 refine ⟨by simp [cutL, p.len], fun i cs x h1 h2 => ?_⟩
 unfold cutL at h1
 rw [List.getElem?_take] at h1 h2
 split at h1
 ·rename_i hi
  rw [if_pos hi] at h2
  rw [List.getElem?_drop] at h1 h2
  exact p.el _ cs x h1 h2
 ·cases h1
end allc
section rules
variable {P : Program} {n : Nat} {cx : Cx} {e : X4} {L : List Chunk} {d : Nat} {ty : TypeId} {pos : String} {af : Array Edge} {g : Option (Nat × Bool)}
theorem Jaj {α : Type} {G : J1 → (Nat → Value) → α → Prop} {hp : J1} {E sz n : Nat} {p : Option Addr × Nat} {css : List (List Value)} {xs : List α} (hn : n = css.length) (f : AllC G hp sz css xs) :
  Imp (Jw (Xm Q9 hp) (J4 E sz (.slice p.1 n p.2) n (css.map idC))) (Uj E sz G (.slice p.1 xs.length p.2) xs.length xs) := by
 subst hn
 rw [← f.len]
 exact Q7 rfl f
theorem frn_rowD0 {α : Type} {G : J1 → (Nat → Value) → α → Prop} [Mon G] {E sz : Nat} {p : Option Addr × Nat} {xs : List α} {S : Nat → Prop} {w : World} (h : (Uj E sz G (.slice p.1 xs.length p.2) xs.length xs).P S w) (H : J1) (hH : ∀ b o, S b → w.heap[b]? = some o → H b = some o) : FrN H sz (.slice p.1 xs.length p.2) G xs := by
 obtain ⟨hp, css, f, hn, S1, S2, k1, k2, k3, k4, _⟩ := h
 have hr := Jij k2.1.1 k2.1.2.1 k2.1.2.2
 refine Ja8 (hr.sub (S := S2) k2.2 fun b o hs hb => hH b o (k4 b hs) hb) (f.mono fun b o hb => ?_)
 rcases k1.2 b o hb with h | ⟨h1, h2⟩
 ·cases h
 ·exact hH b o (k3 b h1) h2
theorem Jgx {α : Type} {G : J1 → (Nat → Value) → α → Prop} [Mon G] {w : World} {i E sz : Nat} {p : Option Addr × Nat} {xs : List α} (hS : Sat cx w L) (hL : L[i]? = some (Uj E sz G (.slice p.1 xs.length p.2) xs.length xs)) : FrN (fun b => w.heap[b]?) sz (.slice p.1 xs.length p.2) G xs := by
 obtain ⟨S, hp, _⟩ := hS.at hL
 exact frn_rowD0 hp _ fun _ _ _ h => h
def offR (w : World) (E sz : Nat) (v : Value) (n : Nat) (xs : List (List Value)) : Prop :=
 ∃ g off Y4 cur, v = .slice (some ⟨g, off, none⟩) n Y4 ∧ w.heap[g]? = some (.cells cur E (0, 0)) ∧ n ≤ Y4 ∧ Y4 ≤ maxLen ∧ off + Y4 * sz ≤ cur.size ∧ (cur.toList.drop off).take (n * sz) = xs.flatten
theorem offR.frs {w : World} {E sz : Nat} {v : Value} {n : Nat} {xs : List (List Value)} (h : offR w E sz v n xs) (hn : xs.length = n) (hl : ∀ x ∈ xs, x.length = sz) : FrS (fun b => w.heap[b]?) sz v xs := by
 obtain ⟨g, off, Y4, cur, rfl, hh, hnc, hm, hcs, ht⟩ := h
 subst hn
 refine ⟨some ⟨g, off, none⟩, Y4, rfl, hnc, by simpa [maxLen] using hm, .inr ⟨g, off, cur, E, (0, 0), rfl, hh, fun i x hx => ⟨hl x (List.mem_of_getElem? hx), fun j v hv => ?_⟩⟩⟩
 have hr := Jc2 xs i x (List.all_eq_true.2 fun x hx => by simpa using hl x hx) hx j v hv
 rw [← ht, List.getElem?_take] at hr
 split at hr
 ·rw [List.getElem?_drop, Array.getElem?_toList] at hr
  rw [← hr, Nat.add_assoc]
 ·cases hr
end rules
section rules
variable {P : Program} {cx : Cx} {ops : Array Oper} {F : X4 → List Chunk → Prop} {rest : List Oper} {ss : List Kd} {e : X4} {L : List Chunk} {d : Nat}
end rules
end Go.Lx

namespace Go.Lx
open Go Go.Vc Go.Md
end Go.Lx
namespace Go.Lx
open Go Go.Vc Go.Md
section rules
variable {P : Program} {n : Nat} {cx : Cx} {e : X4} {L : List Chunk} {ops : Array Oper} {rest : List Oper} {F : X4 → List Chunk → Prop} {ss : List Kd} {ty : TypeId} {pos : String} {af : Array Edge} {g : Option (Nat × Bool)}
end rules
end Go.Lx
namespace Go.Lx
open Go Go.Vc Go.Md
section
variable {cx : Cx} {K : X4 → World → Prop} {e : X4} {L : List Chunk}
end
end Go.Lx
namespace Go.Lx
open Go Go.Vc Go.Md
section
variable {P : Program} {n : Nat} {cx : Cx} {e : X4} {L : List Chunk} {ops : Array Oper} {rest : List Oper} {F : X4 → List Chunk → Prop} {ss : List Kd} {ty : TypeId} {pos : String} {af : Array Edge} {g : Option (Nat × Bool)}
theorem Jhm {o : Oper} {d : Nat} {v : Value} {rds : List Nat} (hw : Yi ops o e = true) (hd : o.dst = some d) (hr : ∀ w L', Fr cx w → Sat cx w L' → (∀ i ∈ rds, L'[i]? = L[i]?) → (execOp (ev e) o).run P w = .ok (.value v) w)
  (k : Sq P cx ops F rest ss (upd e d v) L) : Sq P cx ops F (o :: rest) (.d rds v :: ss) e L := Um hr hw hd k
theorem Jbp {α : Type} {f : α → List Value} {xs : List α} {x' : α} {i : Int} {d : Option Nat} {T fld k fo ft fsz bo : Nat} {a : Option Addr} {nm tg pk : String} {em : Bool} {X : Operand} {fs : Array Field} {sz' : Nat} {w : World} (hu : ∀ w, (underlying T).run P w = .ok (.struct fs) w)
  (hf : fs[fld]? = some ⟨nm, ft, fo, em, tg, pk, bo⟩) (hs : ∀ w, (sizeOf ft).run P w = .ok fsz w) (hsz : Nat.blt 0 fsz = true) (hp : ev e X = Jbt a k) (hR : Row w a sz' (xs.map f)) (hg : Zb xs i = some x') :
  (execOp (ev e) ⟨d, .fieldAddr T X fld, ty, pos, af, g⟩).run P w = .ok (.value (Jbt a (k + fo))) w :=
 Jd0 hu hf hs hsz hp (hR.some (by rw [List.length_map]; exact (W8 hg).2.1)) w
end
end Go.Lx
namespace Go.Lx
open Go Go.Vc Go.Md
theorem idC_map (l : List (List Value)) : l.map idC = l := by
 have : (idC : List Value → List Value) = id := rfl
 rw [this, List.map_id]
section
variable {P : Program} {n : Nat} {cx : Cx} {e : X4} {L : List Chunk} {ops : Array Oper} {rest : List Oper} {F : X4 → List Chunk → Prop} {ss : List Kd} {ty : TypeId} {pos : String} {af : Array Edge} {g : Option (Nat × Bool)}
end
end Go.Lx
namespace Go.Lx
open Go Go.Vc Go.Md
section
variable {P : Program} {n : Nat} {cx : Cx} {e : X4} {L : List Chunk} {ty : TypeId} {pos : String} {af : Array Edge} {g : Option (Nat × Bool)}
end
end Go.Lx

namespace Go.Lx
open Go Go.Vc Go.Md
section
variable {P : Program} {n : Nat} {cx : Cx} {e : X4} {L : List Chunk} {d : Option Nat} {ty : TypeId} {pos : String} {af : Array Edge} {g : Option (Nat × Bool)}
end
end Go.Lx
namespace Go.Lx
open Go Go.Vc Go.Md
section
variable {cx : Cx} {L : List Chunk} {w : World}
end
end Go.Lx
namespace Go.Lx
open Go Go.Vc Go.Md
end Go.Lx

namespace Go.Lx
open Go Go.Vc Go.Md
section
variable {P : Program} {n : Nat} {cx : Cx} {e : X4} {L : List Chunk} {d : Nat} {ty : TypeId} {pos : String} {af : Array Edge} {g : Option (Nat × Bool)}
theorem turns_copyK {xs news : List (List Value)} {i : Nat} {D X : Operand} {t u E : TypeId} {I : TypeInfo} {sz : Nat} {p : Option Addr × Nat} {rds : List Nat} {ax : Option Addr} {dl cd c m a q : Nat} {dst : Option Nat}
  (ht : P.underlying t = some (.slice E)) (hi : P.info? E = some I) (hsize : I.size = sz)
  (hL : L[i]? = some (J4 E sz (.slice p.1 m p.2) m xs)) (hm : m = xs.length) (hd : ev e D = .slice (Vo p.1 a p.2 sz) dl cd) (ha : a + dl ≤ m) (hx : ev e X = .slice ax q c) (hql : q ≤ dl) (hq : q = news.length) (hq0 : 0 < q)
  (hnews : ∀ w L', Fr cx w → Sat cx w L' → (∀ j, j ∈ rds → L'[j]? = L[j]?) → Row w ax sz news) (hnl : ∀ x ∈ news, x.length = sz) (h1 : ∀ x ∈ news, ∀ u ∈ x, u.oneCell' = true) :
  Turns P cx e ⟨dst, .call ⟨.builtin .copy, #[D, X], #[t, u]⟩, ty, pos, af, g⟩ L i rds (fun _ : Unit => .int .i64 (q : Int)) (fun _ => J4 E sz (.slice p.1 m p.2) m (xs.take a ++ news ++ xs.drop (a + q))) := by
 subst hsize hq hm
 intro w L' hF hS hl hi'
 have hr := hnews w L' hF hS (fun j hj => hi' j (.inl hj))
 have hL' := (hi' i (.inr rfl)).trans hL
 obtain ⟨S0, ⟨⟨ho, hlen, hlx⟩, hob⟩, hlt⟩ := hS.at hL'
 have hall : ∀ x ∈ xs.take a ++ news ++ xs.drop (a + news.length), x.length = I.size := fun x hx => by
  rcases List.mem_append.1 hx with h | h
  ·rcases List.mem_append.1 h with h | h
   ·exact hlx x (List.mem_of_mem_take h)
   ·exact hnl x h
  ·exact hlx x (List.mem_of_mem_drop h)
 have hle : (xs.take a ++ news ++ xs.drop (a + news.length)).length = xs.length := by
  simp only [List.length_append, List.length_take, List.length_drop]; omega
 have hmin : Nat.min news.length dl = news.length := Nat.min_eq_left hql
 ·rcases ho.2 with ⟨_, hz⟩ | ⟨g0, Y4, cur, hv0, hb0, hh, hnc, hcm, hcs, htk⟩
  ·omega
  ·simp only [Value.slice.injEq] at hv0
   obtain ⟨hp1, _, hp2⟩ := hv0
   have hcut : Vo p.1 a p.2 I.size = some ⟨g0, a * I.size, none⟩ := by
    rw [hp1]; unfold Vo
    rw [if_neg (by omega)]; simp [Addr.add_lit]
   rcases hr with hr | ⟨b, off, hax, hr⟩
   ·rw [hr] at hq0; exact absurd hq0 (by simp)
   subst hax
   have hfl : news.flatten.length = news.length * I.size := by rw [Ua news hnl]
   have hcell : ∀ j u, news.flatten[j]? = some u → w.cell? ((⟨b, off, none⟩ : Addr).add j) = some u := by
    intro j u hj
    obtain ⟨i', k', x, g1, g2, g3⟩ := Jff news hnl j u hj
    have := (hr i' x g1).2 k' u g2
    rw [Addr.add_lit, g3, ← Nat.add_assoc]
    exact this
   have hone : ∀ u ∈ news.flatten, u.oneCell' = true := fun u hu => by
    obtain ⟨x, hx, hux⟩ := List.mem_flatten.1 hu
    exact h1 x hx u hux
   have hcur : cur.toList.length = cur.size := Array.length_toList
   have hsum : (a + news.length) * I.size ≤ xs.length * I.size := Nat.mul_le_mul_right _ (by omega)
   have hsum2 : xs.length * I.size ≤ Y4 * I.size := Nat.mul_le_mul_right _ hnc
   have hfit : a * I.size + news.flatten.length ≤ cur.size := by
    rw [Nat.add_mul] at hsum; omega
   have hfc := run_firstCells_some (P := P) w I.size news.length ⟨b, off, none⟩ news.length c news.flatten hfl hcell
   have hst := run_storeCells_at (P := P) g0 (a * I.size) E news.flatten 0 cur w hh (by simpa using hfit) hone
   simp only [Nat.add_zero] at hst
   have hr2 : (Builtin.copy_ #[t, u] ty #[.slice (some ⟨g0, a * I.size, none⟩) dl cd, .slice (some ⟨b, off, none⟩) news.length c]).run P w = .ok (goInt news.length) (w.setRow g0 (cur.toList.take (a * I.size) ++ news.flatten ++ cur.toList.drop (a * I.size + news.flatten.length)).toArray) := by
    have hmin2 : min news.length dl = news.length := hmin
    simp [Builtin.copy_, run_underlying ht, Builtin.lenOf, sizeOf, typeInfo, hi, hmin, hmin2, hfc, hst]
   have hexec : (execOp (ev e) ⟨dst, .call ⟨.builtin .copy, #[D, X], #[t, u]⟩, ty, pos, af, g⟩).run P w = .ok (.value (.int .i64 (news.length : Int))) (w.setRow g0 (cur.toList.take (a * I.size) ++ news.flatten ++ cur.toList.drop (a * I.size + news.flatten.length)).toArray) := by
    simp only [execOp, resolve, invoke, builtin, Sem.run_bind, Sem.run_pure, Result.andThen_ok, List.map_toArray, List.map_cons, List.map_nil, hd, hcut, hx, hr2]
    rfl
   have hxf : xs.flatten.length = xs.length * I.size := Ua xs hlx
   have e2 : (xs.take a ++ news ++ xs.drop (a + news.length)).flatten = xs.flatten.take (a * I.size) ++ news.flatten ++ xs.flatten.drop ((a + news.length) * I.size) := by
    rw [List.flatten_append, List.flatten_append, ← Ji9 _ hlx, ← Ji7 _ hlx]
   have hlen2 : (cur.toList.take (a * I.size) ++ news.flatten ++ cur.toList.drop (a * I.size + news.flatten.length)).length = cur.size := by
    simp only [List.length_append, List.length_take, List.length_drop, hcur]; omega
   have e1 : cur.toList = xs.flatten ++ cur.toList.drop (xs.length * I.size) := by rw [← htk, List.take_append_drop]
   have hown : (w.setRow g0 (cur.toList.take (a * I.size) ++ news.flatten ++ cur.toList.drop (a * I.size + news.flatten.length)).toArray).ownsRow 0 E I.size (.slice p.1 xs.length p.2) xs.length (xs.take a ++ news ++ xs.drop (a + news.length)).flatten := by
    refine ⟨by rw [Ua _ hall, hle], .inr ⟨g0, Y4, _, by rw [hp1, hp2], hb0, setRow_heap w g0 cur _ E (0, 0) hh, hnc, hcm, by rw [List.size_toArray, hlen2]; exact hcs, ?_⟩⟩
    rw [List.toList_toArray, e2]
    have hal : a * I.size ≤ xs.flatten.length := by rw [hxf]; exact Nat.mul_le_mul_right _ (by omega)
    have e3 : cur.toList.take (a * I.size) = xs.flatten.take (a * I.size) := by
     rw [e1, List.take_append_of_le_length hal]
    have e4 : cur.toList.drop (a * I.size + news.flatten.length) = xs.flatten.drop ((a + news.length) * I.size) ++ cur.toList.drop (xs.length * I.size) := by
     conv => lhs; rw [e1]
     rw [hfl, ← Nat.add_mul, List.drop_append_of_le_length (by rw [hxf]; exact hsum)]
    rw [e3, e4, ← List.append_assoc]
    have hl3 : (xs.flatten.take (a * I.size) ++ news.flatten ++ xs.flatten.drop ((a + news.length) * I.size)).length = xs.length * I.size := by
     rw [← e2, Ua _ hall, hle]
    rw [← hl3, List.take_left]
   have hgb : w.grownBy (w.setRow g0 (cur.toList.take (a * I.size) ++ news.flatten ++ cur.toList.drop (a * I.size + news.flatten.length)).toArray) (Value.slice p.1 xs.length p.2).ownBlock :=
    ⟨rfl, rfl, rfl, by simp, fun b' _ hb => setRow_other w g0 b' _ (fun e => hb (by simp [Value.ownBlock, hp1, e]))⟩
   obtain ⟨hF', hS'⟩ := hS.turnOf hF hL' (C := J4 E I.size (.slice p.1 xs.length p.2) xs.length (xs.take a ++ news ++ xs.drop (a + news.length))) fun S1 hp => Je4 hp.2 hown hgb (.inl rfl) hle hall
   unfold RunsTo
   rw [hexec]
   exact ⟨(), rfl, hF', hS'⟩
end
end Go.Lx
namespace Go.Lx
open Go Go.Vc Go.Md
end Go.Lx
namespace Go.Vc
open Go
section
variable {P : Program} {cx : Cx} {e : X4} {L : List Chunk}
end
end Go.Vc

namespace Go.Lx
open Go Go.Vc Go.Md
section
variable {cx : Cx} {L : List Chunk}
theorem know_pool {w : World} {i : Nat} {base hp : J1} (hS : Sat cx w L) (hL : L[i]? = some (Xm base hp)) (hb : ∀ b o, base b = some o → w.heap[b]? = some o) : Know hp w Z0 := fun b o h => ⟨Jcq hS hL hb b o h, fun h => h⟩
end
end Go.Lx

namespace Go.Lx
open Go Go.Md Go.Vc Go.Shelf Go.Sort Go.Proofs
end Go.Lx

namespace Go.Lx
open Go Go.Md Go.Vc Go.Shelf Go.Sort Go.Proofs
abbrev nn : Option Addr × Nat := (none, 0)
abbrev i6 (x : Int) : Value := .int .i64 x
abbrev sl (p : Option Addr × Nat) (n : Nat) : Value := .slice p.1 n p.2
section
variable {P : Program} {n : Nat} {cx : Cx} {Q : Jbe} {e : X4} {L : List Chunk} {ops : Array Oper} {rest : List Oper} {d : Nat} {ty : TypeId} {pos : String} {af : Array Edge} {g : Option (Nat × Bool)} {X : Operand}
theorem mv (v : Value) (k : At cx (WL P n ops Q rest) (upd e d v) L) (hw : Yi ops ⟨some d, .move X, ty, pos, af, g⟩ e = true := by exact rfl) (hn : Nat.blt d n = true := by exact rfl) (hx : ev e X = v := by exact rfl) :
  At cx (WL P n ops Q (⟨some d, .move X, ty, pos, af, g⟩ :: rest)) e L := Qi hw rfl hn (Xw hx) k
theorem ag (v : Value) (k : At cx (WL P n ops Q rest) (upd e d v) L) (hw : Yi ops ⟨some d, .assign X, ty, pos, af, g⟩ e = true := by exact rfl) (hn : Nat.blt d n = true := by exact rfl) (hx : ev e X = v := by exact rfl) :
  At cx (WL P n ops Q (⟨some d, .assign X, ty, pos, af, g⟩ :: rest)) e L := Qi hw rfl hn (Jz hx) k
theorem pa {o : Op} (k : At cx (WL P n ops Q rest) (upd e d undef) L) (hw : Yi ops ⟨some d, o, ty, pos, af, g⟩ e = false := by exact rfl) (hn : Nat.blt d n = true := by exact rfl) :
  At cx (WL P n ops Q (⟨some d, o, ty, pos, af, g⟩ :: rest)) e L := Jba hw rfl hn k
theorem Jcv {K : X4 → World → Prop} (i : Nat) (k : At cx K e (L.eraseIdx i)) : At cx K e L := by
 refine c_sel ((List.range L.length).eraseIdx i) (L.eraseIdx i) ?_ (List.nodup_range.sublist (List.eraseIdx_sublist _ _)) k
 refine List.ext_getElem? fun j => ?_
 rw [List.getElem?_map, List.getElem?_map, List.getElem?_eraseIdx, List.getElem?_eraseIdx]
 split
 ·by_cases h : j < L.length
  ·rw [List.getElem?_range h]; simp [List.getElem?_eq_getElem h]
  ·rw [List.getElem?_eq_none (by simpa using h), List.getElem?_eq_none (by simpa using h)]; rfl
 ·by_cases h : j + 1 < L.length
  ·rw [List.getElem?_range h]; simp [List.getElem?_eq_getElem h]
  ·rw [List.getElem?_eq_none (by simpa using h), List.getElem?_eq_none (by simpa using h)]; rfl
end
section
variable {P : Program} {cx : Cx} {e : X4} {L : List Chunk} {ops : Array Oper} {F : X4 → List Chunk → Prop} {rest : List Oper} {ss : List Kd} {d : Nat} {ty : TypeId} {pos : String} {af : Array Edge} {g : Option (Nat × Bool)} {X : Operand}
theorem dm (v : Value) (k : Sq P cx ops F rest ss (upd e d v) L) (hw : Yi ops ⟨some d, .move X, ty, pos, af, g⟩ e = true := by exact rfl) (hx : ev e X = v := by exact rfl) :
  Sq P cx ops F (⟨some d, .move X, ty, pos, af, g⟩ :: rest) (.p :: ss) e L := Qv hw rfl (Xw hx) k
theorem dp {o : Op} {s : Kd} (k : Sq P cx ops F rest ss (upd e d undef) L) (hw : Yi ops ⟨some d, o, ty, pos, af, g⟩ e = false := by exact rfl) :
  Sq P cx ops F (⟨some d, o, ty, pos, af, g⟩ :: rest) (s :: ss) e L := Jdh hw rfl k
end
section
variable {α : Type} {a b : α} {l : List α} {n : Nat}
theorem z1 : (a :: l).set 0 b = b :: l := rfl
theorem z2 : (a :: l).set (n + 1) b = a :: l.set n b := rfl
theorem z3 : (a :: l).eraseIdx 0 = l := rfl
theorem z4 : (a :: l).eraseIdx (n + 1) = a :: l.eraseIdx n := rfl
theorem z5 {m : List α} : (a :: l) ++ m = a :: (l ++ m) := rfl
theorem z6 {m : List α} : [] ++ m = m := rfl
theorem z7 : List.replicate (n + 1) a = a :: List.replicate n a := rfl
theorem z8 : List.replicate 0 a = [] := rfl
end
end Go.Lx

namespace Go.Lx
open Go Go.Vc Go.Md
section plain
variable {P : Program}
end plain
def markR (w : World) (E sz : Nat) (v : Value) (n : Nat) (xs : List (List Value)) : Prop :=
 ∃ g Y4 cur k, v = .slice (some ⟨g, 0, none⟩) n Y4 ∧ w.heap[g]? = some (.cells cur E k) ∧ cur.size ≤ k.1 ∧ n ≤ Y4 ∧ Y4 ≤ maxLen ∧ cur.size = Y4 * sz ∧ cur.toList.take (n * sz) = xs.flatten
def mkC (w : World) (E sz : Nat) (v : Value) (n : Nat) (xs : List (List Value)) : Prop :=
 (apC w E sz v n xs ∨ markR w E sz v n xs) ∧ xs.length = n ∧ ∀ x ∈ xs, x.length = sz
theorem markR.frs {w : World} {E sz : Nat} {v : Value} {n : Nat} {xs : List (List Value)} (h : markR w E sz v n xs) (hn : xs.length = n) (hl : ∀ x ∈ xs, x.length = sz) : FrS (fun b => w.heap[b]?) sz v xs := by
 obtain ⟨g, Y4, cur, k, rfl, hh, _, hnc, hm, hcs, ht⟩ := h
 subst hn
 refine ⟨some ⟨g, 0, none⟩, Y4, rfl, hnc, by simpa [maxLen] using hm, .inr ⟨g, 0, cur, E, k, rfl, hh, fun i x hx => ⟨hl x (List.mem_of_getElem? hx), fun j v hv => ?_⟩⟩⟩
 have hi : i < xs.length := by
  rcases Nat.lt_or_ge i xs.length with h | h
  ·exact h
  ·rw [List.getElem?_eq_none h] at hx; cases hx
 have hj : j < sz := by
  have := hl x (List.mem_of_getElem? hx)
  rcases Nat.lt_or_ge j x.length with h | h
  ·omega
  ·rw [List.getElem?_eq_none h] at hv; cases hv
 have hr := Jc2 xs i x (List.all_eq_true.2 fun x hx => by simpa using hl x hx) hx j v hv
 rw [← ht, List.getElem?_take] at hr
 split at hr
 ·rw [Nat.zero_add, ← Array.getElem?_toList]; exact hr
 ·cases hr
theorem mkC.frs {w : World} {E sz : Nat} {v : Value} {n : Nat} {xs : List (List Value)} (h : mkC w E sz v n xs) : FrS (fun b => w.heap[b]?) sz v xs :=
 h.1.elim (fun h1 => h1.frs) (fun h1 => h1.frs h.2.1 h.2.2)
theorem mkC.slice {w : World} {E sz : Nat} {v : Value} {n : Nat} {xs : List (List Value)} (h : mkC w E sz v n xs) : ∃ p : Option Addr × Nat, v = .slice p.1 n p.2 := by
 rcases h.1 with h1 | ⟨g, Y4, cur, k, rfl, _⟩
 ·exact h1.slice
 ·exact ⟨(some ⟨g, 0, none⟩, Y4), rfl⟩
section rules
variable {P : Program} {n : Nat} {cx : Cx} {e : X4} {L : List Chunk} {d : Nat} {ty : TypeId} {pos : String} {af : Array Edge} {g : Option (Nat × Bool)}
theorem bytes_flat {f : Int → List Value} (hf : ∀ x, f x = [.int .u8 x]) (s : List UInt8) : ((X2 s).map f).flatten = s.map fun b => Value.int .u8 (b.toNat : Int) := by
 unfold X2
 induction s with
 | nil => rfl
 | cons c s ih => simp only [List.map_cons, List.flatten_cons, hf, List.singleton_append, List.cons.injEq, true_and]; simpa using ih
end rules
theorem frsMono {h h' : J1} {sz n : Nat} {v : Value} (f : FrS h sz v ((List.range n).map (elC h v sz))) (k : ∀ b o, h b = some o → h' b = some o) : FrS h' sz v ((List.range n).map (elC h' v sz)) := by
 have := f.mono k
 have e : (List.range n).map (elC h v sz) = (List.range n).map (elC h' v sz) := by
  apply List.map_congr_left
  intro i hi
  unfold elC
  rw [Jjb f (by rw [List.length_map, List.length_range]; have := List.mem_range.1 hi; omega) k i]
 rwa [e] at this
theorem elMonoE {α : Type} {h h' : J1} {sz i : Nat} {v : Value} {xs : List α} {y : α} (f : FrS h sz v ((List.range xs.length).map (elC h v sz))) (k : ∀ b o, h b = some o → h' b = some o) (hy : xs[i]? = some y) : Xd h v sz i = Xd h' v sz i := by
 have hi : i < xs.length := (List.getElem?_eq_some_iff.1 hy).1
 exact Jjb f (by rw [List.length_map, List.length_range]; omega) k i
end Go.Lx

namespace Go.Lx
open Go Go.Vc Go.Md
open Go.MapKept (IsKey Stamped)
structure KeyF {κ : Type} (d : TypeDesc) (fk : κ → Value) : Prop where
 isKey : ∀ k, IsKey d (fk k)
 inj : ∀ a b, fk a = fk b → a = b
theorem Jd4 {k : IntKind} : KeyF (.int k) (fun x : Int => Value.int k x) := ⟨fun x => by simp [IsKey], fun a b h => by simpa using h⟩
theorem Ji0 : KeyF .string (fun x : List UInt8 => str x) := ⟨fun x => by simp [IsKey, str], fun a b h => by simpa [str] using h⟩
def Ents {κ ν : Type} (fk : κ → Value) (fv : ν → Value) (es : List MapEntry) (xs : List (κ × ν)) : Prop := es.map (fun e => (e.key, e.val)) = xs.map (fun p => (fk p.1, fv p.2))
def Qt {κ ν : Type} (fk : κ → Value) (fv : ν → Value) (b : Nat) (xs : List (κ × ν)) : Chunk where
 P S w := (∀ x, S x ↔ x = b) ∧ ∃ es clock, w.heap[b]? = some (.map es clock) ∧ Stamped es clock ∧ Ents fk fv es.toList xs
 loc S w w' h hp := ⟨hp.1, by rw [h b ((hp.1 b).2 rfl)]; exact hp.2⟩
theorem Ents.len {κ ν : Type} {fk : κ → Value} {fv : ν → Value} {es : List MapEntry} {xs : List (κ × ν)} (h : Ents fk fv es xs) : es.length = xs.length := by
 have := congrArg List.length h; simpa using this
theorem Ents.keys {κ ν : Type} {fk : κ → Value} {fv : ν → Value} {es : List MapEntry} {xs : List (κ × ν)} (h : Ents fk fv es xs) : es.map (·.key) = xs.map (fun p => fk p.1) := by
 have := congrArg (List.map Prod.fst) h; simpa [Function.comp_def] using this
theorem Ents.isKey {κ ν : Type} {d : TypeDesc} {fk : κ → Value} {fv : ν → Value} (K : KeyF d fk) {es : List MapEntry} {xs : List (κ × ν)} (h : Ents fk fv es xs) : ∀ x ∈ es, IsKey d x.key := by
 intro x hx
 have : x.key ∈ es.map (·.key) := List.mem_map.2 ⟨x, hx, rfl⟩
 rw [h.keys] at this
 obtain ⟨p, _, hp⟩ := List.mem_map.1 this
 rw [← hp]; exact K.isKey _
theorem Ents.at {κ ν : Type} {fk : κ → Value} {fv : ν → Value} {es : List MapEntry} {xs : List (κ × ν)} (h : Ents fk fv es xs) {j : Nat} {e : MapEntry} (he : es[j]? = some e) : ∃ p, xs[j]? = some p ∧ e.key = fk p.1 ∧ e.val = fv p.2 := by
 have := congrArg (fun l => l[j]?) h
 simp only [List.getElem?_map, he, Option.map_some] at this
 cases hx : xs[j]? with
 | none => rw [hx] at this; simp at this
 | some p => rw [hx] at this; simp at this; exact ⟨p, rfl, this.1, this.2⟩
section find
variable {κ ν : Type} [DecidableEq κ] {d : TypeDesc} {fk : κ → Value} {fv : ν → Value}
theorem mGet_none {xs : List (κ × ν)} {k : κ} (h : ∀ p ∈ xs, p.1 ≠ k) : Q2 xs k = none ∧ mHas xs k = false := by
 constructor
 ·unfold Q2
  rw [List.find?_eq_none.2 (fun p hp => by simpa using h p hp)]; rfl
 ·unfold mHas
  rw [List.any_eq_false]
  intro p hp; simpa using h p hp
theorem mGet_at : ∀ {xs : List (κ × ν)} {k : κ} {j : Nat} {v : ν}, (xs.map (·.1)).Nodup → xs[j]? = some (k, v) → Q2 xs k = some v ∧ mHas xs k = true
 | [], _, j, _, _, h => by simp at h
 | p :: xs, k, 0, v, _, h => by simp at h; subst h; simp [Q2, mHas]
 | p :: xs, k, j + 1, v, hn, h => by
  simp only [List.getElem?_cons_succ] at h
  simp only [List.map_cons, List.nodup_cons] at hn
  have hne : p.1 ≠ k := fun q => hn.1 (q ▸ List.mem_map.2 ⟨(k, v), List.mem_of_getElem? h, rfl⟩)
  obtain ⟨h1, h2⟩ := mGet_at hn.2 h
  constructor
  ·unfold Q2 at h1 ⊢
   rw [List.find?_cons_of_neg (by simpa using hne)]; exact h1
  ·unfold mHas at h2 ⊢
   simp only [List.any_cons, h2, Bool.or_true]
omit [DecidableEq κ] in
theorem nodup_of (K : KeyF d fk) {es : List MapEntry} {xs : List (κ × ν)} (h : Ents fk fv es xs) (hn : (es.map (·.key)).Nodup) : (xs.map (·.1)).Nodup := by
 rw [h.keys] at hn
 have : xs.map (fun p => fk p.1) = (xs.map (·.1)).map fk := by simp
 rw [this] at hn
 exact (List.pairwise_map.1 hn).imp fun h q => h (congrArg fk q)
theorem Jfn (K : KeyF d fk) {es : List MapEntry} {xs : List (κ × ν)} (h : Ents fk fv es xs) (hn : (es.map (·.key)).Nodup) (k : κ) :
  (Instr.findNow d (fk k) es 0 = some none ∧ (∀ x ∈ es, x.key ≠ fk k) ∧ Q2 xs k = none ∧ mHas xs k = false) ∨
  ∃ j e v, Instr.findNow d (fk k) es 0 = some (some (j, e.val)) ∧ es[j]? = some e ∧ e.key = fk k ∧ e.val = fv v ∧ xs[j]? = some (k, v) ∧ Q2 xs k = some v ∧ mHas xs k = true := by
 rcases Go.MapKept.findNow_spec (K.isKey k) es 0 (h.isKey K) with ⟨h1, h2⟩ | ⟨j, e, h1, h2, h3⟩
 ·refine .inl ⟨h1, h2, mGet_none fun p hp q => ?_⟩
  have : fk p.1 ∈ es.map (·.key) := by rw [h.keys]; exact List.mem_map.2 ⟨p, hp, rfl⟩
  obtain ⟨x, hx, hk⟩ := List.mem_map.1 this
  exact h2 x hx (by rw [hk, q])
 ·obtain ⟨p, hp, e1, e2⟩ := h.at h2
  have hk : p.1 = k := K.inj _ _ (e1.symm.trans h3)
  have hp' : xs[j]? = some (k, p.2) := by rw [hp, ← hk]
  have := mGet_at (nodup_of K h hn) hp'
  exact .inr ⟨j, e, p.2, by simpa using h1, h2, h3, e2, hp', this.1, this.2⟩
end find
theorem ents_modify {κ ν : Type} [DecidableEq κ] {fk : κ → Value} {fv : ν → Value} {es : Array MapEntry} {xs : List (κ × ν)} {j : Nat} {k : κ} {v v0 : ν} (h : Ents fk fv es.toList xs) (hn : (xs.map (·.1)).Nodup) (hj : xs[j]? = some (k, v0)) (hh : mHas xs k = true) :
  Ents fk fv (es.modify j fun e => { e with key := fk k, val := fv v }).toList (Yp xs k v) := by
 have hm : Yp xs k v = xs.map fun p => if p.1 = k then (k, v) else p := by unfold Yp; rw [if_pos hh]
 rw [hm]
 unfold Ents
 apply List.ext_getElem?
 intro i
 have hi := congrArg (fun l => l[i]?) h
 simp only [List.getElem?_map, Array.getElem?_toList, Array.getElem?_modify] at hi ⊢
 by_cases hij : j = i
 ·subst hij
  rw [hj] at hi ⊢
  simp only [if_true, Option.map_some, Option.map_map]
  cases he : es[j]? with
  | none => rw [he] at hi; simp at hi
  | some e => simp
 ·rw [if_neg hij, hi]
  cases hx : xs[i]? with
  | none => rfl
  | some p =>
   have hne : p.1 ≠ k := by
    intro q
    have hil : i < xs.length := by
     rcases Nat.lt_or_ge i xs.length with h | h
     ·exact h
     ·rw [List.getElem?_eq_none h] at hx; cases hx
    have hjl : j < xs.length := by
     rcases Nat.lt_or_ge j xs.length with h | h
     ·exact h
     ·rw [List.getElem?_eq_none h] at hj; cases hj
    have H := List.pairwise_iff_getElem.1 hn
    have ej : (xs.map (·.1))[j]'(by simpa using hjl) = k := by
     have := (List.getElem?_eq_some_iff.1 hj).2; simp [this]
    have ei : (xs.map (·.1))[i]'(by simpa using hil) = k := by
     have := (List.getElem?_eq_some_iff.1 hx).2; simp [this, q]
    rcases Nat.lt_trichotomy j i with l | l | l
    ·exact H j i (by simpa using hjl) (by simpa using hil) l (ej.trans ei.symm)
    ·exact hij l
    ·exact H i j (by simpa using hil) (by simpa using hjl) l (ei.trans ej.symm)
   simp [hne]
theorem ents_push {κ ν : Type} [DecidableEq κ] {fk : κ → Value} {fv : ν → Value} {es : Array MapEntry} {xs : List (κ × ν)} {k : κ} {v : ν} {c : Nat} (h : Ents fk fv es.toList xs) (hh : mHas xs k = false) :
  Ents fk fv (es.push { key := fk k, val := fv v, born := c }).toList (Yp xs k v) := by
 have hm : Yp xs k v = xs ++ [(k, v)] := by unfold Yp; rw [if_neg (by simp [hh])]
 rw [hm]
 unfold Ents at h ⊢
 simp [h]
section ops
variable {P : Program} {cx : Cx} {e : X4} {L : List Chunk} {ty : TypeId} {pos : String} {af : Array Edge} {g : Option (Nat × Bool)}
variable {κ ν : Type} [DecidableEq κ] {fk : κ → Value} {fv : ν → Value}
omit [DecidableEq κ] in
theorem Jf3 {t d : Nat} {rds : List Nat} : Makes P cx e ⟨some d, .makeMap t none, ty, pos, af, g⟩ L rds (fun b : Nat => .map (some b)) (fun b => Qt fk fv b ([] : List (κ × ν))) := fun w L' hF hS _ => by
 unfold RunsTo
 have hr : (execOp (ev e) ⟨some d, .makeMap t none, ty, pos, af, g⟩).run P w = .ok (.value (.map (some w.heap.size))) (w.alloc (.map #[] 0)) := by
  simp [execOp, Instr.makeMap]
 rw [hr]
 have gr := Jbo w (.map #[] 0)
 exact ⟨w.heap.size, rfl, gr.os, gr.tape, gr.output, gr.size, fun b hb _ => gr.block b hb, fun x => x = w.heap.size, ⟨fun _ => Iff.rfl, #[], 0, Go.heap_alloc_new w _, Go.MapKept.stamped_empty 0, rfl⟩, fun b hb => by subst hb; exact ⟨by simp, .inr (Nat.le_refl _)⟩⟩
theorem Jeq {d : Option Nat} {dk : TypeDesc} {t kt et : TypeId} {X I : Operand} {b i : Nat} {xs : List (κ × ν)} {k : κ} {z : ν} {w : World} (K : KeyF dk fk) (ht : P.underlying t = some (.map kt et)) (hk : P.underlying kt = some dk) (hz : ∀ w, (zeroValue et).run P w = .ok (fv z) w)
  (hx : ev e X = .map (some b)) (hi : ev e I = fk k) (hS : Sat cx w L) (hL : L[i]? = some (Qt fk fv b xs)) :
  (execOp (ev e) ⟨d, .lookup t X I false, ty, pos, af, g⟩).run P w = .ok (.value (fv ((Q2 xs k).getD z))) w := by
 obtain ⟨S, ⟨_, es, clock, hb, hst, hen⟩, _⟩ := hS.at hL
 rcases Jfn K hen hst.2.2 k with ⟨h1, _, h3, _⟩ | ⟨j, e0, v, h1, _, _, h4, _, h6, _⟩
 ·simp [execOp, Instr.lookup, hx, hi, run_underlying ht, Go.MapKept.run_getObj_map hb, Go.MapKept.run_checkKey hk (K.isKey k), Go.MapKept.run_findKey hk h1, hz w, h3, Result.andThen]
 ·simp [execOp, Instr.lookup, hx, hi, run_underlying ht, Go.MapKept.run_getObj_map hb, Go.MapKept.run_checkKey hk (K.isKey k), Go.MapKept.run_findKey hk h1, h6, h4, Result.andThen]
theorem Jc7 {u : Bool} {dk : TypeDesc} {t kt et : TypeId} {M I X : Operand} {b i : Nat} {xs : List (κ × ν)} {k : κ} {v : ν} {rds : List Nat} {o : Op} (K : KeyF dk fk) (ho : o = .insert t M I X ∨ o = .mapUpdate t M I X) (ht : P.underlying t = some (.map kt et)) (hk : P.underlying kt = some dk)
  (hm : ev e M = .map (some b)) (hi : ev e I = fk k) (hx : ev e X = fv v) (hL : L[i]? = some (Qt fk fv b xs)) {dst : Option Nat} :
  Turns P cx e ⟨dst, o, ty, pos, af, g⟩ L i rds (fun _ : Unit => undef) (fun _ => Qt fk fv b (Yp xs k v)) := fun w L' hF hS _ hi' => by
 have hL' := (hi' i (.inr rfl)).trans hL
 obtain ⟨S, ⟨_, es, clock, hb, hst, hen⟩, _⟩ := hS.at hL'
 have hlt : b < w.heap.size := (Array.getElem?_eq_some_iff.1 hb).1
 obtain ⟨es', clock', hrun, hst', hen'⟩ : ∃ es' clock', (execOp (ev e) ⟨dst, o, ty, pos, af, g⟩).run P w = .ok .skip { w with heap := w.heap.setIfInBounds b (.map es' clock') } ∧ Stamped es' clock' ∧ Ents fk fv es'.toList (Yp xs k v) := by
  rcases Jfn K hen hst.2.2 k with ⟨h1, h2, _, h4⟩ | ⟨j, e0, v0, h1, h2, h3, _, h5, _, h7⟩
  ·refine ⟨_, _, ?_, Go.MapKept.stamped_push hst h2, ents_push (v := v) hen h4⟩
   rcases ho with rfl | rfl <;> simp [execOp, Instr.mapUpdate, hm, hi, hx, run_underlying ht, Go.MapKept.run_getObj_map hb, Go.MapKept.run_checkKey hk (K.isKey k), Go.MapKept.run_findKey hk h1, Go.MapKept.run_setObj_map _ hb, Result.andThen]
  ·have h2' : es[j]? = some e0 := by simpa using h2
   refine ⟨es.modify j fun e => { e with key := fk k, val := fv v }, clock, ?_, Go.MapKept.stamped_modify hst j _ (fun _ _ => rfl) (fun x _ hx => by rw [h2'] at hx; cases hx; exact h3.symm), ents_modify (v := v) hen (nodup_of K hen hst.2.2) h5 h7⟩
   rcases ho with rfl | rfl <;> simp [execOp, Instr.mapUpdate, hm, hi, hx, run_underlying ht, Go.MapKept.run_getObj_map hb, Go.MapKept.run_checkKey hk (K.isKey k), Go.MapKept.run_findKey hk h1, h2', h3, Go.MapKept.run_keyThatStays (K.isKey k), Go.MapKept.run_setObj_map _ hb, Result.andThen]
 unfold RunsTo
 rw [hrun]
 have hS' := hS.turnOf (w' := { w with heap := w.heap.setIfInBounds b (.map es' clock') }) hF hL' (C := Qt fk fv b (Yp xs k v)) fun S1 hp1 =>
  ⟨rfl, rfl, rfl, by simp, fun x _ hx => by rw [Array.getElem?_setIfInBounds_ne (fun h => hx ((hp1.1 x).2 h.symm))], S1, ⟨hp1.1, es', clock', by simp [hlt], hst', hen'⟩, fun x hx => ⟨by rw [(hp1.1 x).1 hx]; simpa using hlt, .inl hx⟩⟩
 exact ⟨(), rfl, hS'.1, hS'.2⟩
end ops
section rules
variable {P : Program} {n : Nat} {cx : Cx} {Q : Jbe} {e : X4} {L : List Chunk} {ops : Array Oper} {rest_ : List Oper} {ty : TypeId} {pos : String} {af : Array Edge} {g : Option (Nat × Bool)} {κ ν : Type} {fk : κ → Value} {fv : ν → Value}
end rules
end Go.Lx

namespace Go.Vc
open Go Go.Md Go.Shelf Go.Sort Go.Proofs
end Go.Vc
namespace Go.Lx
open Go Go.Vc
section ops
variable {P : Program} {e : X4} {d : Option Nat} {ty : TypeId} {pos : String} {af : Array Edge} {g : Option (Nat × Bool)}
end ops
end Go.Lx

namespace Go.Lx
open Go Go.Vc Go.Md
open Go.MapKept (IsKey Stamped)
structure FrM {κ ν : Type} (h : J1) (fk : κ → Value) (fv : ν → Value) (v : Value) (xs : List (κ × ν)) : Prop where
 out : ∃ b es clock, v = .map (some b) ∧ h b = some (.map es clock) ∧ Stamped es clock ∧ Ents fk fv es.toList xs
section
variable {κ ν : Type} {fk : κ → Value} {fv : ν → Value} {h h' : J1} {v : Value} {xs : List (κ × ν)}
theorem FrM.mono (f : FrM h fk fv v xs) (k : ∀ b o, h b = some o → h' b = some o) : FrM h' fk fv v xs := by
 obtain ⟨b, es, c, h1, h2, h3, h4⟩ := f.out
 exact ⟨b, es, c, h1, k _ _ h2, h3, h4⟩
theorem FrM.cells (f : FrM h fk fv v xs) : v.cells.toList = [v] := by
 obtain ⟨b, es, c, rfl, _⟩ := f.out; rfl
theorem FrM.one (f : FrM h fk fv v xs) : v.oneCell' = true := by
 obtain ⟨b, es, c, rfl, _⟩ := f.out; rfl
end
section
variable {P : Program} {cx : Cx} {e : X4} {L : List Chunk} {ty : TypeId} {pos : String} {af : Array Edge} {g : Option (Nat × Bool)}
variable {κ ν : Type} {fk : κ → Value} {fv : ν → Value}
theorem Q6 {w : World} {i b : Nat} {xs : List (κ × ν)} (hS : Sat cx w L) (hL : L[i]? = some (Qt fk fv b xs)) : FrM (fun b => w.heap[b]?) fk fv (.map (some b)) xs := by
 obtain ⟨S, ⟨_, es, c, hb, hst, hen⟩, _⟩ := hS.at hL
 exact ⟨b, es, c, rfl, hb, hst, hen⟩
end
end Go.Lx
namespace Go.Vc
open Go Go.Md Go.Shelf Go.Sort Go.Proofs
end Go.Vc

namespace Go.Lx
open Go Go.Vc Go.Md
open Go.MapKept (IsKey Stamped)
structure KeyG {κ : Type} [DecidableEq κ] (P : Program) (kt : TypeId) (fk : κ → Value) : Prop where
 inj : ∀ a b, fk a = fk b → a = b
 chk : ∀ k em w, (Instr.checkKey em 10000 kt (fk k)).run P w = .ok () w
 now : ∃ d, P.underlying kt = some d ∧ ∀ a b, Instr.sameNow d (fk a) (fk b) = none
 eql : ∀ a b w, (Op.equal kt (fk a) (fk b)).run P w = .ok (decide (a = b)) w
 bits : ∀ k, Instr.sameBits 10000 (fk k) (fk k) = true
section find
variable {κ ν : Type} [DecidableEq κ] {P : Program} {kt : TypeId} {fk : κ → Value} {fv : ν → Value}
end find
section rules
variable {P : Program} {cx : Cx} {e : X4} {L : List Chunk} {ty : TypeId} {pos : String} {af : Array Edge} {g : Option (Nat × Bool)}
variable {κ ν : Type} [DecidableEq κ] {fk : κ → Value} {fv : ν → Value}
end rules
end Go.Lx

namespace Go.Lx
open Go Go.Vc Go.Md
def exC {σ : Type} (C : σ → Chunk) : Chunk where
 P S w := ∃ x, (C x).P S w
 loc S w w' h := fun ⟨x, hx⟩ => ⟨x, (C x).loc S w w' h hx⟩
theorem imp_ex {σ : Type} (C : σ → Chunk) (x : σ) : Imp (C x) (exC C) := ⟨fun _ _ h => ⟨x, h⟩⟩
section
variable {P : Program} {cx : Cx} {e : X4} {L : List Chunk} {ops : Array Oper} {F : X4 → List Chunk → Prop} {rest : List Oper} {ss : List Kd}
theorem sat_ex {σ : Type} {w : World} {i : Nat} {C : σ → Chunk} (hL : L[i]? = some (exC C)) (hS : Sat cx w L) : ∃ x, Sat cx w (L.set i (C x)) := by
 obtain ⟨fp, h1, h2, h3⟩ := hS.out
 obtain ⟨x, hx⟩ := h1 i _ hL
 have hil : i < L.length := by
  rcases Nat.lt_or_ge i L.length with h | h
  ·exact h
  ·simp [List.getElem?_eq_none h] at hL
 refine ⟨x, fp, fun j c hc => ?_, fun j b hb => ?_, h3⟩
 ·by_cases hji : j = i
  ·subst hji
   rw [List.getElem?_set_self hil] at hc
   cases hc; exact hx
  ·rw [List.getElem?_set_ne (fun h => hji h.symm)] at hc
   exact h1 j c hc
 ·have := h2 j b hb
  exact ⟨by simpa using this.1, this.2⟩
theorem c_ex {σ : Type} {K : X4 → World → Prop} (i : Nat) {C : σ → Chunk} (hL : L[i]? = some (exC C)) (k : ∀ x, At cx K e (L.set i (C x))) : At cx K e L :=
 ⟨fun w hF hS => by
  obtain ⟨x, hx⟩ := sat_ex hL hS
  exact (k x).out w hF hx⟩
theorem sat_both {w : World} {i j : Nat} {C D : Chunk} (hF : Fr cx w) (hS : Sat cx w L) (hi : L[i]? = some C) (hj : L[j]? = some D) (hne : i ≠ j) : Sat cx w ((L.set i (Jw C D)).set j empC) :=
 (Jhv (e := fun _ => undef) (K := fun _ w => Sat cx w ((L.set i (Jw C D)).set j empC)) i j hi hj hne ⟨fun _ _ h => h⟩).out w hF hS
theorem sat_imp {w : World} {i : Nat} {C D : Chunk} (hF : Fr cx w) (hS : Sat cx w L) (hi : L[i]? = some C) (h : Imp C D) : Sat cx w (L.set i D) :=
 (Xv (e := fun _ => undef) (K := fun _ w => Sat cx w (L.set i D)) i hi h ⟨fun _ _ h => h⟩).out w hF hS
def _root_.Go.Vc.Kd.t2 (i j : Nat) (rds : List Nat) (v0 : Value) (C : Chunk) : Kd := .g [] rds [i, j] (fun _ _ v => v = v0) (fun _ _ _ => [C, empC])
theorem d_turn2 {σ : Type} {o : Oper} {d i j : Nat} {rds : List Nat} {v0 : Value} {C : σ → Chunk} {Ci Cj : Chunk} (h : Turns P cx e o ((L.set i (Jw Ci Cj)).set j empC) i rds (fun _ : σ => v0) C) (hi : L[i]? = some Ci) (hj : L[j]? = some Cj) (hne : i ≠ j)
  (hr : (∀ q ∈ rds, q ≠ i ∧ q ≠ j)) (hw : Yi ops o e = true) (hd : o.dst = some d) (k : Sq P cx ops F rest ss (upd e d v0) ((L.set i (exC C)).set j empC)) : Sq P cx ops F (o :: rest) (.t2 i j rds v0 (exC C) :: ss) e L := by
 have hil : i < L.length := by
  rcases Nat.lt_or_ge i L.length with h | h
  ·exact h
  ·simp [List.getElem?_eq_none h] at hi
 have hjl : j < L.length := by
  rcases Nat.lt_or_ge j L.length with h | h
  ·exact h
  ·simp [List.getElem?_eq_none h] at hj
 refine .take hw ⟨v0, rfl⟩ ⟨fun w L' hF hS hl hi' => ?_⟩ fun v' hv' => ?_
 ·have hLi : L'[i]? = some Ci := (hi' i (.inr (by simp [Kd.t2, Kd.wrs]))).trans hi
  have hLj : L'[j]? = some Cj := (hi' j (.inr (by simp [Kd.t2, Kd.wrs]))).trans hj
  have hS2 := sat_both hF hS hLi hLj hne
  refine (h w _ hF hS2 (by simpa using hl) fun q hq => ?_).mono fun v w' ⟨x, hv, hF', hS'⟩ => ?_
  ·by_cases hqi : q = i
   ·subst hqi
    rw [List.getElem?_set_ne (fun h => hne h.symm), List.getElem?_set_ne (fun h => hne h.symm), List.getElem?_set_self (by omega), List.getElem?_set_self hil]
   ·have hq' : q ∈ rds := hq.resolve_right hqi
    have hqj := (hr q hq').2
    rw [List.getElem?_set_ne (fun h => hqj h.symm), List.getElem?_set_ne (fun h => hqj h.symm), List.getElem?_set_ne (fun h => hqi h.symm), List.getElem?_set_ne (fun h => hqi h.symm)]
    exact hi' q (.inl hq')
  ·subst hv
   refine ⟨rfl, hF', ?_⟩
   show Sat cx w' ((L'.set i (exC C)).set j empC)
   have e1 : (((L'.set i (Jw Ci Cj)).set j empC).set i (C x)) = (L'.set i (C x)).set j empC := by
    rw [List.set_comm _ _ (fun h => hne h.symm), List.set_set]
   rw [e1] at hS'
   have hget : ((L'.set i (C x)).set j empC)[i]? = some (C x) := by
    rw [List.getElem?_set_ne (fun h => hne h.symm), List.getElem?_set_self (by omega)]
   have := sat_imp hF' hS' hget (imp_ex C x)
   rw [List.set_comm _ _ (fun h => hne h.symm), List.set_set] at this
   exact this
 ·have hv : v' = v0 := hv'
  subst hv
  show Sq P cx ops F rest ss (Jcu e o.dst v') ((L.set i (exC C)).set j empC)
  rw [hd]
  exact k
end
end Go.Lx

namespace Go.Lx
open Go Go.Vc Go.Md
section rules
variable {P : Program} {n : Nat} {cx : Cx} {e : X4} {L : List Chunk} {ops : Array Oper} {rest : List Oper} {ty : TypeId} {pos : String} {af : Array Edge} {g : Option (Nat × Bool)}
end rules
end Go.Lx

namespace Go.Lx
open Go Go.Vc Go.Md Go.Shelf Go.Sort Go.Proofs
theorem swo_pre {α : Type} {cmp : α → α → Option Int} (c : CmpPre cmp) : SWO (ltOf fun x y => (cmp x y).getD 0) where
 irrefl x := by have := c.flip x x; unfold ltOf; simp; omega
 trans x y z h1 h2 := by
  unfold ltOf at *
  simp at *
  have a1 := c.flip x y
  have a2 := c.flip y z
  have a3 := c.flip z x
  have a6 := c.flip x z
  have t2 := c.trans x y z (by omega) (by omega)
  rcases Int.lt_or_le ((cmp x z).getD 0) 0 with h | h
  ·exact h
  ·have e0 : (cmp x z).getD 0 = 0 := by omega
   have t := c.trans z x y (by omega) (by omega)
   omega
 ntrans x y z h1 h2 := by
  unfold ltOf at *
  simp at *
  have a1 := c.flip x y
  have a2 := c.flip y z
  have a3 := c.flip z x
  have a4 := c.flip y x
  have a5 := c.flip z y
  have a6 := c.flip x z
  have t := c.trans z y x (by omega) (by omega)
  omega
section ops
variable {P : Program} {e : X4} {d : Option Nat} {ty : TypeId} {pos : String} {af : Array Edge} {g : Option (Nat × Bool)}
end ops
end Go.Lx

namespace Go.Proofs
open Go Go.Md Go.Vc Go.Lx
theorem Tryz.cmpOrP (blk : Nat) (v0 v1 r : Int) (hr0 : v0 ≠ 0 → r = v0) (hr1 : v0 = 0 → r = v1) (w : World) (g0 : w.cell? ⟨blk, 0, none⟩ = some (.int .i64 v0)) (g1 : w.cell? ⟨blk, 1, none⟩ = some (.int .i64 v1)) :
  Calls Tryz.prog 69 #[.slice (some ⟨blk, 0, none⟩) 2 2] w fun e w' => e = .returned (.int .i64 r) ∧ w' = w := by
 go_enter Tryz.func69, Tryz.ntmps69
 go_wp2
 go_loop [8] (fun i => (i = .int .i64 0) ∨ (i = .int .i64 1 ∧ v0 = 0) ∨ (i = .int .i64 2 ∧ v0 = 0 ∧ v1 = 0)) (fun i => match i with | .int _ q => 2 - q.toNat | _ => 0)
 case atStart => exact .inl rfl
 case round =>
  rcases hrel with rfl | ⟨rfl, z0⟩ | ⟨rfl, z0, z1⟩
  ·go_wp2
   all_goals first
    | (go_ret; exact ⟨by first | rfl | (rw [hr0  (by simp_all)]; rfl), rfl⟩)
    | (simp; rename_i hz; exact by simpa using hz)
  ·go_wp2
   all_goals first
    | (go_ret; exact ⟨by first | rfl | (rw [hr1 z0]; rfl), rfl⟩)
    | (simp; rename_i hz; exact ⟨z0, by simpa using hz⟩)
  ·go_wp2
   go_ret
   exact ⟨by first | rfl | (rw [hr1 z0, z1]; rfl) | simp_all, rfl⟩
open Go.Sort
set_option maxRecDepth 100000 in
set_option maxHeartbeats 4000000 in
theorem Tryz.closureP (a0 a1 b0 b1 r : Int) (W : World) (hcmp : ∀ (x y : Int) (W' : World), Calls Tryz.prog 49 #[.int .i64 x, .int .i64 y] W' fun e w' => e = .returned (.int .i64 (Lib.compareInt x y)) ∧ w' = W')
  (hr0 : (Lib.compareInt a0 b0) ≠ 0 → r = (Lib.compareInt a0 b0)) (hr1 : (Lib.compareInt a0 b0) = 0 → r = (Lib.compareInt a1 b1)) :
  Calls Tryz.prog 34 #[.agg #[.int .i64 a0, .int .i64 a1], .agg #[.int .i64 b0, .int .i64 b1]] W fun e w' => e = .returned (.int .i64 r) ∧ ∃ q os', w' = Go.Sort.grow (W.drewN q) os' := by
 have h0 := fun W' => hcmp a0 b0 W'
 have h1 := fun W' => hcmp a1 b1 W'
 have hor := fun (blk : Nat) (w : World) g0 g1 => Tryz.cmpOrP blk (Lib.compareInt a0 b0) (Lib.compareInt a1 b1) r hr0 hr1 w g0 g1
 clear hr0 hr1 hcmp
 generalize Lib.compareInt a0 b0 = p0 at *
 generalize Lib.compareInt a1 b1 = p1 at *
 go_enter Tryz.func34, Tryz.ntmps34
 go_wp2
 refine wp_region_still_tail 10 (by kernel_rfl) (by kernel_rfl) ?_
 simp only [List.take_succ_cons, List.take_zero, List.drop_succ_cons, List.drop_zero]
 generalize hw1 : ({ heap := _, tape := _, drawn := _, os := _, output := _ } : World) = w1
 have eh : w1.heap = (W.heap.push (.cells #[.int .i64 a0, .int .i64 a1] 82 (0, 0))).push (.cells #[.int .i64 b0, .int .i64 b1] 82 (0, 0)) := by subst hw1; rfl
 have c0 : w1.cell? ⟨W.heap.size, 0, none⟩ = some (.int .i64 a0) := by simp [World.cell?, eh, Array.getElem?_push, Array.getElem_push]
 have c1 : w1.cell? ⟨W.heap.size, 1, none⟩ = some (.int .i64 a1) := by simp [World.cell?, eh, Array.getElem?_push, Array.getElem_push]
 have c2 : w1.cell? ⟨W.heap.size + 1, 0, none⟩ = some (.int .i64 b0) := by simp [World.cell?, eh, Array.getElem?_push, Array.getElem_push]
 have c3 : w1.cell? ⟨W.heap.size + 1, 1, none⟩ = some (.int .i64 b1) := by simp [World.cell?, eh, Array.getElem?_push, Array.getElem_push]
 have hg : ∃ q os', w1 = Go.Sort.grow (W.drewN q) os' := ⟨1, #[.cells #[.int .i64 a0, .int .i64 a1] 82 (0, 0), .cells #[.int .i64 b0, .int .i64 b1] 82 (0, 0)], by
  subst hw1
  unfold Go.Sort.grow World.drewN
  congr 1⟩
 clear eh
 clear hw1
 repeat still_step
 still_call (h0 w1)
 repeat still_step
 still_call (h1 w1)
 repeat still_step
 refine wpStill_nil ?_
 clear c0 c1 c2 c3 h0 h1
 have e0 : (w1.alloc (.cells #[.int .i64 p0, .int .i64 p1] 3)).cell? ⟨w1.heap.size, 0, none⟩ = some (.int .i64 p0) := by
  show (match (w1.heap.push (.cells #[.int .i64 p0, .int .i64 p1] 3 (0, 0)))[w1.heap.size]? with | some (.cells c _ _) => c[0]? | _ => none) = _
  simp
 have e1 : (w1.alloc (.cells #[.int .i64 p0, .int .i64 p1] 3)).cell? ⟨w1.heap.size, 1, none⟩ = some (.int .i64 p1) := by
  show (match (w1.heap.push (.cells #[.int .i64 p0, .int .i64 p1] 3 (0, 0)))[w1.heap.size]? with | some (.cells c _ _) => c[1]? | _ => none) = _
  simp
 have hor2 := hor _ _ e0 e1
 clear hor e0 e1
 go_wp2_with (go_at_call 69; refine hor2.mono ?_; rintro e w' ⟨rfl, rfl⟩)
 go_ret
 obtain ⟨q0, os0, rfl⟩ := hg
 exact ⟨rfl, q0, os0 ++ #[.cells #[.int .i64 p0, .int .i64 p1] 3 (0, 0)], by rw [Go.Sort.alloc_eq_grow, Go.Sort.grow_grow]⟩
end Go.Proofs

namespace Go.Proofs
open Go Go.Md Go.M Go.Vc Go.Lx
theorem Tryz.compare_model (a b : Int) : cmp_Compare_int a b = some (Lib.compareInt a b) := by
 unfold cmp_Compare_int Jam Lib.compareInt
 simp only [Jb, ne_eq, not_true_eq_false, decide_false, Qa]
 by_cases h1 : a < b
 ·simp [h1]
 ·by_cases h2 : b < a <;> simp [h1, h2]
theorem Tryz.or_model2 (p0 p1 : Int) : Jdd [p0, p1] = some (if p0 ≠ 0 then p0 else p1) := by
 unfold Jdd
 by_cases h0 : p0 = 0
 ·subst h0
  rw [Xu (b := (1 : Int)) (fun next => by simp [Zn, Zb, gI])]
  by_cases h1 : p1 = 0
  ·subst h1
   rw [Xu (b := (2 : Int)) (fun next => by simp [Zn, Zb, gI])]
   rw [Qr (o := some 0) (fun next => by simp [Zn])]
   simp
  ·rw [Qr (o := some p1) (fun next => by simp [Zn, Zb, h1])]
   simp [h1]
 ·rw [Qr (o := some p0) (fun next => by simp [Zn, Zb, h0])]
  simp [h0]
theorem Tryz.spans_model (x y : Tc) : Qf x y = some (if Lib.compareInt x.From y.From ≠ 0 then Lib.compareInt x.From y.From else Lib.compareInt x.To y.To) := by
 unfold Qf
 rw [Tryz.compare_model, Jb, Tryz.compare_model, Jb, Tryz.or_model2, Jb]
theorem Tryz.cmpP (x y : Tc) (v : Int) (W : World) (hv : Qf x y = some v) :
  Calls Tryz.prog 34 #[.agg #[.int .i64 x.From, .int .i64 x.To], .agg #[.int .i64 y.From, .int .i64 y.To]] W fun e w' => e = .returned (.int .i64 v) ∧ ∃ q os', w' = Go.Sort.grow (W.drewN q) os' := by
 rw [Tryz.spans_model] at hv
 cases hv
 refine Tryz.closureP x.From x.To y.From y.To _   W (fun a b W' => ?_) (fun  g0 => by rw [if_pos g0]) (fun g0 => by rw [if_neg (by simpa using g0)])
 exact AnyG.cmp_Compare_int Tryz.cmpI49 a b W'
theorem Tryz.entersP (args : Array Value) (w : World) : (callFunc 34 args).run Tryz.prog w = .ok (.enter 34 args) w := enters_of Tryz.func34 (by kernel_rfl) rfl args w
open Go.Sort
set_option maxRecDepth 100000 in
set_option maxHeartbeats 2000000 in
theorem Tryz.closureA (a0 a1 b0 b1 : Int) (W : World) (hcmp : ∀ (x y : Int) (W' : World), Calls Tryz.prog 49 #[.int .i64 x, .int .i64 y] W' fun e w' => e = .returned (.int .i64 (Lib.compareInt x y)) ∧ w' = W') :
  Calls Tryz.prog 48 #[.agg #[.int .i64 a0, .int .i64 a1], .agg #[.int .i64 b0, .int .i64 b1]] W fun e w' => e = .returned (.int .i64 (Lib.compareInt a0 b0)) ∧ ∃ q os', w' = Go.Sort.grow (W.drewN q) os' := by
 go_enter Tryz.func48, Tryz.ntmps48
 go_wp2_with (go_at_call 49; refine (hcmp _ _ _).mono ?_; rintro e w' ⟨rfl, rfl⟩)
 go_ret
 exact ⟨rfl, 0, #[.cells #[.int .i64 a0, .int .i64 a1] 82 (0, 0), .cells #[.int .i64 b0, .int .i64 b1] 82 (0, 0)], by rw [Go.Sort.alloc_eq_grow, Go.Sort.alloc_eq_grow, show W.drewN 0 = W from rfl]; first | rw [Go.Sort.grow_grow]; rfl | rfl⟩
theorem Tryz.fromsA_model (x y : Tc) : Zm x y = some (Lib.compareInt x.From y.From) := by
 unfold Zm
 rw [Tryz.compare_model, Jb]
theorem Tryz.cmpA (x y : Tc) (v : Int) (W : World) (hv : Zm x y = some v) :
  Calls Tryz.prog 48 #[.agg #[.int .i64 x.From, .int .i64 x.To], .agg #[.int .i64 y.From, .int .i64 y.To]] W fun e w' => e = .returned (.int .i64 v) ∧ ∃ q os', w' = Go.Sort.grow (W.drewN q) os' := by
 rw [Tryz.fromsA_model] at hv
 cases hv
 exact Tryz.closureA x.From x.To y.From y.To W fun a b W' => AnyG.cmp_Compare_int Tryz.cmpI49 a b W'
theorem Tryz.entersA (args : Array Value) (w : World) : (callFunc 48 args).run Tryz.prog w = .ok (.enter 48 args) w := enters_of Tryz.func48 (by kernel_rfl) rfl args w
end Go.Proofs

namespace Go.Proofs
open Go.Shelf
def Tryz.lays156_ren : Go.Shelf.Ren := ⟨fun | 156 => 56 | 165 => 60 | 166 => 61 | 169 => 63 | 240 => 93 | 241 => 94 | 276 => 110 | 277 => 111 | n => n, fun | 31 => 106 | 9 => 9 | 3 => 3 | 4 => 4 | 0 => 0 | 20 => 20 | 72 => 114 | 76 => 118 | 70 => 112 | 37 => 44 | 75 => 117 | 127 => 144 | 164 => 158 | 5 => 5 | 80 => 120 | n => n, fun | n => n⟩
theorem Tryz.lays156 : Go.Proofs.Lays.n156 Tryz.prog Tryz.lays156_ren := {
 mixed := by kernel_rfl
 f156 := Tryz.func56.trans (congrArg some (by kernel_rfl))
 f165 := Tryz.func60.trans (congrArg some (by kernel_rfl))
 f166 := Tryz.func61.trans (congrArg some (by kernel_rfl))
 f169 := Tryz.func63.trans (congrArg some (by kernel_rfl))
 f240 := Tryz.func93.trans (congrArg some (by kernel_rfl))
 f241 := Tryz.func94.trans (congrArg some (by kernel_rfl))
 f276 := Tryz.func110.trans (congrArg some (by kernel_rfl))
 f277 := Tryz.func111.trans (congrArg some (by kernel_rfl))
 t0 := Tryz.underlying0
 a0 := Tryz.isAgg0
 z0 := Tryz.sizeOf0
 v0 := Tryz.zeroValue0
 t3 := Tryz.underlying3
 a3 := Tryz.isAgg3
 z3 := Tryz.sizeOf3
 v3 := Tryz.zeroValue3
 t4 := Tryz.underlying4
 a4 := Tryz.isAgg4
 z4 := Tryz.sizeOf4
 v4 := Tryz.zeroValue4
 t9 := Tryz.underlying9
 a9 := Tryz.isAgg9
 z9 := Tryz.sizeOf9
 v9 := Tryz.zeroValue9
 t20 := Tryz.underlying20
 a20 := Tryz.isAgg20
 z20 := Tryz.sizeOf20
 v20 := Tryz.zeroValue20
 t31 := Tryz.underlying106
 a31 := Tryz.isAgg106
 z31 := Tryz.sizeOf106
 v31 := Tryz.zeroValue106
 t37 := Tryz.underlying44
 a37 := Tryz.isAgg44
 z37 := Tryz.sizeOf44
 v37 := Tryz.zeroValue44
 t70 := Tryz.underlying112
 a70 := Tryz.isAgg112
 z70 := Tryz.sizeOf112
 v70 := Tryz.zeroValue112
 t72 := Tryz.underlying114
 a72 := Tryz.isAgg114
 z72 := Tryz.sizeOf114
 v72 := Tryz.zeroValue114
 t75 := Tryz.underlying117
 a75 := Tryz.isAgg117
 z75 := Tryz.sizeOf117
 v75 := Tryz.zeroValue117
 t76 := Tryz.underlying118
 a76 := Tryz.isAgg118
 z76 := Tryz.sizeOf118
 v76 := Tryz.zeroValue118
 t127 := Tryz.underlying144
 a127 := Tryz.isAgg144
 z127 := Tryz.sizeOf144
 v127 := Tryz.zeroValue144
 t164 := Tryz.underlying158
 a164 := Tryz.isAgg158
 z164 := Tryz.sizeOf158
 v164 := Tryz.zeroValue158 }
theorem Tryz.Builder_Extra_156 : Builder.Extra Tryz.prog Tryz.lays156_ren := {
 sizeBuilder := by kernel_rfl
 liesBuilder := by kernel_rfl
 t5 := Tryz.underlying5
 a5 := Tryz.isAgg5
 z5 := Tryz.sizeOf5
 v5 := Tryz.zeroValue5
 infoByte := by kernel_rfl
 cellsByte := by kernel_rfl
 sizeByte := by kernel_rfl
 neB5 := by decide }
def Tryz.laysM171_ren : Go.Shelf.Ren := ⟨fun | 171 => 47 | 243 => 85 | 246 => 107 | 283 => 119 | 284 => 120 | 285 => 121 | 286 => 122 | 129 => 105 | 317 => 124 | 318 => 125 | 319 => 126 | 320 => 127 | 337 => 128 | 338 => 129 | n => n, fun | 3 => 3 | 9 => 9 | 2 => 2 | 4 => 4 | 171 => 168 | 0 => 0 | 53 => 141 | 37 => 44 | 5 => 5 | 173 => 170 | 212 => 175 | 51 => 138 | 20 => 20 | 213 => 176 | 46 => 99 | 232 => 177 | 233 => 178 | n => n, fun | 17 => 1 | 18 => 2 | 19 => 3 | n => n⟩
theorem Tryz.laysM171 : Go.Proofs.LaysM.n171 Tryz.prog Tryz.laysM171_ren := {
 mixed := by kernel_rfl
 f129 := Tryz.func105.trans (congrArg some (by kernel_rfl))
 f171 := Tryz.func47.trans (congrArg some (by kernel_rfl))
 f243 := Tryz.func85.trans (congrArg some (by kernel_rfl))
 f246 := Tryz.func107.trans (congrArg some (by kernel_rfl))
 f283 := Tryz.func119.trans (congrArg some (by kernel_rfl))
 f284 := Tryz.func120.trans (congrArg some (by kernel_rfl))
 f285 := Tryz.func121.trans (congrArg some (by kernel_rfl))
 f286 := Tryz.func122.trans (congrArg some (by kernel_rfl))
 f317 := Tryz.func124.trans (congrArg some (by kernel_rfl))
 f318 := Tryz.func125.trans (congrArg some (by kernel_rfl))
 f319 := Tryz.func126.trans (congrArg some (by kernel_rfl))
 f320 := Tryz.func127.trans (congrArg some (by kernel_rfl))
 f337 := Tryz.func128.trans (congrArg some (by kernel_rfl))
 f338 := Tryz.func129.trans (congrArg some (by kernel_rfl))
 t0 := Tryz.underlying0
 a0 := Tryz.isAgg0
 z0 := Tryz.sizeOf0
 v0 := Tryz.zeroValue0
 t2 := Tryz.underlying2
 a2 := Tryz.isAgg2
 z2 := Tryz.sizeOf2
 v2 := Tryz.zeroValue2
 t3 := Tryz.underlying3
 a3 := Tryz.isAgg3
 z3 := Tryz.sizeOf3
 v3 := Tryz.zeroValue3
 t4 := Tryz.underlying4
 a4 := Tryz.isAgg4
 z4 := Tryz.sizeOf4
 v4 := Tryz.zeroValue4
 t5 := Tryz.underlying5
 a5 := Tryz.isAgg5
 z5 := Tryz.sizeOf5
 v5 := Tryz.zeroValue5
 t9 := Tryz.underlying9
 a9 := Tryz.isAgg9
 z9 := Tryz.sizeOf9
 v9 := Tryz.zeroValue9
 t20 := Tryz.underlying20
 a20 := Tryz.isAgg20
 z20 := Tryz.sizeOf20
 v20 := Tryz.zeroValue20
 t37 := Tryz.underlying44
 a37 := Tryz.isAgg44
 z37 := Tryz.sizeOf44
 v37 := Tryz.zeroValue44
 t46 := Tryz.underlying99
 a46 := Tryz.isAgg99
 z46 := Tryz.sizeOf99
 v46 := Tryz.zeroValue99
 t51 := Tryz.underlying138
 a51 := Tryz.isAgg138
 z51 := Tryz.sizeOf138
 v51 := Tryz.zeroValue138
 t53 := Tryz.underlying141
 a53 := Tryz.isAgg141
 z53 := Tryz.sizeOf141
 v53 := Tryz.zeroValue141
 t171 := Tryz.underlying168
 a171 := Tryz.isAgg168
 z171 := Tryz.sizeOf168
 v171 := Tryz.zeroValue168
 t173 := Tryz.underlying170
 a173 := Tryz.isAgg170
 z173 := Tryz.sizeOf170
 v173 := Tryz.zeroValue170
 t212 := Tryz.underlying175
 a212 := Tryz.isAgg175
 z212 := Tryz.sizeOf175
 v212 := Tryz.zeroValue175
 t213 := Tryz.underlying176
 a213 := Tryz.isAgg176
 z213 := Tryz.sizeOf176
 t232 := Tryz.underlying177
 a232 := Tryz.isAgg177
 z232 := Tryz.sizeOf177
 v232 := Tryz.zeroValue177
 t233 := Tryz.underlying178
 a233 := Tryz.isAgg178
 z233 := Tryz.sizeOf178
 v233 := Tryz.zeroValue178
 g17 := by kernel_rfl
 g18 := by kernel_rfl
 g19 := by kernel_rfl
 i0 := by kernel_rfl
 i2 := by kernel_rfl
 i3 := by kernel_rfl
 i4 := by kernel_rfl
 i5 := by kernel_rfl
 i9 := by kernel_rfl
 i20 := by kernel_rfl
 i37 := by kernel_rfl
 i46 := by kernel_rfl
 i51 := by kernel_rfl
 i53 := by kernel_rfl
 i171 := by kernel_rfl
 i173 := by kernel_rfl
 i212 := by kernel_rfl
 i232 := by kernel_rfl
 i233 := by kernel_rfl
 m17 := by kernel_rfl
 m18 := by kernel_rfl
 m19 := by kernel_rfl }
def Tryz.lays105_ren : Go.Shelf.Ren := ⟨fun | 105 => 27 | 212 => 58 | 99 => 59 | 165 => 60 | 166 => 61 | 170 => 62 | 169 => 63 | 263 => 90 | 264 => 91 | 206 => 92 | 240 => 93 | 241 => 94 | 276 => 110 | 277 => 111 | n => n, fun | 9 => 9 | 3 => 3 | 4 => 4 | 20 => 20 | 0 => 0 | 46 => 99 | 109 => 109 | 5 => 5 | 72 => 114 | 76 => 118 | 51 => 138 | 146 => 139 | 53 => 141 | 148 => 142 | 70 => 112 | 37 => 44 | 75 => 117 | 127 => 144 | 164 => 158 | 80 => 120 | n => n, fun | n => n⟩
theorem Tryz.lays105 : Go.Proofs.Lays.n105 Tryz.prog Tryz.lays105_ren := {
 mixed := by kernel_rfl
 f99 := Tryz.func59.trans (congrArg some (by kernel_rfl))
 f105 := Tryz.func27.trans (congrArg some (by kernel_rfl))
 f165 := Tryz.func60.trans (congrArg some (by kernel_rfl))
 f166 := Tryz.func61.trans (congrArg some (by kernel_rfl))
 f169 := Tryz.func63.trans (congrArg some (by kernel_rfl))
 f170 := Tryz.func62.trans (congrArg some (by kernel_rfl))
 f206 := Tryz.func92.trans (congrArg some (by kernel_rfl))
 f212 := Tryz.func58.trans (congrArg some (by kernel_rfl))
 f240 := Tryz.func93.trans (congrArg some (by kernel_rfl))
 f241 := Tryz.func94.trans (congrArg some (by kernel_rfl))
 f263 := Tryz.func90.trans (congrArg some (by kernel_rfl))
 f264 := Tryz.func91.trans (congrArg some (by kernel_rfl))
 f276 := Tryz.func110.trans (congrArg some (by kernel_rfl))
 f277 := Tryz.func111.trans (congrArg some (by kernel_rfl))
 t0 := Tryz.underlying0
 a0 := Tryz.isAgg0
 z0 := Tryz.sizeOf0
 v0 := Tryz.zeroValue0
 t3 := Tryz.underlying3
 a3 := Tryz.isAgg3
 z3 := Tryz.sizeOf3
 v3 := Tryz.zeroValue3
 t4 := Tryz.underlying4
 a4 := Tryz.isAgg4
 z4 := Tryz.sizeOf4
 v4 := Tryz.zeroValue4
 t5 := Tryz.underlying5
 a5 := Tryz.isAgg5
 z5 := Tryz.sizeOf5
 v5 := Tryz.zeroValue5
 t9 := Tryz.underlying9
 a9 := Tryz.isAgg9
 z9 := Tryz.sizeOf9
 v9 := Tryz.zeroValue9
 t20 := Tryz.underlying20
 a20 := Tryz.isAgg20
 z20 := Tryz.sizeOf20
 v20 := Tryz.zeroValue20
 t37 := Tryz.underlying44
 a37 := Tryz.isAgg44
 z37 := Tryz.sizeOf44
 v37 := Tryz.zeroValue44
 t46 := Tryz.underlying99
 a46 := Tryz.isAgg99
 z46 := Tryz.sizeOf99
 v46 := Tryz.zeroValue99
 t51 := Tryz.underlying138
 a51 := Tryz.isAgg138
 z51 := Tryz.sizeOf138
 v51 := Tryz.zeroValue138
 t53 := Tryz.underlying141
 a53 := Tryz.isAgg141
 z53 := Tryz.sizeOf141
 v53 := Tryz.zeroValue141
 t70 := Tryz.underlying112
 a70 := Tryz.isAgg112
 z70 := Tryz.sizeOf112
 v70 := Tryz.zeroValue112
 t72 := Tryz.underlying114
 a72 := Tryz.isAgg114
 z72 := Tryz.sizeOf114
 v72 := Tryz.zeroValue114
 t75 := Tryz.underlying117
 a75 := Tryz.isAgg117
 z75 := Tryz.sizeOf117
 v75 := Tryz.zeroValue117
 t76 := Tryz.underlying118
 a76 := Tryz.isAgg118
 z76 := Tryz.sizeOf118
 v76 := Tryz.zeroValue118
 t109 := Tryz.underlying109
 a109 := Tryz.isAgg109
 z109 := Tryz.sizeOf109
 v109 := Tryz.zeroValue109
 t127 := Tryz.underlying144
 a127 := Tryz.isAgg144
 z127 := Tryz.sizeOf144
 v127 := Tryz.zeroValue144
 t146 := Tryz.underlying139
 a146 := Tryz.isAgg139
 z146 := Tryz.sizeOf139
 v146 := Tryz.zeroValue139
 t148 := Tryz.underlying142
 a148 := Tryz.isAgg142
 z148 := Tryz.sizeOf142
 v148 := Tryz.zeroValue142
 t164 := Tryz.underlying158
 a164 := Tryz.isAgg158
 z164 := Tryz.sizeOf158
 v164 := Tryz.zeroValue158 }
theorem Tryz.Builder_Extra_105 : Builder.Extra Tryz.prog Tryz.lays105_ren := {
 sizeBuilder := by kernel_rfl
 liesBuilder := by kernel_rfl
 t5 := Tryz.underlying5
 a5 := Tryz.isAgg5
 z5 := Tryz.sizeOf5
 v5 := Tryz.zeroValue5
 infoByte := by kernel_rfl
 cellsByte := by kernel_rfl
 sizeByte := by kernel_rfl
 neB5 := by decide }
end Go.Proofs

namespace Go.Lx
open Go Go.Vc Go.Md Go.Shelf Go.Proofs
theorem ixB_lib (l : List UInt8) (c : UInt8) : ixB l c = Lib.indexByte l c := by
 induction l with
 | nil => rfl
 | cons b l ih => simp only [ixB, Lib.indexByte, ih, beq_iff_eq]
theorem run_ixB {P : Program} {s : List UInt8} {c r : Int} (h : gIxB s c = some r) (w : World) : (Extern.BytealgIndexByte.indexByte #[str s, .int .u8 c]).run P w = .ok (.int .i64 r) w := by
 cases h
 rw [Lib.run_indexByteString, ixB_lib]
def TabH (P : Program) (h : J1) (name : String) (k : IntKind) (zs : List Int) : Prop := ∃ g T m, P.globalNamed name = some g ∧ h g = some (.cells (zs.map fun z => Value.int k z).toArray T m)
theorem TabH.mono {P : Program} {h h' : J1} {name : String} {k : IntKind} {zs : List Int} (t : TabH P h name k zs) (hh : ∀ b o, h b = some o → h' b = some o) : TabH P h' name k zs := by
 obtain ⟨g, T, m, h1, h2⟩ := t
 exact ⟨g, T, m, h1, hh _ _ h2⟩
theorem TabH.tab {P : Program} {h : J1} {name : String} {k : IntKind} {zs : List Int} (t : TabH P h name k zs) {w : World} (hw : ∀ b o, h b = some o → w.heap[b]? = some o) : Lib.TabIs P w name k zs := by
 obtain ⟨g, T, m, h1, h2⟩ := t
 unfold Lib.TabIs World.var?
 rw [h1]
 show (match w.heap[g]? with | some (.cells cs _ _) => some cs | _ => none) = _
 rw [hw _ _ h2]
theorem tabH_of {P : Program} {w : World} {name : String} {k : IntKind} {zs : List Int} (t : Lib.TabIs P w name k zs) : TabH P (fun b => w.heap[b]?) name k zs := by
 unfold Lib.TabIs World.var? at t
 cases hg : P.globalNamed name with
 | none => rw [hg] at t; cases t
 | some g =>
  rw [hg] at t
  have t : (match w.heap[g]? with | some (.cells cs _ _) => some cs | _ => none) = some (zs.map fun z => Value.int k z).toArray := t
  split at t
  ·rename_i cs T m hc
   cases t
   exact ⟨g, T, m, hg, hc⟩
  ·cases t
theorem decD_lib (u : Nat) : decD u = Lib.decDigits u := by
 induction u using Nat.strongRecOn with
 | ind u ih =>
  rw [decD, Lib.decDigits]
  by_cases h : u < 10
  ·rw [if_pos h, dif_pos h]
  ·rw [if_neg h, dif_neg h, ih _ (by omega)]
theorem itoaL_lib (n : Int) : itoaL n = Lib.itoa n := by
 unfold itoaL Lib.itoa; rw [decD_lib, decD_lib]
theorem itoa_does {P : Program} {ρ : Ren} (L : LaysM.n171 P ρ) {n : Int} {r : List UInt8} {w : World} {h : J1} (hw : Know h w Z0) (ht : TabH P h "internal/strconv.uint64pow10" .u64 Lib.pow10Tab) (H : gItoa n = some r) :
  Does P (ρ.f 171) (List.toArray [.int .i64 n]) w (fun v w' => v = str r ∧ Grow w w') := by
 unfold gItoa at H
 split at H
 case isFalse => cases H
 rename_i hr
 cases H
 refine Calls.mono (Any.strconv_Itoa L n hr.1 hr.2 w (ht.tab fun b o hb => (hw b o hb).1)) ?_
 rintro e w' ⟨rfl, k, os, rfl⟩
 exact ⟨_, rfl, by rw [itoaL_lib], Lib.below_grow _ _ (Nat.le_refl _) _ _⟩
theorem repeat_lib (s : List UInt8) (n : Nat) : (List.replicate n s).flatten = Lib.repeatL s n := by
 induction n with
 | zero => rfl
 | succ n ih => rw [List.replicate_succ, List.flatten_cons, ih]; rfl
theorem rep_ret {P : Program} {ρ : Ren} (L : Lays.n105 P ρ) (X : Builder.Extra P ρ) {s r : List UInt8} {n : Int} (H : gRep s n = some r) : Ret P (ρ.f 105) [str s, .int .i64 n] (str r) := fun w => by
 unfold gRep at H
 split at H
 case isFalse => cases H
 rename_i hr
 cases H
 obtain ⟨k, rfl⟩ : ∃ k : Nat, n = k := ⟨n.toNat, by omega⟩
 refine Calls.mono (Any.strings_Repeat L X ⟨s.toArray⟩ k w (by omega) (by simpa [ByteArray.size] using hr.2.2)) ?_
 rintro e w' ⟨rfl, hb⟩
 exact ⟨_, rfl, by rw [repeat_lib]; rfl, hb⟩
theorem join_does {P : Program} {ρ : Ren} (L : Lays.n156 P ρ) (X : Builder.Extra P ρ) {l : List (List UInt8)} {sep r : List UInt8} {v : Value} {w : World} {h : J1} (hw : Know h w Z0) (f : FrS h 1 v (l.map fun x => [str x])) (H : gJoin l sep = some r) :
  Does P (ρ.f 156) (List.toArray [v, str sep]) w (fun v w' => v = str r ∧ Grow w w') := by
 unfold gJoin at H
 split at H
 case isFalse => cases H
 rename_i hr
 cases H
 obtain ⟨a, c, rfl, h1, h2, hrow⟩ := f.out
 simp only [List.length_map] at h1 ⊢
 have hm : (l.map fun x => (⟨x.toArray⟩ : ByteArray)).map (·.data.toList) = l := by rw [List.map_map]; exact List.map_id'' (fun _ => by simp) l
 rcases hrow with hn | ⟨b, off, cs, T, m, rfl, hb, hc⟩
 ·have hl : l = [] := by simpa using hn
  subst hl
  refine Calls.mono (Any.strings_Join_none L X a c ⟨sep.toArray⟩ w) ?_
  rintro e w' ⟨rfl, rfl⟩
  exact ⟨_, rfl, by simp [List.intercalate], Grow.refl _⟩
 ·have hh := (hw _ _ hb).1
  have hlt : b < w.heap.size := (Array.getElem?_eq_some_iff.1 hh).1
  have := Any.strings_Join L X b off c (l.map fun x => (⟨x.toArray⟩ : ByteArray)) ⟨sep.toArray⟩ w (fun j x hx => by
   rw [List.getElem?_map, Option.map_eq_some_iff] at hx
   obtain ⟨y, hy, rfl⟩ := hx
   have := (hc j [str y] (by rw [List.getElem?_map, hy]; rfl)).2 0 (str y) rfl
   simp only [Nat.mul_one, Nat.add_zero] at this
   simp [World.cell?, hh, this]) hlt (by simpa using hr.1) (by simpa using h1) (by rw [hm]; exact hr.2)
  rw [List.length_map, hm] at this
  refine Calls.mono this ?_
  rintro e w' ⟨rfl, hb⟩
  exact ⟨_, rfl, rfl, hb⟩
end Go.Lx

namespace Go.Lx
open Go Go.Vc Go.Md
structure RC (P : Program) (n : Nat) (c : Code) (Q : Jbe) (m : Nat) (e : X4) (w : World) : Prop where
 out : ∀ a, Sim n a e → Code.rounds P c (lift n Q) m a w
section rules
variable {P : Program} {n : Nat} {Q : Jbe} {cx : Cx} {K : X4 → World → Prop} {e : X4} {L : List Chunk}
end rules
end Go.Lx

namespace Go.Lx
open Go Go.Vc Go.Md Go.Shelf Go.Sort Go.Proofs
variable {P : Program} {cx : Cx} {L : List Chunk} {e : X4}
theorem Jii {fn : Func} {t T b u u' : Nat} {v : Value} (h : fn.results = #[.cell t T, .tmp u, .tmp u']) (tmps : Array Value) (w : World) (ht : tmps.getD t undef = .pointer (some ⟨b, 0, none⟩)) (hl : (loadVar T ⟨b, 0, none⟩).run P w = .ok v w) :
  (results fn tmps).run P w = .ok (.tuple #[v, tmps.getD u undef, tmps.getD u' undef]) w := by
 rw [Array.getD_eq_getD_getElem?] at ht
 simp [results, h, ht, asAddr, hl]
theorem Jfg {i : Nat} {fn : Func} {R : Value → World → Prop} {t T T0 b sz u u' : Nat} {cs vs : List Value} {v2 v3 : Value} (hA : ∀ w, (isAgg T).run P w = .ok true w) (hs : ∀ w, (sizeOf T).run P w = .ok sz w) (hr : fn.results = #[.cell t T, .tmp u, .tmp u'])
  (ht : e t = .pointer (some ⟨b, 0, none⟩)) (hL : L[i]? = some (Jf b cs T0)) (hv : rd cs 0 sz = some vs) (h2 : e u = v2) (h3 : e u' = v3) (k : ∀ w, Fr cx w → Sat cx w L → R (.tuple #[.agg vs.toArray, v2, v3]) w) : At cx (Jfl P fn R .ret) e L :=
 ⟨fun w hF hS tmps hts => ⟨.tuple #[.agg vs.toArray, v2, v3], by
  obtain ⟨h1, h2'⟩ := Jht hv
  have hl := W4 (P := P) (w := w) (b := b) (o := 0) hA hs h1 (fun j v hj => by rw [Jc3 (Ql hS hL)]; exact h2' j v hj)
  rw [Jii hr tmps w (by rw [hts, ht]) hl, hts, hts, h2, h3], k w hF hS⟩⟩
section
open Go.Sort Go.Shelf
end
end Go.Lx

namespace Go.Lx
open Go Go.Vc Go.Md
section
variable {α : Type} {G : J1 → (Nat → Value) → α → Prop} {h : J1} {sz : Nat} {css : List (List Value)} {xs ys : List α} {i : Int} {x' : α} {vs : List Value}
end
end Go.Lx

namespace Go.Lx
open Go Go.Vc Go.Md Go.Shelf Go.Sort Go.Proofs
section rules
variable {P : Program} {n : Nat} {cx : Cx} {Q : Jbe} {e : X4} {L : List Chunk} {ops : Array Oper} {rest : List Oper} {ty : TypeId} {pos : String} {af : Array Edge} {g : Option (Nat × Bool)}
theorem l_turnK {ρ R σ : Type} {κ : R → Option ρ} {r : ρ} {i d : Nat} {f : FuncId} {A : Array Operand} {tys : Array TypeId} {args : List Value} {rds : List Nat} {G : R → σ → Value} {C0 : Chunk} {C : R → σ → Chunk} (hL : L[i]? = some C0)
  (h : ∀ w L' S, Fr cx w → Sat cx w L' → (∀ j ∈ rds, L'[j]? = L[j]?) → C0.P S w → (∀ b, S b → b < w.heap.size) → (∀ b, S b → cx.own b) → Apart L' i w S → Does P f args.toArray w fun v w' => ∃ y x, κ y = some r ∧ v = G y x ∧ Turn w w' S (C y x))
  (hc : ∀ args w, (callFunc f args).run P w = .ok (.enter f args) w) (ha : A.toList.map (ev e) = args) (hw : Yi ops ⟨some d, .call ⟨.value (.func f), A, tys⟩, ty, pos, af, g⟩ e = true) (hn : Nat.blt d n = true)
  (k : ∀ y x, κ y = some r → At cx (WL P n ops Q rest) (upd e d (G y x)) (L.set i (C y x))) : At cx (WL P n ops Q (⟨some d, .call ⟨.value (.func f), A, tys⟩, ty, pos, af, g⟩ :: rest)) e L :=
 Qh (i := i) (σ := {z : R × σ // κ z.1 = some r}) (G := fun z => G z.1.1 z.1.2) (C := fun z => C z.1.1 z.1.2) (rds := rds)
  (Jv hL (fun w L' S h1 h2 h3 h4 h5 h6 h7 => (h w L' S h1 h2 h3 h4 h5 h6 h7).mono fun v w' ⟨y, x, e, hv, ht⟩ => ⟨⟨(y, x), e⟩, hv, ht⟩) hc ha) hw rfl hn fun z => k z.1.1 z.1.2 z.2
end rules
theorem finXK {ρ R σ : Type} {w0 : World} {S : Nat → Prop} {L : List Chunk} {v : Value} {κ : R → Option ρ} {r : ρ} {G : R → σ → Value} {C : R → σ → Chunk} {i : Nat} {C0 : Chunk} (y : R) (x : σ) (H : κ y = some r) (hL : L[i]? = some C0) (hv : v = G y x) (hc : Imp C0 (C y x)) :
  ∀ w, Fr ⟨w0, S⟩ w → Sat ⟨w0, S⟩ w L → ∃ y x, κ y = some r ∧ v = G y x ∧ Turn w0 w S (C y x) := fun w hF hS => by
 obtain ⟨x', h1, h2⟩ := Y0 (G := fun z : {z : R × σ // κ z.1 = some r} => G z.1.1 z.1.2) (C := fun z => C z.1.1 z.1.2) ⟨(y, x), H⟩ hL hv hc w hF hS
 exact ⟨x'.1.1, x'.1.2, x'.2, h1, h2⟩
section
theorem sort_funcA {P : Program} {ρ : Ren} (Ly : SlLaysF0.n6 P ρ) {α : Type} {k : Nat} (aE : ∀ w, (isAgg (ρ.t 24)).run P w = .ok true w) (zE : ∀ w, (Go.sizeOf (ρ.t 24)).run P w = .ok k w) (enc : α → List Value) (hk : ∀ x, (enc x).length = k)
  (h1 : ∀ x, ∀ v ∈ enc x, v.oneCell' = true) {cf : α → α → Option Int} {g : Nat} (eg : ∀ args w, (callFunc g args).run P w = .ok (.enter g args) w)
  (hcl : ∀ (x y : α) (v : Int) (W : World), cf x y = some v → Calls P g #[.agg (enc x).toArray, .agg (enc y).toArray] W fun e w' => e = .returned (.int .i64 v) ∧ ∃ q os', w' = Go.Sort.grow (W.drewN q) os')
  {E : TypeId} {a0 : List α} {ρo : Type} {κ : List α → Option ρo} {r : ρo} {p0 : Option Addr × Nat} {n0 : Nat} {w : World} {S : Nat → Prop}
  (hcs : (J4 E k (.slice p0.1 n0 p0.2) n0 (a0.map enc)).P S w) (hlt : ∀ b, S b → b < w.heap.size) (hn0 : n0 = a0.length) (H : Jgt a0 cf κ = some r) :
  Does P (ρ.f 6) (List.toArray [.slice p0.1 n0 p0.2, .func (.func g) #[] #[]]) w (fun v w' => ∃ (y : List α) (_ : Unit), κ y = some r ∧ v = .tuple #[] ∧ Turn w w' S (J4 E k (.slice p0.1 n0 p0.2) n0 (y.map enc))) := by
 obtain ⟨p, c⟩ := p0
 obtain ⟨hsz, hok, hu⟩ := gSortA_some H
 subst hn0
 have hcs0 := hcs
 obtain ⟨⟨hown, hlen, hall⟩, hb⟩ := hcs
 rcases hown.2 with ⟨h0, h1'⟩ | ⟨b, Y4, cur, hv, hbase, hh, q1, q2, q3, q4⟩
 ·have hnil : a0 = [] := List.eq_nil_of_length_eq_zero h1'
  subst hnil
  refine Calls.mono (AnyF.slices_SortFunc_none { Ly with } p c (.func (.func g) #[] #[]) w) ?_
  rintro e w' ⟨rfl, rfl⟩
  exact ⟨_, rfl, [], (), hu [] ⟨List.Perm.refl _, List.Pairwise.nil⟩, rfl, ⟨rfl, rfl, rfl, Nat.le_refl _, fun _ _ _ => rfl, S, by simpa using hcs0, fun b h => ⟨hlt b h, .inl h⟩⟩⟩
 ·simp only [Value.slice.injEq] at hv
  obtain ⟨hv1, -, hv2⟩ := hv
  subst hv1 hv2
  rcases List.eq_nil_or_concat a0 with rfl | ⟨_, x0, _⟩
  ·refine Calls.mono (AnyF.slices_SortFunc_none { Ly with } _ c (.func (.func g) #[] #[]) w) ?_
   rintro e w' ⟨rfl, rfl⟩
   exact ⟨_, rfl, [], (), hu [] ⟨List.Perm.refl _, List.Pairwise.nil⟩, rfl, ⟨rfl, rfl, rfl, Nat.le_refl _, fun _ _ _ => rfl, S, by simpa using hcs0, fun b h => ⟨hlt b h, .inl h⟩⟩⟩
  haveI : Inhabited α := ⟨x0⟩
  have hgl : b < w.heap.size := (Array.getElem?_eq_some_iff.1 hh).1
  have hfs : ∀ l : List α, (flatK enc k l.toArray).toList = (l.map enc).flatten := fun l => Jc4 enc k hk l.toArray
  have hH : HoldsK enc k w b 0 a0.toArray := by
   refine Jfe hh ?_
   rw [hfs, size_flatK, ← q4]
   simp
  have hcmp : CmpLays P g #[] enc k (fun x y => (cf x y).getD 0) b 0 a0.toArray.size w := fun m os dk _ x y => by
   obtain ⟨v, hv⟩ := hok.tot x y
   have := hcl x y v (sortWorldK enc k w b 0 m dk os) hv
   have e : (cf x y).getD 0 = v := by rw [hv]; rfl
   simp only [e]
   exact this
  have main := AnyQ.slices_SortFunc Ly k aE zE enc hk h1 (fun x y => (cf x y).getD 0) (swo_pre hok) g #[] b 0 c a0.toArray w eg hcmp hH hgl (by simpa using hsz)
  rw [show a0.toArray.size = a0.length by simp] at main
  refine Calls.mono main ?_
  rintro e w' ⟨rfl, d', n, os, hperm, hsorted, rfl⟩
  have hds : d'.size = a0.length := by simpa using hperm.1
  have hp : d'.toList.Perm a0 := by
   have := hperm.2.2
   have z1 : (d'.extract 0 a0.length).toList = d'.toList := by rw [← hds]; simp
   have z2 : (a0.toArray.extract 0 a0.length).toList = a0 := by simp
   rw [z1, z2] at this
   exact this
  have hd : SortOf cf a0 d'.toList := by
   refine ⟨hp, ?_⟩
   rw [List.pairwise_iff_getElem]
   intro i j hi hj hij
   have := hsorted i j (Nat.zero_le _) hij (by simpa [hds] using hj)
   rw [getElem!_pos d' j (by simpa using hj), getElem!_pos d' i (by simpa using hi)] at this
   unfold ltOf at this
   unfold leC
   have a1 := hok.flip d'[j] d'[i]
   have a2 := hok.flip d'[i] d'[j]
   simp at this ⊢
   simp at hi hj
   omega
  have hflat : (flatK enc k d').toList = (d'.toList.map enc).flatten := Jc4 enc k hk d'
  have hG := Jeu (w := w) (g := b) (n := n) (os := os) (flatK enc k d')
  obtain ⟨g1, g2, g3, g4, g5⟩ := hG
  have hSg : S b := hb b rfl
  have hll : d'.toList.length = a0.length := by simpa using hds
  refine ⟨_, rfl, d'.toList, (), hu _ hd, rfl, ⟨g1, g2, g3, g4, fun z hz hnz => g5 z hz (fun h => hnz (by cases h; exact hSg)), S, ⟨⟨⟨by rw [Jhw enc k hk, hll], .inr ⟨b, c, _, rfl, hbase, Jhl _ hh, q1, q2, by simp [putCells, q3], ?_⟩⟩, by simpa using hds, fun x hx => ?_⟩, hb⟩, fun z h => ⟨Nat.lt_of_lt_of_le (hlt z h) g4, .inl h⟩⟩⟩
  ·rw [← hflat]
   have := Je6 cur (flatK enc k d') (by rw [size_flatK, q3, hds]; exact Nat.mul_le_mul_right k q1)
   rw [size_flatK, hds] at this
   exact this
  ·obtain ⟨y, _, rfl⟩ := List.mem_map.1 hx
   exact hk y
end
section
open Go.Vc
variable {P : Program} {n : Nat} {cx : Cx} {e : X4} {L : List Chunk} {d : Nat} {ty : TypeId} {pos : String} {af : Array Edge} {g : Option (Nat × Bool)}
end
section
variable {P : Program} {e : X4} {d : Option Nat} {ty : TypeId} {pos : String} {af : Array Edge} {g : Option (Nat × Bool)}
theorem Row.pre {w : World} {a : Option Addr} {sz : Nat} {xs ys : List (List Value)} (h : Row w a sz (xs ++ ys)) : Row w a sz xs := by
 rcases h with h | ⟨b, off, ha, h⟩
 ·exact .inl (List.append_eq_nil_iff.1 h).1
 ·refine .inr ⟨b, off, ha, fun i x hx => h i x ?_⟩
  rw [List.getElem?_append_left (List.getElem?_eq_some_iff.1 hx).1]; exact hx
end
section
open Go.Vc
variable {P : Program} {cx : Cx} {e : X4} {L : List Chunk} {d : Option Nat} {ty : TypeId} {pos : String} {af : Array Edge} {g : Option (Nat × Bool)}
end
end Go.Lx

namespace Go.Lx
open Go Go.Md Go.Vc Go.Shelf Go.Sort Go.Proofs
theorem sj {α : Type} {a b : α} (h : some a = some b) : a = b := Option.some.inj h
section
variable {P : Program} {n : Nat} {cx : Cx} {Q : Jbe} {e : X4} {L : List Chunk} {ops : Array Oper} {rest : List Oper} {d : Nat} {ty : TypeId} {pos : String} {af : Array Edge} {g : Option (Nat × Bool)}
theorem lv {o : Op} {v : Value} (hr : ∀ w, (execOp (ev e) ⟨some d, o, ty, pos, af, g⟩).run P w = .ok (.value v) w) (k : At cx (WL P n ops Q rest) (upd e d v) L)
  (hw : Yi ops ⟨some d, o, ty, pos, af, g⟩ e = true := by exact rfl) (hn : Nat.blt d n = true := by exact rfl) : At cx (WL P n ops Q (⟨some d, o, ty, pos, af, g⟩ :: rest)) e L := Qi hw rfl hn hr k
theorem pT {c A B : Operand} (v : Value) (k : At cx (WL P n ops Q rest) (upd e d v) L) (hw : Yi ops ⟨some d, .pick c A B, ty, pos, af, g⟩ e = true := by exact rfl) (hn : Nat.blt d n = true := by exact rfl)
  (hc : ev e c = .bool true := by exact rfl) (hx : ev e A = v := by exact rfl) : At cx (WL P n ops Q (⟨some d, .pick c A B, ty, pos, af, g⟩ :: rest)) e L := Qi hw rfl hn (Xz hc hx) k
theorem pF {c A B : Operand} (v : Value) (k : At cx (WL P n ops Q rest) (upd e d v) L) (hw : Yi ops ⟨some d, .pick c A B, ty, pos, af, g⟩ e = true := by exact rfl) (hn : Nat.blt d n = true := by exact rfl)
  (hc : ev e c = .bool false := by exact rfl) (hx : ev e B = v := by exact rfl) : At cx (WL P n ops Q (⟨some d, .pick c A B, ty, pos, af, g⟩ :: rest)) e L := Qi hw rfl hn (Z1 hc hx) k
theorem lf {T fld b o fo ft fsz bo : Nat} {nm tg pk : String} {em : Bool} {X : Operand} {fs : Array Field} (hu : ∀ w, (underlying T).run P w = .ok (.struct fs) w)
  (hf : fs[fld]? = some ⟨nm, ft, fo, em, tg, pk, bo⟩) (hs : ∀ w, (sizeOf ft).run P w = .ok fsz w) (hp : ev e X = .pointer (some ⟨b, o, none⟩))
  (k : At cx (WL P n ops Q rest) (upd e d (.pointer (some ⟨b, o + fo, none⟩))) L) (hsz : Nat.blt 0 fsz = true := by exact rfl) (hw : Yi ops ⟨some d, .fieldAddr T X fld, ty, pos, af, g⟩ e = true := by exact rfl) (hn : Nat.blt d n = true := by exact rfl) :
  At cx (WL P n ops Q (⟨some d, .fieldAddr T X fld, ty, pos, af, g⟩ :: rest)) e L := Qi hw rfl hn (J2 hu hf hs hsz hp) k
theorem ll {T T0 b o : Nat} {A : Operand} {cs : List Value} (i : Nat) (v : Value) (hA : ∀ w, (isAgg T).run P w = .ok false w) (k : At cx (WL P n ops Q rest) (upd e d v) L)
  (hw : Yi ops ⟨some d, .load T A, ty, pos, af, g⟩ e = true := by exact rfl) (hn : Nat.blt d n = true := by exact rfl) (hp : ev e A = .pointer (some ⟨b, o, none⟩) := by exact rfl) (hL : L[i]? = some (Jf b cs T0) := by exact rfl) (hv : rg cs o = some v := by exact rfl) :
  At cx (WL P n ops Q (⟨some d, .load T A, ty, pos, af, g⟩ :: rest)) e L := Jip hA hw hn hp hL hv k
theorem st {i : Nat} {T T0 b o sz : Nat} {A X : Operand} {x : Value} {cs : List Value} (vs cs' : List Value) (hs : ∀ w, (sizeOf T).run P w = .ok sz w)
  (hp : ev e A = .pointer (some ⟨b, o, none⟩)) (hL : L[i]? = some (Jf b cs T0)) (k : At cx (WL P n ops Q rest) e (L.set i (Jf b cs' T0)))
  (hw : Yi ops ⟨none, .store T A X, ty, pos, af, g⟩ e = true := by exact rfl) (hx : ev e X = x := by exact rfl) (hc : x.cells.toList = vs := by exact rfl) (hsz : vs.length = sz := by exact rfl) (hpos : Nat.blt 0 sz = true := by exact rfl)
  (hone : vs.all Value.oneCell' = true := by exact rfl) (hv : wr cs o vs = some cs' := by exact rfl) :
  At cx (WL P n ops Q (⟨none, .store T A X, ty, pos, af, g⟩ :: rest)) e L := Wz hs hw hp hx hc hsz hpos hone hL hv k
theorem bo {K : X4 → World → Prop} (i j : Nat) {C D : Chunk} (hi : L[i]? = some C) (hj : L[j]? = some D) (k : At cx K e ((L.set i (Jw C D)).set j empC)) (hne : i ≠ j := by decide) : At cx K e L := Jhv i j hi hj hne k
theorem ub {K : X4 → World → Prop} (i j : Nat) {C D : Chunk} (hL : L[i]? = some (Jw C D)) (hj : L[j]? = some empC) (k : At cx K e ((L.set i C).set j D)) (hne : i ≠ j := by decide) : At cx K e L := c_splitAt i j hL hj hne k
theorem cl {σ τ : Type} {sv : σ → τ → List (Nat × Value)} {hp : σ → τ → List Chunk} {I : σ → τ → Nat → Prop} {m : Nat} (s : σ) (t : τ) (k : Nat) (sel : List Nat) (hI : I s t k)
  (hst : Jhb e (sv s t) := by (repeat (first | exact trivial | refine ⟨rfl, ?_⟩))) (hnd : sel.Nodup := by decide) (hL : sel.map (fun i => L[i]?) = (hp s t).map some := by kernel_rfl) (hm : k < m := by exact Nat.lt_succ_self _) :
  At cx (RoundA cx sv hp I m) e L := c_close s t k sel hst hnd hL hI hm
theorem ci {α : Type} {x y r : Option α} {c : Operand} {p q : Code} (b : Bool) (hc : ev e c = .bool b) (ht : b = true → x = r → At cx (WC P n p Q) e L) (hf : b = false → y = r → At cx (WC P n q Q) e L) (H : Qe b x y = r) :
  At cx (WC P n (.cond c p q) Q) e L := c_if hc (fun h => ht h (Uo h H)) (fun h => hf h (Us h H))
theorem sp {α : Type} {x y r : Option α} {K : X4 → World → Prop} {b : Bool} (ht : b = true → x = r → At cx K (upd e d (.bool true)) L) (hf : b = false → y = r → At cx K (upd e d (.bool false)) L) (H : Qe b x y = r) :
  At cx K (upd e d (.bool b)) L := split (fun h => ht h (Uo h H)) (fun h => hf h (Us h H))
end
section
variable {P : Program} {cx : Cx} {e : X4} {L : List Chunk} {ops : Array Oper} {F : X4 → List Chunk → Prop} {rest : List Oper} {ss : List Kd} {d : Nat} {ty : TypeId} {pos : String} {af : Array Edge} {g : Option (Nat × Bool)}
theorem dv {o : Op} {v : Value} (hr : ∀ w, (execOp (ev e) ⟨some d, o, ty, pos, af, g⟩).run P w = .ok (.value v) w) (k : Sq P cx ops F rest ss (upd e d v) L) (hw : Yi ops ⟨some d, o, ty, pos, af, g⟩ e = true := by exact rfl) :
  Sq P cx ops F (⟨some d, o, ty, pos, af, g⟩ :: rest) (.p :: ss) e L := Qv hw rfl hr k
theorem dl {i : Nat} {T T0 b o : Nat} {A : Operand} {cs : List Value} (v : Value) (hA : ∀ w, (isAgg T).run P w = .ok false w) (k : Sq P cx ops F rest ss (upd e d v) L)
  (hw : Yi ops ⟨some d, .load T A, ty, pos, af, g⟩ e = true := by exact rfl) (hp : ev e A = .pointer (some ⟨b, o, none⟩) := by exact rfl) (hL : L[i]? = some (Jf b cs T0) := by exact rfl) (hv : rg cs o = some v := by exact rfl) :
  Sq P cx ops F (⟨some d, .load T A, ty, pos, af, g⟩ :: rest) (.d [i] v :: ss) e L := d_load1 hA hw hp hL hv k
end
section
variable {P : Program} {cx : Cx} {e : X4} {L : List Chunk}
theorem r1 {fn : Func} {t : Tmp} {v : Value} {w0 : World} (V : Value) (hr : fn.results = #[.tmp t] := by exact rfl) (ht : e t = V := by exact rfl) (h : V = v := by exact rfl) :
  At ⟨w0, fun _ => False⟩ (Jfl P fn (fun v' w' => v' = v ∧ Grow w0 w') .ret) e L := Jdo hr ht (fin h)
end
abbrev pz (b : Nat) : Value := .pointer (some ⟨b, 0, none⟩)
abbrev z0s : Value := .slice none 0 0
abbrev AN : Type := Option Addr × Nat
abbrev _root_.List.l {α : Type} (x : List α) : Nat := x.length
end Go.Lx

namespace Go.Lx
open Go Go.Vc Go.Md
section
variable {P : Program} {n : Nat} {cx : Cx} {Q : Jbe} {e : X4} {L : List Chunk} {ops : Array Oper} {rest : List Oper} {d : Nat} {ty : TypeId} {pos : String} {af : Array Edge} {g : Option (Nat × Bool)}
end
section
variable {P : Program} {cx : Cx} {e : X4} {L : List Chunk} {d : Nat} {ty : TypeId} {pos : String} {af : Array Edge} {g : Option (Nat × Bool)}
end
section
variable {P : Program} {cx : Cx} {e : X4} {L : List Chunk} {ops : Array Oper} {F : X4 → List Chunk → Prop} {rest : List Oper} {ss : List Kd} {d : Nat} {ty : TypeId} {pos : String} {af : Array Edge} {g : Option (Nat × Bool)}
end
section
variable {P : Program} {cx : Cx} {e : X4} {L : List Chunk} {d : Nat} {ty : TypeId} {pos : String} {af : Array Edge} {g : Option (Nat × Bool)}
end
section
variable {α : Type} {G : J1 → (Nat → Value) → α → Prop} {h : J1} {sz : Nat} {css : List (List Value)} {xs : List α}
end
end Go.Lx

namespace Go.Lx
open Go Go.Vc Go.Md
section
variable {P : Program} {cx : Cx} {e : X4} {L : List Chunk} {ops : Array Oper} {F : X4 → List Chunk → Prop} {rest : List Oper} {ss : List Kd}
variable {d : Nat} {ty : TypeId} {pos : String} {af : Array Edge} {g : Option (Nat × Bool)}
end
section
variable {α : Type} {G : J1 → (Nat → Value) → α → Prop} {h : J1} {sz : Nat} {v : Value} {xs : List α}
theorem elC_getD (h : J1) (v : Value) (sz i : Nat) : (fun j => (elC h v sz i).getD j undef) = Xd h v sz i := by
 funext j
 rw [List.getD_eq_getElem?_getD]
 unfold elC
 by_cases hj : j < sz
 ·simp [List.getElem?_range hj]
 ·rw [List.getElem?_eq_none (by simp; omega)]
  simp [Xd, hj]
theorem FrN.allC (f : FrN h sz v G xs) : AllC G h sz ((List.range xs.length).map (elC h v sz)) xs := by
 refine ⟨by simp, fun i cs x hc hxi => ?_⟩
 have hi : i < xs.length := (List.getElem?_eq_some_iff.1 hxi).1
 rw [List.getElem?_map, List.getElem?_range hi] at hc
 cases hc
 refine ⟨by simp [elC], ?_⟩
 rw [elC_getD]
 exact f.el i x hxi
theorem AllC.oneN {css : List (List Value)} (hG : ∀ {c : Nat → Value} {x : α}, G h c x → ∀ j, j < sz → (c j).oneCell' = true) (p : AllC G h sz css xs) : ∀ x ∈ css, (idC x).all Value.oneCell' = true := by
 intro x hx
 obtain ⟨i, hi, rfl⟩ := List.getElem_of_mem hx
 have hi2 : i < xs.length := p.len ▸ hi
 obtain ⟨h1, h2⟩ := p.el i css[i] xs[i] (List.getElem?_eq_getElem hi) (List.getElem?_eq_getElem hi2)
 show css[i].all Value.oneCell' = true
 refine List.all_eq_true.2 fun u hu => ?_
 obtain ⟨j, hj, rfl⟩ := List.getElem_of_mem hu
 have h3 := hG h2 j (h1 ▸ hj)
 rwa [List.getD_eq_getElem?_getD, List.getElem?_eq_getElem hj, Option.getD_some] at h3
end
end Go.Lx

namespace Go.Lx
open Go Go.Vc Go.Md
section
variable {P : Program} {cx : Cx} {e : X4} {L : List Chunk}
end
end Go.Lx

namespace Go.Lx
open Go Go.Vc Go.Md
def Jer (base : J1) (Φ : J1 → Prop) : Chunk where
 P S w := ∃ hp, Φ hp ∧ (Xm base hp).P S w
 loc S w w' h := fun ⟨hp, h1, h2⟩ => ⟨hp, h1, Chunk.loc _ _ _ _ h h2⟩
noncomputable def Jgc (w : World) (S : Nat → Prop) : J1 := open Classical in fun b => if S b then w.heap[b]? else none
theorem restr_some {w : World} {S : Nat → Prop} {b : Nat} {o : Obj} : Jgc w S b = some o ↔ S b ∧ w.heap[b]? = some o := by
 classical
 unfold Jgc
 split
 ·rename_i h; exact ⟨fun k => ⟨h, k⟩, fun k => k.2⟩
 ·rename_i h; exact ⟨fun k => (by cases k), fun k => absurd k.1 h⟩
theorem Jgh (w : World) (S : Nat → Prop) : (Xm Q9 (Jgc w S)).P S w := ⟨Zc, fun b o h => .inr (restr_some.1 h)⟩
def RowP (h : J1) (E sz : Nat) (v : Value) (css : List (List Value)) : Prop :=
 (∀ x ∈ css, x.length = sz) ∧ ((v = .slice none 0 0 ∧ css = []) ∨
  ∃ g Y4 cur, v = .slice (some ⟨g, 0, none⟩) css.length Y4 ∧ h g = some (.cells cur E (0, 0)) ∧ css.length ≤ Y4 ∧ Y4 ≤ maxLen ∧ cur.size = Y4 * sz ∧ cur.toList.take (css.length * sz) = css.flatten)
theorem RowP.mono {h h' : J1} {E sz : Nat} {v : Value} {css : List (List Value)} (r : RowP h E sz v css) (k : ∀ b, v.ownBlock = some b → ∀ o, h b = some o → h' b = some o) : RowP h' E sz v css := by
 refine ⟨r.1, r.2.imp id ?_⟩
 rintro ⟨g, Y4, cur, rfl, hb, rest⟩
 exact ⟨g, Y4, cur, rfl, k g rfl _ hb, rest⟩
theorem RowP.of {w : World} {S : Nat → Prop} {E sz n : Nat} {v : Value} {css : List (List Value)} (h : (J4 E sz v n css).P S w) : RowP (Jgc w S) E sz v css ∧ n = css.length ∧ ∀ b, v.ownBlock = some b → S b := by
 obtain ⟨⟨⟨h1, h2⟩, h3, h5⟩, h4⟩ := h
 subst h3
 refine ⟨⟨h5, ?_⟩, rfl, h4⟩
 rcases h2 with ⟨rfl, h0⟩ | ⟨g, Y4, cur, rfl, _, hh, q1, q2, q3, q4⟩
 ·exact .inl ⟨rfl, List.length_eq_zero_iff.1 h0⟩
 ·exact .inr ⟨g, Y4, cur, rfl, restr_some.2 ⟨h4 g rfl, hh⟩, q1, q2, q3, q4⟩
theorem RowP.row {h : J1} {E sz : Nat} {v : Value} {css : List (List Value)} (r : RowP h E sz v css) {w : World} {S : Nat → Prop} (hw : ∀ b, v.ownBlock = some b → S b ∧ ∀ o, h b = some o → w.heap[b]? = some o) : (J4 E sz v css.length css).P S w := by
 have hfl : css.flatten.length = css.length * sz := by
  have := r.1
  clear r hw
  induction css with
  | nil => simp
  | cons x l ih =>
   rw [List.flatten_cons, List.length_append, ih (fun y hy => this y (.tail _ hy)), this x (.head _), List.length_cons, Nat.add_mul]; omega
 refine ⟨⟨⟨hfl, ?_⟩, rfl, r.1⟩, fun b hb => (hw b hb).1⟩
 rcases r.2 with ⟨rfl, h0⟩ | ⟨g, Y4, cur, rfl, hb, q1, q2, q3, q4⟩
 ·exact .inl ⟨rfl, by rw [h0]; rfl⟩
 ·exact .inr ⟨g, Y4, cur, rfl, Nat.zero_le _, (hw g rfl).2 _ hb, q1, q2, q3, q4⟩
theorem RowP.frs {h : J1} {E sz : Nat} {v : Value} {css : List (List Value)} (r : RowP h E sz v css) : FrS h sz v css := by
 rcases r.2 with ⟨rfl, rfl⟩ | ⟨g, Y4, cur, rfl, hb, q1, q2, q3, q4⟩
 ·exact ⟨none, 0, rfl, Nat.le_refl _, by decide, .inl rfl⟩
 ·refine ⟨some ⟨g, 0, none⟩, Y4, rfl, q1, by simpa [maxLen] using q2, .inr ⟨g, 0, cur, E, (0, 0), rfl, hb, fun i x hx => ⟨r.1 x (List.mem_of_getElem? hx), fun j v hv => ?_⟩⟩⟩
  have hr := Jc2 css i x (List.all_eq_true.2 fun x hx => by simpa using r.1 x hx) hx j v hv
  rw [← q4, List.getElem?_take] at hr
  split at hr
  ·rw [Array.getElem?_toList] at hr
   rw [← hr, Nat.zero_add]
  ·cases hr
section
variable {P : Program} {cx : Cx} {e : X4} {L : List Chunk} {K : X4 → World → Prop} {ops : Array Oper} {rest : List Oper} {d : Nat} {ty : TypeId} {pos : String} {af : Array Edge} {g : Option (Nat × Bool)}
theorem c_pooled {base : J1} {Φ : J1 → Prop} (i : Nat) (hi : L[i]? = some (Jer base Φ)) (k : ∀ hp, Φ hp → At cx K e (L.set i (Xm base hp))) : At cx K e L :=
 c_show (τ := J1) (D := fun hp => Xm base hp) (φ := Φ) i hi (fun S w h => h) k
end
def ownC (Φ : J1 → List Nat → Prop) : Chunk := Jer Q9 fun hp => ∃ bs, Φ hp bs ∧ bs.Nodup ∧ ∀ b ∈ bs, ∃ o, hp b = some o
theorem Jg9 {Φ Ψ Χ : J1 → List Nat → Prop} (m1 : ∀ h h' bs, (∀ b o, h b = some o → h' b = some o) → Φ h bs → Φ h' bs) (m2 : ∀ h h' bs, (∀ b o, h b = some o → h' b = some o) → Ψ h bs → Ψ h' bs)
  (k : ∀ h b1 b2, Φ h b1 → Ψ h b2 → Χ h (b1 ++ b2)) : Imp (Jw (ownC Φ) (ownC Ψ)) (ownC Χ) := ⟨fun S w => by
 rintro ⟨S1, S2, ⟨h1, ⟨b1, f1, n1, d1⟩, p1⟩, ⟨h2, ⟨b2, f2, n2, d2⟩, p2⟩, s1, s2, sd⟩
 have q1 : ∀ b o, h1 b = some o → S1 b ∧ w.heap[b]? = some o := fun b o h => (p1.2 b o h).elim (fun h => by cases h) id
 have q2 : ∀ b o, h2 b = some o → S2 b ∧ w.heap[b]? = some o := fun b o h => (p2.2 b o h).elim (fun h => by cases h) id
 have l1 : ∀ b o, h1 b = some o → Jgc w S b = some o := fun b o h => restr_some.2 ⟨s1 b (q1 b o h).1, (q1 b o h).2⟩
 have l2 : ∀ b o, h2 b = some o → Jgc w S b = some o := fun b o h => restr_some.2 ⟨s2 b (q2 b o h).1, (q2 b o h).2⟩
 refine ⟨Jgc w S, ⟨b1 ++ b2, k _ _ _ (m1 _ _ _ l1 f1) (m2 _ _ _ l2 f2), List.nodup_append.2 ⟨n1, n2, fun a ha b hb e => ?_⟩, fun b hb => ?_⟩, Jgh w S⟩
 ·subst e
  obtain ⟨o1, g1⟩ := d1 a ha
  obtain ⟨o2, g2⟩ := d2 a hb
  exact sd a (q1 a o1 g1).1 (q2 a o2 g2).1
 ·rcases List.mem_append.1 hb with h | h
  ·obtain ⟨o, g⟩ := d1 b h; exact ⟨o, l1 b o g⟩
  ·obtain ⟨o, g⟩ := d2 b h; exact ⟨o, l2 b o g⟩⟩
theorem Jh7 {C C' D D' : Chunk} (h1 : Imp C C') (h2 : Imp D D') : Imp (Jw C D) (Jw C' D') :=
 ⟨fun _ _ ⟨S1, S2, a, b, c⟩ => ⟨S1, S2, h1.out _ _ a, h2.out _ _ b, c⟩⟩
theorem Jfp {C D F : Chunk} (h1 : Imp C D) (h2 : Imp D F) : Imp C F := ⟨fun _ _ k => h2.out _ _ (h1.out _ _ k)⟩
theorem own_nodup {v : Value} : v.ownBlock.toList.Nodup := by cases v.ownBlock <;> simp
theorem imp_rowOwn {E sz n : Nat} {v : Value} {css : List (List Value)} : Imp (J4 E sz v n css) (ownC fun h bs => RowP h E sz v css ∧ n = css.length ∧ bs = v.ownBlock.toList) := ⟨fun S w k => by
 obtain ⟨r, hn, hb⟩ := RowP.of k
 refine ⟨Jgc w S, ⟨_, ⟨r, hn, rfl⟩, own_nodup, fun b h => ?_⟩, Jgh w S⟩
 rcases r.2 with ⟨rfl, _⟩ | ⟨g, Y4, cur, rfl, hg, _⟩
 ·cases h
 ·simp [Value.ownBlock] at h; subst h; exact ⟨_, hg⟩⟩
def roB (v : Value) (n : Nat) : List Nat := if n = 0 then [] else v.ownBlock.toList
theorem imp_roOwn {sz n : Nat} {v : Value} {xs : List (List Value)} : Imp (roV sz v n xs) (ownC fun h bs => FrS h sz v xs ∧ bs = roB v xs.length) := ⟨fun S w ⟨hn, f, hb⟩ => by
 have f' : FrS (Jgc w S) sz v xs := f.sub hb fun b o hs h => restr_some.2 ⟨hs, h⟩
 refine ⟨Jgc w S, ⟨_, ⟨f', rfl⟩, ?_, fun b h => ?_⟩, Jgh w S⟩
 ·unfold roB; split
  ·exact List.nodup_nil
  ·exact own_nodup
 ·unfold roB at h
  split at h
  ·cases h
  ·rename_i hne
   obtain ⟨a, c, rfl, _, _, r⟩ := f'.out
   rcases r with r | ⟨g, off, cs, T, m, rfl, hg, _⟩
   ·rw [r] at hne; simp at hne
   ·simp [Value.ownBlock] at h; subst h; exact ⟨_, hg⟩⟩
theorem Jg6 {Φ : J1 → List Nat → Prop} (h : Φ Q9 []) : Imp empC (ownC Φ) := ⟨fun S w k => ⟨Q9, ⟨[], h, List.nodup_nil, fun b hb => by cases hb⟩, Zc, fun b o hb => by cases hb⟩⟩
theorem FrS.agree {h h' : J1} {sz : Nat} {v : Value} {xs : List (List Value)} (f : FrS h sz v xs) (k : ∀ b ∈ roB v xs.length, ∀ o, h b = some o → h' b = some o) : FrS h' sz v xs := by
 obtain ⟨a, c, rfl, h1, h2, r⟩ := f.out
 refine ⟨a, c, rfl, h1, h2, ?_⟩
 rcases r with r | ⟨b, off, cs, T, m, rfl, hb, r⟩
 ·exact .inl r
 ·by_cases h0 : xs.length = 0
  ·exact .inl (List.length_eq_zero_iff.1 h0)
  ·exact .inr ⟨b, off, cs, T, m, rfl, k b (by unfold roB; rw [if_neg h0]; simp [Value.ownBlock]) _ hb, r⟩
end Go.Lx
namespace Go.Lx
open Go Go.Vc Go.Md
def cntB (n : Nat) (next : Nat → Option Unit) (i : Nat) : Option Unit := if i < n then next (i + 1) else some ()
theorem cnt_fix (n : Nat) : Vv (cntB n) 0 = some () :=
 fix_of (F := cntB n) (fun _ => some ()) (fun _ => True) (fun i => n - i) (fun next i _ ih => by
  unfold cntB
  split
  ·exact ih (i + 1) trivial (by omega)
  ·rfl) 0 trivial
theorem cnt_step {n i m : Nat} (h : cntB n (it (cntB n) m) i = some ()) (hi : i < n) : it (cntB n) m (i + 1) = some () := by
 unfold cntB at h; rwa [if_pos hi] at h
end Go.Lx
namespace Go.Lx
theorem Ji1 {α : Type} {xs : List α} {i : Nat} (h : i < xs.length) : xs.take (i + 1) = xs.take i ++ [xs[i]] := by
 rw [List.take_add_one, List.getElem?_eq_getElem h]; rfl
theorem take_setS {α : Type} {xs : List α} {i : Nat} {c : α} (h : i < xs.length) : (xs.set i c).take (i + 1) = xs.take i ++ [c] := by
 rw [Ji1 (by simpa using h), List.getElem_set_self, List.take_set_of_le (Nat.le_refl _)]
end Go.Lx
namespace Go.Lx
open Go Go.Vc Go.Md
def KidsG {α : Type} (T : J1 → List Value → α → List Nat → Prop) (h : J1) : List (List Value) → List α → List Nat → Prop
 | [], [], bs => bs = []
 | c :: css, x :: xs, bs => ∃ b1 b2, T h c x b1 ∧ KidsG T h css xs b2 ∧ bs = b1 ++ b2
 | _, _, _ => False
section
variable {α : Type} {T : J1 → List Value → α → List Nat → Prop} {h h' : J1}
theorem KidsG.len : ∀ {css : List (List Value)} {xs : List α} {bs : List Nat}, KidsG T h css xs bs → css.length = xs.length
 | [], [], _, _ => rfl
 | _ :: _, _ :: _, _, ⟨_, _, _, k, _⟩ => by rw [List.length_cons, List.length_cons, k.len]
theorem KidsG.snoc {c : List Value} {x : α} {b : List Nat} (e : T h c x b) : ∀ {css : List (List Value)} {xs : List α} {bs : List Nat}, KidsG T h css xs bs → KidsG T h (css ++ [c]) (xs ++ [x]) (bs ++ b)
 | [], [], _, k => ⟨b, [], e, rfl, by rw [show _ = _ from k]; simp⟩
 | _ :: _, _ :: _, _, ⟨b1, b2, k1, k2, k3⟩ => ⟨b1, b2 ++ b, k1, k2.snoc e, by rw [k3, List.append_assoc]⟩
theorem KidsG.agree (hT : ∀ c x b, T h c x b → (∀ q ∈ b, ∀ o, h q = some o → h' q = some o) → T h' c x b) :
  ∀ {css : List (List Value)} {xs : List α} {bs : List Nat}, KidsG T h css xs bs → (∀ q ∈ bs, ∀ o, h q = some o → h' q = some o) → KidsG T h' css xs bs
 | [], [], _, k, _ => k
 | _ :: _, _ :: _, _, ⟨b1, b2, k1, k2, k3⟩, q => by
  subst k3
  exact ⟨b1, b2, hT _ _ _ k1 fun y hy => q y (List.mem_append_left _ hy), k2.agree hT fun y hy => q y (List.mem_append_right _ hy), rfl⟩
theorem KidsG.allC {G : J1 → (Nat → Value) → α → Prop} {sz : Nat} (hT : ∀ c x b, T h c x b → c.length = sz ∧ G h (fun j => c.getD j undef) x) : ∀ {css : List (List Value)} {xs : List α} {bs : List Nat}, KidsG T h css xs bs → AllC G h sz css xs
 | [], [], _, _ => AllC.nil
 | c :: css, x :: xs, _, ⟨b1, b2, k1, k2, _⟩ => by
  have hk := k2.allC hT
  refine ⟨by rw [List.length_cons, List.length_cons, hk.len], fun i c' x' hc hx => ?_⟩
  cases i with
  | zero => cases hc; cases hx; exact hT _ _ _ k1
  | succ i => exact hk.el i c' x' hc hx
theorem KidsG.map {T2 : J1 → List Value → α → List Nat → Prop} (hT : ∀ c x b, T h c x b → (∀ q ∈ b, ∀ o, h q = some o → h' q = some o) → T2 h' c x b) :
  ∀ {css : List (List Value)} {xs : List α} {bs : List Nat}, KidsG T h css xs bs → (∀ q ∈ bs, ∀ o, h q = some o → h' q = some o) → KidsG T2 h' css xs bs
 | [], [], _, k, _ => k
 | _ :: _, _ :: _, _, ⟨b1, b2, k1, k2, k3⟩, q => by
  subst k3
  exact ⟨b1, b2, hT _ _ _ k1 fun y hy => q y (List.mem_append_left _ hy), k2.map hT fun y hy => q y (List.mem_append_right _ hy), rfl⟩
theorem KidsG.at : ∀ {css : List (List Value)} {xs : List α} {bs : List Nat} (k : Nat) {c : List Value} {x : α}, KidsG T h css xs bs → css[k]? = some c → xs[k]? = some x → bs.Nodup →
  ∃ b, T h c x b ∧ (∀ q ∈ b, q ∈ bs) ∧ b.Nodup ∧ ∀ (T2 : J1 → List Value → α → List Nat → Prop) (h' : J1) (c' : List Value) (x' : α), (∀ c x b, T h c x b → (∀ q ∈ b, ∀ o, h q = some o → h' q = some o) → T2 h' c x b) → (∀ q ∈ bs, q ∉ b → ∀ o, h q = some o → h' q = some o) → T2 h' c' x' b →
   KidsG T2 h' (css.set k c') (xs.set k x') bs
 | [], [], _, _, _, _, _, hc, _, _ => by cases hc
 | [], _ :: _, _, _, _, _, k, _, _, _ => k.elim
 | _ :: _, [], _, _, _, _, k, _, _, _ => k.elim
 | c0 :: css, x0 :: xs, bs, k, c, x, ⟨b1, b2, k1, k2, k3⟩, hc, hx, hn => by
  subst k3
  obtain ⟨n1, n2, n3⟩ := List.nodup_append.1 hn
  cases k with
  | zero =>
   cases hc; cases hx
   refine ⟨b1, k1, fun q hq => List.mem_append_left _ hq, n1, fun T2 h' c' x' hT ha t => ⟨b1, b2, t, k2.map (fun c x b t k => hT c x b t k) fun q hq => ha q (List.mem_append_right _ hq) fun hq1 => n3 q hq1 q hq rfl, rfl⟩⟩
  | succ k =>
   obtain ⟨b, t1, t2, t3, t4⟩ := KidsG.at k k2 hc hx n2
   refine ⟨b, t1, fun q hq => List.mem_append_right _ (t2 q hq), t3, fun T2 h' c' x' hT ha t => ?_⟩
   have g := t4 T2 h' c' x' hT (fun q hq hb => ha q (List.mem_append_right _ hq) hb) t
   exact ⟨b1, b2, hT _ _ _ k1 (fun q hq => ha q (List.mem_append_left _ hq) fun hb => n3 q hq q (t2 q hb) rfl), g, rfl⟩
end
end Go.Lx
namespace Go.Lx
open Go Go.Vc Go.Md
section
variable {P : Program} {cx : Cx} {e : X4} {L : List Chunk} {ops : Array Oper} {F : X4 → List Chunk → Prop} {rest : List Oper} {ss : List Kd}
def _root_.Go.Vc.Kd.sp (a q i : Nat) (C : Value → Chunk) : Kd := .g [a, q] [i] [i] (fun _ _ v => v = undef) (fun vs _ _ => [C (vs.getD 1 undef)])
end
end Go.Lx
namespace Go.Lx
open Go Go.Vc Go.Md
section
variable {cx : Cx} {K : X4 → World → Prop} {e : X4} {L : List Chunk} {base hp hp1 : J1}
end
end Go.Lx

namespace Go.Lx
open Go Go.Vc Go.Md
section plain
variable {P : Program}
def offK (n : Nat) (k : Nat × Nat) : Prop := k.2 ≤ k.1 ∨ n ≤ k.1
theorem Jbs (g o : Nat) (t : TypeId) (k : Nat × Nat) : ∀ (vs : List Value) (i : Nat) (cur : Array Value) (w : World), offK cur.size k → w.heap[g]? = some (.cells cur t k) → o + i + vs.length ≤ cur.size → (∀ v ∈ vs, v.oneCell' = true) →
  (storeCells ⟨g, o, none⟩ vs i).run P w = .ok () (w.setRow g (cur.toList.take (o + i) ++ vs ++ cur.toList.drop (o + i + vs.length)).toArray)
 | [], i, cur, w, _, hg, _, _ => by
  simp only [storeCells, List.append_nil, List.length_nil, Nat.add_zero, List.take_append_drop, Array.toArray_toList]
  rw [setRow_self w g cur t k hg]
  rfl
 | v :: rest, i, cur, w, hk, hg, hl, h1 => by
  have hi : o + i < cur.size := by simp at hl; omega
  have hadd : (⟨g, o, none⟩ : Addr).add i = ⟨g, o + i, none⟩ := by unfold Addr.add; split <;> simp_all
  have hcell : w.cell? ⟨g, o + i, none⟩ = some cur[o + i] := by simp [World.cell?, hg, hi]
  have hfro : w.frozen? ⟨g, o + i, none⟩ = false := by obtain ⟨k0, k1⟩ := k; unfold offK at hk; simp only at hk; simp [World.frozen?, hg]; omega
  have hst : (store ((⟨g, o, none⟩ : Addr).add i) v).run P w = .ok () (w.setRow g (cur.setIfInBounds (o + i) v)) := by
   rw [hadd, run_store P w _ v _ (h1 v (by simp)), hcell]
   simp [hfro, setCell_eq_setRow w g (o + i) cur t k v hg]
  have ih := Jbs g o t k rest (i + 1) (cur.setIfInBounds (o + i) v) (w.setRow g (cur.setIfInBounds (o + i) v)) (by simpa using hk) (setRow_heap w g cur _ t _ hg) (by simp at hl ⊢; omega) (fun x hx => h1 x (by simp [hx]))
  simp only [storeCells, Sem.run_bind, hst, Result.andThen_ok, ih, setRow_setRow]
  congr 3
  have e := list_seg_step cur.toList (o + i) v rest (by simp at hl ⊢; omega)
  simpa [Array.toList_setIfInBounds, Nat.add_assoc] using e
theorem Jhz (w : World) (t ty e : TypeId) (i : TypeInfo) (ht : P.underlying t = some (.slice e)) (hi : P.info? e = some i)
  (g sLen sCap : Nat) (cur : Array Value) (k : Nat × Nat) (hk : offK cur.size k) (hg : w.heap[g]? = some (.cells cur e k))
  (a : Addr) (m c : Nat) (news : List Value) (hl : news.length = m * i.size) (hnews : ∀ j u, news[j]? = some u → w.cell? (a.add j) = some u) (h1 : ∀ u ∈ news, u.oneCell' = true)
  (hroom : sLen + m ≤ sCap) (hfit : sLen * i.size + news.length ≤ cur.size) :
  (Builtin.append_ #[t, t] ty #[.slice (some ⟨g, 0, none⟩) sLen sCap, .slice (some a) m c]).run P w =
   .ok (.slice (some ⟨g, 0, none⟩) (sLen + m) sCap) (w.setRow g (cur.toList.take (sLen * i.size) ++ news ++ cur.toList.drop (sLen * i.size + news.length)).toArray) := by
 have hf := run_firstCells_some (P := P) w i.size m a m c news hl hnews
 have hst := Jbs (P := P) g (sLen * i.size) e k news 0 cur w hk hg (by simpa using hfit) h1
 simp only [Nat.add_zero] at hst
 simp [Builtin.append_, run_underlying ht, sizeOf, typeInfo, hi, Builtin.lenOf, hroom, hf, Addr.add_lit, hst]
theorem Jjs (w : World) (dT sT ty elem : TypeId) (g o dLen dCap : Nat) (a : Addr) (sLen sCap : Nat) (cur : Array Value) (t : TypeId) (k : Nat × Nat) (cs : List Value)
  (hu : P.underlying dT = some (.slice elem)) (hs : (P.info? elem).map (·.size) = some 1) (hk : offK cur.size k)
  (hg : w.heap[g]? = some (.cells cur t k)) (hn : cs.length = Nat.min sLen dLen)
  (hsrc : ∀ j v, cs[j]? = some v → w.cell? (a.add j) = some v) (hfit : o + cs.length ≤ cur.size) (h1 : ∀ v ∈ cs, v.oneCell' = true) :
  (Builtin.copy_ #[dT, sT] ty #[.slice (some ⟨g, o, none⟩) dLen dCap, .slice (some a) sLen sCap]).run P w =
   .ok (goInt cs.length) (w.setRow g (cur.toList.take o ++ cs ++ cur.toList.drop (o + cs.length)).toArray) := by
 have hl := run_loadCells_list (P := P) w a cs hsrc
 have hst := Jbs (P := P) g o t k cs 0 cur w hk hg (by simpa using hfit) h1
 cases hq : P.info? elem with
 | none => simp [hq] at hs
 | some i =>
  have hi : i.size = 1 := by simpa [hq] using hs
  simp [Builtin.copy_, run_underlying hu, Builtin.lenOf, Builtin.firstCells, sizeOf, typeInfo, hq, hi, ← hn, hl, hst]
end plain
def rowK (w : World) (E sz : Nat) (v : Value) (n : Nat) (xs : List Value) : Prop :=
 xs.length = n * sz ∧ ((v = .slice none 0 0 ∧ n = 0) ∨ ∃ g Y4 cur k, v = .slice (some ⟨g, 0, none⟩) n Y4 ∧ w.heap[g]? = some (.cells cur E k) ∧ offK cur.size k ∧ n ≤ Y4 ∧ Y4 ≤ maxLen ∧ cur.size = Y4 * sz ∧ cur.toList.take (n * sz) = xs)
theorem rowK_of {w : World} {E sz : Nat} {v : Value} {n : Nat} {xs : List Value} (h : w.ownsRow 0 E sz v n xs) : rowK w E sz v n xs := by
 refine ⟨h.1, ?_⟩
 rcases h.2 with h | ⟨g, Y4, cur, h1, _, h2, h3⟩
 ·exact .inl h
 ·exact .inr ⟨g, Y4, cur, (0, 0), h1, h2, .inl (Nat.le_refl _), h3⟩
def wrC (w : World) (E sz : Nat) (v : Value) (n : Nat) (xs : List (List Value)) : Prop := rowK w E sz v n xs.flatten ∧ xs.length = n ∧ ∀ x ∈ xs, x.length = sz
theorem wrC.mk' {w : World} {E sz : Nat} {v : Value} {n : Nat} {xs : List (List Value)} (h : wrC w E sz v n xs) : v = .slice none 0 0 ∧ n = 0 ∧ xs = [] ∨ ∃ g Y4 cur k, v = .slice (some ⟨g, 0, none⟩) n Y4 ∧ w.heap[g]? = some (.cells cur E k) ∧ offK cur.size k ∧ n ≤ Y4 ∧ Y4 ≤ maxLen ∧ cur.size = Y4 * sz ∧ cur.toList.take (n * sz) = xs.flatten := by
 rcases h.1.2 with ⟨h1, h2⟩ | h1
 ·refine .inl ⟨h1, h2, List.eq_nil_of_length_eq_zero (by rw [h.2.1]; exact h2)⟩
 ·exact .inr h1
theorem wrC.frs {w : World} {E sz : Nat} {v : Value} {n : Nat} {xs : List (List Value)} (h : wrC w E sz v n xs) : FrS (fun b => w.heap[b]?) sz v xs := by
 rcases h.mk' with ⟨rfl, _, rfl⟩ | ⟨g, Y4, cur, k, rfl, hh, _, hnc, hm, hcs, ht⟩
 ·exact FrS.nil _ _
 obtain ⟨_, hn, hl⟩ := h
 subst hn
 refine ⟨some ⟨g, 0, none⟩, Y4, rfl, hnc, by simpa [maxLen] using hm, .inr ⟨g, 0, cur, E, k, rfl, hh, fun i x hx => ⟨hl x (List.mem_of_getElem? hx), fun j v hv => ?_⟩⟩⟩
 have hi : i < xs.length := by
  rcases Nat.lt_or_ge i xs.length with h | h
  ·exact h
  ·rw [List.getElem?_eq_none h] at hx; cases hx
 have hj : j < sz := by
  have := hl x (List.mem_of_getElem? hx)
  rcases Nat.lt_or_ge j x.length with h | h
  ·omega
  ·rw [List.getElem?_eq_none h] at hv; cases hv
 have hr := Jc2 xs i x (List.all_eq_true.2 fun x hx => by simpa using hl x hx) hx j v hv
 rw [← ht, List.getElem?_take] at hr
 split at hr
 ·rw [Nat.zero_add, ← Array.getElem?_toList]; exact hr
 ·cases hr
theorem wrC.lt {w : World} {E sz : Nat} {v : Value} {n : Nat} {xs : List (List Value)} (h : wrC w E sz v n xs) (b : Nat) (hb : v.ownBlock = some b) : b < w.heap.size := by
 rcases h.mk' with ⟨rfl, _, _⟩ | ⟨g, Y4, cur, k, rfl, h1, _⟩
 ·simp [Value.ownBlock] at hb
 ·simp [Value.ownBlock] at hb
  subst hb
  exact (Array.getElem?_eq_some_iff.1 h1).1
theorem wrC.slice {w : World} {E sz : Nat} {v : Value} {n : Nat} {xs : List (List Value)} (h : wrC w E sz v n xs) : ∃ p : Option Addr × Nat, v = .slice p.1 n p.2 := by
 rcases h.mk' with ⟨rfl, rfl, _⟩ | ⟨g, Y4, cur, k, rfl, _⟩
 ·exact ⟨(none, 0), rfl⟩
 ·exact ⟨(some ⟨g, 0, none⟩, Y4), rfl⟩
def wrV (E : TypeId) (sz : Nat) (v : Value) (n : Nat) (xs : List (List Value)) : Chunk where
 P S w := wrC w E sz v n xs ∧ ∀ b, v.ownBlock = some b → S b
 loc S w w' h := by
  rintro ⟨⟨⟨h1, h2⟩, h3⟩, h4⟩
  refine ⟨⟨⟨h1, ?_⟩, h3⟩, h4⟩
  rcases h2 with h2 | ⟨g, Y4, cur, k, rfl, hh, hr⟩
  ·exact .inl h2
  ·exact .inr ⟨g, Y4, cur, k, rfl, (h g (h4 g rfl)).trans hh, hr⟩
theorem imp_wr (E sz : Nat) (v : Value) (n : Nat) (xs : List (List Value)) : Imp (J4 E sz v n xs) (wrV E sz v n xs) := ⟨fun _ _ ⟨⟨h1, h2⟩, h3⟩ => ⟨⟨rowK_of h1, h2⟩, h3⟩⟩
theorem turn_wr {w w' : World} {E sz m' : Nat} {v v' : Value} {xs' : List (List Value)} {S : Nat → Prop} (hS : ∀ b, v.ownBlock = some b → S b) (ho : wrC w' E sz v' m' xs') (hg : w.grownBy w' v.ownBlock)
  (h5 : v'.ownBlock = v.ownBlock ∨ v'.ownBlock = some w.heap.size) : Turn w w' S (wrV E sz v' m' xs') := by
 refine ⟨hg.os, hg.tape, hg.output, hg.size, fun b hb hn => hg.block b hb (fun h => hn (hS b h.symm)), fun b => v'.ownBlock = some b, ⟨ho, fun b h => h⟩, fun b hb => ⟨ho.lt b hb, ?_⟩⟩
 rcases h5 with h | h
 ·exact .inl (hS b (h ▸ hb))
 ·rw [h] at hb; cases hb; exact .inr (Nat.le_refl _)
section rules
variable {P : Program} {n : Nat} {cx : Cx} {e : X4} {L : List Chunk} {d : Nat} {ty : TypeId} {pos : String} {af : Array Edge} {g : Option (Nat × Bool)}
theorem wrOf {w : World} {i E sz m c : Nat} {a : Option Addr} {xs : List (List Value)} (hS : Sat cx w L) (hL : L[i]? = some (wrV E sz (.slice a m c) m xs)) : Row w a sz xs := by
 obtain ⟨S, ⟨h, _⟩, _⟩ := hS.at hL
 obtain ⟨a', c', h0, _, _, r⟩ := h.frs.out
 simp only [Value.slice.injEq] at h0
 obtain ⟨rfl, _, rfl⟩ := h0
 exact r.row fun b o h => h
theorem wr_full {w : World} {i E sz m c : Nat} {a : Option Addr} {xs : List (List Value)} (hS : Sat cx w L) (hL : L[i]? = some (wrV E sz (.slice a m c) m xs)) : m ≤ c := by
 obtain ⟨S, ⟨h, _⟩, _⟩ := hS.at hL
 obtain ⟨a', c', h0, h1, _, _⟩ := h.frs.out
 simp only [Value.slice.injEq] at h0
 rw [h.2.1] at h1
 omega
theorem app_wr {w : World} {t E sz by_ : Nat} {I : TypeInfo} {z : Value} {v : Value} {m q c : Nat} {xs news : List (List Value)} {a : Option Addr} (ht : P.underlying t = some (.slice E)) (hi : P.info? E = some I) (hz : I.zero = some z) (hsize : I.size = sz) (hby : I.bytes = by_) (hzs : z.cells.size = sz) (hsz : 0 < sz)
  (hc : wrC w E sz v m xs) (hq : news.length = q) (hnl : ∀ x ∈ news, x.length = sz) (hR : Row w a sz news) (h1 : ∀ x ∈ news, ∀ u ∈ x, u.oneCell' = true) (h63 : m + q ≤ maxLen) (hbytes : (m + q) * by_ ≤ 140739635838976) (hy : by_ ≤ 1048576) :
  ∃ v' w', (Builtin.append_ #[t, t] ty #[v, .slice a q c]).run P w = .ok v' w' ∧ wrC w' E sz v' (m + q) (xs ++ news) ∧ w.grownBy w' v.ownBlock ∧ (v'.ownBlock = v.ownBlock ∨ v'.ownBlock = some w.heap.size) := by
 have same : w.grownBy w v.ownBlock := ⟨rfl, rfl, rfl, Nat.le_refl _, fun _ _ _ => rfl⟩
 have hfl : news.flatten.length = q * sz := by rw [Ua news hnl, hq]
 have hone : ∀ u ∈ news.flatten, u.oneCell' = true := by
  intro u hu
  obtain ⟨x, hx, hux⟩ := List.mem_flatten.1 hu
  exact h1 x hx u hux
 obtain ⟨hc1, hc2, hc3⟩ := hc
 have lens : (xs ++ news).length = m + q ∧ ∀ x ∈ xs ++ news, x.length = sz := ⟨by simp [hc2, hq], fun x hx => (List.mem_append.1 hx).elim (hc3 x) (hnl x)⟩
 rcases hc1.2 with ⟨rfl, h0⟩ | ⟨g', Y4, cur, k, rfl, hg, hk, hnc, hcm, hcs, htake⟩
 ·have hx0 : xs = [] := List.eq_nil_of_length_eq_zero (by rw [hc2]; exact h0)
  have ho : w.ownsRow 0 E sz (.slice none 0 0) m xs.flatten := ⟨hc1.1, .inl ⟨rfl, h0⟩⟩
  by_cases hq0 : q = 0
  ·have hn0 : news = [] := List.eq_nil_of_length_eq_zero (by omega)
   subst hn0 hx0 hq0 h0
   refine ⟨.slice none 0 0, w, ?_, ⟨⟨by simp, .inl ⟨rfl, rfl⟩⟩, rfl, fun x hx => by cases hx⟩, same, .inl rfl⟩
   cases a <;> simp [Builtin.append_, run_underlying ht, sizeOf, typeInfo, hi, Builtin.lenOf, Builtin.firstCells, loadCells, loadCellsFrom, storeCells]
  ·cases a with
   | none =>
    rcases hR with h | ⟨b, off, h, _⟩
    ·subst h; exact absurd hq.symm hq0
    ·cases h
   | some ad =>
    obtain ⟨v', w', hr, h2, h3, h5⟩ := app_own (P := P) (ty := ty) (c := c) ht hi hz hsize hby hzs ho (by omega) hfl (Jhx hnl hR) hone h63 hbytes hy
    exact ⟨v', w', hr, ⟨rowK_of (by rw [List.flatten_append]; exact h2), lens⟩, h3, h5⟩
 ·have hxf : xs.flatten.length = m * sz := by rw [Ua xs hc3, hc2]
  by_cases hq0 : q = 0
  ·subst hq0
   have hn0 : news = [] := List.eq_nil_of_length_eq_zero hq
   subst hn0
   refine ⟨.slice (some ⟨g', 0, none⟩) m Y4, w, ?_, ⟨⟨by rw [Ua _ lens.2, lens.1], .inr ⟨g', Y4, cur, k, rfl, hg, hk, hnc, hcm, hcs, by simpa using htake⟩⟩, lens⟩, same, .inl rfl⟩
   cases a <;> simp [Builtin.append_, run_underlying ht, sizeOf, typeInfo, hi, Builtin.lenOf, Builtin.firstCells, loadCells, loadCellsFrom, hnc, storeCells]
  ·cases a with
   | none =>
    rcases hR with h | ⟨b, off, h, _⟩
    ·subst h; exact absurd hq.symm hq0
    ·cases h
   | some ad =>
    have hcell := Jhx hnl hR
    subst hsize hby
    by_cases hroom : m + q ≤ Y4
    ·have hfit : m * I.size + news.flatten.length ≤ cur.size := by rw [hfl, hcs, ← Nat.add_mul]; exact Nat.mul_le_mul_right _ hroom
     have hr := Jhz (P := P) w t ty E I ht hi g' m Y4 cur k hk hg ad q c news.flatten hfl hcell hone hroom hfit
     refine ⟨_, _, hr, ⟨⟨by rw [Ua _ lens.2, lens.1], .inr ⟨g', Y4, _, k, rfl, setRow_heap w g' cur _ E _ hg, ?_, hroom, hcm, ?_, ?_⟩⟩, lens⟩, ⟨rfl, rfl, rfl, by simp, fun k _ hk => setRow_other w g' k _ (fun e => hk (by simp [Value.ownBlock, e]))⟩, .inl rfl⟩
     ·have e_ : ∀ n, n = cur.size → offK n k := fun n h => h ▸ hk
      refine e_ _ ?_
      simp only [List.size_toArray, List.length_append, List.length_take, List.length_drop, Array.length_toList]
      omega
     ·simp only [List.size_toArray, List.length_append, List.length_take, List.length_drop, Array.length_toList]
      omega
     ·rw [htake, List.flatten_append, Nat.add_mul, ← hxf, ← hfl, ← List.length_append]
      exact List.take_left
    ·have hm63 : m + q ≤ 9223372036854775807 := by simpa [maxLen] using h63
     have hold : ∀ j u, xs.flatten[j]? = some u → w.cell? ((⟨g', 0, none⟩ : Addr).add j) = some u := by
      intro j u hj
      rw [← htake, List.getElem?_take] at hj
      split at hj
      ·rw [Addr.add_lit]; simp only [World.cell?, hg, Nat.zero_add]; rw [← Array.getElem?_toList]; exact hj
      ·cases hj
     have hr := run_append_grow (P := P) w t ty E I z ht hi hz ⟨g', 0, none⟩ m Y4 xs.flatten hxf hold ad q c news.flatten hfl hcell (by omega) (by omega) (fits2 (by omega) hbytes hy)
     refine ⟨_, _, hr, ⟨rowK_of ?_, lens⟩, Jji _ _ _, .inr rfl⟩
     rw [List.flatten_append]
     exact Jgr hzs (by rw [List.length_append, hxf, hfl, Nat.add_mul]) h63
theorem Jgj {α : Type} {f : α → List Value} {ys ls zs : List α} {i : Nat} {S X : Operand} {t E : TypeId} {I : TypeInfo} {z : Value} {sz by_ : Nat} {p : Option Addr × Nat} {rds : List Nat} {V : Value} {a : Option Addr} {c m q : Nat} (hn : m = ys.length)
  (ht : P.underlying t = some (.slice E)) (hi : P.info? E = some I) (hz : I.zero = some z) (hsize : I.size = sz) (hby : I.bytes = by_) (hzs : z.cells.size = sz) (hsz : (Nat.blt 0 sz && Nat.ble by_ 1048576) = true)
  (hL : L[i]? = some (wrV E sz (.slice p.1 m p.2) m (ys.map f))) (hs : ev e S = .slice p.1 m p.2) (hx : ev e X = V) (hV : V = .slice a q c) (hq : q = ls.length)
  (hnews : ∀ w L', Fr cx w → Sat cx w L' → (∀ j, j ∈ rds → L'[j]? = L[j]?) → Row w a sz (ls.map f)) (hf : ∀ x, (f x).length = sz) (h1 : ∀ x, (f x).all Value.oneCell' = true) (hg : Wb by_ ys ls = some zs) :
  Turns P cx e ⟨some d, .call ⟨.builtin .append, #[S, X], #[t, t]⟩, ty, pos, af, g⟩ L i rds (fun p' : Option Addr × Nat => .slice p'.1 zs.length p'.2) (fun p' => wrV E sz (.slice p'.1 zs.length p'.2) zs.length (zs.map f)) := fun w L' hF hS hl hi' => by
 subst hn hq
 obtain ⟨rfl, hb1, hb2⟩ := Ja5 hg
 rw [List.length_append, List.map_append]
 have hL' := (hi' i (.inr rfl)).trans hL
 obtain ⟨S0, ⟨hc, _⟩, _⟩ := hS.at hL'
 obtain ⟨v', w', hr, h2, h3, h5⟩ := app_wr (P := P) (ty := ty) (c := c) ht hi hz hsize hby hzs (by simp at hsz; exact hsz.1) hc (List.length_map _) (fun x hx => by
   obtain ⟨y, _, rfl⟩ := List.mem_map.1 hx; exact hf y) (hnews w L' hF hS fun j hj => hi' j (.inl hj)) (fun x hx u hu => by
   obtain ⟨y, _, rfl⟩ := List.mem_map.1 hx; exact List.all_eq_true.1 (h1 y) u hu) (by simp only [maxLen]; omega) (by omega) (by simp at hsz; exact hsz.2)
 obtain ⟨p', rfl⟩ := h2.slice
 obtain ⟨hF', hS'⟩ := hS.turnOf hF hL' (C := wrV E sz (.slice p'.1 (ys.length + ls.length) p'.2) (ys.length + ls.length) (ys.map f ++ ls.map f)) fun S1 hp => turn_wr hp.2 h2 h3 h5
 have he : (execOp (ev e) ⟨some d, .call ⟨.builtin .append, #[S, X], #[t, t]⟩, ty, pos, af, g⟩).run P w = .ok (.value (.slice p'.1 (ys.length + ls.length) p'.2)) w' := by
  simp only [execOp, resolve, invoke, builtin, Sem.run_bind, Sem.run_pure, Result.andThen_ok, List.map_toArray, List.map_cons, List.map_nil, hs, hx, hV, hr]
 unfold RunsTo
 rw [he]
 exact ⟨p', rfl, hF', hS'⟩
theorem offOfW {w : World} {i E sz n c : Nat} {a : Option Addr} {xs : List (List Value)} (hS : Sat cx w L) (hL : L[i]? = some (wrV E sz (.slice a n c) n xs)) : Row w a sz xs := wrOf hS hL
theorem capOfW {w : World} {i E sz n c : Nat} {a : Option Addr} {xs : List (List Value)} (hS : Sat cx w L) (hL : L[i]? = some (wrV E sz (.slice a n c) n xs)) : n ≤ c := wr_full hS hL
theorem makes_bytesW {f : Int → List Value} {X : Operand} {src dst E : TypeId} {s : List UInt8} {rds : List Nat} (hs : P.underlying src = some .string) (hd : P.underlying dst = some (.slice E)) (he : P.underlying E = some (.int .u8)) (hx : ev e X = str s) (hf : ∀ x, f x = [.int .u8 x]) (hl : s.length ≤ 9223372036854775807) :
  Makes P cx e ⟨some d, .convert src dst X, ty, pos, af, g⟩ L rds (fun p : Option Addr × Nat => .slice p.1 (X2 s).length p.2) (fun p => wrV E 1 (.slice p.1 (X2 s).length p.2) (X2 s).length ((X2 s).map f)) := fun w L' hF hS hi' => by
 have hr := Lib.run_convert_string_bytes (P := P) w src dst E ⟨s.toArray⟩ hs hd he
 have hsz : (⟨s.toArray⟩ : ByteArray).size = s.length := strSize s
 have hlen : (X2 s).length = s.length := by unfold X2; simp
 have hcs : (Lib.bytesCells w E ⟨s.toArray⟩).size = grownCap w s.length 0 E := by
  have := grownCap_ge w s.length 0 E
  unfold Lib.bytesCells
  rw [hsz]; simp; omega
 have hx' : (execOp (ev e) ⟨some d, .convert src dst X, ty, pos, af, g⟩).run P w = .ok (.value (.slice (some ⟨w.heap.size, 0, none⟩) s.length (grownCap w s.length 0 E))) (Lib.bytesWorld w E ⟨s.toArray⟩) := by
  have hr' : (convert src dst (str s)).run P w = .ok (.slice (some ⟨w.heap.size, 0, none⟩) s.length (grownCap w s.length 0 E)) (Lib.bytesWorld w E ⟨s.toArray⟩) := by
   rw [hsz] at hr; exact hr
  simp only [execOp, Sem.run_bind, hx, hr', Result.andThen_ok, Sem.run_pure]
 unfold RunsTo
 rw [hx']
 refine ⟨(some ⟨w.heap.size, 0, none⟩, grownCap w s.length 0 E), by rw [hlen], ?_⟩
 have hsize := Lib.bytesWorld_size w E ⟨s.toArray⟩
 rw [hlen]
 refine ⟨by simp [Lib.bytesWorld, World.freeze, World.alloc, World.drew, -World.alloc_eq, -World.drew_eq], by simp [Lib.bytesWorld, World.freeze, World.alloc, World.drew, -World.alloc_eq, -World.drew_eq], by simp [Lib.bytesWorld, World.freeze, World.alloc, World.drew, -World.alloc_eq, -World.drew_eq], by rw [hsize]; omega, fun b hb _ => Lib.bytesWorld_at_old w E _ b hb, fun b => b = w.heap.size, ⟨⟨⟨by rw [Jfx (fun x => by rw [hf]; rfl), hlen, Nat.mul_one], .inr ?_⟩, by rw [List.length_map, hlen], fun x hx' => ?_⟩, fun b hb => ?_⟩, fun b hb => ?_⟩
 ·refine ⟨w.heap.size, _, _, _, rfl, Lib.bytesWorld_at_new w E ⟨s.toArray⟩, .inr (Nat.le_refl _), grownCap_ge w _ 0 E, grownCap_le_maxLen w _ 0 E (by simp only [maxLen]; exact hl), by rw [hcs, Nat.mul_one], ?_⟩
  rw [bytes_flat hf, Nat.mul_one]
  unfold Lib.bytesCells
  simp
 ·obtain ⟨y, _, rfl⟩ := List.mem_map.1 hx'
  rw [hf]; rfl
 ·simp [Value.ownBlock] at hb; exact hb.symm
 ·subst hb
  exact ⟨by rw [hsize]; omega, .inr (Nat.le_refl _)⟩
theorem Jgp {f : Int → List Value} {X : Operand} {src dst E : TypeId} {s : List UInt8} {xs : List Int} {rds : List Nat} (hs : P.underlying src = some .string) (hd : P.underlying dst = some (.slice E)) (he : P.underlying E = some (.int .u8)) (hx : ev e X = str s) (hf : ∀ x, f x = [.int .u8 x]) (hg : gByt s = some xs) :
  Makes P cx e ⟨some d, .convert src dst X, ty, pos, af, g⟩ L rds (fun p : Option Addr × Nat => .slice p.1 xs.length p.2) (fun p => wrV E 1 (.slice p.1 xs.length p.2) xs.length (xs.map f)) := by
 obtain ⟨rfl, hl⟩ := gByt_some hg
 exact makes_bytesW hs hd he hx hf hl
theorem run_copyW {α : Type} {f : α → List Value} {xs ts ys : List α} {t u E m q c cd : Nat} {p : Option Addr × Nat} {a : Option Addr} {lo hi : Int} {w : World} {D X : Operand} (hm : m = xs.length) (ht : P.underlying t = some (.slice E)) (hi1 : (P.info? E).map (·.size) = some 1)
  (ho : rowK w E 1 (.slice p.1 m p.2) m (xs.map f).flatten) (hd : ev e D = .slice (Vo p.1 lo.toNat p.2 1) ts.length cd) (hcut : Qp xs lo hi = some ts)
  (hx : ev e X = .slice a q c) (hq : q = ys.length) (hR : Row w a 1 (ys.map f)) (hf : ∀ x, (f x).length = 1) (h1 : ∀ x, (f x).all Value.oneCell' = true) :
  ∃ w', (execOp (ev e) ⟨d, .call ⟨.builtin .copy, #[D, X], #[t, u]⟩, ty, pos, af, g⟩).run P w = .ok (.value (.int .i64 (min ts.length ys.length : Nat))) w' ∧ rowK w' E 1 (.slice p.1 m p.2) m ((Vn xs lo ts.length ys).map f).flatten ∧ w.grownBy w' (Value.slice p.1 m p.2).ownBlock := by
 subst hm hq
 obtain ⟨g0, g1, g2, hts⟩ := V2 hcut
 have htl : ts.length = hi.toNat - lo.toNat := Jfi hcut
 by_cases h0 : min ts.length ys.length = 0
 ·have hc : Vn xs lo ts.length ys = xs := by
   unfold Vn
   have h2 : ys.take ts.length = [] := by
    apply List.eq_nil_of_length_eq_zero; rw [List.length_take]; exact h0
   rw [h2, h0, List.nil_append, Nat.add_zero, List.take_append_drop]
  refine ⟨w, ?_, by rw [hc]; exact ho, ⟨rfl, rfl, rfl, Nat.le_refl _, fun _ _ _ => rfl⟩⟩
  have hrun := run_copy_none (P := P) w t u ty E (Vo p.1 lo.toNat p.2 1) a ts.length cd ys.length c ht hi1 (by show min ys.length ts.length = 0; omega)
  simp only [execOp, resolve, invoke, builtin, Sem.run_bind, Sem.run_pure, Result.andThen_ok, List.map_toArray, List.map_cons, List.map_nil, hd, hx, hrun, h0]
  rfl
 ·have hxs : 0 < xs.length := by omega
  rcases ho.2 with ⟨_, hz⟩ | ⟨g0', Y4, cur, kk, hv0, hh, hkk, hnc, hcm, hcs, htk⟩
  ·omega
  ·simp only [Value.slice.injEq] at hv0
   obtain ⟨hp1, _, rfl⟩ := hv0
   have hcut' : Vo p.1 lo.toNat p.2 1 = some ⟨g0', lo.toNat, none⟩ := by
    rw [hp1]; unfold Vo
    rw [if_neg (by omega)]; simp [Addr.add_lit]
   rcases hR with hR | ⟨b, off, rfl, hR⟩
   ·have : ys.length = 0 := by simpa using congrArg List.length hR
    omega
   ·let k := min ts.length ys.length
    have hcsl : (((ys.take k).map f).flatten).length = k := by
     rw [Jfx hf, List.length_take]; omega
    have hone : ∀ v ∈ ((ys.take k).map f).flatten, v.oneCell' = true := by
     intro v hv
     rw [List.mem_flatten] at hv
     obtain ⟨l, hl, hv⟩ := hv
     obtain ⟨y, _, rfl⟩ := List.mem_map.1 hl
     exact List.all_eq_true.1 (h1 y) v hv
    have hlen : ∀ x ∈ ys.map f, x.length = 1 := fun x hx => by
     obtain ⟨y, _, rfl⟩ := List.mem_map.1 hx; exact hf y
    have hsrc : ∀ j v, (((ys.take k).map f).flatten)[j]? = some v → w.cell? ((⟨b, off, none⟩ : Addr).add j) = some v := by
     intro j v hj
     rw [← Jgn hf, List.getElem?_take] at hj
     split at hj
     ·obtain ⟨i, q, x, hx, hq, rfl⟩ := Jff _ hlen j v hj
      have := (hR i x hx).2 q v hq
      rw [Addr.add_lit, ← Nat.add_assoc]; exact this
     ·cases hj
    have hcur : cur.size = p.2 := by omega
    have hfit : lo.toNat + (((ys.take k).map f).flatten).length ≤ cur.size := by rw [hcsl]; omega
    have hrun := Jjs (P := P) w t u ty E g0' lo.toNat ts.length cd ⟨b, off, none⟩ ys.length c cur E kk _ ht hi1 hkk hh (by rw [hcsl]; show k = min ys.length ts.length; omega) hsrc hfit hone
    let new : Array Value := (cur.toList.take lo.toNat ++ ((ys.take k).map f).flatten ++ cur.toList.drop (lo.toNat + (((ys.take k).map f).flatten).length)).toArray
    refine ⟨w.setRow g0' new, ?_, ⟨?_, .inr ⟨g0', p.2, new, kk, by rw [hp1], setRow_heap w g0' cur new E kk hh, ?_, hnc, hcm, ?_, ?_⟩⟩, ⟨rfl, rfl, rfl, by simp, fun b' _ hb => setRow_other w g0' b' _ (fun e => hb (by simp [Value.ownBlock, hp1, e]))⟩⟩
    ·simp only [execOp, resolve, invoke, builtin, Sem.run_bind, Sem.run_pure, Result.andThen_ok, List.map_toArray, List.map_cons, List.map_nil, hd, hx, hcut', hrun, new, hcsl]
     rfl
    ·rw [Jfx hf, Ji3 (by omega)]; omega
    ·have e_ : ∀ n, n = cur.size → offK n kk := fun n h => h ▸ hkk
     refine e_ _ ?_
     simp only [new, List.size_toArray, List.length_append, List.length_take, List.length_drop, Array.length_toList, hcsl]
     omega
    ·simp only [new, List.size_toArray, List.length_append, List.length_take, List.length_drop, Array.length_toList, hcsl]
     omega
    ·simp only [new]
     rw [List.toList_toArray, hcsl]
     rw [Nat.mul_one] at htk ⊢
     have e1 : cur.toList = ((xs.map f).flatten) ++ cur.toList.drop xs.length := by rw [← htk, List.take_append_drop]
     have hcl : ((xs.map f).flatten).length = xs.length := Jfx hf xs
     have e2 : (Vn xs lo ts.length ys).map f = (xs.take lo.toNat).map f ++ ((ys.take k).map f ++ (xs.drop (lo.toNat + k)).map f) := by
      unfold Vn
      have : ys.take ts.length = ys.take k := by
       rcases Nat.le_total ts.length ys.length with h | h
       ·show _ = ys.take (min ts.length ys.length); rw [Nat.min_eq_left h]
       ·show _ = ys.take (min ts.length ys.length); rw [Nat.min_eq_right h, List.take_of_length_le h, List.take_of_length_le (Nat.le_refl _)]
      rw [this, List.map_append, List.map_append]
     rw [e2, List.flatten_append, List.flatten_append, ← Jgn hf xs, ← Jjj hf xs]
     generalize hX : (xs.map f).flatten = X at *
     generalize hY : ((ys.take k).map f).flatten = Y at *
     have hlo : lo.toNat + k ≤ xs.length := by show lo.toNat + min ts.length ys.length ≤ _; omega
     have e3 : cur.toList.take lo.toNat = X.take lo.toNat := by
      rw [e1, List.take_append_of_le_length (by omega)]
     have e4 : cur.toList.drop (lo.toNat + k) = X.drop (lo.toNat + k) ++ cur.toList.drop xs.length := by
      conv => lhs; rw [e1]
      rw [List.drop_append_of_le_length (by omega)]
     rw [e3, e4, List.append_assoc, ← List.append_assoc, ← List.append_assoc]
     rw [List.take_append_of_le_length, List.take_of_length_le]
     ·rw [List.append_assoc]
     ·simp only [List.length_append, List.length_take, List.length_drop]; omega
     ·simp only [List.length_append, List.length_take, List.length_drop]; omega
theorem Jdq {α : Type} {f : α → List Value} {xs ts ys : List α} {i t u E m q c cd : Nat} {p : Option Addr × Nat} {a : Option Addr} {lo hi : Int} {D X : Operand} {rds : List Nat} (hm : m = xs.length) (ht : P.underlying t = some (.slice E)) (hi1 : (P.info? E).map (·.size) = some 1)
  (hL : L[i]? = some (wrV E 1 (.slice p.1 m p.2) m (xs.map f))) (hd : ev e D = .slice (Vo p.1 lo.toNat p.2 1) ts.length cd) (hcut : Qp xs lo hi = some ts)
  (hx : ev e X = .slice a q c) (hq : q = ys.length) (hnews : ∀ w L', Fr cx w → Sat cx w L' → (∀ j, j ∈ rds → L'[j]? = L[j]?) → Row w a 1 (ys.map f)) (hf : ∀ x, (f x).length = 1) (h1 : ∀ x, (f x).all Value.oneCell' = true) :
  Turns P cx e ⟨d, .call ⟨.builtin .copy, #[D, X], #[t, u]⟩, ty, pos, af, g⟩ L i rds (fun _ : Unit => .int .i64 (min ts.length ys.length : Nat)) (fun _ => wrV E 1 (.slice p.1 m p.2) m ((Vn xs lo ts.length ys).map f)) := by
 intro w L' hF hS hl hi'
 have hL' := (hi' i (.inr rfl)).trans hL
 obtain ⟨S0, ⟨⟨ho, hlen, hlx⟩, hob⟩, _⟩ := hS.at hL'
 obtain ⟨w', hr, h2, h3⟩ := run_copyW (P := P) (d := d) (ty := ty) (pos := pos) (af := af) (g := g) (u := u) hm ht hi1 ho hd hcut hx hq (hnews w L' hF hS fun j hj => hi' j (.inl hj)) hf h1
 obtain ⟨g0, g1, g2, hts⟩ := V2 hcut
 have htl : ts.length = hi.toNat - lo.toNat := Jfi hcut
 obtain ⟨hF', hS'⟩ := hS.turnOf hF hL' (C := wrV E 1 (.slice p.1 m p.2) m ((Vn xs lo ts.length ys).map f)) fun S1 hp => turn_wr hp.2 ⟨h2, by rw [List.length_map, Ji3 (by omega)]; exact hm.symm, by
  intro z hz
  obtain ⟨y, _, rfl⟩ := List.mem_map.1 hz; exact hf y⟩ h3 (.inl rfl)
 unfold RunsTo
 rw [hr]
 exact ⟨(), rfl, hF', hS'⟩
variable {ops : Array Oper} {F : X4 → List Chunk → Prop} {rest : List Oper} {ss : List Kd}
theorem turns_hide {σ : Type} {o : Oper} {i : Nat} {rds : List Nat} {v0 : Value} {C : σ → Chunk} {Ci : Chunk} (hi : L[i]? = some Ci) (h : Turns P cx e o L i rds (fun _ : σ => v0) C) : Turns P cx e o L i rds (fun _ : Unit => v0) (fun _ => exC C) := by
 have hil : i < L.length := by
  rcases Nat.lt_or_ge i L.length with h | h
  ·exact h
  ·simp [List.getElem?_eq_none h] at hi
 intro w L' hF hS hl hi'
 refine (h w L' hF hS hl hi').mono fun v w' ⟨x, hv, hF', hS'⟩ => ⟨(), hv, hF', ?_⟩
 have hget : (L'.set i (C x))[i]? = some (C x) := List.getElem?_set_self (by omega)
 have := sat_imp hF' hS' hget (imp_ex C x)
 rwa [List.set_set] at this
theorem d_turnX {σ : Type} {o : Oper} {d i : Nat} {rds : List Nat} {v0 : Value} {C : σ → Chunk} {Ci : Chunk} (h : Turns P cx e o L i rds (fun _ : σ => v0) C) (hi : L[i]? = some Ci) (hw : Yi ops o e = true) (hd : o.dst = some d)
  (k : Sq P cx ops F rest ss (upd e d v0) (L.set i (exC C))) : Sq P cx ops F (o :: rest) (.t i rds (fun _ : Unit => v0) (fun _ => exC C) :: ss) e L :=
 Jct () (turns_hide hi h) (fun _ => rfl) hw hd fun _ => k
end rules
end Go.Lx
